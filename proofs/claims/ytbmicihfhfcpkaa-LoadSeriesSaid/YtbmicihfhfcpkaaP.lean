import Derived.Test.YtbmicihfhfcpkaaK17
set_option linter.unusedVariables false
namespace Go.Nac
def rng (n least most : Int) : Int := if n < least ∨ most < n then 3 else 0
/-- A turn. -/
def trn (a b c : Int) : Bool := decide ((a < b ∧ c < b) ∨ (b < a ∧ b < c))
/-- The first that is not 0. -/
def fst0 : List Int → Int
  | [] => 0
  | x :: r => if x = 0 then fst0 r else x
theorem fst0_drop (l : List Int) (k : Nat) (x : Int) (h : l[k]? = some x) : fst0 (l.drop k) = if x = 0 then fst0 (l.drop (k + 1)) else x := by
  obtain ⟨h1, h2⟩ := List.getElem?_eq_some_iff.1 h
  rw [List.drop_eq_getElem_cons h1, h2]; rfl
/-- Loads are checked. -/
def badLoad (n : Int) : Bool := decide (¬ rng n (-32768) 32768 = 0)
def chkLoads (l : List Int) : Int := if 40000 < l.length then 5 else if (l.filter badLoad).length = 0 then 0 else 3
def prev (l : List Rev) (j k : Nat) : Option Rev := if k < j then none else l[k - j]?
def ordB (p : Option Rev) (r : Rev) : Bool := match p with | some q => decide (r.at_ ≤ q.at_) | none => false
def shpB (pp p : Option Rev) (r : Rev) : Bool :=
  match p with
  | none => false
  | some q => decide (r.ld = q.ld) || (match pp with | some z => !trn z.ld q.ld r.ld | none => false)
def errAt (pp p : Option Rev) (r : Rev) : Int :=
  fst0 [rng r.at_ 0 39999, rng r.ld (-32768) 32768, if ordB p r = true then 11 else 0, if shpB pp p r = true then 2 else 0]
def chkRev (pp p : Option Rev) : List Rev → Int
  | [] => 0
  | r :: rs => if errAt pp p r = 0 then chkRev p (some r) rs else errAt pp p r
def chkRevs (l : List Rev) : Int := if 40000 < l.length then 5 else chkRev none none l
theorem chkRev_drop {l : List Rev} {k : Nat} {r : Rev} (h : l[k]? = some r) :
    chkRev (prev l 2 k) (prev l 1 k) (l.drop k) = if errAt (prev l 2 k) (prev l 1 k) r = 0 then chkRev (prev l 2 (k + 1)) (prev l 1 (k + 1)) (l.drop (k + 1)) else errAt (prev l 2 k) (prev l 1 k) r := by
  obtain ⟨h1, h2⟩ := List.getElem?_eq_some_iff.1 h
  have e1 : prev l 1 (k + 1) = some r := by simp [prev, h]
  have e2 : prev l 2 (k + 1) = prev l 1 k := by
    unfold prev
    by_cases hk : k < 1
    · rw [if_pos hk, if_pos (by omega)]
    · rw [if_neg hk, if_neg (by omega)]; congr 1
  rw [List.drop_eq_getElem_cons h1, h2, chkRev, e1, e2]
theorem chkRev_end {l : List Rev} {k : Nat} {a b : Option Rev} (h : l.length ≤ k) : chkRev a b (l.drop k) = 0 := by
  rw [List.drop_eq_nil_of_le h]; rfl
theorem filter_snoc {α : Type} {l : List α} {k : Nat} {x : α} (p : α → Bool) (h : l[k]? = some x) : (l.take (k + 1)).filter p = (l.take k).filter p ++ if p x = true then [x] else [] := by
  obtain ⟨h1, h2⟩ := List.getElem?_eq_some_iff.1 h
  rw [List.take_succ_eq_append_getElem h1, h2, List.filter_append]
  congr 1
  by_cases hp : p x = true
  · rw [List.filter_cons_of_pos hp, if_pos hp]; rfl
  · rw [List.filter_cons_of_neg hp, if_neg hp]; rfl
/-- The reversals of points, as they come. -/
def revStep (out : List Rev) (p : Rev) : List Rev :=
  match out.reverse with
  | [] => [p]
  | a :: r => if a.ld = p.ld then out else
    match r with
    | [] => out ++ [p]
    | b :: _ => if trn b.ld a.ld p.ld = true then out ++ [p] else out.dropLast ++ [p]
def revsOf (l : List Rev) : List Rev := l.foldl revStep []
def points (l : List Int) : List Rev := l.zipIdx.map fun p => ⟨p.2, p.1⟩
end Go.Nac
set_option linter.unusedVariables false
namespace Go.Nac
theorem rev_last {α : Type} {o : List α} {a : α} (h : o[o.length - 1]? = some a) : ∃ r, o.reverse = a :: r ∧ o = r.reverse ++ [a] := by
  rcases List.eq_nil_or_concat o with rfl | ⟨o1, b, rfl⟩
  · simp at h
  · simp at h; subst h; exact ⟨o1.reverse, by simp, by simp⟩
theorem revStep_0 {o : List Rev} {p : Rev} (h : o.length = 0) : revStep o p = o ++ [p] := by
  have := List.eq_nil_of_length_eq_zero h; subst this; rfl
theorem revStep_eq {o : List Rev} {a p : Rev} (ha : o[o.length - 1]? = some a) (h : a.ld = p.ld) : revStep o p = o := by
  obtain ⟨r, h1, h2⟩ := rev_last ha
  simp only [revStep, h1, if_pos h]
theorem revStep_1 {o : List Rev} {a p : Rev} (ha : o[o.length - 1]? = some a) (h : ¬ a.ld = p.ld) (h1 : o.length = 1) : revStep o p = o ++ [p] := by
  obtain ⟨r, h2, h3⟩ := rev_last ha
  have : r = [] := by have := congrArg List.length h3; simp at this; exact List.eq_nil_of_length_eq_zero (by omega)
  subst this
  simp only [revStep, h2, if_neg h]
theorem revStep_2 {o : List Rev} {a b p : Rev} (ha : o[o.length - 1]? = some a) (hb : o[o.length - 2]? = some b) (h2 : 2 ≤ o.length) (h : ¬ a.ld = p.ld) :
    revStep o p = if trn b.ld a.ld p.ld = true then o ++ [p] else o.set (o.length - 1) p := by
  obtain ⟨r, h3, h4⟩ := rev_last ha
  subst h4
  have hb' : r.reverse[r.reverse.length - 1]? = some b := by
    have e : (r.reverse ++ [a]).length - 2 = r.reverse.length - 1 := by simp
    rw [e] at hb
    rw [List.getElem?_append_left (by simp at h2 ⊢; omega)] at hb
    exact hb
  obtain ⟨r2, h5, h6⟩ := rev_last hb'
  have h7 : r = b :: r2 := by simpa using h5
  subst h7
  simp only [revStep, h3, if_neg h]
  congr 1
  simp
end Go.Nac
set_option linter.unusedVariables false
namespace Go.Nac
def dedStep (out : List Rev) (p : Rev) : List Rev :=
  match out.reverse with
  | [] => out ++ [p]
  | a :: _ => if p.ld = a.ld then out else out ++ [p]
def dedup (l : List Rev) : List Rev := l.foldl dedStep []
def keepT (p : List Rev) (k : Nat) : Bool :=
  decide (k = 0) || decide (k + 1 = p.length) || (match p[k - 1]?, p[k]?, p[k + 1]? with | some a, some b, some c => trn a.ld b.ld c.ld | _, _, _ => false)
def outT (p : List Rev) : Nat → List Rev
  | 0 => []
  | k + 1 => outT p k ++ if keepT p k = true then (p[k]?).toList else []
def turning (l : List Rev) : List Rev := outT (dedup l) (dedup l).length
end Go.Nac
set_option linter.unusedVariables false
namespace Go.Nac
def ordC (c : Cyc) : Bool := decide (c.to_ ≤ c.from_) || decide (c.hi ≤ c.lo)
def errC (c : Cyc) : Int := fst0 [rng c.from_ 0 39999, rng c.to_ 0 39999, rng c.lo (-32768) 32768, rng c.hi (-32768) 32768, if ordC c = true then 11 else 0]
def chkCycs (l : List Cyc) : Int := if 40000 < l.length then 5 else fst0 (l.map errC)
/-- n times x, in a machine's words. -/
def powW (x : Int) : Nat → Int
  | 0 => 1
  | k + 1 => IntKind.i64.wrap (powW x k * x)
end Go.Nac
set_option linter.unusedVariables false
namespace Go.Nac
def madd (m : Int × Bool) (n : Int) : Int × Bool := if m.2 = true ∨ 1152921504606846976 - m.1 < n then (m.1, true) else (m.1 + n, false)
def mres (m : Int × Bool) : Int × Int := if m.2 = true then (0, 4) else (m.1, 0)
def mOk (m : Int × Bool) : Prop := 0 ≤ m.1 ∧ m.1 ≤ 1152921504606846976
theorem madd_ok {m : Int × Bool} {n : Int} (h : mOk m) (hn : 0 ≤ n) : mOk (madd m n) := by
  unfold mOk madd at *
  split
  · exact h
  · rename_i h2; simp only [not_or] at h2; simp only []; omega
/-- The row of a meter. -/
def mRow (v : Nat) (m : Int × Bool) : Blk := .row true 2 v [.agg [.I m.1, .B m.2]]
def rangeW (c : Cyc) : Int := IntKind.i64.wrap (c.hi - c.lo)
def cycDmg (e times : Int) (m : Int × Bool) (l : List Cyc) : Int × Bool := l.foldl (fun m c => madd m (times * powW (c.hi - c.lo) e.toNat)) m
/-- What lies between two loads. -/
def apartI (a b : Rev) : Int := max (a.ld - b.ld) (b.ld - a.ld)
def halfs : List Rev → List Int
  | a :: b :: r => apartI a b :: halfs (b :: r)
  | _ => []
def halfDmg (e : Int) (m : Int × Bool) (l : List Rev) : Int × Bool := (halfs l).foldl (fun m x => madd m (powW x e.toNat)) m
theorem wrap_id {a : Int} (h : -9223372036854775808 ≤ a ∧ a ≤ 9223372036854775807) : IntKind.i64.wrap a = a := wrap64_in h
theorem pow1 (x : Int) (h : -9223372036854775808 ≤ x ∧ x ≤ 9223372036854775807) : powW x 1 = x := by
  simp only [powW]; rw [Int.one_mul]; exact wrap_id h
theorem sq_bd {x : Int} {b : Int} (h0 : 0 ≤ x) (h : x ≤ b) : 0 ≤ x * x ∧ x * x ≤ b * b := ⟨Int.mul_nonneg h0 h0, Int.mul_le_mul h h h0 (by omega)⟩
theorem pow2 (x : Int) (h0 : 0 ≤ x) (h : x ≤ 2147483648) : powW x 2 = x * x := by
  have hb := sq_bd h0 h
  simp only [powW]; rw [Int.one_mul, wrap_id (a := x) (by omega), wrap_id (by omega)]
theorem pow3 (x : Int) (h0 : 0 ≤ x) (h : x ≤ 1048576) : powW x 3 = x * x * x := by
  have hb := sq_bd h0 h
  have h3 : 0 ≤ x * x * x ∧ x * x * x ≤ 1048576 * 1048576 * 1048576 := ⟨Int.mul_nonneg hb.1 h0, Int.mul_le_mul hb.2 h h0 (by omega)⟩
  simp only [powW]; rw [Int.one_mul, wrap_id (a := x) (by omega), wrap_id (a := x * x) (by omega), wrap_id (by omega)]
/-- A power in bounds. -/
theorem pow_bd {x e : Int} (he : 1 ≤ e ∧ e ≤ 3) (h0 : 0 ≤ x) (h : x ≤ 65536) : 0 ≤ powW x e.toNat ∧ powW x e.toNat ≤ 281474976710656 := by
  have hb := sq_bd h0 h
  have h3 : 0 ≤ x * x * x ∧ x * x * x ≤ 65536 * 65536 * 65536 := ⟨Int.mul_nonneg hb.1 h0, Int.mul_le_mul hb.2 h h0 (by omega)⟩
  rcases (by omega : e = 1 ∨ e = 2 ∨ e = 3) with rfl | rfl | rfl
  · rw [show (1 : Int).toNat = 1 from rfl, pow1 x (by omega)]; omega
  · rw [show (2 : Int).toNat = 2 from rfl, pow2 x h0 (by omega)]; omega
  · rw [show (3 : Int).toNat = 3 from rfl, pow3 x h0 (by omega)]; omega
theorem halfs_get : ∀ (l : List Rev) (k : Nat) (p q : Rev), l[k]? = some p → l[k + 1]? = some q → (halfs l)[k]? = some (apartI p q)
  | [], k, p, q, h, _ => by simp at h
  | [a], k, p, q, _, h => by simp at h
  | a :: b :: r, 0, p, q, h, h' => by simp at h h'; subst h; subst h'; simp [halfs]
  | a :: b :: r, k + 1, p, q, h, h' => by simp only [halfs, List.getElem?_cons_succ] at *; exact halfs_get (b :: r) k p q h h'
theorem halfs_len : ∀ (l : List Rev), (halfs l).length = l.length - 1
  | [] => rfl
  | [a] => rfl
  | a :: b :: r => by simp only [halfs, List.length_cons]; rw [halfs_len (b :: r)]; simp
end Go.Nac
set_option linter.unusedVariables false
namespace Go.Nac
theorem fst0_zero (l : List Int) : fst0 l = 0 ↔ ∀ x ∈ l, x = 0 := by
  induction l with
  | nil => simp [fst0]
  | cons x l ih =>
    simp only [fst0, List.mem_cons, forall_eq_or_imp]
    split
    · rename_i h; simp [h, ih]
    · rename_i h; simp [h]
theorem rng_zero {n a b : Int} : rng n a b = 0 ↔ a ≤ n ∧ n ≤ b := by unfold rng; split <;> omega
def goodC (c : Cyc) : Prop := (0 ≤ c.from_ ∧ c.from_ ≤ 39999) ∧ (0 ≤ c.to_ ∧ c.to_ ≤ 39999) ∧ (-32768 ≤ c.lo ∧ c.lo ≤ 32768) ∧ (-32768 ≤ c.hi ∧ c.hi ≤ 32768) ∧ c.from_ < c.to_ ∧ c.lo < c.hi
theorem errC_zero {c : Cyc} : errC c = 0 ↔ goodC c := by
  unfold errC goodC
  rw [fst0_zero]
  simp only [List.mem_cons, List.not_mem_nil, or_false, forall_eq_or_imp, forall_eq, rng_zero, ordC, Bool.or_eq_true, decide_eq_true_eq]
  constructor
  · rintro ⟨h1, h2, h3, h4, h5⟩
    refine ⟨h1, h2, h3, h4, ?_⟩
    split at h5 <;> omega
  · rintro ⟨h1, h2, h3, h4, h5, h6⟩
    refine ⟨h1, h2, h3, h4, ?_⟩
    rw [if_neg (by omega)]
theorem chkCycs_zero {l : List Cyc} : chkCycs l = 0 ↔ l.length ≤ 40000 ∧ ∀ c ∈ l, goodC c := by
  unfold chkCycs
  split
  · constructor
    · intro h; cases h
    · intro h; omega
  · rw [fst0_zero]
    simp only [List.mem_map, forall_exists_index, and_imp, forall_apply_eq_imp_iff₂, errC_zero]
    constructor
    · intro h; exact ⟨by omega, h⟩
    · intro h; exact h.2
/-- Reversals that turn, one behind the other. -/
def goodR (r : Rev) : Prop := (0 ≤ r.at_ ∧ r.at_ ≤ 39999) ∧ (-32768 ≤ r.ld ∧ r.ld ≤ 32768)
def nextR (pp p : Option Rev) (r : Rev) : Prop := (∀ q, p = some q → q.at_ < r.at_ ∧ r.ld ≠ q.ld ∧ ∀ z, pp = some z → trn z.ld q.ld r.ld = true)
theorem errAt_zero {pp p : Option Rev} {r : Rev} : errAt pp p r = 0 ↔ goodR r ∧ nextR pp p r := by
  unfold errAt goodR nextR
  rw [fst0_zero]
  simp only [List.mem_cons, List.not_mem_nil, or_false, forall_eq_or_imp, forall_eq, rng_zero]
  have e1 : (if ordB p r = true then (11 : Int) else 0) = 0 ↔ ∀ q, p = some q → q.at_ < r.at_ := by
    cases p with
    | none => simp [ordB]
    | some q => simp [ordB]
  have e2 : (if shpB pp p r = true then (2 : Int) else 0) = 0 ↔ ∀ q, p = some q → r.ld ≠ q.ld ∧ ∀ z, pp = some z → trn z.ld q.ld r.ld = true := by
    cases p with
    | none => simp [shpB]
    | some q =>
      cases pp with
      | none => simp [shpB]
      | some z => simp [shpB]
  rw [e1, e2]
  constructor
  · rintro ⟨h1, h2, h3, h4⟩
    exact ⟨⟨h1, h2⟩, fun q hq => ⟨h3 q hq, h4 q hq⟩⟩
  · rintro ⟨⟨h1, h2⟩, h3⟩
    exact ⟨h1, h2, fun q hq => (h3 q hq).1, fun q hq => (h3 q hq).2⟩
def turnsFrom (pp p : Option Rev) : List Rev → Prop
  | [] => True
  | r :: rs => goodR r ∧ nextR pp p r ∧ turnsFrom p (some r) rs
theorem chkRev_zero : ∀ (l : List Rev) (pp p : Option Rev), chkRev pp p l = 0 ↔ turnsFrom pp p l
  | [], pp, p => by simp [chkRev, turnsFrom]
  | r :: rs, pp, p => by
    simp only [chkRev, turnsFrom]
    by_cases h : errAt pp p r = 0
    · rw [if_pos h, chkRev_zero rs]
      have := errAt_zero.1 h
      exact ⟨fun k => ⟨this.1, this.2, k⟩, fun k => k.2.2⟩
    · rw [if_neg h]
      exact ⟨fun k => absurd k h, fun k => absurd (errAt_zero.2 ⟨k.1, k.2.1⟩) h⟩
theorem chkRevs_zero {l : List Rev} : chkRevs l = 0 ↔ l.length ≤ 40000 ∧ turnsFrom none none l := by
  unfold chkRevs
  split
  · constructor
    · intro h; cases h
    · intro h; omega
  · rw [chkRev_zero]
    exact ⟨fun h => ⟨by omega, h⟩, fun h => h.2⟩
theorem turns_good : ∀ (l : List Rev) (pp p : Option Rev), turnsFrom pp p l → ∀ r ∈ l, goodR r
  | [], _, _, _, r, hr => by cases hr
  | x :: xs, pp, p, h, r, hr => by
    rcases List.mem_cons.1 hr with rfl | hr
    · exact h.1
    · exact turns_good xs _ _ h.2.2 r hr
theorem filter_zero {l : List Int} : (l.filter badLoad).length = 0 ↔ ∀ x ∈ l, -32768 ≤ x ∧ x ≤ 32768 := by
  rw [List.length_eq_zero_iff, List.filter_eq_nil_iff]
  constructor
  · intro h x hx
    have := h x hx
    simp only [badLoad, decide_eq_true_eq, Classical.not_not] at this
    exact rng_zero.1 this
  · intro h x hx
    simp only [badLoad, decide_eq_true_eq, Classical.not_not]
    exact rng_zero.2 (h x hx)
theorem chkLoads_zero {l : List Int} : chkLoads l = 0 ↔ l.length ≤ 40000 ∧ ∀ x ∈ l, -32768 ≤ x ∧ x ≤ 32768 := by
  unfold chkLoads
  split
  · constructor
    · intro h; cases h
    · intro h; omega
  · rw [← filter_zero]
    split
    · rename_i h; simp [h]; omega
    · rename_i h; simp [h]
end Go.Nac
set_option linter.unusedVariables false
namespace Go.Nac
def dmgRes (l : List Cyc) (e : Int) : Int × Int := if fst0 [chkCycs l, rng e 1 3] = 0 then mres (cycDmg e 1 (0, false) l) else (0, fst0 [chkCycs l, rng e 1 3])
def halfRes (l : List Rev) (e : Int) : Int × Int := if fst0 [chkRevs l, rng e 1 3] = 0 then mres (halfDmg e (0, false) l) else (0, fst0 [chkRevs l, rng e 1 3])
theorem fst0_two {a b : Int} (h : fst0 [a, b] = 0) : a = 0 ∧ b = 0 := by
  have := (fst0_zero _).1 h
  exact ⟨this a (by simp), this b (by simp)⟩
end Go.Nac
set_option linter.unusedVariables false
namespace Go.Nac
def closesB (a b c d : Rev) : Bool := decide (apartI b c ≤ apartI a b) && decide (apartI b c ≤ apartI c d)
def mkCyc (b c : Rev) : Cyc := ⟨b.at_, c.at_, min b.ld c.ld, max b.ld c.ld⟩
/-- What the last four reversals of a stack close, again and again; the stack is upside down. -/
def drain : List Rev → List Cyc × List Rev
  | d :: c :: b :: a :: r => if closesB a b c d = true then (mkCyc b c :: (drain (d :: a :: r)).1, (drain (d :: a :: r)).2) else ([], d :: c :: b :: a :: r)
  | st => ([], st)
termination_by st => st.length
def countStep (s : List Cyc × List Rev) (r : Rev) : List Cyc × List Rev := (s.1 ++ (drain (r :: s.2)).1, (drain (r :: s.2)).2)
def countOf (l : List Rev) : List Cyc × List Rev := l.foldl countStep ([], [])
theorem count_snoc {l : List Rev} {k : Nat} {x : Rev} (h : l[k]? = some x) : countOf (l.take (k + 1)) = countStep (countOf (l.take k)) x := by
  obtain ⟨h1, h2⟩ := List.getElem?_eq_some_iff.1 h
  unfold countOf
  rw [List.take_succ_eq_append_getElem h1, h2, List.foldl_append]; rfl
theorem drain_yes {a b c d : Rev} {r : List Rev} (h : closesB a b c d = true) : drain (d :: c :: b :: a :: r) = (mkCyc b c :: (drain (d :: a :: r)).1, (drain (d :: a :: r)).2) := by
  rw [drain]; rw [if_pos h]
theorem drain_no {a b c d : Rev} {r : List Rev} (h : closesB a b c d = false) : drain (d :: c :: b :: a :: r) = ([], d :: c :: b :: a :: r) := by
  rw [drain]; rw [if_neg (by simp [h])]
theorem drain_short {st : List Rev} (h : st.length < 4) : drain st = ([], st) := by
  rcases st with _ | ⟨a, _ | ⟨b, _ | ⟨c, _ | ⟨d, r⟩⟩⟩⟩
  · rw [drain]; simp
  · rw [drain]; simp
  · rw [drain]; simp
  · rw [drain]; simp
  · simp at h; omega
theorem drain_len (st : List Rev) : 2 * (drain st).1.length + (drain st).2.length = st.length := by
  induction st using drain.induct with
  | case1 d c b a r h ih => rw [drain_yes h]; simp at ih ⊢; omega
  | case2 d c b a r h => rw [drain_no (by simpa using h)]; simp
  | case3 st h => rw [drain]; simp; exact h
theorem drain_mem (st : List Rev) : ∀ x ∈ (drain st).2, x ∈ st := by
  induction st using drain.induct with
  | case1 d c b a r h ih =>
    rw [drain_yes h]; intro x hx
    have := ih x hx
    simp only [List.mem_cons] at this ⊢
    rcases this with h | h | h <;> simp [h]
  | case2 d c b a r h => rw [drain_no (by simpa using h)]; exact fun x hx => hx
  | case3 st h => rw [drain]; · exact fun x hx => hx
                  · exact h
theorem count_len (l : List Rev) : 2 * (countOf l).1.length + (countOf l).2.length = l.length := by
  unfold countOf
  have : ∀ (l : List Rev) (s : List Cyc × List Rev), 2 * (l.foldl countStep s).1.length + (l.foldl countStep s).2.length = 2 * s.1.length + s.2.length + l.length := by
    intro l
    induction l with
    | nil => intro s; simp
    | cons x l ih =>
      intro s
      have := drain_len (x :: s.2)
      rw [List.foldl_cons, ih]
      simp [countStep] at this ⊢; omega
  simpa using this l ([], [])
def closesL (l : List Rev) : Bool :=
  match l.reverse with
  | d :: c :: b :: a :: _ => closesB a b c d
  | _ => false
theorem last4 {l : List Rev} (h : 4 ≤ l.length) : ∃ p a b c d, l = p ++ [a, b, c, d] := by
  rcases List.eq_nil_or_concat l with rfl | ⟨l1, d, rfl⟩
  · simp at h
  rcases List.eq_nil_or_concat l1 with rfl | ⟨l2, c, rfl⟩
  · simp at h
  rcases List.eq_nil_or_concat l2 with rfl | ⟨l3, b, rfl⟩
  · simp at h
  rcases List.eq_nil_or_concat l3 with rfl | ⟨l4, a, rfl⟩
  · simp at h
  exact ⟨l4, a, b, c, d, by simp⟩
theorem get4 (p : List Rev) (a b c d : Rev) : (p ++ [a, b, c, d])[p.length]? = some a ∧ (p ++ [a, b, c, d])[p.length + 1]? = some b ∧ (p ++ [a, b, c, d])[p.length + 2]? = some c ∧ (p ++ [a, b, c, d])[p.length + 3]? = some d := by
  refine ⟨?_, ?_, ?_, ?_⟩
  · rw [List.getElem?_append_right (Nat.le_refl _)]; simp
  all_goals rw [List.getElem?_append_right (Nat.le_add_right _ _)]; simp
theorem count_mem (l : List Rev) : ∀ x ∈ (countOf l).2, x ∈ l := by
  unfold countOf
  have : ∀ (l : List Rev) (s : List Cyc × List Rev), ∀ x ∈ (l.foldl countStep s).2, x ∈ s.2 ∨ x ∈ l := by
    intro l
    induction l with
    | nil => intro s x hx; exact .inl hx
    | cons y l ih =>
      intro s x hx
      rw [List.foldl_cons] at hx
      rcases ih _ x hx with h | h
      · have := drain_mem _ x h
        rcases List.mem_cons.1 this with rfl | h
        · exact .inr (by simp)
        · exact .inl h
      · exact .inr (List.mem_cons_of_mem _ h)
  intro x hx
  rcases this l ([], []) x hx with h | h
  · cases h
  · exact h
end Go.Nac
set_option linter.unusedVariables false
namespace Go.Nac
def smallR (a : Rev) : Prop := -32768 ≤ a.ld ∧ a.ld ≤ 32768
def smallC (c : Cyc) : Prop := 0 ≤ c.hi - c.lo ∧ c.hi - c.lo ≤ 65536 ∧ -1048576 ≤ c.hi ∧ c.hi ≤ 1048576
theorem mkCyc_small {b c : Rev} (hb : smallR b) (hc : smallR c) : smallC (mkCyc b c) := by unfold smallR at hb hc; unfold smallC mkCyc; simp only []; omega
theorem drain_small (st : List Rev) : (∀ r ∈ st, smallR r) → ∀ c ∈ (drain st).1, smallC c := by
  induction st using drain.induct with
  | case1 d c b a r h ih =>
    intro hs x hx
    rw [drain_yes h] at hx
    rcases List.mem_cons.1 hx with rfl | hx
    · exact mkCyc_small (hs b (by simp)) (hs c (by simp))
    · exact ih (fun y hy => hs y (by simp only [List.mem_cons] at hy ⊢; rcases hy with h | h | h <;> simp [h])) x hx
  | case2 d c b a r h => intro _ x hx; rw [drain_no (by simpa using h)] at hx; cases hx
  | case3 st h =>
    intro _ x hx
    rw [drain] at hx
    · cases hx
    · exact h
theorem count_small {l : List Rev} (hl : ∀ r ∈ l, smallR r) : ∀ c ∈ (countOf l).1, smallC c := by
  unfold countOf
  have : ∀ (l : List Rev) (s : List Cyc × List Rev), (∀ r ∈ l, smallR r) → (∀ r ∈ s.2, smallR r) → (∀ c ∈ s.1, smallC c) → ∀ c ∈ (l.foldl countStep s).1, smallC c := by
    intro l
    induction l with
    | nil => intro s _ _ h; exact h
    | cons y l ih =>
      intro s h1 h2 h3
      rw [List.foldl_cons]
      have hst : ∀ r ∈ y :: s.2, smallR r := fun r hr => by
        rcases List.mem_cons.1 hr with rfl | hr
        · exact h1 _ (by simp)
        · exact h2 r hr
      refine ih _ (fun r hr => h1 r (by simp [hr])) (fun r hr => hst r (drain_mem _ r hr)) (fun c hc => ?_)
      rcases List.mem_append.1 hc with hc | hc
      · exact h3 c hc
      · exact drain_small _ hst c hc
  exact this l ([], []) hl (by simp) (by simp)
theorem revStep_mem (o : List Rev) (p : Rev) : ∀ x ∈ revStep o p, x ∈ o ∨ x = p := by
  intro x hx
  unfold revStep at hx
  split at hx
  · simp at hx; exact .inr hx
  · split at hx
    · exact .inl hx
    · split at hx
      · simp at hx; exact hx
      · split at hx
        · simp at hx; exact hx
        · rcases List.mem_append.1 hx with h | h
          · exact .inl (List.dropLast_subset _ h)
          · simp at h; exact .inr h
theorem revs_mem (l : List Rev) : ∀ x ∈ revsOf l, x ∈ l := by
  unfold revsOf
  have : ∀ (l o : List Rev), ∀ x ∈ l.foldl revStep o, x ∈ o ∨ x ∈ l := by
    intro l
    induction l with
    | nil => intro o x hx; exact .inl hx
    | cons y l ih =>
      intro o x hx
      rw [List.foldl_cons] at hx
      rcases ih _ x hx with h | h
      · rcases revStep_mem _ _ x h with h | rfl
        · exact .inl h
        · exact .inr (by simp)
      · exact .inr (List.mem_cons_of_mem _ h)
  intro x hx
  rcases this l [] x hx with h | h
  · cases h
  · exact h
theorem points_mem {l : List Int} {r : Rev} (h : r ∈ points l) : r.ld ∈ l ∧ 0 ≤ r.at_ ∧ r.at_ < l.length := by
  unfold points at h
  obtain ⟨p, hp, rfl⟩ := List.mem_map.1 h
  obtain ⟨x, i⟩ := p
  have := List.mem_zipIdx hp
  simp only [Nat.zero_add, Nat.zero_le, true_and, Nat.sub_zero] at this
  obtain ⟨h1, h2⟩ := this
  refine ⟨?_, by simp, by simp; omega⟩
  simp only [h2]
  exact List.getElem_mem _
theorem cycDmg_ok {l : List Cyc} {e times : Int} (ht : 0 ≤ times) (he : 1 ≤ e ∧ e ≤ 3) : ∀ {m : Int × Bool}, mOk m → (∀ c ∈ l, smallC c) → mOk (cycDmg e times m l) := by
  unfold cycDmg
  induction l with
  | nil => intro m h _; exact h
  | cons c l ih =>
    intro m h hs
    rw [List.foldl_cons]
    have hc := hs c (by simp)
    have := pow_bd he hc.1 hc.2.1
    exact ih (madd_ok h (Int.mul_nonneg ht this.1)) fun c hc => hs c (by simp [hc])
def cntRes (l : List Rev) : List Cyc × List Rev := if chkRevs l = 0 then countOf l else ([], [])
/-- Twice the damage of valid loads. -/
def twRes (l : List Int) (e : Int) : Int × Int := mres (halfDmg e (cycDmg e 2 (0, false) (countOf (revsOf (points l))).1) (countOf (revsOf (points l))).2.reverse)
def twiceRes (l : List Int) (e : Int) : Int × Int := if fst0 [chkLoads l, rng e 1 3] = 0 then twRes l e else (0, fst0 [chkLoads l, rng e 1 3])
theorem zip_tail_get {α : Type} (l : List α) (k : Nat) (p q : α) (h : l[k]? = some p) (h' : l[k + 1]? = some q) : (l.zip l.tail)[k]? = some (p, q) := by
  rw [List.getElem?_zip_eq_some]
  exact ⟨h, by rw [List.getElem?_tail]; exact h'⟩
theorem zip_tail_len {α : Type} (l : List α) : (l.zip l.tail).length = l.length - 1 := by simp
def crosses (lv : Int) (p : Rev × Rev) : Bool := decide (p.1.ld ≤ lv) && decide (lv < p.2.ld)
def crossN (lv : Int) (l : List Rev) : Nat := ((l.zip l.tail).filter (crosses lv)).length
def crossRes (l : List Rev) (lv : Int) : Int × Int := if fst0 [chkRevs l, rng lv (-999999999) 999999999] = 0 then (crossN lv l, 0) else (0, fst0 [chkRevs l, rng lv (-999999999) 999999999])
def spread (l : List Rev) : Int :=
  match l with
  | [] => 0
  | a :: _ => l.foldl (fun m r => max m r.ld) a.ld - l.foldl (fun m r => min m r.ld) a.ld
def grRes (l : List Rev) : Int × Int := if fst0 [chkRevs l, if l.length < 2 then 7 else 0] = 0 then (spread l, 0) else (0, fst0 [chkRevs l, if l.length < 2 then 7 else 0])
end Go.Nac
set_option linter.unusedVariables false
namespace Go.Nac
theorem sameKey_int {x y : Int} : sameKey (.int .i64 x) (.int .i64 y) = decide (x = y) := by
  simp only [sameKey, eqScalar, if_true, Option.getD_some]; congr
theorem sameKey_iff {x : Int} {v : Value} : sameKey (.int .i64 x) v = true ↔ v = .int .i64 x := by
  cases v <;> first | (simp [sameKey, eqScalar]; done) | skip
  rename_i k y
  simp only [sameKey, eqScalar]
  split
  · rename_i h; subst h; simp; exact eq_comm
  · rename_i h; simp; intro e; exact absurd e.symm h
theorem find_upd {x y : Int} {v : Value} (es : List (Value × Value)) : find (.int .i64 x) (upd (.int .i64 y) v es) = if x = y then some v else find (.int .i64 x) es := by
  induction es with
  | nil => simp only [upd, find, sameKey_int, decide_eq_true_eq]
  | cons e es ih =>
    obtain ⟨a, u⟩ := e
    simp only [upd]
    by_cases h : sameKey (.int .i64 y) a = true
    · rw [if_pos h]
      have := sameKey_iff.1 h
      subst this
      simp only [find, sameKey_int, decide_eq_true_eq]
      by_cases hx : x = y <;> simp [hx]
    · rw [if_neg h]
      simp only [find, ih]
      by_cases hx : x = y
      · subst hx; simp [h]
      · simp [hx]
def AllInt (es : List (Value × Value)) : Prop := ∀ e ∈ es, ∃ y : Int, e.1 = .int .i64 y
theorem AllInt.like {es : List (Value × Value)} (h : AllInt es) (x : Int) : keysLike (.int .i64 x) es = true := by
  unfold keysLike
  rw [List.all_eq_true]
  intro e he
  obtain ⟨y, hy⟩ := h e he
  rw [hy]; rfl
theorem AllInt.upd {es : List (Value × Value)} (h : AllInt es) (x : Int) (v : Value) : AllInt (upd (.int .i64 x) v es) := by
  induction es with
  | nil => intro e he; simp [Nac.upd] at he; exact ⟨x, by rw [he]⟩
  | cons a es ih =>
    obtain ⟨k, u⟩ := a
    intro e he
    simp only [Nac.upd] at he
    split at he
    · rcases List.mem_cons.1 he with rfl | he
      · exact ⟨x, rfl⟩
      · exact h e (by simp [he])
    · rcases List.mem_cons.1 he with rfl | he
      · exact h _ (by simp)
      · exact ih (fun e he => h e (by simp [he])) e he
def smallE (least : Int) (es : List (Value × Value)) (c : Cyc) : List (Value × Value) := if c.hi - c.lo < least then upd (.int .i64 c.to_) (.bool true) (upd (.int .i64 c.from_) (.bool true) es) else es
def smallM (least : Int) (cs : List Cyc) : List (Value × Value) := cs.foldl (smallE least) []
def inSmall (least : Int) (cs : List Cyc) (x : Int) : Bool := cs.any fun c => decide (c.hi - c.lo < least) && (decide (c.from_ = x) || decide (c.to_ = x))
theorem smallM_int (least : Int) (cs : List Cyc) : AllInt (smallM least cs) := by
  unfold smallM
  have : ∀ (cs : List Cyc) (es : List (Value × Value)), AllInt es → AllInt (cs.foldl (smallE least) es) := by
    intro cs
    induction cs with
    | nil => intro es h; exact h
    | cons c cs ih =>
      intro es h
      refine ih _ ?_
      unfold smallE
      split
      · exact (h.upd _ _).upd _ _
      · exact h
  exact this cs [] (by intro e he; cases he)
theorem smallM_find (least : Int) (cs : List Cyc) (x : Int) : (find (.int .i64 x) (smallM least cs)).getD (.bool false) = .bool (inSmall least cs x) := by
  have key : ∀ (cs : List Cyc) (es : List (Value × Value)) (b : Bool), (find (.int .i64 x) es).getD (.bool false) = .bool b → (find (.int .i64 x) (cs.foldl (smallE least) es)).getD (.bool false) = .bool (b || inSmall least cs x) := by
    intro cs
    induction cs with
    | nil => intro es b h; simpa [inSmall] using h
    | cons c cs ih =>
      intro es b h
      rw [List.foldl_cons, ih _ (b || (decide (c.hi - c.lo < least) && (decide (c.from_ = x) || decide (c.to_ = x))))]
      · simp [inSmall, Bool.or_assoc]
      · unfold smallE
        split
        · rename_i hl
          rw [find_upd, find_upd]
          by_cases h1 : x = c.to_
          · subst h1; simp [hl]
          · rw [if_neg h1]
            by_cases h2 : x = c.from_
            · subst h2; simp [hl]
            · rw [if_neg h2, h]
              have h1' : ¬ c.to_ = x := fun e => h1 e.symm
              have h2' : ¬ c.from_ = x := fun e => h2 e.symm
              simp [h1', h2']
        · rename_i hl
          rw [h]; simp [hl]
  have := key cs [] false rfl
  simpa [smallM] using this
theorem smallM_snoc {least : Int} {cs : List Cyc} {k : Nat} {c : Cyc} (h : cs[k]? = some c) : smallM least (cs.take (k + 1)) = smallE least (smallM least (cs.take k)) c := by
  obtain ⟨h1, h2⟩ := List.getElem?_eq_some_iff.1 h
  unfold smallM
  rw [List.take_succ_eq_append_getElem h1, h2, List.foldl_append]; rfl
def filt (l : List Rev) (least : Int) : List Rev := l.filter fun r => !inSmall least (countOf l).1 r.at_
def filtErr (l : List Rev) (least : Int) : Int := fst0 [chkRevs l, rng least (-999999999) 999999999]
def shR (s : Int) (r : Rev) : Rev := ⟨r.at_ + s, r.ld⟩
def farB (b : List Rev) (s : Int) : Bool := b.any fun r => decide (¬ rng (r.at_ + s) 0 39999 = 0)
def nearB (a b : List Rev) (s : Int) : Bool :=
  match a.getLast?, b.head? with
  | some p, some q => decide (q.at_ + s ≤ p.at_)
  | _, _ => false
/-- The error of two records that are joined, both of them valid. -/
def joinErr (a b : List Rev) (s : Int) : Int := if farB b s = true then 3 else if nearB a b s = true then 11 else 0
def joinRes (a b : List Rev) (s : Int) : List Rev := if joinErr a b s = 0 then revsOf (a ++ b.map (shR s)) else []
/-- The record, so far shifted. -/
def shK (b : List Rev) (s : Int) (k : Nat) : List Rev := (b.take k).map (shR s) ++ b.drop k
theorem shK_len (b : List Rev) (s : Int) (k : Nat) : (shK b s k).length = b.length := by simp [shK]; omega
theorem shK_get {b : List Rev} {s : Int} {k : Nat} {x : Rev} (h : b[k]? = some x) : (shK b s k)[k]? = some x := by
  have hlt := (List.getElem?_eq_some_iff.1 h).1
  unfold shK
  rw [List.getElem?_append_right (by simp; omega)]
  simp [show min k b.length = k by omega, h]
theorem shK_set {b : List Rev} {s : Int} {k : Nat} {x : Rev} (h : b[k]? = some x) : (shK b s k).set k (shR s x) = shK b s (k + 1) := by
  obtain ⟨h1, h2⟩ := List.getElem?_eq_some_iff.1 h
  unfold shK
  rw [List.set_append_right _ _ (by simp; omega), List.drop_eq_getElem_cons h1, h2]
  simp only [List.length_map, List.length_take, show min k b.length = k by omega, Nat.sub_self, List.set_cons_zero]
  rw [take_snoc h]
  simp
theorem shK_all (b : List Rev) (s : Int) : shK b s b.length = b.map (shR s) := by simp [shK]
def jErr (a b : List Rev) (s : Int) : Int := if fst0 [chkRevs a, chkRevs b, rng s 0 40000] = 0 then joinErr a b s else fst0 [chkRevs a, chkRevs b, rng s 0 40000]
def jRes (a b : List Rev) (s : Int) : List Rev := if fst0 [chkRevs a, chkRevs b, rng s 0 40000] = 0 then joinRes a b s else []
/-- The shift of a closed residue. -/
def closeShift (l : List Rev) : Int :=
  match l.head?, l.getLast? with
  | some a, some z => z.at_ - a.at_ + 1
  | _, _ => 0
def closeErr (l : List Rev) : Int := if chkRevs l = 0 then (if l = [] then 0 else joinErr l l (closeShift l)) else chkRevs l
def closeRes (l : List Rev) : List Cyc := if closeErr l = 0 then (if l = [] then [] else (countOf (joinRes l l (closeShift l))).1) else []
end Go.Nac
set_option linter.unusedVariables false
namespace Go.Nac
def pwI (x e : Int) : Int := if e = 1 then x else if e = 2 then x * x else x * x * x
theorem pwI_1 (x : Int) : pwI x 1 = x := rfl
theorem pwI_2 (x : Int) : pwI x 2 = x * x := rfl
theorem pwI_3 (x : Int) : pwI x 3 = x * x * x := rfl
theorem pwI_mono {x y e : Int} (h : 0 ≤ x) (hxy : x ≤ y) : pwI x e ≤ pwI y e := by
  unfold pwI
  have h2 : x * x ≤ y * y := Int.mul_le_mul hxy hxy h (by omega)
  have h3 : x * x * x ≤ y * y * y := Int.mul_le_mul h2 hxy h (Int.mul_nonneg (by omega) (by omega))
  split
  · exact hxy
  · split
    · exact h2
    · exact h3
theorem powW_pwI {x e : Int} (he : 1 ≤ e ∧ e ≤ 3) (h0 : 0 ≤ x) (h : x ≤ 65536 ∨ (e = 2 ∧ x ≤ 2147483648) ∨ (e = 3 ∧ x ≤ 1048576)) : powW x e.toNat = pwI x e := by
  rcases (by omega : e = 1 ∨ e = 2 ∨ e = 3) with rfl | rfl | rfl
  · rw [show (1 : Int).toNat = 1 from rfl, pow1 x (by omega)]; rfl
  · rw [show (2 : Int).toNat = 2 from rfl, pow2 x h0 (by omega)]; rfl
  · rw [show (3 : Int).toNat = 3 from rfl, pow3 x h0 (by omega)]; rfl
def IsRoot (n e r : Int) : Prop := 0 ≤ r ∧ pwI r e ≤ n ∧ n < pwI (r + 1) e
theorem IsRoot.unique {n e r s : Int} (h : IsRoot n e r) (k : IsRoot n e s) : r = s := by
  have key : ∀ {r s : Int}, IsRoot n e r → IsRoot n e s → ¬ r < s := by
    intro r s h k hlt
    have := pwI_mono (e := e) (by have := h.1; omega : 0 ≤ r + 1) (by omega : r + 1 ≤ s)
    have := h.2.2; have := k.2.1
    omega
  have := key h k; have := key k h
  omega
open Classical in
noncomputable def rootOf (n e : Int) : Int := if h : ∃ r, IsRoot n e r then Classical.choose h else 0
theorem rootOf_eq {n e r : Int} (h : IsRoot n e r) : rootOf n e = r := by
  unfold rootOf
  rw [dif_pos ⟨r, h⟩]
  exact IsRoot.unique (Classical.choose_spec (⟨r, h⟩ : ∃ r, IsRoot n e r)) h
def lifeErr (x : Life) : Int := fst0 [rng x.cap 1 1152921504606846976, rng x.exp 1 3]
theorem mres_ok {m : Int × Bool} (h : mOk m) : 0 ≤ (mres m).1 ∧ (mres m).1 ≤ 1152921504606846976 := by
  unfold mres mOk at *; split
  · simp
  · exact h
theorem fst0_mem (l : List Int) : fst0 l = 0 ∨ fst0 l ∈ l := by
  induction l with
  | nil => exact .inl rfl
  | cons x l ih =>
    simp only [fst0]
    split
    · rcases ih with h | h
      · exact .inl h
      · exact .inr (by simp [h])
    · exact .inr (by simp)
theorem rng_val (n a b : Int) : rng n a b = 0 ∨ rng n a b = 3 := by unfold rng; split <;> simp
theorem errC_val (c : Cyc) : errC c = 0 ∨ errC c = 3 ∨ errC c = 11 := by
  unfold errC
  have h1 := rng_val c.from_ 0 39999
  have h2 := rng_val c.to_ 0 39999
  have h3 := rng_val c.lo (-32768) 32768
  have h4 := rng_val c.hi (-32768) 32768
  rcases fst0_mem [rng c.from_ 0 39999, rng c.to_ 0 39999, rng c.lo (-32768) 32768, rng c.hi (-32768) 32768, if ordC c = true then 11 else 0] with h | h
  · exact .inl h
  · have h5 : (if ordC c = true then (11 : Int) else 0) = 0 ∨ (if ordC c = true then (11 : Int) else 0) = 11 := by split <;> simp
    generalize fst0 [rng c.from_ 0 39999, rng c.to_ 0 39999, rng c.lo (-32768) 32768, rng c.hi (-32768) 32768, if ordC c = true then 11 else 0] = z at h ⊢
    simp only [List.mem_cons, List.not_mem_nil, or_false] at h
    omega
theorem chkCycs_val (l : List Cyc) : chkCycs l = 0 ∨ chkCycs l = 3 ∨ chkCycs l = 5 ∨ chkCycs l = 11 := by
  unfold chkCycs
  split
  · simp
  · rcases fst0_mem (l.map errC) with h | h
    · exact .inl h
    · obtain ⟨c, _, hc⟩ := List.mem_map.1 h
      have := errC_val c
      omega
theorem chkCycs_small {l : List Cyc} (h : chkCycs l = 0) : ∀ c ∈ l, smallC c := by
  intro c hc
  have := (chkCycs_zero.1 h).2 c hc
  unfold goodC at this; unfold smallC; omega
theorem small_revs' {l : List Int} (h : chkLoads l = 0) : ∀ r ∈ revsOf (points l), smallR r := fun r hr => (chkLoads_zero.1 h).2 _ (points_mem (revs_mem _ r hr)).1
theorem halfs_bd : ∀ (l : List Rev), (∀ r ∈ l, smallR r) → ∀ x ∈ halfs l, 0 ≤ x ∧ x ≤ 65536
  | [], _, x, hx => by simp [halfs] at hx
  | [a], _, x, hx => by simp [halfs] at hx
  | a :: b :: r, h, x, hx => by
    simp only [halfs, List.mem_cons] at hx
    rcases hx with rfl | hx
    · have h1 := h a (by simp); have h2 := h b (by simp)
      unfold smallR at h1 h2; unfold apartI; omega
    · exact halfs_bd (b :: r) (fun r hr => h r (List.mem_cons_of_mem _ hr)) x hx
theorem halfDmg_ok {l : List Rev} {e : Int} (he : 1 ≤ e ∧ e ≤ 3) {m : Int × Bool} (hm : mOk m) (hs : ∀ r ∈ l, smallR r) : mOk (halfDmg e m l) := by
  unfold halfDmg
  have hb := halfs_bd l hs
  generalize halfs l = xs at hb ⊢
  induction xs generalizing m with
  | nil => exact hm
  | cons x xs ih => exact ih (madd_ok hm (pow_bd he (hb x (by simp)).1 (hb x (by simp)).2).1) fun y hy => hb y (by simp [hy])
theorem dmg_ok {l : List Cyc} {e : Int} (hl : chkCycs l = 0) (he : 1 ≤ e ∧ e ≤ 3) : mOk (cycDmg e 1 (0, false) l) :=
  cycDmg_ok (by omega) he ⟨by decide, by decide⟩ (chkCycs_small hl)
theorem dmgRes_ok (l : List Cyc) (e : Int) : 0 ≤ (dmgRes l e).1 ∧ (dmgRes l e).1 ≤ 1152921504606846976 := by
  unfold dmgRes
  split
  · rename_i h; exact mres_ok (dmg_ok (fst0_two h).1 (rng_zero.1 (fst0_two h).2))
  · simp
theorem dmgRes_exp {l : List Cyc} {e : Int} (h : (dmgRes l e).2 = 0 ∨ (dmgRes l e).2 = 4) : 1 ≤ e ∧ e ≤ 3 := by
  have hc := chkCycs_val l
  have hr := rng_val e 1 3
  have : rng e 1 3 = 0 := by
    by_cases h0 : rng e 1 3 = 0
    · exact h0
    · exfalso
      unfold dmgRes at h
      rw [if_neg (by simp only [fst0]; split <;> simp_all)] at h
      simp only [fst0] at h
      split at h
      · omega
      · omega
  exact rng_zero.1 this
noncomputable def eqvRes (l : List Cyc) (e number : Int) : Int × Int :=
  if ¬ (dmgRes l e).2 = 0 ∧ ¬ (dmgRes l e).2 = 4 then (0, (dmgRes l e).2)
  else if fst0 [rng number 1 999999999, (dmgRes l e).2] = 0 then (rootOf ((dmgRes l e).1 / number) e, 0) else (0, fst0 [rng number 1 999999999, (dmgRes l e).2])
theorem twRes_ok {l : List Int} {e : Int} (h : chkLoads l = 0) (he : 1 ≤ e ∧ e ≤ 3) : 0 ≤ (twRes l e).1 ∧ (twRes l e).1 ≤ 1152921504606846976 := by
  have hsr := small_revs' h
  exact mres_ok (halfDmg_ok he (cycDmg_ok (by omega) he ⟨by decide, by decide⟩ (count_small hsr)) (fun c hc => hsr c (count_mem _ c (by simpa using hc))))
def repRes (x : Life) (l : List Int) : Int × Int :=
  if fst0 [lifeErr x, chkLoads l] = 0 then
    (if fst0 [(twRes l x.exp).2, if (twRes l x.exp).1 = 0 then 7 else 0] = 0 then (2 * x.cap / (twRes l x.exp).1, 0) else (0, fst0 [(twRes l x.exp).2, if (twRes l x.exp).1 = 0 then 7 else 0]))
  else (0, fst0 [lifeErr x, chkLoads l])
end Go.Nac
set_option linter.unusedVariables false
namespace Go.Nac
def awL : List Int := [0, 5, 5, 2, 4, -1, 3, 6]
def awR : List Rev := [⟨0, 0⟩, ⟨1, 5⟩, ⟨3, 2⟩, ⟨4, 4⟩, ⟨5, -1⟩, ⟨7, 6⟩]
def awC : List Cyc := [⟨3, 4, 2, 4⟩]
def awD : List Rev := [⟨0, 0⟩, ⟨1, 5⟩, ⟨5, -1⟩, ⟨7, 6⟩]
def awO : List Cyc := [⟨8, 9, 0, 5⟩, ⟨7, 13, -1, 6⟩]
theorem aw1 : revsOf (points awL) = awR := by decide +kernel
theorem aw2 : chkLoads awL = 0 := by decide +kernel
theorem aw3 : cntRes awR = (awC, awD.reverse) := by decide +kernel
theorem aw4 : chkRevs awR = 0 := by decide +kernel
theorem aw5 : filt awR 3 = awD := by decide +kernel
theorem aw6 : filt awR 2 = awR := by decide +kernel
theorem aw7 : filtErr awR 3 = 0 := by decide +kernel
theorem aw8 : filtErr awR 2 = 0 := by decide +kernel
theorem aw9 : closeRes awD = awO := by decide +kernel
theorem aw10 : closeErr awD = 0 := by decide +kernel
theorem aw11 : crossRes awR 3 = (3, 0) := by decide +kernel
theorem aw12 : grRes awR = (7, 0) := by decide +kernel
theorem aw13 : dmgRes awC 2 = (4, 0) := by decide +kernel
theorem aw14 : halfRes awD 2 = (110, 0) := by decide +kernel
theorem aw15 : twiceRes awL 2 = (118, 0) := by decide +kernel
theorem aw16 : repRes ⟨40, 1⟩ awL = (3, 0) := by decide +kernel
theorem aw17 : eqvRes awC 2 1 = (2, 0) := by
  unfold eqvRes
  rw [aw13]
  simp only []
  rw [rootOf_eq (r := 2) (by unfold IsRoot; decide)]
  decide
theorem aw18 : eqvRes awC 2 2 = (1, 0) := by
  unfold eqvRes
  rw [aw13]
  simp only []
  rw [rootOf_eq (r := 1) (by unfold IsRoot; decide)]
  decide
end Go.Nac
set_option linter.unusedVariables false
namespace Go.Nac
theorem keepT_ext {d : List Rev} {a p : Rev} {k : Nat} (hk : k < d.length) : keepT (d ++ [a] ++ [p]) k = keepT (d ++ [a]) k := by
  have e1 : ∀ j, j ≤ d.length → (d ++ [a] ++ [p])[j]? = (d ++ [a])[j]? := fun j hj => List.getElem?_append_left (by simp; omega)
  have e2 : decide (k + 1 = (d ++ [a] ++ [p]).length) = decide (k + 1 = (d ++ [a]).length) := by
    rw [decide_eq_false (by simp; omega), decide_eq_false (by simp; omega)]
  unfold keepT
  rw [e1 _ (by omega), e1 _ (by omega), e1 _ (by omega), e2]
theorem outT_ext {d : List Rev} {a p : Rev} : ∀ {k : Nat}, k ≤ d.length → outT (d ++ [a] ++ [p]) k = outT (d ++ [a]) k
  | 0, _ => rfl
  | k + 1, hk => by
    simp only [outT]
    rw [outT_ext (by omega), keepT_ext (by omega), List.getElem?_append_left (by simp; omega)]
theorem outT_last (d : List Rev) (a : Rev) : outT (d ++ [a]) (d ++ [a]).length = outT (d ++ [a]) d.length ++ [a] := by
  rw [List.length_append, List.length_singleton]
  simp only [outT]
  congr 1
  have : keepT (d ++ [a]) d.length = true := by unfold keepT; simp
  rw [if_pos this]; simp
theorem outT_last2 (d : List Rev) (a p : Rev) : outT (d ++ [a] ++ [p]) (d ++ [a] ++ [p]).length = outT (d ++ [a]) d.length ++ (if keepT (d ++ [a] ++ [p]) d.length = true then [a] else []) ++ [p] := by
  rw [outT_last, show (d ++ [a]).length = d.length + 1 by simp]
  simp only [outT]
  rw [outT_ext (Nat.le_refl _)]
  congr 1
  congr 1
  congr 1
  rw [List.append_assoc, List.getElem?_append_right (Nat.le_refl _)]; simp
def InvT (d o : List Rev) : Prop := ∃ d1 o1 a, d = d1 ++ [a] ∧ o = o1 ++ [a] ∧ o1 = outT (d1 ++ [a]) d1.length ∧
  ((d1 = [] ∧ o1 = []) ∨ ∃ d2 z o2 b, d1 = d2 ++ [z] ∧ o1 = o2 ++ [b] ∧ z.ld ≠ a.ld ∧ (b.ld < a.ld ↔ z.ld < a.ld) ∧ (a.ld < b.ld ↔ a.ld < z.ld))
theorem trn_iff (a b c : Int) : trn a b c = true ↔ (a < b ∧ c < b) ∨ (b < a ∧ b < c) := by unfold trn; simp
theorem InvT.step {d o : List Rev} (h : InvT d o) (p : Rev) : InvT (dedStep d p) (revStep o p) := by
  obtain ⟨d1, o1, a, rfl, rfl, ho, hc⟩ := h
  by_cases hp : p.ld = a.ld
  · have e1 : dedStep (d1 ++ [a]) p = d1 ++ [a] := by simp [dedStep, hp]
    have e2 : revStep (o1 ++ [a]) p = o1 ++ [a] := by simp [revStep, hp]
    rw [e1, e2]
    exact ⟨d1, o1, a, rfl, rfl, ho, hc⟩
  · have hp' : ¬ a.ld = p.ld := fun h => hp h.symm
    have e1 : dedStep (d1 ++ [a]) p = d1 ++ [a] ++ [p] := by simp [dedStep, hp]
    rw [e1]
    rcases hc with ⟨rfl, rfl⟩ | ⟨d2, z, o2, b, rfl, rfl, hz, h1, h2⟩
    · have e2 : revStep ([] ++ [a]) p = [] ++ [a] ++ [p] := by simp [revStep, hp']
      rw [e2]
      refine ⟨[] ++ [a], [] ++ [a], p, rfl, rfl, ?_, .inr ⟨[], a, [], a, rfl, rfl, hp', Iff.rfl, Iff.rfl⟩⟩
      simp [outT, keepT]
    · have hk : keepT (d2 ++ [z] ++ [a] ++ [p]) (d2 ++ [z]).length = trn z.ld a.ld p.ld := by
        unfold keepT
        have g1 : (d2 ++ [z] ++ [a] ++ [p])[(d2 ++ [z]).length - 1]? = some z := by simp
        have g2 : (d2 ++ [z] ++ [a] ++ [p])[(d2 ++ [z]).length]? = some a := by simp
        have g3 : (d2 ++ [z] ++ [a] ++ [p])[(d2 ++ [z]).length + 1]? = some p := by rw [List.getElem?_append_right (by simp)]; simp
        rw [g1, g2, g3]; simp
      have ht : trn b.ld a.ld p.ld = trn z.ld a.ld p.ld := by
        rw [Bool.eq_iff_iff, trn_iff, trn_iff, h1, h2]
      have e2 : revStep (o2 ++ [b] ++ [a]) p = if trn z.ld a.ld p.ld = true then o2 ++ [b] ++ [a] ++ [p] else o2 ++ [b] ++ [p] := by
        simp [revStep, hp', ht]
      have e3 : outT (d2 ++ [z] ++ [a] ++ [p]) (d2 ++ [z] ++ [a]).length = o2 ++ [b] ++ (if keepT (d2 ++ [z] ++ [a] ++ [p]) (d2 ++ [z]).length = true then [a] else []) := by
        have := outT_last2 (d2 ++ [z]) a p
        rw [outT_last] at this
        rw [← ho] at this
        exact List.append_cancel_right this
      rw [hk] at e3
      rw [e2]
      by_cases hT : trn z.ld a.ld p.ld = true
      · rw [if_pos hT] at e3 ⊢
        exact ⟨d2 ++ [z] ++ [a], o2 ++ [b] ++ [a], p, rfl, rfl, e3.symm, .inr ⟨d2 ++ [z], a, o2 ++ [b], a, rfl, rfl, hp', Iff.rfl, Iff.rfl⟩⟩
      · rw [if_neg hT] at e3 ⊢
        rw [List.append_nil] at e3
        refine ⟨d2 ++ [z] ++ [a], o2 ++ [b], p, rfl, rfl, e3.symm, .inr ⟨d2 ++ [z], a, o2, b, rfl, rfl, hp', ?_, ?_⟩⟩ <;> rw [trn_iff] at hT <;> omega
end Go.Nac

