import Derived.Test.YtdlngmbgalmdeaaP
set_option linter.unusedVariables false
namespace Go.Nac
def sumI : List Int → Int
  | [] => 0
  | x :: r => x + sumI r
def sat (x : Int) : Int := if 1152921504606846976 < x then 1152921504606846977 else x
/-- A total, or none above the limit. -/
def chkM (x : Int) : Int × Int := if 1152921504606846976 < x then (0, 4) else (x, 0)
def MRel (m : Int × Bool) (t : Int) : Prop := (m.2 = true ∧ 1152921504606846976 < t) ∨ (m.2 = false ∧ m.1 = t ∧ t ≤ 1152921504606846976)
theorem MRel.add {m : Int × Bool} {t x : Int} (h : MRel m t) (hx : 0 ≤ x) : MRel (madd m x) (t + x) := by
  unfold madd
  rcases h with ⟨h1, h2⟩ | ⟨h1, h2, h3⟩
  · rw [if_pos (.inl h1)]; exact .inl ⟨rfl, by omega⟩
  · by_cases hf : 1152921504606846976 - m.1 < x
    · rw [if_pos (.inr hf)]; exact .inl ⟨rfl, by omega⟩
    · rw [if_neg (by simp [h1, hf])]; exact .inr ⟨rfl, by simp only []; omega, by omega⟩
theorem MRel.res {m : Int × Bool} {t : Int} (h : MRel m t) : mres m = chkM t := by
  unfold mres chkM
  rcases h with ⟨h1, h2⟩ | ⟨h1, h2, h3⟩
  · rw [if_pos h1, if_pos h2]
  · rw [if_neg (by simp [h1]), if_neg (by omega), h2]
theorem MRel.zero : MRel (0, false) 0 := .inr ⟨rfl, rfl, by decide⟩
def powC (e : Int) (l : List Cyc) : List Int := l.map fun c => powW (c.hi - c.lo) e.toNat
def powH (e : Int) (l : List Rev) : List Int := (halfs l).map fun x => powW x e.toNat
def sumC (e : Int) (l : List Cyc) : Int := sumI (powC e l)
def sumH (e : Int) (l : List Rev) : Int := sumI (powH e l)
/-- Twice the damage of loads. -/
def sumT (l : List Int) (e : Int) : Int := 2 * sumC e (countOf (revsOf (points l))).1 + sumH e (countOf (revsOf (points l))).2.reverse
end Go.Nac
set_option linter.unusedVariables false
namespace Go.Nac
def wq (n q : Int) : Nat → Int
  | 0 => q
  | k + 1 => wq n q k / n
end Go.Nac
set_option linter.unusedVariables false
namespace Go.Nac
theorem smallR_of {l : List Rev} (h : chkRevs l = 0) : ∀ r ∈ l, smallR r := fun r hr => (turns_good _ _ _ (chkRevs_zero.1 h).2 r hr).2
end Go.Nac
set_option linter.unusedVariables false
namespace Go.Nac
theorem at_last : ∀ (l : List Rev) (pp p : Option Rev), turnsFrom pp p l → ∀ z, l.getLast? = some z → ∀ r ∈ l, r.at_ ≤ z.at_
  | [], _, _, _, z, h, _, _ => by simp at h
  | [x], _, _, _, z, h, r, hr => by simp at h hr; subst h; subst hr; omega
  | x :: y :: l, pp, p, ht, z, h, r, hr => by
    have h2 := at_last (y :: l) _ _ ht.2.2 z (by simpa using h)
    have h3 := (ht.2.2.2.1 x rfl).1
    rcases List.mem_cons.1 hr with rfl | hr
    · have := h2 y (by simp); omega
    · exact h2 r hr
theorem farB_last {b : List Rev} {s : Int} {z : Rev} (hb : chkRevs b = 0) (hs : 0 ≤ s) (hz : b.getLast? = some z) : farB b s = decide (39999 < z.at_ + s) := by
  have hc := chkRevs_zero.1 hb
  have hg := turns_good _ _ _ hc.2
  have hl := at_last _ _ _ hc.2 z hz
  have hm : z ∈ b := List.mem_of_getLast? hz
  unfold farB
  rw [Bool.eq_iff_iff, List.any_eq_true]
  simp only [decide_eq_true_eq]
  constructor
  · rintro ⟨r, hr, h⟩
    have h1 := hl r hr
    have h2 := hg r hr
    unfold goodR at h2
    unfold rng at h
    split at h
    · omega
    · simp at h
  · intro h
    refine ⟨z, hm, ?_⟩
    unfold rng; rw [if_pos (by omega)]; simp
end Go.Nac

