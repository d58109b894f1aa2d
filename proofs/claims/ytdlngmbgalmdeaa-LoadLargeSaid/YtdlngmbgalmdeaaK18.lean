import Derived.Test.YtdlngmbgalmdeaaK17
set_option linter.unusedVariables false
namespace Go.Nac
/-- A function that calls its argument with these values, one behind the other, as long as it is told to go on. -/
def YieldsF (F : Prog) (X : FuncId → List PV → PV → Prop) (g : FuncId) (cap : List PV) (xs : List PV) : Prop :=
  ∀ (i : Nat) (N : Nat → List Blk), (∀ k, k ≤ xs.length → (N k).length = (N 0).length ∧ lowM (N k).length (N k)) →
    (∀ k x E, xs[k]? = some x → ACall F X (.yl i) [x] (N k ++ E) (.B true) (N (k + 1) ++ E)) → ACall F X (.fn g) (.yl i :: cap) (N 0) (.tup []) (N xs.length)
/-- The end of a round: memory is N, and something behind it. -/
def RoundE (N : List Blk) : Post := fun e M' _ => e = .normal ∧ ∃ T, M' = N ++ T
theorem roundE {N M' : List Blk} {t : List PV} (T : List Blk) (h : M' = N ++ T) : RoundE N .normal M' t := ⟨rfl, T, h⟩
/-- Behind the assignments of a round. -/
def RoundA (C : CallR) (m i : Nat) (L LB : Blk) (B : CCode) (N M1 : List Blk) (t1 : List PV) : Prop := M1[i]? = some L ∧ Wp C m B (RoundE N) (M1.set i LB) t1
theorem roundA {C : CallR} {m i : Nat} {L LB : Blk} {B : CCode} {N M1 : List Blk} {t1 : List PV} (h : M1[i]? = some L) (hw : Wp C m B (RoundE N) (M1.set i LB) t1) : RoundA C m i L LB B N M1 t1 := ⟨h, hw⟩
theorem range_iter {F : Prog} {X : FuncId → List PV → PV → Prop} {g : FuncId} {cap xs : List PV} (hg : YieldsF F X g cap xs) {n0 n p : Nat} {Q : Post} {kvs : List (Nat × PV)} {f : CX} {A B : CCode} {M : List Blk} (R : Nat → List Blk)
    (hM : lowM M.length M) (hf : ev (mk n kvs) f = .fn (.func g) [] cap) (hlen : ∀ k, (R k).length = (R 0).length) (hlow : ∀ k, k ≤ xs.length → lowM (M.length + (R 0).length) (R k)) (ht : lowL (M.length + (R 0).length) (kvs.map Prod.snd))
    (hy : ∀ k x E L LB, xs[k]? = some x → lowM (M.length + ((R k).length + (1 + E.length))) E →
      Wp (ACall F X) (M.length + ((R k).length + (1 + E.length))) A (thenK (RoundA (ACall F X) (M.length + ((R k).length + (1 + E.length))) (M.length + (R k).length) L LB B (M ++ (R (k + 1) ++ LB :: E))) (fun _ _ _ => False)) (M ++ (R k ++ L :: E)) (mk n ((p, x) :: kvs)))
    (hq : Q .normal (M ++ R xs.length) (mk n kvs)) : Wp (ACall F X) n0 (.rangeFunc f [p] A B) Q (M ++ R 0) (mk n kvs) := by
  have hlowR : ∀ k, k ≤ xs.length → lowM (M.length + (R 0).length) (M ++ R k) := fun k hk => (lowM_append _ _).2 ⟨lowM_mono (by omega) hM, hlow k hk⟩
  have key := hg (M.length + (R 0).length) (fun k => (M ++ R k) ++ [.loop .ready none (mk n kvs) [p] A B]) (fun k hk => ?_) (fun k x E hx => ?_)
  · refine range_mk (r := .tup []) (M' := M ++ R xs.length) (A' := A) (B' := B) (ps' := [p]) (t' := mk n kvs) hf ?_ ?_ ?_ hq
    · rw [List.length_append]; exact key
    · simp [hlen]
    · rw [List.length_append]; exact hlowR _ (Nat.le_refl _)
  · have e : ((M ++ R k) ++ [Blk.loop .ready none (mk n kvs) [p] A B]).length = M.length + (R 0).length + 1 := by simp [hlen k]; omega
    refine ⟨by rw [e]; simp; omega, ?_⟩
    rw [e]
    refine (lowM_append _ _).2 ⟨lowM_mono (by omega) (hlowR k hk), ?_⟩
    refine (lowM_cons _ _).2 ⟨?_, lowM_nil⟩
    exact lowL_mono (by omega) _ (lowL_mk ht)
  · have hkx : k < xs.length := (List.getElem?_eq_some_iff.1 hx).1
    have hi : ((M ++ R k) ++ [Blk.loop .ready none (mk n kvs) [p] A B] ++ E)[M.length + (R 0).length]? = some (.loop .ready none (mk n kvs) [p] A B) := by
      rw [List.append_assoc, List.getElem?_append_right (by simp [hlen k]), List.length_append, hlen k, Nat.sub_self]; rfl
    refine yield_mk hi fun h1 h2 => ?_
    have e : ((M ++ R k) ++ [Blk.loop .ready none (mk n kvs) [p] A B] ++ E).length = M.length + ((R k).length + (1 + E.length)) := by simp; omega
    rw [e] at h1 ⊢
    have hE : lowM (M.length + ((R k).length + (1 + E.length))) E := ((lowM_append _ _).1 h1).2
    have := hy k x E (.loop .ready none (mk n kvs) [p] A B) (.loop .busy none (mk n kvs) [p] A B) hx hE
    have e2 : (M ++ R k) ++ [Blk.loop .ready none (mk n kvs) [p] A B] ++ E = M ++ (R k ++ Blk.loop .ready none (mk n kvs) [p] A B :: E) := by simp
    rw [e2, ← hlen k]
    refine Wp_mono (fun _ _ _ _ _ h => h) A (thenK_mono ?_ (fun _ _ _ h => h)) this
    rintro M1 t1 ⟨g1, g2⟩
    refine roundK g1 (Wp_mono (fun _ _ _ _ _ h => h) B ?_ g2)
    rintro ex M' t ⟨rfl, T, rfl⟩
    have hN : (M ++ (R (k + 1) ++ Blk.loop .busy none (mk n kvs) [p] A B :: E)).length = M.length + ((R k).length + (1 + E.length)) := by simp [hlen (k + 1), hlen k]; omega
    have hidx : ∀ (b : Blk) (S : List Blk), (M ++ (R (k + 1) ++ b :: S))[M.length + (R k).length]? = some b := by
      intro b S
      rw [getMj, List.getElem?_append_right (by simp [hlen (k + 1), hlen k]), hlen (k + 1), hlen k, Nat.sub_self]; rfl
    refine ⟨⟨mk n kvs, [p], A, B, ?_⟩, ⟨M.length + ((R k).length + (1 + E.length)), Nat.le_refl _, by rw [List.length_append, hN]; omega, ?_, ?_⟩, rfl⟩
    · rw [show (M ++ (R (k + 1) ++ Blk.loop .busy none (mk n kvs) [p] A B :: E)) ++ T = M ++ (R (k + 1) ++ Blk.loop .busy none (mk n kvs) [p] A B :: (E ++ T)) from by simp]
      exact hidx _ _
    · rw [List.take_left' hN]
      refine (lowM_append _ _).2 ⟨lowM_mono (by omega) hM, (lowM_append _ _).2 ⟨lowM_mono (by rw [hlen k]; omega) (hlow (k + 1) hkx), (lowM_cons _ _).2 ⟨?_, hE⟩⟩⟩
      exact lowL_mono (by rw [hlen k]; omega) _ (lowL_mk ht)
    · rw [List.take_left' hN, setMj, List.set_append_right _ _ (by simp [hlen (k + 1), hlen k]), hlen (k + 1), hlen k, Nat.sub_self]
      simp
end Go.Nac

