import Derived.Test.YtdlngmbgalmdeaaK9
set_option linter.unusedVariables false
set_option linter.unusedSectionVars false
set_option linter.unusedSimpArgs false
namespace Go.Nac
section
variable {P : Program} {M0 : List Blk} {L0 : Loc} {w0 : World} {ro : Option Nat} {M M' : List Blk} {t t' : List PV} {L L' : Loc} {a : Act} {w w' : World}
def CP (P : Program) (M0 : List Blk) (L0 : Loc) (w0 : World) (ro : Option Nat) (Q : Post) : Exit → Act → World → Prop := fun e a w => ∃ ex M t L, exRel ex e ∧ Q ex M t ∧ St P M0 L0 w0 ro M t L a w
theorem flat_at {k e m : Nat} {xs : List PV} {x : PV} (hk : ∀ x ∈ xs, x.cells.length = k) (hx : xs[e]? = some x) (hm : m < k) : (xs.flatMap PV.cells)[e * k + m]? = x.cells[m]? := by
  have h := flat_drop hk e
  have h2 : (xs.drop e) = x :: xs.drop (e + 1) := by
    obtain ⟨h3, h4⟩ := List.getElem?_eq_some_iff.1 hx
    rw [List.drop_eq_getElem_cons h3, h4]
  rw [← List.getElem?_drop, h, h2, List.flatMap_cons, List.getElem?_append_left (by rw [hk x (List.mem_of_getElem? hx)]; exact hm)]
theorem setRangeV_self {vs : List Value} {i : Nat} {v : Value} (h : vs[i]? = some v) : setRangeV vs i [v] = vs := by
  obtain ⟨h3, h4⟩ := List.getElem?_eq_some_iff.1 h
  simp only [setRangeV, List.length_singleton]
  subst h4
  rw [List.append_assoc, List.singleton_append, ← List.drop_eq_getElem_cons h3, List.take_append_drop]
theorem own_sound0 {p : PV} {j k : Nat} (S : Sim (RO P) M L w) (h : ownNil M p j k = some M') : ∃ L', Evo M L w M' L' w ∧ Sim (RO P) M' L' w := by
  unfold ownNil at h
  split at h
  case h_2 => cases h
  rename_i a ver e j0
  split at h
  case h_2 => cases h
  rename_i wr0 kk0 v0 xs0 hi0
  split at h
  case h_2 => cases h
  rename_i hc
  cases hp : elemPut M a ver e (j0 + j) [.os M.length 0 0 0] with
  | none => rw [hp] at h; cases h
  | some M1 =>
    rw [hp] at h
    cases h
    obtain ⟨k', xs, x, y, hi, hx, hle, _, rfl, hy⟩ := elemPut_spec hp
    have hy := hy (by simp)
    rw [hi] at hi0; cases hi0
    rw [hx] at hc
    simp only [Option.map_some, Option.bind_some] at hc
    obtain ⟨E1, S1⟩ := push S (.row true k 0 []) none (w' := w) ⟨rfl, rfl, rfl⟩ rfl (by
      rintro _ _ rfl rfl E
      exact ⟨by simp, fun b q hL => by simp [Loc.upd_self] at hL, fun _ => rfl⟩)
    have hlt : a < M.length := (List.getElem?_eq_some_iff.1 hi).1
    have hi1 : (M ++ [Blk.row true k 0 []])[a]? = some (.row true kk0 ver xs0) := by rw [List.getElem?_append_left hlt]; exact hi
    obtain ⟨hk, h2, h3⟩ := S1.mem a _ hi1
    have hxk := hk x (List.mem_of_getElem? hx)
    have hset : M.set a (.row true kk0 ver (xs0.set e y)) ++ [Blk.row true k 0 []] = (M ++ [Blk.row true k 0 []]).set a (.row true kk0 ver (xs0.set e y)) := by
      rw [List.set_append_left _ _ hlt]
    simp only []
    rw [hset]
    have hlt' : j0 + j < kk0 := by simp at hle; omega
    have key := change S1 hi1 (blk' := .row true kk0 ver (xs0.set e y)) (L.upd M.length (none.map fun (_ : Obj) => (w.heap.size, 0))) (fun _ _ => rfl) (w' := w) ⟨rfl, rfl, rfl⟩ (.inl rfl) (Nat.le_refl _) (fun _ _ _ => rfl) (fun p hp => .inl ⟨p, hp, rfl⟩)
      ⟨Nat.le_refl _, fun _ => ⟨rfl, by simp, rfl, fun b o c el _ hc => ⟨c, hc, rfl⟩⟩⟩ (fun E => by
        refine ⟨fun z hz => ?_, fun b o hb => ?_, fun hb => ?_⟩
        · rcases List.mem_or_eq_of_mem_set hz with hz | rfl
          · exact hk z hz
          · rw [hy, setRange_length hle]; exact hxk
        · obtain ⟨c, el, vs, g1, g2, g3⟩ := h2 b o hb
          refine ⟨c, el, vs, g1, ?_, g3⟩
          rw [flat_set hk hx (by simp only [List.length_singleton]; omega) hy]
          have g4 := g2.evo E
          have g5 : (xs0.flatMap PV.cells)[e * kk0 + (j0 + j)]? = some (.s (.slice none 0 0)) := by rw [flat_at hk hx hlt']; exact hc
          obtain ⟨u, g6, g7⟩ := g4.get g5
          have := g7.s_inv
          subst this
          rw [← setRangeV_self g6]
          refine g4.setRange (.cons _ _ _ _ ?_ .nil) _
          exact .os M.length 0 0 0 true k [] none 0 (by rw [List.getElem?_set_ne (by omega)]; simp) (by simp) (Nat.le_refl _) (by simp)
        · have := h3 hb
          subst this
          simp at hx)
    exact ⟨_, E1.trans key.1, key.2⟩
theorem St.same (s : St P M0 L0 w0 ro M t L a w) (E : Evo M L w M' L' w') (S : Sim (RO P) M' L' w') : St P M0 L0 w0 ro M' t L' a w' :=
  ⟨S, s.T.evo E, s.E.trans E, s.D.evo E⟩
theorem LRel.forget (h : LRel M L w t a.tmps.toList) (ts : List Nat) : LRel M L w (forgetL ts t) a.tmps.toList := by
  induction ts generalizing t with
  | nil => exact h
  | cons i ts ih =>
    refine ih ?_
    refine LRel.all (by simp [h.length]) fun j x v hx hv => ?_
    by_cases e : j = i
    · subst e
      rw [List.getElem?_set_self (by have := (List.getElem?_eq_some_iff.1 hv).1; rw [h.length]; exact this)] at hx
      cases hx; exact .top v
    · rw [List.getElem?_set_ne (Ne.symm e)] at hx
      obtain ⟨u, h1, h2⟩ := h.get hx
      rw [hv] at h1; cases h1; exact h2
theorem LRel.keep (h : LRel M L w t a.tmps.toList) (ks : List Nat) : LRel M L w (keepL ks t) a.tmps.toList := by
  refine LRel.all (by simp [keepL, h.length]) fun j x v hx hv => ?_
  simp only [keepL, List.getElem?_map] at hx
  have hj : j < t.length := by have := (List.getElem?_eq_some_iff.1 hv).1; rw [h.length]; exact this
  rw [List.getElem?_range hj] at hx
  simp only [Option.map_some, Option.some.injEq] at hx
  subst hx
  split
  · obtain ⟨u, h1, h2⟩ := h.get (List.getElem?_eq_getElem hj)
    rw [hv] at h1; cases h1
    rw [List.getD_eq_getElem?_getD, List.getElem?_eq_getElem hj]; exact h2
  · exact .top v
theorem St.top (s : St P M0 L0 w0 ro M t L a w) (i : Nat) : VRel M L w (t.getD i .top) (a.tmps.getD i undef) := by
  rw [Array.getD_eq_getD_getElem?, List.getD_eq_getElem?_getD]
  cases hx : t[i]? with
  | none => exact .top _
  | some x =>
    obtain ⟨v, h1, h2⟩ := s.T.get hx
    rw [Array.getElem?_toList] at h1
    rw [h1]; exact h2
theorem LRel.fix (h : LRel M L w t a.tmps.toList) (i : Nat) {x : PV} (hx : VRel M L w x (a.tmps.getD i undef)) : LRel M L w (t.set i x) a.tmps.toList := by
  refine LRel.all (by simp [h.length]) fun j y v hy hv => ?_
  by_cases e : j = i
  · subst e
    rw [List.getElem?_set_self (by have := (List.getElem?_eq_some_iff.1 hv).1; rw [h.length]; exact this)] at hy
    cases hy
    rw [Array.getElem?_toList] at hv
    rw [Array.getD_eq_getD_getElem?, hv] at hx; exact hx
  · rw [List.getElem?_set_ne (Ne.symm e)] at hy
    obtain ⟨u, h1, h2⟩ := h.get hy
    rw [hv] at h1; cases h1; exact h2
theorem Evo.len {M0 : List Blk} {L0 : Loc} {w0 : World} (E : Evo M0 L0 w0 M L w) : M0.length ≤ M.length := by
  by_cases h : M0.length ≤ M.length
  · exact h
  · exfalso
    have hi : M0[M.length]? = some (M0[M.length]'(by omega)) := List.getElem?_eq_getElem (by omega)
    obtain ⟨b, h1, _⟩ := E.blk _ _ hi
    rw [List.getElem?_eq_none (by omega)] at h1; cases h1
theorem Marks.take {n m : Nat} {ds : List Deferred} (h : Marks n M L w ds) : Marks n (M.take m) L w ds := by
  induction ds with
  | nil => exact trivial
  | cons d ds ih =>
    obtain ⟨⟨D, rfl, h1, h2, h3, h4⟩, h5⟩ := h
    exact ⟨⟨D, rfl, h1, h2, fun h => h3 h.take, h4⟩, ih h5⟩
theorem MarksR.take {n m : Nat} {ds : List Deferred} (h : MarksR ro n M L w ds) : MarksR ro n (M.take m) L w ds := by
  cases ro with
  | none => exact Marks.take h
  | some l => exact h
theorem St.cut (s : St P M0 L0 w0 ro M t L a w) {n : Nat} (h0 : M0.length ≤ n) (h1 : lowM n (M.take n)) (h2 : lowL n t) : St P M0 L0 w0 ro (M.take n) t L a w :=
  ⟨s.S.take h1, s.T.take' h2, s.E.take h0, s.D.take⟩
theorem ghost_sound (g : CCode) (hg : ghost g = true) : ∀ {Q : Post} {M : List Blk} {t : List PV}, Wp (Conc P) M0.length g Q M t → St P M0 L0 w0 ro M t L a w → ∃ M' t' L', Q .normal M' t' ∧ St P M0 L0 w0 ro M' t' L' a w := by
  induction g generalizing L with
  | forget ts => intro Q M t h s; exact ⟨M, _, L, h, s.S, s.T.forget ts, s.E, s.D⟩
  | frz i =>
    intro Q M t h s
    obtain ⟨M', h1, h2⟩ := h
    obtain ⟨E, S⟩ := freezeAll_sound _ s.S h1
    exact ⟨M', t, L, h2, s.same E S⟩
  | keep ks => intro Q M t h s; exact ⟨M, _, L, h, s.S, s.T.keep ks, s.E, s.D⟩
  | fix i =>
    intro Q M t h s
    obtain ⟨M', h1, h2⟩ := h
    obtain ⟨E, S⟩ := freezeAll_sound _ s.S h1
    have s' := s.same E S
    exact ⟨M', _, L, h2, s'.S, s'.T.fix i (view_rel s'.S (s'.top i)), s'.E, s'.D⟩
  | own i j k =>
    intro Q M t h s
    obtain ⟨M', h1, h2⟩ := h
    obtain ⟨L', E, S⟩ := own_sound0 s.S h1
    exact ⟨M', t, L', h2, s.same E S⟩
  | holes k =>
    intro Q M t h s
    obtain ⟨L', E, S⟩ := holes_sound s.S k
    exact ⟨_, t, L', h, s.same E S⟩
  | cut =>
    intro Q M t h s
    obtain ⟨n, h1, h2, h3, h4, h5⟩ := h
    exact ⟨_, t, L, h5, s.cut h1 h3 h4⟩
  | seq x y ihx ihy =>
    simp only [ghost, Bool.and_eq_true] at hg
    intro Q M t h s
    obtain ⟨M1, t1, L1, h1, s1⟩ := ihx hg.1 h s
    exact ihy hg.2 h1 s1
  | _ => cases hg
end
end Go.Nac

