import Derived.Test.YtbmicihfhfcpkaaK9
import Derived.Scope
set_option linter.unusedVariables false
set_option linter.unusedSectionVars false
set_option linter.unusedSimpArgs false
namespace Go.Nac
section
variable {P : Program} {M0 : List Blk} {L0 : Loc} {w0 : World} {ro : Option Nat} {M M' : List Blk} {t t' : List PV} {L L' : Loc} {a : Act} {w w' : World}
def CP (P : Program) (M0 : List Blk) (L0 : Loc) (w0 : World) (ro : Option Nat) (Q : Post) : Exit → Act → World → Prop := fun e a w => ∃ ex M t L, exRel ex e ∧ Q ex M t ∧ St P M0 L0 w0 ro M t L a w
theorem flat_at {k e m : Nat} {xs : List PV} {x : PV} (hk : ∀ x ∈ xs, x.cells.length = k) (hx : xs[e]? = some x) (hm : m < k) : (xs.flatMap PV.cells)[e * k + m]? = x.cells[m]? := by
  have h := flat_drop hk e
  have h2 : (xs.drop e) = x :: xs.drop (e + 1) := by
    obtain ⟨h3, h4⟩ := List.getElem?_eq_some_iff.1 hx
    rw [List.drop_eq_getElem_cons h3, h4]
  rw [← List.getElem?_drop, h, h2, List.flatMap_cons, List.getElem?_append_left (by rw [hk x (List.mem_of_getElem? hx)]; exact hm)]
theorem setRangeV_self {vs : List Value} {i : Nat} {v : Value} (h : vs[i]? = some v) : setRangeV vs i [v] = vs := by
  obtain ⟨h3, h4⟩ := List.getElem?_eq_some_iff.1 h
  simp only [setRangeV, List.length_singleton]
  subst h4
  rw [List.append_assoc, List.singleton_append, ← List.drop_eq_getElem_cons h3, List.take_append_drop]
theorem own_sound0 {p : PV} {j k : Nat} (S : Sim (RO P) M L w) (h : ownNil M p j k = some M') : ∃ L', Evo M L w M' L' w ∧ Sim (RO P) M' L' w := by
  unfold ownNil at h
  split at h
  case h_2 => cases h
  rename_i a ver e j0
  split at h
  case h_2 => cases h
  rename_i wr0 kk0 v0 xs0 hi0
  split at h
  case h_2 => cases h
  rename_i hc
  cases hp : elemPut M a ver e (j0 + j) [.os M.length 0 0 0] with
  | none => rw [hp] at h; cases h
  | some M1 =>
    rw [hp] at h
    cases h
    obtain ⟨k', xs, x, y, hi, hx, hle, _, rfl, hy⟩ := elemPut_spec hp
    have hy := hy (by simp)
    rw [hi] at hi0; cases hi0
    rw [hx] at hc
    simp only [Option.map_some, Option.bind_some] at hc
    obtain ⟨E1, S1⟩ := push S (.row true k 0 []) none (w' := w) ⟨rfl, rfl, rfl⟩ rfl (by
      rintro _ _ rfl rfl E
      exact ⟨by simp, fun b q hL => by simp [Loc.upd_self] at hL, fun _ => rfl⟩)
    have hlt : a < M.length := (List.getElem?_eq_some_iff.1 hi).1
    have hi1 : (M ++ [Blk.row true k 0 []])[a]? = some (.row true kk0 ver xs0) := by rw [List.getElem?_append_left hlt]; exact hi
    obtain ⟨hk, h2, h3⟩ := S1.mem a _ hi1
    have hxk := hk x (List.mem_of_getElem? hx)
    have hset : M.set a (.row true kk0 ver (xs0.set e y)) ++ [Blk.row true k 0 []] = (M ++ [Blk.row true k 0 []]).set a (.row true kk0 ver (xs0.set e y)) := by
      rw [List.set_append_left _ _ hlt]
    simp only []
    rw [hset]
    have hlt' : j0 + j < kk0 := by simp at hle; omega
    have key := change S1 hi1 (blk' := .row true kk0 ver (xs0.set e y)) (L.upd M.length (none.map fun (_ : Obj) => (w.heap.size, 0))) (fun _ _ => rfl) (w' := w) ⟨rfl, rfl, rfl⟩ (.inl rfl) (Nat.le_refl _) (fun _ _ _ => rfl) (fun p hp => .inl ⟨p, hp, rfl⟩)
      ⟨Nat.le_refl _, fun _ => ⟨rfl, by simp, rfl, fun b o c el _ hc => ⟨c, hc, rfl⟩⟩⟩ (fun E => by
        refine ⟨fun z hz => ?_, fun b o hb => ?_, fun hb => ?_⟩
        · rcases List.mem_or_eq_of_mem_set hz with hz | rfl
          · exact hk z hz
          · rw [hy, setRange_length hle]; exact hxk
        · obtain ⟨c, el, vs, g1, g2, g3⟩ := h2 b o hb
          refine ⟨c, el, vs, g1, ?_, g3⟩
          rw [flat_set hk hx (by simp only [List.length_singleton]; omega) hy]
          have g4 := g2.evo E
          have g5 : (xs0.flatMap PV.cells)[e * kk0 + (j0 + j)]? = some (.s (.slice none 0 0)) := by rw [flat_at hk hx hlt']; exact hc
          obtain ⟨u, g6, g7⟩ := g4.get g5
          have := g7.s_inv
          subst this
          rw [← setRangeV_self g6]
          refine g4.setRange (.cons _ _ _ _ ?_ .nil) _
          exact .os M.length 0 0 0 true k [] none 0 (by rw [List.getElem?_set_ne (by omega)]; simp) (by simp) (Nat.le_refl _) (by simp)
        · have := h3 hb
          subst this
          simp at hx)
    exact ⟨_, E1.trans key.1, key.2⟩
theorem St.same (s : St P M0 L0 w0 ro M t L a w) (E : Evo M L w M' L' w') (S : Sim (RO P) M' L' w') : St P M0 L0 w0 ro M' t L' a w' :=
  ⟨S, s.T.evo E, s.E.trans E, s.D.evo E⟩
theorem LRel.forget (h : LRel M L w t a.tmps.toList) (ts : List Nat) : LRel M L w (forgetL ts t) a.tmps.toList := by
  induction ts generalizing t with
  | nil => exact h
  | cons i ts ih =>
    refine ih ?_
    refine LRel.all (by simp [h.length]) fun j x v hx hv => ?_
    by_cases e : j = i
    · subst e
      rw [List.getElem?_set_self (by have := (List.getElem?_eq_some_iff.1 hv).1; rw [h.length]; exact this)] at hx
      cases hx; exact .top v
    · rw [List.getElem?_set_ne (Ne.symm e)] at hx
      obtain ⟨u, h1, h2⟩ := h.get hx
      rw [hv] at h1; cases h1; exact h2
theorem LRel.keep (h : LRel M L w t a.tmps.toList) (ks : List Nat) : LRel M L w (keepL ks t) a.tmps.toList := by
  refine LRel.all (by simp [keepL, h.length]) fun j x v hx hv => ?_
  simp only [keepL, List.getElem?_map] at hx
  have hj : j < t.length := by have := (List.getElem?_eq_some_iff.1 hv).1; rw [h.length]; exact this
  rw [List.getElem?_range hj] at hx
  simp only [Option.map_some, Option.some.injEq] at hx
  subst hx
  split
  · obtain ⟨u, h1, h2⟩ := h.get (List.getElem?_eq_getElem hj)
    rw [hv] at h1; cases h1
    rw [List.getD_eq_getElem?_getD, List.getElem?_eq_getElem hj]; exact h2
  · exact .top v
theorem St.top (s : St P M0 L0 w0 ro M t L a w) (i : Nat) : VRel M L w (t.getD i .top) (a.tmps.getD i undef) := by
  rw [Array.getD_eq_getD_getElem?, List.getD_eq_getElem?_getD]
  cases hx : t[i]? with
  | none => exact .top _
  | some x =>
    obtain ⟨v, h1, h2⟩ := s.T.get hx
    rw [Array.getElem?_toList] at h1
    rw [h1]; exact h2
theorem LRel.fix (h : LRel M L w t a.tmps.toList) (i : Nat) {x : PV} (hx : VRel M L w x (a.tmps.getD i undef)) : LRel M L w (t.set i x) a.tmps.toList := by
  refine LRel.all (by simp [h.length]) fun j y v hy hv => ?_
  by_cases e : j = i
  · subst e
    rw [List.getElem?_set_self (by have := (List.getElem?_eq_some_iff.1 hv).1; rw [h.length]; exact this)] at hy
    cases hy
    rw [Array.getElem?_toList] at hv
    rw [Array.getD_eq_getD_getElem?, hv] at hx; exact hx
  · rw [List.getElem?_set_ne (Ne.symm e)] at hy
    obtain ⟨u, h1, h2⟩ := h.get hy
    rw [hv] at h1; cases h1; exact h2
theorem Evo.len {M0 : List Blk} {L0 : Loc} {w0 : World} (E : Evo M0 L0 w0 M L w) : M0.length ≤ M.length := by
  by_cases h : M0.length ≤ M.length
  · exact h
  · exfalso
    have hi : M0[M.length]? = some (M0[M.length]'(by omega)) := List.getElem?_eq_getElem (by omega)
    obtain ⟨b, h1, _⟩ := E.blk _ _ hi
    rw [List.getElem?_eq_none (by omega)] at h1; cases h1
theorem Marks.take {n m : Nat} {ds : List Deferred} (h : Marks n M L w ds) : Marks n (M.take m) L w ds := by
  induction ds with
  | nil => exact trivial
  | cons d ds ih =>
    obtain ⟨⟨D, rfl, h1, h2, h3, h4⟩, h5⟩ := h
    exact ⟨⟨D, rfl, h1, h2, fun h => h3 h.take, h4⟩, ih h5⟩
theorem MarksR.take {n m : Nat} {ds : List Deferred} (h : MarksR ro n M L w ds) : MarksR ro n (M.take m) L w ds := by
  cases ro with
  | none => exact Marks.take h
  | some l => exact h
theorem St.cut (s : St P M0 L0 w0 ro M t L a w) {n : Nat} (h0 : M0.length ≤ n) (h1 : lowM n (M.take n)) (h2 : lowL n t) : St P M0 L0 w0 ro (M.take n) t L a w :=
  ⟨s.S.take h1, s.T.take' h2, s.E.take h0, s.D.take⟩
theorem ghost_sound (g : CCode) (hg : ghost g = true) : ∀ {Q : Post} {M : List Blk} {t : List PV}, Wp (Conc P) M0.length g Q M t → St P M0 L0 w0 ro M t L a w → ∃ M' t' L', Q .normal M' t' ∧ St P M0 L0 w0 ro M' t' L' a w := by
  induction g generalizing L with
  | forget ts => intro Q M t h s; exact ⟨M, _, L, h, s.S, s.T.forget ts, s.E, s.D⟩
  | frz i =>
    intro Q M t h s
    obtain ⟨M', h1, h2⟩ := h
    obtain ⟨E, S⟩ := freezeAll_sound _ s.S h1
    exact ⟨M', t, L, h2, s.same E S⟩
  | keep ks => intro Q M t h s; exact ⟨M, _, L, h, s.S, s.T.keep ks, s.E, s.D⟩
  | fix i =>
    intro Q M t h s
    obtain ⟨M', h1, h2⟩ := h
    obtain ⟨E, S⟩ := freezeAll_sound _ s.S h1
    have s' := s.same E S
    exact ⟨M', _, L, h2, s'.S, s'.T.fix i (view_rel s'.S (s'.top i)), s'.E, s'.D⟩
  | own i j k =>
    intro Q M t h s
    obtain ⟨M', h1, h2⟩ := h
    obtain ⟨L', E, S⟩ := own_sound0 s.S h1
    exact ⟨M', t, L', h2, s.same E S⟩
  | holes k =>
    intro Q M t h s
    obtain ⟨L', E, S⟩ := holes_sound s.S k
    exact ⟨_, t, L', h, s.same E S⟩
  | cut =>
    intro Q M t h s
    obtain ⟨n, h1, h2, h3, h4, h5⟩ := h
    exact ⟨_, t, L, h5, s.cut h1 h3 h4⟩
  | seq x y ihx ihy =>
    simp only [ghost, Bool.and_eq_true] at hg
    intro Q M t h s
    obtain ⟨M1, t1, L1, h1, s1⟩ := ihx hg.1 h s
    exact ihy hg.2 h1 s1
  | _ => cases hg
end
end Go.Nac
set_option linter.unusedVariables false
set_option linter.unusedSectionVars false
set_option linter.unusedSimpArgs false
namespace Go.Nac
section
variable {P : Program} {M0 : List Blk} {L0 : Loc} {w0 : World} {ro : Option Nat} {M M' : List Blk} {t t' : List PV} {L L' : Loc} {a : Act} {w w' : World}
theorem Marks.lt {n : Nat} {ds : List Deferred} (h : Marks n M L w ds) : ∀ d ∈ ds, ∃ D, d.target = .collected D ∧ D < w.heap.size := by
  induction ds with
  | nil => intro d hd; cases hd
  | cons d ds ih =>
    obtain ⟨⟨D, rfl, h1, h2, h3, h4⟩, h5⟩ := h
    intro d' hd
    rcases List.mem_cons.1 hd with rfl | hd
    · exact ⟨D, rfl, (Array.getElem?_eq_some_iff.1 h2).1⟩
    · exact ih h5 d' hd
theorem Marks.poke {n : Nat} {ds : List Deferred} (h : Marks n M L w ds) {l : Nat} {o : Obj} {r : Loop} (hl : w.heap[l]? = some (.loop r)) : Marks n M L (w.putObj l o) ds := by
  induction ds with
  | nil => exact trivial
  | cons d ds ih =>
    obtain ⟨⟨D, rfl, h1, h2, h3, h4⟩, h5⟩ := h
    exact ⟨⟨D, rfl, h1, by rw [World.putObj_heap_other (fun e => by subst e; rw [hl] at h2; cases h2)]; exact h2, h3, h4⟩, ih h5⟩
theorem MarksR.poke {n : Nat} {ds : List Deferred} (h : MarksR ro n M L w ds) {l : Nat} {o : Obj} {r : Loop} (hl : w.heap[l]? = some (.loop r)) : MarksR ro n M L (w.putObj l o) ds := by
  cases ro with
  | none => exact Marks.poke h hl
  | some l => exact h
def InRound (M0 : List Blk) (L0 : Loc) (ro : Option Nat) : Prop := ∀ l, ro = some l → ∃ i st pd ts ps x y o, M0[i]? = some (.loop st pd ts ps x y) ∧ L0 i = some (l, o)
theorem loop_at {i : Nat} {st : LoopState} {pd : Option Ex} {ts : List PV} {ps : List Nat} {x y : CCode} (S : Sim (RO P) M L w) (hi : M[i]? = some (.loop st pd ts ps x y)) {l o : Nat} (hL : L i = some (l, o)) :
    ∃ r, w.heap[l]? = some (.loop r) ∧ r.state = st ∧ pendRel pd r.pending ∧ r.params.toList = ps ∧ LRel M L w ts r.tmps.toList ∧ RO P x r.assign ∧ RO P y r.body := by
  obtain ⟨k, o', r, h1, h2⟩ := S.mem i _ hi
  rw [hL] at h1; cases h1
  exact ⟨r, h2⟩
theorem enter_sound (hro : InRound M0 L0 ro) (s : St P M0 L0 w0 ro M t L a w) (fn : FuncId) (qs : Array Tmp) (x y : Code) {ca cb : CCode} (hx : okCode P ca x = true) (hy : okCode P cb y = true) :
    ∃ l mark w1 L1, (Instr.enterLoop fn a.tmps qs x y ro).run P w = .ok (l, mark) w1 ∧ Evo M L w (M ++ [.loop .ready none t qs.toList ca cb]) L1 w1 ∧
      Sim (RO P) (M ++ [.loop .ready none t qs.toList ca cb]) L1 w1 ∧ L1 M.length = some (l, 0) ∧ w.heap.size ≤ l ∧ MarksR ro w0.heap.size (M ++ [.loop .ready none t qs.toList ca cb]) L1 w1 (mark ++ a.defers) := by
  have key : ∀ (wA : World) (d : Nat), Evo M L w M L wA → Sim (RO P) M L wA →
      ∃ L1, Evo M L wA (M ++ [.loop .ready none t qs.toList ca cb]) L1 (wA.alloc (.loop { state := .ready, pending := none, fn := fn, tmps := a.tmps, params := qs, assign := x, body := y, defers := d })) ∧
        Sim (RO P) (M ++ [.loop .ready none t qs.toList ca cb]) L1 (wA.alloc (.loop { state := .ready, pending := none, fn := fn, tmps := a.tmps, params := qs, assign := x, body := y, defers := d })) ∧ L1 M.length = some (wA.heap.size, 0) := by
    intro wA d EA SA
    have := push SA (.loop .ready none t qs.toList ca cb) (some (.loop { state := .ready, pending := none, fn := fn, tmps := a.tmps, params := qs, assign := x, body := y, defers := d }))
      (w' := wA.alloc (.loop { state := .ready, pending := none, fn := fn, tmps := a.tmps, params := qs, assign := x, body := y, defers := d })) ⟨rfl, rfl, rfl⟩ rfl (by
        intro M' L' hM hL E
        exact ⟨wA.heap.size, 0, _, by rw [hL, Loc.upd_self]; rfl, World.alloc_heap_new _ _, rfl, trivial, rfl, (s.T.evo EA).evo E, hx, hy⟩)
    exact ⟨_, this.1, this.2, by rw [Loc.upd_self]; rfl⟩
  cases ro with
  | none =>
    obtain ⟨EA, SA⟩ := grow s.S (.deferred (some [])) (w' := w.alloc (.deferred (some []))) ⟨rfl, rfl, rfl⟩ rfl
    obtain ⟨L1, E1, S1, hL1⟩ := key _ w.heap.size EA SA
    refine ⟨_, _, _, L1, run_enterLoop_outer fn a.tmps qs x y, EA.trans E1, S1, ?_, by omega, ?_⟩
    · rw [hL1]; simp
    · have hsz : w.heap.size < (w.alloc (.deferred (some []))).heap.size := by simp
      have hno : ¬ Owned M L w.heap.size := notOwned_new s.S
      obtain ⟨g1, g2⟩ := E1.frame w.heap.size hsz hno
      refine ⟨⟨w.heap.size, rfl, s.E.size, g1.trans (World.alloc_heap_new _ _), g2, fun d' hd' => ?_⟩, s.D.evo (EA.trans E1)⟩
      obtain ⟨D, h1, h2⟩ := Marks.lt s.D d' hd'
      rw [h1]; intro e; cases e; omega
  | some l0 =>
    obtain ⟨i, st, pd, ts, ps, x', y', o, h1, h2⟩ := hro l0 rfl
    obtain ⟨b', h3, h4⟩ := s.E.blk i _ h1
    cases b' with
    | loop st' pd' ts' ps' x1 y1 =>
      have hL : L i = some (l0, o) := h4.1.trans h2
      obtain ⟨r0, g1, _⟩ := loop_at s.S h3 hL
      obtain ⟨L1, E1, S1, hL1⟩ := key w r0.defers (Evo.refl _ _ _) s.S
      exact ⟨_, _, _, L1, run_enterLoop_inner g1 fn a.tmps qs x y, E1, S1, hL1, Nat.le_refl _, s.D⟩
    | _ => exact h4.elim
theorem range_sound (hro : InRound M0 L0 ro) (s : St P M0 L0 w0 ro M t L a w) {f : CX} {g : Operand} (hf : okX f g = true) {ps : List Nat} {qs : Array Tmp} (hps : ps = qs.toList) {ca cb : CCode} {x y : Code}
    (hx : okCode P ca x = true) (hy : okCode P cb y = true) {n0 : Nat} {Q : Post} (h : Wp (Conc P) n0 (.rangeFunc f ps ca cb) Q M t) : (Code.rangeFunc g qs x y).wpIn (FR ro) 0 P (CP P M0 L0 w0 ro Q) a w := by
  subst hps
  obtain ⟨gf, first, cap, M', st, pend, t', ps', a', b', h1, hc, hlen, hlow, hst, hq⟩ := h
  refine wpIn_rangeFunc fun fn _ => ?_
  obtain ⟨l, mark, w1, L1, hent, E1, S1, hL1, hle, hmarks⟩ := enter_sound hro s fn qs x y hx hy
  have hv := s.fit _ _ hf
  rw [h1] at hv
  generalize hgv : a.eval g = gv at hv
  cases hv with
  | fn _ _ _ va vc ha hcap =>
    have hyl : VRel (M ++ [.loop .ready none t qs.toList ca cb]) L1 w1 (.yl M.length) (.func (.yield l) #[] #[]) :=
      .yl M.length .ready none t qs.toList ca cb l 0 (by simp) hL1
    have hargs : LRel (M ++ [.loop .ready none t qs.toList ca cb]) L1 w1 (first ++ [.yl M.length] ++ cap) ((va ++ #[Value.func (.yield l) #[] #[]]) ++ vc).toList := by
      simp only [Array.toList_append]
      exact ((ha.evo E1).append (.cons _ _ _ _ hyl .nil)).append (hcap.evo E1)
    obtain ⟨hcall, hcalls⟩ : _ ∧ _ := (hc L1 w1 _ S1 hargs).resolve_right fun h => by cases h.1
    refine ⟨l, mark, w1, { target := .fn (.func gf) vc, args := va ++ #[.func (.yield l) #[] #[]] }, w1, gf, _, w1, hent, ?_, fun _ _ => trivial, hcall, wide_room ro 0, callsIn_fr (Calls.mono hcalls fun e w3 he => ?_)⟩
    · have e : (#[Operand.const (.func (.yield l) #[] #[])] : Array Operand).map a.eval = #[Value.func (.yield l) #[] #[]] := by simp [Act.eval]
      show (Deferred.ofValue (a.eval g) ((#[Operand.const (.func (.yield l) #[] #[])] : Array Operand).map a.eval)).run P w1 = _
      rw [hgv, e]; rfl
    cases e with
    | panicked => exact he.elim
    | outgrown => exact he.elim
    | returned v =>
      obtain ⟨L3, E3, S3, _⟩ := he
      have hi3 : (M' ++ [Blk.loop st pend t' ps' a' b'])[M.length]? = some (Blk.loop st pend t' ps' a' b') := by rw [← hlen]; simp
      have hL3 : L3 M.length = some (l, 0) := by
        obtain ⟨b', g1, g2⟩ := E3.blk M.length (.loop .ready none t qs.toList ca cb) (by simp)
        rw [hi3] at g1; cases g1
        exact g2.1.trans hL1
      obtain ⟨rc, k1, k2, k3, _⟩ := loop_at S3 hi3 hL3
      have hend := run_endLoop (P := P) k1 (by rw [k2]; exact hst)
      have htake : (M' ++ [Blk.loop st pend t' ps' a' b']).take M.length = M' := by rw [← hlen]; simp
      have hD : ∀ c el s, w3.heap[l]? ≠ some (.cells c el s) := by intro c el s h; rw [k1] at h; cases h
      have hO : ¬ Owned M' L3 l := by
        rintro ⟨i, bl, p, g1, g2, g3, g4⟩
        have hlt : i < M'.length := (List.getElem?_eq_some_iff.1 g1).1
        exact S3.inj i M.length bl _ p (l, 0) (by rw [List.getElem?_append_left hlt]; exact g1) hi3 g2 (by omega) g3 hL3 g4
      have St4 : St P M0 L0 w0 ro M' t L3 { a with defers := mark ++ a.defers } (w3.putObj l (.loop { rc with state := .exhausted })) := by
        have hS := S3.take (n := M.length) (by rw [htake]; exact hlow)
        have hT := ((s.T.evo E1).evo E3).take' (n := M.length) s.T.low
        have hE := ((s.E.trans E1).trans E3).take s.E.len
        have hM := MarksR.take (m := M.length) (hmarks.evo E3)
        rw [htake] at hS hT hE hM
        exact ⟨hS.poke hD hO, hT.poke hD, hE.poke hD (Nat.le_trans s.E.size hle), hM.poke k1⟩
      refine ⟨_, _, hend, ?_⟩
      generalize w3.putObj l (.loop { rc with state := .exhausted }) = w4 at St4 ⊢
      cases hp : rc.pending with
      | none =>
        rw [hp] at k3
        cases pend with
        | none => exact ⟨.normal, M', t, L3, trivial, hq, St4⟩
        | some e => cases e <;> exact k3.elim
      | some c =>
        rw [hp] at k3
        cases pend with
        | none => exact k3.elim
        | some e =>
          cases e with
          | normal => exact k3.elim
          | exit i =>
            cases c <;> first | exact k3.elim | skip
            cases k3
            exact wpIn_exit ⟨.exit i, M', t, L3, rfl, hq, St4⟩
          | goto i =>
            cases c <;> first | exact k3.elim | skip
            cases k3
            exact wpIn_goto ⟨.goto i, M', t, L3, rfl, hq, St4⟩
          | ret =>
            cases c <;> first | exact k3.elim | skip
            exact wpIn_ret ⟨.ret, M', t, L3, trivial, hq, St4⟩
end
end Go.Nac
set_option linter.unusedVariables false
set_option linter.unusedSectionVars false
set_option linter.unusedSimpArgs false
namespace Go.Nac
section
variable {P : Program} {M0 : List Blk} {L0 : Loc} {w0 : World} {ro : Option Nat}
theorem cp_then {Q : Post} {K : List Blk → List PV → Prop} {Y : Act → World → Prop} (hk : ∀ M t L a w, K M t → St P M0 L0 w0 ro M t L a w → Y a w) :
    ∀ e a w, CP P M0 L0 w0 ro (thenK K Q) e a w → Exit.then Y (CP P M0 L0 w0 ro Q) e a w := by
  rintro e a w ⟨ex, M, t, L, h1, h2, h3⟩
  cases ex <;> cases e <;> first | exact h1.elim | skip
  · exact hk _ _ _ _ _ h2 h3
  all_goals exact ⟨_, M, t, L, h1, h2, h3⟩
theorem cp_block {Q : Post} {id : Nat} : ∀ e a w, CP P M0 L0 w0 ro (blockK id Q) e a w → Exit.inBlock id (CP P M0 L0 w0 ro Q) e a w := by
  rintro e a w ⟨ex, M, t, L, h1, h2, h3⟩
  cases ex <;> cases e <;> first | exact h1.elim | skip
  case exit.exit i j =>
    cases h1
    simp only [blockK] at h2
    simp only [Exit.inBlock]
    split
    · rename_i e; rw [if_pos e] at h2; exact ⟨.normal, M, t, L, trivial, h2, h3⟩
    · rename_i e; rw [if_neg e] at h2; exact ⟨.exit i, M, t, L, rfl, h2, h3⟩
  all_goals exact ⟨_, M, t, L, h1, h2, h3⟩
theorem wpIn_scope {F : Fence} {n : Nat} {Q : Exit → Act → World → Prop} {a : Act} {w : World} {c : Code} (h : c.wpIn F n P (Exit.noGoto Q) a w) : (Code.scope c).wpIn F n P Q a w := by
  intro b k cs hro hb hr
  have h0 : (lone (b.atR a (.code (.scope c) :: k)) cs w).fenced P F := fenced_calm hb hr rfl
  have step : step P (lone (b.atR a (.code (.scope c) :: k)) cs w) = .next (lone (b.atR a (.code c :: .inScope c :: k)) cs w) :=
    step_lone_go (by simp [stepG, stepG.exec, Frame.atR])
  have step2 : ∀ (a : Act) (w : World), Go.step P (lone (b.atR a (.inScope c :: k)) cs w) = .next (lone (b.atR a k) cs w) := fun a w =>
    step_lone_go (by simp [stepG, stepG.exec, Frame.atR])
  obtain ⟨e, a₁, w₁, hq, harr⟩ := h b (.inScope c :: k) cs hro hb hr
  have hx : ∀ id, exitTo id (.inScope c :: k) = exitTo id k := fun id => by simp [exitTo]
  cases e with
  | normal => exact ⟨.normal, a₁, w₁, hq, .head h0 step (StepsIn.trans harr (.one (fenced_calm hb hr rfl) (step2 _ _)))⟩
  | exit id => exact ⟨.exit id, a₁, w₁, hq, fun k' hk => .head h0 step (harr.1 k' (by rw [hx]; exact hk)),
      fun hr' hk => let ⟨k₁, h1, h2⟩ := harr.2 hr' (by rw [hx]; exact hk); ⟨k₁, h1, .head h0 step h2⟩⟩
  | goto l => exact hq.elim
  | ret => exact ⟨_, a₁, w₁, hq, .of_steps (.one h0 step) harr⟩
  | panic ch => exact ⟨_, a₁, w₁, hq, .of_steps (.one h0 step) harr⟩
  | outgrown => exact ⟨_, a₁, w₁, hq, .of_steps (.one h0 step) harr⟩
theorem cp_scope {Q : Post} : ∀ e a w, CP P M0 L0 w0 ro (scopeK Q) e a w → Exit.noGoto (CP P M0 L0 w0 ro Q) e a w := by
  rintro e a w ⟨ex, M, t, L, h1, h2, h3⟩
  cases ex <;> cases e <;> first | exact h1.elim | exact h2.elim | skip
  all_goals exact ⟨_, M, t, L, h1, h2, h3⟩
theorem ev_bool {M : List Blk} {t : List PV} {L : Loc} {a : Act} {w : World} (s : St P M0 L0 w0 ro M t L a w) {c : CX} {c' : Operand} (ok : okX c c' = true) {b : Bool} (h : ev t c = .B b) : a.eval c' = .bool b := by
  have := s.fit _ _ ok
  rw [h] at this
  exact this.s_inv
theorem okCode_seq {x y : CCode} {d : Code} (h : okCode P (.seq x y) d = true) : (ghost x = true ∧ okCode P y d = true) ∨ (ghost y = true ∧ okCode P x d = true) ∨ ∃ u v, d = .seq u v ∧ okCode P x u = true ∧ okCode P y v = true := by
  cases d
  case seq u v =>
    simp [okCode] at h
    rcases h with (h | h) | h
    · exact .inl h
    · exact .inr (.inl h)
    · exact .inr (.inr ⟨u, v, rfl, h.1, h.2⟩)
  all_goals
    simp [okCode] at h
    rcases h with h | h
    · exact .inl h
    · exact .inr (.inl h)
theorem Wp_sound (hmix : P.follows .mixedOrders = true) (hro : InRound M0 L0 ro) (c : CCode) : ∀ (d : Code), okCode P c d = true → ∀ {Q : Post} {M : List Blk} {t : List PV} {L : Loc} {a : Act} {w : World},
    Wp (Conc P) M0.length c Q M t → St P M0 L0 w0 ro M t L a w → d.wpIn (FR ro) 0 P (CP P M0 L0 w0 ro Q) a w := by
  induction c with
  | skip =>
    intro d ok Q M t L a w h s
    cases d <;> first | (simp [okCode] at ok; done) | skip
    exact wpIn_skip ⟨.normal, M, t, L, trivial, h, s⟩
  | region cs =>
    intro d ok Q M t L a w h s
    cases d <;> first | (simp [okCode] at ok; done) | skip
    exact region_sound hmix ok s h fun M' t' L' a' w' hq s' => ⟨.normal, M', t', L', trivial, hq, s'⟩
  | regionD cs pairs =>
    intro d ok Q M t L a w h s
    cases d <;> first | (simp [okCode] at ok; done) | skip
    exact regionD_sound hmix ok s h fun M' t' L' a' w' hq s' => ⟨.normal, M', t', L', trivial, hq, s'⟩
  | seq x y ihx ihy =>
    intro d ok Q M t L a w h s
    have h' : Wp (Conc P) M0.length x (thenK (Wp (Conc P) M0.length y Q) Q) M t := h
    rcases okCode_seq ok with ⟨g, ok⟩ | ⟨g, ok⟩ | ⟨u, v, rfl, ok1, ok2⟩
    · obtain ⟨M', t', L', h1, s'⟩ := ghost_sound x g h' s
      exact ihy d ok h1 s'
    · refine wpIn_mono (ihx d ok h' s) ?_
      rintro e a w ⟨ex, M', t', L', h1, h2, h3⟩
      cases ex
      · obtain ⟨M2, t2, L2, h4, s2⟩ := ghost_sound y g h2 h3
        exact ⟨.normal, M2, t2, L2, h1, h4, s2⟩
      all_goals exact ⟨_, M', t', L', h1, h2, h3⟩
    · exact wpIn_seq (wpIn_mono (ihx _ ok1 h' s) (cp_then fun M t L a w h s => ihy _ ok2 h s))
  | cond c x y ihx ihy =>
    intro d ok Q M t L a w h s
    cases d <;> first | (simp [okCode] at ok; done) | skip
    simp only [okCode, Bool.and_eq_true] at ok
    obtain ⟨b, h1, h2⟩ := h
    refine wpIn_cond (ev_bool s ok.1.1 h1) ?_
    cases b
    · exact ihy _ ok.2 h2 s
    · exact ihx _ ok.1.2 h2 s
  | block id c ih =>
    intro d ok Q M t L a w h s
    cases d <;> first | (simp [okCode] at ok; done) | skip
    simp only [okCode, Bool.and_eq_true, beq_iff_eq] at ok
    obtain ⟨rfl, ok⟩ := ok
    exact wpIn_block (wpIn_mono (ih _ ok h s) cp_block)
  | scope c ih =>
    intro d ok Q M t L a w h s
    cases d <;> first | (simp [okCode] at ok; done) | skip
    exact wpIn_scope (wpIn_mono (ih _ (by simpa [okCode] using ok) h s) cp_scope)
  | loop c ih =>
    intro d ok Q M t L a w h s
    cases d <;> first | (simp [okCode] at ok; done) | skip
    rename_i d
    simp only [okCode] at ok
    intro b k cs hb1 hb hr
    have key := h (fun M t => ∀ L a w, St P M0 L0 w0 ro M t L a w → ∃ e a' w', CP P M0 L0 w0 ro Q e a' w' ∧
        ArrivesIn (Machine.fenced P (FR ro)) P (lone (b.atR a (.code d :: .inLoop d :: k)) cs w) b k cs e a' w') (by
      intro M t hw L a w s
      obtain ⟨e, a₁, w₁, hq, harr⟩ := ih d ok hw s b (.inLoop d :: k) cs hb1 hb hr
      obtain ⟨ex, M', t', L', h1, h2, h3⟩ := hq
      cases ex <;> cases e <;> first | exact h1.elim | skip
      · obtain ⟨e₂, a₂, w₂, hq₂, harr₂⟩ := h2 L' a₁ w₁ h3
        exact ⟨e₂, a₂, w₂, hq₂, .of_steps (StepsIn.trans harr (.one (fenced_calm hb hr rfl) stepR_inLoop)) harr₂⟩
      all_goals exact ⟨_, a₁, w₁, ⟨_, M', t', L', h1, h2, h3⟩, .pass (x := .inLoop d) rfl (fun _ _ => .inl (by simp)) harr⟩)
    obtain ⟨e, a', w', hq, harr⟩ := key L a w s
    exact ⟨e, a', w', hq, .of_steps (.one (fenced_calm hb hr rfl) stepR_loop) harr⟩
  | rangeFunc f ps x y _ _ =>
    intro d ok Q M t L a w h s
    cases d <;> first | (simp [okCode] at ok; done) | skip
    simp only [okCode, Bool.and_eq_true, beq_iff_eq] at ok
    exact range_sound hro s ok.1.1.1 ok.1.1.2 ok.1.2 ok.2 h
  | exit id =>
    intro d ok Q M t L a w h s
    cases d <;> first | (simp [okCode] at ok; done) | skip
    simp only [okCode, beq_iff_eq] at ok
    subst ok
    exact wpIn_exit ⟨.exit id, M, t, L, rfl, h, s⟩
  | goto id =>
    intro d ok Q M t L a w h s
    cases d <;> first | (simp [okCode] at ok; done) | skip
    simp only [okCode, beq_iff_eq] at ok
    subst ok
    exact wpIn_goto ⟨.goto id, M, t, L, rfl, h, s⟩
  | label id =>
    intro d ok Q M t L a w h s
    cases d <;> first | (simp [okCode] at ok; done) | skip
    exact wpIn_label ⟨.normal, M, t, L, trivial, h, s⟩
  | ret =>
    intro d ok Q M t L a w h s
    cases d <;> first | (simp [okCode] at ok; done) | skip
    exact wpIn_ret ⟨.ret, M, t, L, trivial, h, s⟩
  | bad => intro d ok Q M t L a w h s; exact h.elim
  | _ =>
    intro d ok Q M t L a w h s
    cases d <;> (simp [okCode] at ok; done)
end
end Go.Nac
set_option linter.unusedVariables false
set_option linter.unusedSectionVars false
set_option linter.unusedSimpArgs false
namespace Go.Nac
def okRes (P : Program) : List (Nat × Option (Option Nat)) → List ResultVar → Bool
  | [], [] => true
  | (i, none) :: r, .tmp j :: q => i == j && okRes P r q
  | (i, some g) :: r, .cell a t :: q => i == a && okG P t g && okRes P r q
  | _, _ => false
def okFn (P : Program) (f : FuncId) (cf : CFunc) : Bool :=
  match P.funcs[f]? with
  | some fn => !(fn.name == "runtime.NumGoroutine") && fn.ntmps == cf.ntmps && okRes P cf.results fn.results.toList &&
      (match fn.body with | some c => okCode P cf.body c | none => false)
  | none => false
section
variable {P : Program} {M0 : List Blk} {L0 : Loc} {w0 : World} {ro : Option Nat} {M M' : List Blk} {t t' : List PV} {L L' : Loc} {a : Act} {w w' : World}
def resVar (tmps : Array Value) : ResultVar → Sem Value
  | .tmp t => pure (tmps.getD t undef)
  | .cell a t => do loadVar t (← asAddr (tmps.getD a undef))
theorem results_eq (fn : Func) (tmps : Array Value) : results fn tmps = (do let vs ← fn.results.mapM (resVar tmps); pure (if h : vs.size = 1 then vs[0] else .tuple vs)) := by
  unfold results
  congr 1
theorem run_mapM {α β : Type} (f : α → Sem β) (xs : Array α) (vs : List β) (w : World) (h : (xs.toList.mapM f).run P w = .ok vs w) : (xs.mapM f).run P w = .ok vs.toArray w := by
  rw [Array.mapM_eq_mapM_toList, map_eq_pure_bind, Sem.run_bind, h]
  rfl
theorem loadAt_cell {tt : TypeId} {c cv : Value} (h : (Instr.loadAt tt c).run P w = .ok cv w) : (do loadVar tt (← asAddr c) : Sem Value).run P w = .ok cv w := by
  unfold Instr.loadAt at h
  cases c
  case pointer p =>
    cases p with
    | none => cases h
    | some a => exact h
  all_goals cases h
theorem res_rel (S : Sim (RO P) M L w) (T : LRel M L w t a.tmps.toList) : ∀ (rs : List (Nat × Option (Option Nat))) (qs : List ResultVar) (vs : List PV), okRes P rs qs = true → resOf M t rs = some vs →
    ∃ cvs, (qs.mapM (resVar a.tmps)).run P w = .ok cvs w ∧ LRel M L w vs cvs := by
  have tmp : ∀ i, VRel M L w (t.getD i .top) (a.tmps.getD i undef) := by
    intro i
    rw [Array.getD_eq_getD_getElem?, List.getD_eq_getElem?_getD]
    cases hx : t[i]? with
    | none => exact .top _
    | some x =>
      obtain ⟨v, h1, h2⟩ := T.get hx
      rw [Array.getElem?_toList] at h1
      rw [h1]; exact h2
  intro rs
  induction rs with
  | nil =>
    intro qs vs ok h
    cases qs with
    | nil => cases h; exact ⟨[], by simp, .nil⟩
    | cons => cases ok
  | cons r rs ih =>
    intro qs vs ok h
    obtain ⟨i, g⟩ := r
    cases qs with
    | nil => cases g <;> cases ok
    | cons q qs =>
      cases g with
      | none =>
        cases q with
        | cell => cases ok
        | tmp j =>
          simp only [okRes, Bool.and_eq_true, beq_iff_eq] at ok
          obtain ⟨rfl, ok⟩ := ok
          simp only [resOf] at h
          cases hr : resOf M t rs with
          | none => rw [hr] at h; cases h
          | some us =>
            rw [hr] at h; cases h
            obtain ⟨cvs, h1, h2⟩ := ih qs us ok hr
            refine ⟨_ :: cvs, ?_, .cons _ _ _ _ (tmp i) h2⟩
            simp only [List.mapM_cons, resVar, pure_bind, Sem.run_bind, h1, Result.andThen_ok, Sem.run_pure]
      | some g =>
        cases q with
        | tmp => cases ok
        | cell b tt =>
          simp only [okRes, Bool.and_eq_true, beq_iff_eq] at ok
          obtain ⟨⟨rfl, ok1⟩, ok⟩ := ok
          simp only [resOf] at h
          split at h
          · rename_i v M1 us hl hr
            cases h
            obtain ⟨cvs, h1, h2⟩ := ih qs us ok hr
            simp only [res, ev] at hl
            obtain ⟨hl, _⟩ := map_pair hl
            obtain ⟨cv, h3, h4⟩ := load_rel (P := P) S (tmp i) ok1 hl
            refine ⟨cv :: cvs, ?_, .cons _ _ _ _ h4 h2⟩
            simp only [List.mapM_cons, Sem.run_bind, resVar]
            have := loadAt_cell h3
            simp only [Sem.run_bind] at this
            rw [this]
            simp only [Result.andThen_ok, h1, Sem.run_pure]
          · cases h
def oneOr : List Value → Value
  | [v] => v
  | vs => .tuple vs.toArray
theorem run_results {fn : Func} {tmps : Array Value} {cvs : List Value} (h : (fn.results.toList.mapM (resVar tmps)).run P w = .ok cvs w) :
    (results fn tmps).run P w = .ok (oneOr cvs) w := by
  rw [results_eq, Sem.run_bind, run_mapM _ _ _ _ h]
  cases cvs with
  | nil => rfl
  | cons v vs => cases vs with | nil => rfl | cons u vs => simp [oneOr]
theorem mkRes_rel (S : Sim (RO P) M L w) {n : Nat} {vs : List PV} {cvs : List Value} (h : LRel M L w vs cvs) (l : (mkRes n M vs).low n) : VRel (M.take n) L w (mkRes n M vs) (oneOr cvs) := by
  cases h with
  | nil => exact .tup _ _ .nil
  | cons x v xs us h hs =>
    cases hs with
    | nil => exact h.outV S l
    | cons y u ys us h' hs =>
      simp only [mkRes, PV.low] at l ⊢
      exact .tup _ _ (LRel.outV S (.cons _ _ _ _ h (.cons _ _ _ _ h' hs)) l)
/-- All marks are passed. -/
theorem leaves {fn : Func} {tmps : Array Value} {Rr : Ending → World → Prop} (ds : List Deferred) : ∀ {w : World}, Marks w0.heap.size M L w ds → Sim (RO P) M L w → LRel M L w t tmps.toList → Evo M0 L0 w0 M L w →
    (∀ w', Sim (RO P) M L w' → LRel M L w' t tmps.toList → Evo M0 L0 w0 M L w' → ∃ v, (results fn tmps).run P w' = .ok v w' ∧ Rr (.returned v) w') → LeavesInM (FR none) 0 P fn tmps Rr ds .returning w := by
  induction ds with
  | nil => intro w _ S T E k; exact k w S T E
  | cons d ds ih =>
    intro w hm S T E k
    obtain ⟨⟨D, rfl, h1, h2, h3, h4⟩, h5⟩ := hm
    have hD : ∀ c el s, w.heap[D]? ≠ some (.cells c el s) := by intro c el s h; rw [h2] at h; cases h
    refine ⟨by simp, .inl ⟨D, _, rfl, run_takeDeferred h2, ?_⟩⟩
    refine ih ?_ (S.poke hD h3) (T.poke hD) (E.poke hD h1) k
    clear ih
    induction ds with
    | nil => exact trivial
    | cons d' ds ih2 =>
      obtain ⟨⟨D', rfl, g1, g2, g3, g4⟩, g5⟩ := h5
      have hne : D' ≠ D := fun e => h4 { target := .collected D', args := #[] } (by simp) (by rw [e])
      exact ⟨⟨D', rfl, g1, by rw [World.putObj_heap_other hne]; exact g2, g3, g4⟩, ih2 g5 fun d hd => h4 d (List.mem_cons_of_mem _ hd)⟩
theorem tmps_rel {args : List PV} {cargs : Array Value} (h : LRel M L w args cargs.toList) (n : Nat) : LRel M L w (args ++ List.replicate (n - args.length) .top) (cargs ++ Array.replicate (n - cargs.size) undef).toList := by
  have hl : args.length = cargs.size := by simpa using h.length
  simp only [Array.toList_append, Array.toList_replicate]
  rw [hl]
  refine h.append ?_
  have := LRel.tops (M := M) (L := L) (w := w) (List.replicate (n - cargs.size) undef)
  simpa using this
/-- A function's contract from its body. -/
theorem fn_sound (hmix : P.follows .mixedOrders = true) {f : FuncId} {cf : CFunc} (ok : okFn P f cf = true) {args : List PV} {r : PV} {M' : List Blk} {Q : Post}
    (h : lowM M.length M → lowL M.length args → Wp (Conc P) M.length cf.body Q M (args ++ List.replicate (cf.ntmps - args.length) .top))
    (hq : ∀ (fn : Func) e M1 t1 L L1 w w1 (a1 : Act), P.funcs[f]? = some fn → okRes P cf.results fn.results.toList = true → Q e M1 t1 → Sim (RO P) M L w → Evo M L w M1 L1 w1 → Sim (RO P) M1 L1 w1 → LRel M1 L1 w1 t1 a1.tmps.toList →
      (match e with | .ret | .normal => True | _ => False) ∧ ∃ v, (results fn a1.tmps).run P w1 = .ok v w1 ∧ Fin P M L w r M' (.returned v) w1) : Conc P (.fn f) args M r M' := by
  intro L w cargs S A
  unfold okFn at ok
  split at ok
  · rename_i fn hf
    simp only [Bool.and_eq_true, Bool.not_eq_true', beq_iff_eq] at ok
    obtain ⟨⟨⟨ok1, ok2⟩, ok3⟩, ok4⟩ := ok
    split at ok4
    · rename_i c hb
      refine .inl ⟨MuLone.run_callFunc_enter hf ok1 hb cargs w, callsIn_wide.1 (show CallsIn (FR none) 0 P f cargs w _ from callsIn_of_wp_marks hf hb trivial ?_)⟩
      have hw := h S.low A.low
      have s : St P M L w none M (args ++ List.replicate (cf.ntmps - args.length) .top) L { tmps := cargs ++ Array.replicate (fn.ntmps - cargs.size) undef, defers := [] } w :=
        ⟨S, by rw [← ok2]; exact tmps_rel A _, Evo.refl _ _ _, trivial⟩
      refine wpIn_mono (Wp_sound hmix (fun l hl => by cases hl) cf.body c ok4 hw s) ?_
      rintro e a1 w1 ⟨ex, M1, t1, L1, he, hqe, s1⟩
      have fin := fun w' S1 T1 E1 => hq fn ex M1 t1 L L1 w w' a1 hf ok3 hqe S E1 S1 T1
      have out : LeavesInM (FR none) 0 P fn a1.tmps (Fin P M L w r M') a1.defers .returning w1 :=
        leaves a1.defers s1.D s1.S s1.T s1.E fun w' S' T' E' => (fin w' S' T' E').2
      have hx := (fin w1 s1.S s1.T s1.E).1
      cases ex <;> cases e <;> first | exact he.elim | exact hx.elim | exact out
    · cases ok4
  · cases ok
end
end Go.Nac

