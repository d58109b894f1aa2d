import Derived.Test.YtdlngmbgalmdeaaK10
set_option linter.unusedVariables false
set_option linter.unusedSectionVars false
set_option linter.unusedSimpArgs false
namespace Go.Nac
section
variable {P : Program} {M0 : List Blk} {L0 : Loc} {w0 : World} {ro : Option Nat} {M M' : List Blk} {t t' : List PV} {L L' : Loc} {a : Act} {w w' : World}
theorem Marks.lt {n : Nat} {ds : List Deferred} (h : Marks n M L w ds) : ∀ d ∈ ds, ∃ D, d.target = .collected D ∧ D < w.heap.size := by
  induction ds with
  | nil => intro d hd; cases hd
  | cons d ds ih =>
    obtain ⟨⟨D, rfl, h1, h2, h3, h4⟩, h5⟩ := h
    intro d' hd
    rcases List.mem_cons.1 hd with rfl | hd
    · exact ⟨D, rfl, (Array.getElem?_eq_some_iff.1 h2).1⟩
    · exact ih h5 d' hd
theorem Marks.poke {n : Nat} {ds : List Deferred} (h : Marks n M L w ds) {l : Nat} {o : Obj} {r : Loop} (hl : w.heap[l]? = some (.loop r)) : Marks n M L (w.putObj l o) ds := by
  induction ds with
  | nil => exact trivial
  | cons d ds ih =>
    obtain ⟨⟨D, rfl, h1, h2, h3, h4⟩, h5⟩ := h
    exact ⟨⟨D, rfl, h1, by rw [World.putObj_heap_other (fun e => by subst e; rw [hl] at h2; cases h2)]; exact h2, h3, h4⟩, ih h5⟩
theorem MarksR.poke {n : Nat} {ds : List Deferred} (h : MarksR ro n M L w ds) {l : Nat} {o : Obj} {r : Loop} (hl : w.heap[l]? = some (.loop r)) : MarksR ro n M L (w.putObj l o) ds := by
  cases ro with
  | none => exact Marks.poke h hl
  | some l => exact h
def InRound (M0 : List Blk) (L0 : Loc) (ro : Option Nat) : Prop := ∀ l, ro = some l → ∃ i st pd ts ps x y o, M0[i]? = some (.loop st pd ts ps x y) ∧ L0 i = some (l, o)
theorem loop_at {i : Nat} {st : LoopState} {pd : Option Ex} {ts : List PV} {ps : List Nat} {x y : CCode} (S : Sim (RO P) M L w) (hi : M[i]? = some (.loop st pd ts ps x y)) {l o : Nat} (hL : L i = some (l, o)) :
    ∃ r, w.heap[l]? = some (.loop r) ∧ r.state = st ∧ pendRel pd r.pending ∧ r.params.toList = ps ∧ LRel M L w ts r.tmps.toList ∧ RO P x r.assign ∧ RO P y r.body := by
  obtain ⟨k, o', r, h1, h2⟩ := S.mem i _ hi
  rw [hL] at h1; cases h1
  exact ⟨r, h2⟩
theorem enter_sound (hro : InRound M0 L0 ro) (s : St P M0 L0 w0 ro M t L a w) (fn : FuncId) (qs : Array Tmp) (x y : Code) {ca cb : CCode} (hx : okCode P ca x = true) (hy : okCode P cb y = true) :
    ∃ l mark w1 L1, (Instr.enterLoop fn a.tmps qs x y ro).run P w = .ok (l, mark) w1 ∧ Evo M L w (M ++ [.loop .ready none t qs.toList ca cb]) L1 w1 ∧
      Sim (RO P) (M ++ [.loop .ready none t qs.toList ca cb]) L1 w1 ∧ L1 M.length = some (l, 0) ∧ w.heap.size ≤ l ∧ MarksR ro w0.heap.size (M ++ [.loop .ready none t qs.toList ca cb]) L1 w1 (mark ++ a.defers) := by
  have key : ∀ (wA : World) (d : Nat), Evo M L w M L wA → Sim (RO P) M L wA →
      ∃ L1, Evo M L wA (M ++ [.loop .ready none t qs.toList ca cb]) L1 (wA.alloc (.loop { state := .ready, pending := none, fn := fn, tmps := a.tmps, params := qs, assign := x, body := y, defers := d })) ∧
        Sim (RO P) (M ++ [.loop .ready none t qs.toList ca cb]) L1 (wA.alloc (.loop { state := .ready, pending := none, fn := fn, tmps := a.tmps, params := qs, assign := x, body := y, defers := d })) ∧ L1 M.length = some (wA.heap.size, 0) := by
    intro wA d EA SA
    have := push SA (.loop .ready none t qs.toList ca cb) (some (.loop { state := .ready, pending := none, fn := fn, tmps := a.tmps, params := qs, assign := x, body := y, defers := d }))
      (w' := wA.alloc (.loop { state := .ready, pending := none, fn := fn, tmps := a.tmps, params := qs, assign := x, body := y, defers := d })) ⟨rfl, rfl, rfl⟩ rfl (by
        intro M' L' hM hL E
        exact ⟨wA.heap.size, 0, _, by rw [hL, Loc.upd_self]; rfl, World.alloc_heap_new _ _, rfl, trivial, rfl, (s.T.evo EA).evo E, hx, hy⟩)
    exact ⟨_, this.1, this.2, by rw [Loc.upd_self]; rfl⟩
  cases ro with
  | none =>
    obtain ⟨EA, SA⟩ := grow s.S (.deferred (some [])) (w' := w.alloc (.deferred (some []))) ⟨rfl, rfl, rfl⟩ rfl
    obtain ⟨L1, E1, S1, hL1⟩ := key _ w.heap.size EA SA
    refine ⟨_, _, _, L1, run_enterLoop_outer fn a.tmps qs x y, EA.trans E1, S1, ?_, by omega, ?_⟩
    · rw [hL1]; simp
    · have hsz : w.heap.size < (w.alloc (.deferred (some []))).heap.size := by simp
      have hno : ¬ Owned M L w.heap.size := notOwned_new s.S
      obtain ⟨g1, g2⟩ := E1.frame w.heap.size hsz hno
      refine ⟨⟨w.heap.size, rfl, s.E.size, g1.trans (World.alloc_heap_new _ _), g2, fun d' hd' => ?_⟩, s.D.evo (EA.trans E1)⟩
      obtain ⟨D, h1, h2⟩ := Marks.lt s.D d' hd'
      rw [h1]; intro e; cases e; omega
  | some l0 =>
    obtain ⟨i, st, pd, ts, ps, x', y', o, h1, h2⟩ := hro l0 rfl
    obtain ⟨b', h3, h4⟩ := s.E.blk i _ h1
    cases b' with
    | loop st' pd' ts' ps' x1 y1 =>
      have hL : L i = some (l0, o) := h4.1.trans h2
      obtain ⟨r0, g1, _⟩ := loop_at s.S h3 hL
      obtain ⟨L1, E1, S1, hL1⟩ := key w r0.defers (Evo.refl _ _ _) s.S
      exact ⟨_, _, _, L1, run_enterLoop_inner g1 fn a.tmps qs x y, E1, S1, hL1, Nat.le_refl _, s.D⟩
    | _ => exact h4.elim
theorem range_sound (hro : InRound M0 L0 ro) (s : St P M0 L0 w0 ro M t L a w) {f : CX} {g : Operand} (hf : okX f g = true) {ps : List Nat} {qs : Array Tmp} (hps : ps = qs.toList) {ca cb : CCode} {x y : Code}
    (hx : okCode P ca x = true) (hy : okCode P cb y = true) {n0 : Nat} {Q : Post} (h : Wp (Conc P) n0 (.rangeFunc f ps ca cb) Q M t) : (Code.rangeFunc g qs x y).wpIn (FR ro) 0 P (CP P M0 L0 w0 ro Q) a w := by
  subst hps
  obtain ⟨gf, first, cap, r, M', st, pend, t', ps', a', b', h1, hc, hlen, hlow, hst, hq⟩ := h
  refine wpIn_rangeFunc fun fn _ => ?_
  obtain ⟨l, mark, w1, L1, hent, E1, S1, hL1, hle, hmarks⟩ := enter_sound hro s fn qs x y hx hy
  have hv := s.fit _ _ hf
  rw [h1] at hv
  generalize hgv : a.eval g = gv at hv
  cases hv with
  | fn _ _ _ va vc ha hcap =>
    have hyl : VRel (M ++ [.loop .ready none t qs.toList ca cb]) L1 w1 (.yl M.length) (.func (.yield l) #[] #[]) :=
      .yl M.length .ready none t qs.toList ca cb l 0 (by simp) hL1
    have hargs : LRel (M ++ [.loop .ready none t qs.toList ca cb]) L1 w1 (first ++ [.yl M.length] ++ cap) ((va ++ #[Value.func (.yield l) #[] #[]]) ++ vc).toList := by
      simp only [Array.toList_append]
      exact ((ha.evo E1).append (.cons _ _ _ _ hyl .nil)).append (hcap.evo E1)
    obtain ⟨hcall, hcalls⟩ := hc L1 w1 _ S1 hargs
    refine ⟨l, mark, w1, { target := .fn (.func gf) vc, args := va ++ #[.func (.yield l) #[] #[]] }, w1, gf, _, w1, hent, ?_, fun _ _ => trivial, hcall, wide_room ro 0, callsIn_fr (Calls.mono hcalls fun e w3 he => ?_)⟩
    · have e : (#[Operand.const (.func (.yield l) #[] #[])] : Array Operand).map a.eval = #[Value.func (.yield l) #[] #[]] := by simp [Act.eval]
      show (Deferred.ofValue (a.eval g) ((#[Operand.const (.func (.yield l) #[] #[])] : Array Operand).map a.eval)).run P w1 = _
      rw [hgv, e]; rfl
    cases e with
    | panicked => exact he.elim
    | outgrown => exact he.elim
    | returned v =>
      obtain ⟨L3, E3, S3, _⟩ := he
      have hi3 : (M' ++ [Blk.loop st pend t' ps' a' b'])[M.length]? = some (Blk.loop st pend t' ps' a' b') := by rw [← hlen]; simp
      have hL3 : L3 M.length = some (l, 0) := by
        obtain ⟨b', g1, g2⟩ := E3.blk M.length (.loop .ready none t qs.toList ca cb) (by simp)
        rw [hi3] at g1; cases g1
        exact g2.1.trans hL1
      obtain ⟨rc, k1, k2, k3, _⟩ := loop_at S3 hi3 hL3
      have hend := run_endLoop (P := P) k1 (by rw [k2]; exact hst)
      have htake : (M' ++ [Blk.loop st pend t' ps' a' b']).take M.length = M' := by rw [← hlen]; simp
      have hD : ∀ c el s, w3.heap[l]? ≠ some (.cells c el s) := by intro c el s h; rw [k1] at h; cases h
      have hO : ¬ Owned M' L3 l := by
        rintro ⟨i, bl, p, g1, g2, g3, g4⟩
        have hlt : i < M'.length := (List.getElem?_eq_some_iff.1 g1).1
        exact S3.inj i M.length bl _ p (l, 0) (by rw [List.getElem?_append_left hlt]; exact g1) hi3 g2 (by omega) g3 hL3 g4
      have St4 : St P M0 L0 w0 ro M' t L3 { a with defers := mark ++ a.defers } (w3.putObj l (.loop { rc with state := .exhausted })) := by
        have hS := S3.take (n := M.length) (by rw [htake]; exact hlow)
        have hT := ((s.T.evo E1).evo E3).take' (n := M.length) s.T.low
        have hE := ((s.E.trans E1).trans E3).take s.E.len
        have hM := MarksR.take (m := M.length) (hmarks.evo E3)
        rw [htake] at hS hT hE hM
        exact ⟨hS.poke hD hO, hT.poke hD, hE.poke hD (Nat.le_trans s.E.size hle), hM.poke k1⟩
      refine ⟨_, _, hend, ?_⟩
      generalize w3.putObj l (.loop { rc with state := .exhausted }) = w4 at St4 ⊢
      cases hp : rc.pending with
      | none =>
        rw [hp] at k3
        cases pend with
        | none => exact ⟨.normal, M', t, L3, trivial, hq, St4⟩
        | some e => cases e <;> exact k3.elim
      | some c =>
        rw [hp] at k3
        cases pend with
        | none => exact k3.elim
        | some e =>
          cases e with
          | normal => exact k3.elim
          | exit i =>
            cases c <;> first | exact k3.elim | skip
            cases k3
            exact wpIn_exit ⟨.exit i, M', t, L3, rfl, hq, St4⟩
          | goto i =>
            cases c <;> first | exact k3.elim | skip
            cases k3
            exact wpIn_goto ⟨.goto i, M', t, L3, rfl, hq, St4⟩
          | ret =>
            cases c <;> first | exact k3.elim | skip
            exact wpIn_ret ⟨.ret, M', t, L3, trivial, hq, St4⟩
end
end Go.Nac

