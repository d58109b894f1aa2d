import Derived.Test.YtbmicihfhfcpkaaK7b
import Derived.Test.YtbmicihfhfcpkaaK8b
import Derived.RangeFuncNested
import Derived.RangeFuncLeaves
import Derived.Conc.MuLone
set_option linter.unusedVariables false
set_option linter.unusedSectionVars false
set_option linter.unusedSimpArgs false
namespace Go.Nac
def ghost : CCode → Bool
  | .forget _ => true
  | .frz _ => true
  | .own _ _ _ => true
  | .holes _ => true
  | .keep _ => true
  | .fix _ => true
  | .cut => true
  | .seq a b => ghost a && ghost b
  | _ => false
def okCall2 (P : Program) (c : COp) (o : Op) : Bool :=
  match c, o with
  | .call _ f args, .call k => (match k.callee with
    | .value x => (match f with | .inr g => okX (.f g) x | .inl y => okX y x) && okXs args k.args.toList
    | _ => false)
  | _, _ => false
def isBad : COp → Bool
  | .bad => true
  | _ => false
def okFz (P : Program) (c : COp) (o : Op) : Bool :=
  match c with
  | .fz c => okOp P c o
  | _ => false
def okOper (P : Program) (ops : Array Oper) (c : COper) (o : Oper) : Bool :=
  o.dst == c.dst && (isBad c.op || okOp P c.op o.op || okCall2 P c.op o.op || okFz P c.op o.op) &&
  (match c.guard, o.guard with
   | none, none => true
   | some (g, want), some (j, want') => want == want' && ((ops[j]?).bind (·.dst)) == some g
   | _, _ => false)
def okOpers (P : Program) (cs : List COper) (ops : Array Oper) : Bool :=
  cs.length == ops.size && (List.range cs.length).all fun i => match cs[i]?, ops[i]? with | some c, some o => okOper P ops c o | _, _ => false
def isAlloc : COp → Bool
  | .alloc _ _ => true
  | .box own _ _ => own
  | .bsl own _ _ => own
  | .onil _ => true
  | _ => false
def okDOper (P : Program) (c : COper × Option Nat) (o : Oper) : Bool :=
  o.dst == c.1.dst && o.guard.isNone && (match c.2 with | none => okOp P c.1.op o.op || okCall2 P c.1.op o.op || okFz P c.1.op o.op | some _ => okOp P c.1.op o.op && isAlloc c.1.op)
def okRegionD (P : Program) (cs : List (COper × Option Nat)) (pairs : List (Nat × Nat)) (ops : Array Oper) : Bool :=
  cs.length == ops.size && ((List.range cs.length).all fun i => match cs[i]?, ops[i]? with | some c, some o => okDOper P c o | _, _ => false) && orderG ops.size ops (okD cs pairs)
def okCode (P : Program) : CCode → Code → Bool
  | .skip, .skip => true
  | .region cs, .region _ ops draw => okOpers P cs ops && (!draw || orderOk cs ops)
  | .regionD cs pairs, .region _ ops _ => okRegionD P cs pairs ops
  | .seq a b, d => (ghost a && okCode P b d) || (ghost b && okCode P a d) || (match d with | .seq x y => okCode P a x && okCode P b y | _ => false)
  | .cond c a b, .cond c' x y => okX c c' && okCode P a x && okCode P b y
  | .block i c, .block j d => i == j && okCode P c d
  | .scope c, .scope d => okCode P c d
  | .loop c, .loop d => okCode P c d
  | .rangeFunc f ps a b, .rangeFunc g qs x y => okX f g && ps == qs.toList && okCode P a x && okCode P b y
  | .exit i, .exit j => i == j
  | .goto i, .goto j => i == j
  | .label _, .label _ => true
  | .ret, .ret => true
  | _, _ => false
def RO (P : Program) (c : CCode) (d : Code) : Prop := okCode P c d = true
def FR (ro : Option Nat) : Fence := { Fence.wide with round := ro }
def exRel : Ex → Exit → Prop
  | .normal, .normal => True
  | .ret, .ret => True
  | .exit i, .exit j => i = j
  | .goto i, .goto j => i = j
  | _, _ => False
def Fin (P : Program) (M : List Blk) (L : Loc) (w : World) (r : PV) (M' : List Blk) : Ending → World → Prop
  | .returned v, w' => ∃ L', Evo M L w M' L' w' ∧ Sim (RO P) M' L' w' ∧ VRel M' L' w' r v
  | _, _ => False
def isTup0 : PV → Bool
  | .tup [] => true
  | _ => false
def Conc (P : Program) : CallR := fun f args M r M' => ∀ (L : Loc) (w : World) (cargs : Array Value), Sim (RO P) M L w → LRel M L w args cargs.toList →
  match f with
  | .fn f => ((callFunc f cargs).run P w = .ok (.enter f cargs) w ∧ Calls P f cargs w (Fin P M L w r M')) ∨
      (isTup0 r = false ∧ ∃ v w', (callFunc f cargs).run P w = .ok (.value v) w' ∧ Fin P M L w r M' (.returned v) w')
  | .yl i => ∀ b o, L i = some (b, o) → ∃ fn tmps x y, (Instr.yield b cargs).run P w = .ok (.round b fn tmps x y) w ∧ RoundIn Fence.wide 0 P b fn tmps x y w (Fin P M L w r M')
def Marks (n : Nat) (M : List Blk) (L : Loc) (w : World) : List Deferred → Prop
  | [] => True
  | d :: ds => (∃ D, d = { target := .collected D, args := #[] } ∧ n ≤ D ∧ w.heap[D]? = some (.deferred (some [])) ∧ ¬ Owned M L D ∧ ∀ d' ∈ ds, d'.target ≠ .collected D) ∧ Marks n M L w ds
def MarksR (ro : Option Nat) (n : Nat) (M : List Blk) (L : Loc) (w : World) (ds : List Deferred) : Prop :=
  match ro with
  | none => Marks n M L w ds
  | some _ => ds = []
structure St (P : Program) (M0 : List Blk) (L0 : Loc) (w0 : World) (ro : Option Nat) (M : List Blk) (t : List PV) (L : Loc) (a : Act) (w : World) : Prop where
  S : Sim (RO P) M L w
  T : LRel M L w t a.tmps.toList
  E : Evo M0 L0 w0 M L w
  D : MarksR ro w0.heap.size M L w a.defers
section
variable {P : Program} {M0 : List Blk} {L0 : Loc} {w0 : World} {ro : Option Nat} {M M' : List Blk} {t t' : List PV} {L L' : Loc} {a : Act} {w w' : World}
theorem Marks.evo {n : Nat} {ds : List Deferred} (h : Marks n M L w ds) (E : Evo M L w M' L' w') : Marks n M' L' w' ds := by
  induction ds with
  | nil => exact trivial
  | cons d ds ih =>
    obtain ⟨⟨D, rfl, h1, h2, h3, h4⟩, h5⟩ := h
    obtain ⟨k1, k2⟩ := E.frame D (Array.getElem?_eq_some_iff.1 h2).1 h3
    exact ⟨⟨D, rfl, h1, k1.trans h2, k2, h4⟩, ih h5⟩
theorem MarksR.evo {n : Nat} {ds : List Deferred} (h : MarksR ro n M L w ds) (E : Evo M L w M' L' w') : MarksR ro n M' L' w' ds := by
  cases ro with
  | none => exact Marks.evo h E
  | some l => exact h
theorem Act.put_defers (a : Act) (dst : Option Tmp) (v : Value) : (a.put dst v).defers = a.defers := by cases dst <;> rfl
theorem LRel.put (h : LRel M L w t a.tmps.toList) (dst : Option Nat) {v : PV} {c : Value} (hv : VRel M L w v c) : LRel M L w (put t dst v) (a.put dst c).tmps.toList := by
  cases dst with
  | none => exact h
  | some d => simp only [Nac.put, Act.put, Array.toList_setIfInBounds]; exact h.set d hv
theorem St.step (s : St P M0 L0 w0 ro M t L a w) (E : Evo M L w M' L' w') (S : Sim (RO P) M' L' w') {v : PV} {c : Value} (hv : VRel M' L' w' v c) (dst : Option Nat) :
    St P M0 L0 w0 ro M' (put t dst v) L' (a.put dst c) w' :=
  ⟨S, (s.T.evo E).put dst hv, s.E.trans E, by rw [Act.put_defers]; exact s.D.evo E⟩
theorem St.fit (s : St P M0 L0 w0 ro M t L a w) : Fit M L w (ev t) a.eval := by
  intro x y h
  unfold okX at h
  split at h
  · rename_i n m
    simp only [beq_iff_eq] at h; subst h
    simp only [ev, Act.eval, Array.getD_eq_getD_getElem?]
    cases hx : t[n]? with
    | some x =>
      obtain ⟨v, h1, h2⟩ := s.T.get hx
      rw [List.getD_eq_getElem?_getD, hx]
      rw [Array.getElem?_toList] at h1
      rw [h1]; exact h2
    | none => rw [List.getD_eq_getElem?_getD, hx]; exact .top _
  · obtain ⟨rfl, h2⟩ := okV_eq h
    exact .s _ h2
  · simp only [beq_iff_eq] at h; subst h
    exact .fn _ _ _ _ _ .nil .nil
  · cases h
theorem wide_room (ro : Option Nat) (n : Nat) : (FR ro).depth.isSome = true → 1 ≤ n := by intro h; cases h
theorem callsIn_fr {n : Nat} {f : FuncId} {args : Array Value} {R : Ending → World → Prop} (h : Calls P f args w R) : CallsIn (FR ro) n P f args w R :=
  show CallsIn Fence.wide n P f args w R from callsIn_wide.2 h
theorem execOp_call {ρ : Operand → Value} {o : Oper} {k : Call} (ho : o.op = .call k) : execOp ρ o = (do let d ← resolve ρ k o.type; invoke d.target d.args) := by
  simp [execOp, ho]
/-- One operation of a call. -/
theorem call_sound (s : St P M0 L0 w0 ro M t L a w) {o : Oper} {c : COp} (ok : okCall2 P c o.op = true) {v : PV} (h : Res (Conc P) c M (ev t) v M') {n : Nat} {next : Act → World → Prop} {Q : Exit → Act → World → Prop}
    (hk : ∀ L' cv w', Evo M L w M' L' w' → Sim (RO P) M' L' w' → VRel M' L' w' v cv → next (a.put o.dst cv) w') : o.uponIn (FR ro) n P a next Q ((execOp a.eval o).run P w) := by
  unfold okCall2 at ok
  split at ok
  · rename_i loud f args k ho
    rw [execOp_call ho]
    split at ok
    · rename_i x hx
      simp only [Bool.and_eq_true] at ok
      obtain ⟨ok1, ok2⟩ := ok
      have hargs0 := Fit.list s.fit ok2
      have hargs : LRel M L w (args.map (argV M (ev t))) (k.args.map a.eval).toList := by
        rw [Array.toList_map]
        generalize k.args.toList.map a.eval = ys at hargs0
        clear hk h ok1 ok2
        induction args generalizing ys with
        | nil => cases hargs0; exact .nil
        | cons x xs ih => cases hargs0 with | cons _ v _ vs h hs => exact .cons _ _ _ _ (by cases x <;> first | exact h | exact view_rel s.S h) (ih _ hs)
      have core : ∀ {g : FuncId} {as : List PV} {cargs : Array Value}, Conc P (.fn g) as M v M' → LRel M L w as cargs.toList → o.uponIn (FR ro) n P a next Q ((callFunc g cargs).run P w) := by
        intro g as cargs hc hl
        rcases hc L w cargs s.S hl with ⟨h1, h2⟩ | ⟨_, cv, w', h1, h2⟩
        · rw [h1, Oper.uponIn_enter]
          refine ⟨wide_room ro n, callsIn_fr (Calls.mono h2 fun e w' he => ?_)⟩
          cases e with
          | returned cv => obtain ⟨L', g1, g2, g3⟩ := he; exact hk L' cv w' g1 g2 g3
          | panicked => exact he.elim
          | outgrown => exact he.elim
        · rw [h1, Oper.uponIn_value]
          obtain ⟨L', g1, g2, g3⟩ := h2; exact hk L' cv w' g1 g2 g3
      have hres : ∀ {fv : Value}, a.eval x = fv → (Sem.run P (do let d ← resolve a.eval k o.type; invoke d.target d.args) w) = (Sem.run P (do let d ← Deferred.ofValue fv (k.args.map a.eval); invoke d.target d.args) w) := by
        intro fv hf
        simp only [resolve, hx, hf]
      have h2 := h.2
      cases f with
      | inr g =>
        simp only at ok1 h2
        have hf := s.fit _ _ ok1
        simp only [ev] at hf
        generalize hfv : a.eval x = fv at hf
        cases hf with
        | fn _ _ _ va vc h1 h3 =>
          obtain ⟨va⟩ := va; obtain ⟨vc⟩ := vc
          cases h1; cases h3
          rw [hres hfv]
          simp only [Deferred.ofValue, pure_bind, invoke]
          refine core h2 ?_
          simpa using hargs
      | inl y =>
        simp only at ok1 h2
        have hf := s.fit _ _ ok1
        generalize hfv : a.eval x = fv at hf
        split at h2
        · rename_i g first cap e
          rw [e] at hf
          cases hf with
          | fn _ _ _ va vc h1 h3 =>
            rw [hres hfv]
            simp only [Deferred.ofValue, pure_bind, invoke]
            refine core h2 ?_
            simp only [Array.toList_append]
            exact (h1.append hargs).append h3
        · rename_i i e
          rw [e] at hf
          cases hf with
          | yl _ st pd ts ps x' y' b o' hi hL =>
            rw [hres hfv]
            simp only [Deferred.ofValue, pure_bind, invoke]
            obtain ⟨fn, tmps, x1, y1, g1, g2⟩ := h2 L w (k.args.map a.eval) s.S hargs b o' hL
            rw [show (#[] ++ Array.map a.eval k.args) = Array.map a.eval k.args from by simp, g1, Oper.uponIn_round]
            refine ⟨wide_room ro n, ?_⟩
            show RoundIn Fence.wide (n - 1) P b fn tmps x1 y1 w _
            refine ⟨g2.1, fun c cs hr => ?_⟩
            obtain ⟨e, w', h3, h4⟩ := g2.2 c cs (room_wide _)
            refine ⟨e, w', ?_, h4⟩
            cases e with
            | returned cv => obtain ⟨L', g1, g2, g3⟩ := h3; exact hk L' cv w' g1 g2 g3
            | panicked => exact h3.elim
            | outgrown => exact h3.elim
        · exact h2.elim
    · cases ok
  · cases ok
theorem freeze_sound {i : Nat} (S : Sim (RO P) M L w) (h : freeze M i = some M') : Evo M L w M' L w ∧ Sim (RO P) M' L w := by
  unfold freeze at h
  split at h
  · rename_i wr k v xs hi
    cases h
    refine change S hi L (fun _ _ => rfl) ⟨rfl, rfl, rfl⟩ (.inr rfl) (Nat.le_refl _) (fun _ _ _ => rfl) (fun p hp => .inl ⟨p, hp, rfl⟩)
      ⟨Nat.le_refl _, fun _ => ⟨rfl, rfl, rfl, fun b o c el _ hc => ⟨c, hc, rfl⟩⟩⟩ fun E => ?_
    obtain ⟨h0, h1, h2⟩ := S.mem i _ hi
    exact ⟨h0, fun b o hb => by obtain ⟨c, el, vs, g1, g2, g3⟩ := h1 b o hb; exact ⟨c, el, vs, g1, g2.evo E, g3⟩, h2⟩
  · cases h
theorem freezeAll_sound (ps : List PV) : ∀ {M M' : List Blk}, Sim (RO P) M L w → freezeAll M ps = some M' → Evo M L w M' L w ∧ Sim (RO P) M' L w := by
  induction ps with
  | nil => intro M M' S h; cases h; exact ⟨Evo.refl _ _ _, S⟩
  | cons p ps ih =>
    intro M M' S h
    cases p
    case os i ver off len =>
      simp only [freezeAll] at h
      cases hf : freeze M i with
      | none => rw [hf] at h; cases h
      | some M1 =>
        rw [hf] at h
        obtain ⟨E1, S1⟩ := freeze_sound S hf
        obtain ⟨E2, S2⟩ := ih S1 h
        exact ⟨E1.trans E2, S2⟩
    all_goals exact ih S h
theorem notDefer {c : COp} {o : Op} (h : okOp P c o = true ∨ okCall2 P c o = true ∨ okFz P c o = true) : ∀ k, o ≠ .defer k := by
  rintro k rfl
  rcases h with h | h | h
  · simp [okOp] at h
  · simp [okCall2] at h
  · unfold okFz at h
    split at h
    · simp [okOp] at h
    · cases h
/-- One operation, wanted. -/
theorem oper_sound (s : St P M0 L0 w0 ro M t L a w) {o : Oper} {c : COp} (ok : okOp P c o.op = true ∨ okCall2 P c o.op = true ∨ okFz P c o.op = true) {v : PV} (h : Res (Conc P) c M (ev t) v M') {n : Nat} {next : Act → World → Prop} {Q : Exit → Act → World → Prop}
    (hk : ∀ L' cv w', Evo M L w M' L' w' → Sim (RO P) M' L' w' → VRel M' L' w' v cv → next (a.put o.dst cv) w') : o.wpIn (FR ro) n P a w next Q := by
  refine ⟨fun f _ => trivial, ?_⟩
  rw [Oper.semAt_eq _ _ _ (notDefer ok)]
  rcases ok with ok | ok | ok
  · have hr : res M (ev t) c = some (v, M') := by
      cases c
      case call l f args => unfold okOp at ok; split at ok <;> first | (simp at ok; done) | (simp [okCall1] at ok; done) | skip
      case fz c => unfold okOp at ok; split at ok <;> first | (simp at ok; done) | (simp [okCall1] at ok; done) | skip
      all_goals exact h
    obtain ⟨cv, w', L', h1, E, S, hv⟩ := op_good s.S s.fit (fun _ => rfl) ok hr
    rcases h1 with h1 | ⟨h1, rfl⟩
    · rw [h1]; exact hk L' cv w' E S hv
    · rw [h1]; exact hk L' _ w' E S hv
  · exact call_sound s ok h hk
  · unfold okFz at ok
    split at ok
    · rename_i c
      obtain ⟨v0, M1, hr, hf, rfl⟩ := h
      obtain ⟨cv, w', L', h1, E, S, hv⟩ := op_good s.S s.fit (fun _ => rfl) ok hr
      obtain ⟨E2, S2⟩ := freezeAll_sound _ S hf
      rcases h1 with h1 | ⟨h1, rfl⟩
      · rw [h1]; exact hk L' cv w' (E.trans E2) S2 (view_rel S2 (hv.evo E2))
      · rw [h1]; exact hk L' _ w' (E.trans E2) S2 (view_rel S2 (hv.evo E2))
    · cases ok
theorem run_sound {cs : List COper} {ops : Array Oper} (ok : okOpers P cs ops = true) {n : Nat} {Q : Exit → Act → World → Prop} : ∀ (is : List Nat) {M M' : List Blk} {t t' : List PV} {L : Loc} {a : Act} {w : World},
    St P M0 L0 w0 ro M t L a w → runL (Conc P) cs is M t M' t' → (∀ L' a' w', St P M0 L0 w0 ro M' t' L' a' w' → Q .normal a' w') → wpOpsIn (FR ro) n P ops Q is a w := by
  intro is
  induction is with
  | nil =>
    intro M M' t t' L a w s h hq
    obtain ⟨rfl, rfl⟩ := h
    exact hq L a w s
  | cons i is ih =>
    intro M M' t t' L a w s h hq
    obtain ⟨c, M1, t1, hc, h1, h2⟩ := h
    simp only [okOpers, Bool.and_eq_true, List.all_eq_true, List.mem_range, beq_iff_eq] at ok
    have ok2 := ok.2 i (List.getElem?_eq_some_iff.1 hc).1
    rw [hc] at ok2
    cases ho : ops[i]? with
    | none => rw [ho] at ok2; cases ok2
    | some o =>
      rw [ho] at ok2
      simp only [okOper, Bool.and_eq_true, Bool.or_eq_true, beq_iff_eq] at ok2
      obtain ⟨⟨hdst, hop⟩, hg⟩ := ok2
      simp only [wpOpsIn, ho]
      have ok' : okOpers P cs ops = true := by simp only [okOpers, Bool.and_eq_true, List.all_eq_true, List.mem_range, beq_iff_eq]; exact ok
      have run : ∀ v, Res (Conc P) c.op M (ev t) v M1 → t1 = put t c.dst v → o.wpIn (FR ro) n P a w (wpOpsIn (FR ro) n P ops Q is) Q := by
        intro v hv ht
        have hop : okOp P c.op o.op = true ∨ okCall2 P c.op o.op = true ∨ okFz P c.op o.op = true := by
          rcases hop with ((hop | hop) | hop) | hop
          · exfalso
            generalize c.op = cop at hv hop
            cases cop <;> first | (cases hop; done) | (cases hv)
          · exact .inl hop
          · exact .inr (.inl hop)
          · exact .inr (.inr hop)
        refine oper_sound s hop hv fun L' cv w' E S hv' => ?_
        have s' := s.step E S hv' c.dst
        rw [← ht, ← hdst] at s'
        exact ih s' h2 hq
      cases hcg : c.guard with
      | none =>
        rw [hcg] at hg
        cases hog : o.guard with
        | some p => rw [hog] at hg; cases hg
        | none =>
          rw [stepOf, hcg] at h1
          obtain ⟨v, h3, h4⟩ := h1
          rw [if_pos (by simp [Region.wanted, hog])]
          exact run v h3 h4
      | some p =>
        obtain ⟨g, want⟩ := p
        rw [hcg] at hg
        cases hog : o.guard with
        | none => rw [hog] at hg; cases hg
        | some q =>
          obtain ⟨j, want'⟩ := q
          rw [hog] at hg
          simp only [Bool.and_eq_true, beq_iff_eq] at hg
          obtain ⟨rfl, hj⟩ := hg
          rw [stepOf, hcg] at h1
          obtain ⟨b, h0, h1⟩ := h1
          have hy : (yielded ops a.tmps j == some want) = b := by
            rw [List.getD_eq_getElem?_getD] at h0
            cases hx : t[g]? with
            | none => rw [hx] at h0; cases h0
            | some x =>
              rw [hx] at h0
              simp only [Option.getD_some] at h0
              obtain ⟨u, g1, g2⟩ := s.T.get hx
              rw [Array.getElem?_toList] at g1
              unfold wanted at h0
              split at h0
              · have := g2.s_inv
                subst this
                cases h0
                simp [yielded, hj, g1]
              · have := g2.s_inv
                subst this
                cases h0
                simp [yielded, hj, g1]
              · cases h0
          by_cases hb : b = true
          · rw [if_pos hb] at h1
            obtain ⟨v, h3, h4⟩ := h1
            rw [if_pos (by simp only [Region.wanted, hog]; exact hy.trans hb)]
            exact run v h3 h4
          · rw [if_neg hb] at h1
            obtain ⟨rfl, h4⟩ := h1
            rw [if_neg (by simp only [Region.wanted, hog]; rw [hy]; exact hb)]
            refine ⟨fun _ _ => trivial, ?_⟩
            have s' := s.step (Evo.refl _ _ _) s.S (v := unit) (c := undef) (.s undef rfl) c.dst
            rw [← h4, ← hdst] at s'
            exact ih s' h2 hq
theorem St.drawn (s : St P M0 L0 w0 ro M t L a w) : St P M0 L0 w0 ro M t L a { w with drawn := w.drawn + 1 } := by
  have E : Evo M L w M L { w with drawn := w.drawn + 1 } := Evo.heap ⟨rfl, rfl, rfl⟩ rfl
  exact ⟨s.S.heap ⟨rfl, rfl, rfl⟩ rfl, s.T.evo E, s.E.trans E, s.D.evo E⟩
theorem region_sound (hmix : P.follows .mixedOrders = true) {cs : List COper} {id : Nat} {ops : Array Oper} {draw : Bool} (ok : okCode P (.region cs) (.region id ops draw) = true) {n : Nat}
    {K : List Blk → List PV → Prop} {Q : Exit → Act → World → Prop} (s : St P M0 L0 w0 ro M t L a w) (h : wpOps (Conc P) cs K M t)
    (hq : ∀ M' t' L' a' w', K M' t' → St P M0 L0 w0 ro M' t' L' a' w' → Q .normal a' w') : (Code.region id ops draw).wpIn (FR ro) n P Q a w := by
  simp only [okCode, Bool.and_eq_true, Bool.or_eq_true, Bool.not_eq_true'] at ok
  obtain ⟨ok1, ok2⟩ := ok
  have hn : cs.length = ops.size := by simp only [okOpers, Bool.and_eq_true, beq_iff_eq] at ok1; exact ok1.1
  obtain ⟨M', t', h1, h2⟩ := wpOps_run [] cs h
  rw [List.nil_append, List.length_nil, ← List.range_eq_range'] at h1
  cases draw with
  | false =>
    refine wpIn_region ?_
    rw [← hn]
    exact run_sound ok1 _ s h1 fun L' a' w' => hq M' t' L' a' w' h2
  | true =>
    refine wpIn_region_draw fun tn => ?_
    have ok3 : orderOk cs ops = true := by simpa using ok2
    simp only [Region.schedule, hmix, Bool.true_or, if_true]
    exact run_sound ok1 _ s.drawn (linearise_run hn ok3 tn h1) fun L' a' w' => hq M' t' L' a' w' h2
theorem allocB_res {ρ : CX → PV} {c : COp} {b : Bool} {k : Nat} {xs : List PV} (h : allocB ρ c = some (b, k, xs)) : res M ρ c = some (if b = true then .op M.length 0 0 0 else .os M.length 0 0 xs.length, M ++ [.row true k 0 xs]) := by
  cases c <;> first | (cases h; done) | skip
  case alloc g z =>
    simp only [allocB, Option.map_eq_some_iff] at h
    obtain ⟨e, h1, h2⟩ := h
    cases h2
    simp only [res, h1]; rfl
  case box own k x =>
    simp only [allocB] at h
    split at h
    · rename_i hc
      obtain ⟨rfl, h1⟩ := hc
      cases h
      simp only [res, if_pos h1]; rfl
    · cases h
  case bsl own k x =>
    simp only [allocB] at h
    split at h
    · rename_i hc
      obtain ⟨rfl, h1⟩ := hc
      cases h
      simp only [res, if_pos h1]; simp
    · cases h
  case onil k => cases h; rfl
theorem allocB_low {ρ : CX → PV} {c : COp} {b : Bool} {k : Nat} {xs : List PV} (h : allocB ρ c = some (b, k, xs)) {n : Nat} (hρ : ∀ x ∈ c.opnds, (ρ x).low n) : lowL n xs := by
  cases c <;> first | (cases h; done) | skip
  case alloc g z =>
    simp only [allocB, Option.map_eq_some_iff] at h
    obtain ⟨e, h1, h2⟩ := h
    cases h2
    rw [lowL_iff]
    intro x hx
    simp only [List.mem_singleton] at hx
    subst hx
    have hz : ∀ y ∈ z.map PV.s, y.low n := by intro y hy; obtain ⟨v, _, rfl⟩ := List.mem_map.1 hy; simp [PV.low]
    unfold mkPV at h1
    split at h1
    · cases h1; rename_i hz2; exact hz _ (by rw [hz2]; simp)
    · cases h1
    · split at h1
      · cases h1; rw [PV.low, lowL_iff]; exact hz
      · cases h1
  case box own k x =>
    simp only [allocB] at h
    split at h
    · cases h; rw [lowL_iff]; intro y hy; simp only [List.mem_singleton] at hy; subst hy; exact hρ _ (by simp [COp.opnds])
    · cases h
  case bsl own k x =>
    simp only [allocB] at h
    split at h
    · cases h; rw [lowL_iff]; intro y hy; obtain ⟨z, hz, rfl⟩ := List.mem_map.1 hy; exact hρ _ hz
    · cases h
  case onil k => cases h; simp [lowL]
theorem ev_low (T : LRel M L w t a.tmps.toList) (x : CX) : (ev t x).low M.length := by
  cases x with
  | t n =>
    simp only [ev, List.getD_eq_getElem?_getD]
    cases hx : t[n]? with
    | none => simp [PV.low]
    | some y => have := T.low; rw [lowL_iff] at this; exact this y (List.mem_of_getElem? hx)
  | k v => simp [ev, PV.low]
  | f g => simp [ev, PV.low, lowL]
theorem run_soundD {cs : List (COper × Option Nat)} {pairs : List (Nat × Nat)} {φ : Nat → Foot} {ops : Array Oper} (ok : okRegionD P cs pairs ops = true) {n : Nat} {Q : Exit → Act → World → Prop} : ∀ (is : List Nat) {M M' : List Blk} {t t' : List PV} {L : Loc} {a : Act} {w : World},
    St P M0 L0 w0 ro M t L a w → runG (stepD (Conc P) cs φ) is (M, t) (M', t') → (∀ L' a' w', St P M0 L0 w0 ro M' t' L' a' w' → Q .normal a' w') → wpOpsIn (FR ro) n P ops Q is a w := by
  intro is
  induction is with
  | nil =>
    intro M M' t t' L a w s h hq
    cases h
    exact hq L a w s
  | cons i is ih =>
    intro M M' t t' L a w s h hq
    obtain ⟨⟨M1, t1⟩, ⟨c, hc, _, v, h1, h2, h3, _⟩, h4⟩ := h
    simp only at h1 h2 h3
    have ok0 := ok
    simp only [okRegionD, Bool.and_eq_true, List.all_eq_true, List.mem_range, beq_iff_eq] at ok0
    have ok2 := ok0.1.2 i (List.getElem?_eq_some_iff.1 hc).1
    rw [hc] at ok2
    cases ho : ops[i]? with
    | none => rw [ho] at ok2; cases ok2
    | some o =>
      rw [ho] at ok2
      simp only [okDOper, Bool.and_eq_true, beq_iff_eq] at ok2
      obtain ⟨⟨hdst, hg⟩, hop⟩ := ok2
      have hog : o.guard = none := by simpa using hg
      simp only [wpOpsIn, ho]
      rw [if_pos (by simp [Region.wanted, hog])]
      have fin : ∀ L' cv w', Evo M L w M1 L' w' → Sim (RO P) M1 L' w' → VRel M1 L' w' v cv → wpOpsIn (FR ro) n P ops Q is (a.put o.dst cv) w' := by
        intro L' cv w' E S hv'
        have s' := s.step E S hv' c.1.dst
        rw [← h3, ← hdst] at s'
        exact ih s' h4 hq
      obtain ⟨c, p⟩ := c
      cases p with
      | none =>
        simp only [Bool.or_eq_true] at hop
        exact oper_sound s (or_assoc.1 hop) h1 fin
      | some r =>
        simp only [Bool.and_eq_true] at hop
        obtain ⟨b, k, xs, g1, g2, rfl, rfl⟩ := h1
        have hr := allocB_res (M := M) g1
        have hrc : Res (Conc P) c.op M (ev t) (if b = true then .op M.length 0 0 0 else .os M.length 0 0 xs.length) (M ++ [.row true k 0 xs]) := by
          have : ∀ l f ys, c.op ≠ .call l f ys := by intro l f ys e; rw [e] at g1; cases g1
          have hnz : ∀ c', c.op ≠ .fz c' := by intro c' e; rw [e] at g1; cases g1
          generalize c.op = cop at hr this hnz
          cases cop <;> first | exact hr | exact absurd rfl (this _ _ _) | exact absurd rfl (hnz _)
        refine oper_sound s (.inl hop.1) hrc fun L' cv w' E S hv' => ?_
        obtain ⟨E2, S2, hV⟩ := place_sound E S rfl s.S.low (allocB_low g1 fun x _ => ev_low s.T x) g2
        refine fin _ cv w' E2 S2 ?_
        have hlt : M.length - r < M.length := (List.getElem?_eq_some_iff.1 g2).1
        have hi1 : (M ++ [Blk.row true k 0 xs])[M.length]? = some (.row true k 0 xs) := by simp
        have hi2 : (M.set (M.length - r) (.row true k 1 xs))[M.length - r]? = some (.row true k 1 xs) := List.getElem?_set_self hlt
        cases b with
        | true =>
          simp only [if_true] at hv' ⊢
          obtain ⟨bb, oo, q1, q2, rfl⟩ := hv'.op_live hi1
          exact .op _ 1 0 0 true k xs bb oo hi2 q2 ((Loc.upd_self _ _ _).trans q1)
        | false =>
          simp only [Bool.false_eq_true, if_false] at hv' ⊢
          obtain ⟨ad, cap, rfl, q1, q2, q3⟩ := hv'.os_live hi1
          exact .os _ 1 0 xs.length true k xs ad cap hi2 q1 q2 fun hne => by
            obtain ⟨bb, oo, cc, el, u1, u2⟩ := q3 hne
            exact ⟨bb, oo, cc, el, (Loc.upd_self _ _ _).trans u1, u2⟩
theorem regionD_sound (hmix : P.follows .mixedOrders = true) {cs : List (COper × Option Nat)} {pairs : List (Nat × Nat)} {id : Nat} {ops : Array Oper} {draw : Bool} (ok : okRegionD P cs pairs ops = true) {n : Nat}
    {K : List Blk → List PV → Prop} {Q : Exit → Act → World → Prop} (s : St P M0 L0 w0 ro M t L a w) (h : wpD (Conc P) cs [] (fun tr M t => pairsOk pairs tr ∧ K M t) M t)
    (hq : ∀ M' t' L' a' w', K M' t' → St P M0 L0 w0 ro M' t' L' a' w' → Q .normal a' w') : (Code.region id ops draw).wpIn (FR ro) n P Q a w := by
  have ok0 := ok
  simp only [okRegionD, Bool.and_eq_true, beq_iff_eq] at ok0
  obtain ⟨⟨hn, _⟩, hord⟩ := ok0
  obtain ⟨M', t', fps, h1, ⟨h2, h3⟩, h4⟩ := wpD_run cs [] h
  have hrun := h4 (fun i => fps.getD i none) (fun i hi => by simp)
  simp only [List.nil_append, List.length_nil, ← List.range_eq_range'] at hrun
  have hφ : ∀ p ∈ pairs, okPair (fps.getD p.1 none) (fps.getD p.2 none) := by rw [List.nil_append] at h2; exact h2
  cases draw with
  | false =>
    refine wpIn_region ?_
    rw [← hn]
    exact run_soundD ok _ s hrun fun L' a' w' => hq M' t' L' a' w' h3
  | true =>
    refine wpIn_region_draw fun tn => ?_
    simp only [Region.schedule, hmix, Bool.true_or, if_true]
    rw [hn] at hrun
    exact run_soundD ok _ s.drawn (linearise_runG (S := stepD (Conc P) cs (fun i => fps.getD i none)) hord (fun i j s s1 s2 hij hj hi => swapD hφ hij hj hi) tn hrun) fun L' a' w' => hq M' t' L' a' w' h3
end
end Go.Nac

