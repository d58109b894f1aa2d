/- Code in whatever order against the machine. Part 1: regions. -/
import Derived.Test.YtcbfjgpdogcdbaaGreatDoorW02
import Derived.RangeFuncNested
import Derived.RangeFuncLeaves
import Derived.Conc.MuLone
import Derived.Scope
set_option linter.unusedVariables false
set_option linter.unusedSectionVars false
set_option linter.unusedSimpArgs false
namespace Go.Nac
variable [Env]
def ghost:CCode → Bool
 | .forget _ => true
 | .frz _ => true
 | .own _ _ _ => true
 | .holes _ => true
 | .keep _ => true
 | .fix _ => true
 | .cut => true
 | .seq a b => ghost a && ghost b
 | _ => false
def ZH (P:Program) (c:COp) (o:Op):Bool :=
 match c,o with
 | .call _ f args,.call k => (match k.callee with
  | .value x => (match f with | .inr g => okX (.f g) x | .inl y => okX y x) && okXs args k.args.toList
  | _ => false)
 | .fcall y args,.call k => (match k.callee with
  | .value x => okX y x && okXs args k.args.toList
  | _ => false)
 | .pcall f args,.call k => (match k.callee with
  | .value x => (match f with | .inr g => okX (.f g) x | .inl y => okX y x) && okXs args k.args.toList
  | _ => false)
 | _,_ => false
def isBad:COp → Bool
 | .bad => true
 | _ => false
def okFz (P:Program) (c:COp) (o:Op):Bool :=
 match c with
 | .fz c => okOp P c o
 | _ => false
def QiS (P:Program) (ops:Array Oper) (c:COper) (o:Oper):Bool :=
  o.dst == c.dst && (isBad c.op || okOp P c.op o.op || ZH P c.op o.op || okFz P c.op o.op) &&
  (match c.guard,o.guard with
   | none,none => true
   | some (g,want),some (j,want') => want == want' && ((ops[j]?).bind (·.dst)) == some g
   | _,_ => false)
def YM (P:Program) (cs:List COper) (ops:Array Oper):Bool :=
 cs.length == ops.size && (List.range cs.length).all fun i => match cs[i]?,ops[i]? with|some c,some o => QiS P ops c o|_,_ => false
def QmV:COp → Bool
 | .alloc _ _ => true
 | .box own _ _ => own
 | .bsl own _ _ => own
 | .onil _ => true
 | _ => false
def QgC (P:Program) (c:COper × Option Nat) (o:Oper):Bool :=
 o.dst == c.1.dst && o.guard.isNone && (match c.2 with|none => okOp P c.1.op o.op || ZH P c.1.op o.op || okFz P c.1.op o.op|some _ => okOp P c.1.op o.op && QmV c.1.op)
def Yt (P:Program) (cs:List (COper × Option Nat)) (pairs:List (Nat × Nat)) (ops:Array Oper):Bool :=
 cs.length == ops.size && ((List.range cs.length).all fun i => match cs[i]?,ops[i]? with|some c,some o => QgC P c o|_,_ => false) && Qcl ops.size ops (okD cs pairs)
def Qp (P:Program):CCode → Code → Bool
 | .skip,.skip => true
 | .region cs,.region _ ops draw => YM P cs ops && (!draw || QaZ cs ops)
 | .regionD cs pairs,.region _ ops _ => Yt P cs pairs ops
 | .seq a b,d => (ghost a && Qp P b d) || (ghost b && Qp P a d) || (match d with | .seq x y => Qp P a x && Qp P b y | _ => false)
 | .cond c a b,.cond c' x y => okX c c' && Qp P a x && Qp P b y
 | .block i c,.block j d => i == j && Qp P c d
 | .scope c,.scope d => Qp P c d
 | .loop c,.loop d => Qp P c d
 | .rangeFunc f ps a b,.rangeFunc g qs x y => okX f g && ps == qs.toList && Qp P a x && Qp P b y
 | .exit i,.exit j => i == j
 | .goto i,.goto j => i == j
 | .label _,.label _ => true
 | .ret,.ret => true
 | _,_ => false
def RO (P:Program) (c:CCode) (d:Code):Prop:=Qp P c d = true
def FR (ro:Option Nat):Fence:={ Fence.wide with round:=ro }
def exRel:Ex → Exit → Prop
 | .normal,.normal => True
 | .ret,.ret => True
 | .exit i,.exit j => i = j
 | .goto i,.goto j => i = j
 | _,_ => False
def Fin (P:Program) (M:List Blk) (L:Loc) (w:World) (r:PV) (M':List Blk):Ending → World → Prop
 | .returned v,w' => ∃ L',Evo M L w M' L' w' ∧ Sim (RO P) M' L' w' ∧ VRel M' L' w' r v
 | _,_ => False
def QpK:PV → Bool
 | .tup [] => true
 | _ => false
def Conc (P:Program):CallR:=fun f args M r M' => ∀ (L:Loc) (w:World) (cargs:Array Value),Sim (RO P) M L w → LRel M L w args cargs.toList →
 match f with
 | .fn f => ((callFunc f cargs).run P w = .ok (.enter f cargs) w ∧ Calls P f cargs w (Fin P M L w r M')) ∨
   (QpK r = false ∧ ∃ v w',(callFunc f cargs).run P w = .ok (.value v) w' ∧ Fin P M L w r M' (.returned v) w')
 | .yl i => ∀ b o,L i = some (b,o) → ∃ fn tmps x y,(Instr.yield b cargs).run P w = .ok (.round b fn tmps x y) w ∧ RoundIn Fence.wide 0 P b fn tmps x y w (Fin P M L w r M')
def Marks (n:Nat) (M:List Blk) (L:Loc) (w:World):List Deferred → Prop
 | [] => True
 | d :: ds => (∃ D,d = { target:=.collected D,args:=#[] } ∧ n ≤ D ∧ w.heap[D]? = some (.deferred (some [])) ∧ ¬ Owned M L D ∧ ∀ d' ∈ ds,d'.target ≠ .collected D) ∧ Marks n M L w ds
def VW (ro:Option Nat) (n:Nat) (M:List Blk) (L:Loc) (w:World) (ds:List Deferred):Prop :=
 match ro with
 | none => Marks n M L w ds
 | some _ => ds = []
structure St (P:Program) (M0:List Blk) (L0:Loc) (w0:World) (ro:Option Nat) (M:List Blk) (t:List PV) (L:Loc) (a:Act) (w:World):Prop where
 S:Sim (RO P) M L w
 T:LRel M L w t a.tmps.toList
 E:Evo M0 L0 w0 M L w
 D:VW ro w0.heap.size M L w a.defers
section
variable {P:Program} {M0:List Blk} {L0:Loc} {w0:World} {ro:Option Nat} {M M':List Blk} {t t':List PV} {L L':Loc} {a:Act} {w w':World}
theorem Marks.evo {n:Nat} {ds:List Deferred} (h:Marks n M L w ds) (E:Evo M L w M' L' w'):Marks n M' L' w' ds:=by
 induction ds with
 | nil => exact trivial
 | cons d ds ih =>
  obtain ⟨⟨D,rfl,h1,h2,h3,h4⟩,h5⟩:=h
  obtain ⟨k1,k2⟩:=E.frame D (Array.getElem?_eq_some_iff.1 h2).1 h3
  exact ⟨⟨D,rfl,h1,k1.trans h2,k2,h4⟩,ih h5⟩
theorem VW.evo {n:Nat} {ds:List Deferred} (h:VW ro n M L w ds) (E:Evo M L w M' L' w'):VW ro n M' L' w' ds:=by
 cases ro with
 | none => exact Marks.evo h E
 | some l => exact h
theorem Act.put_defers (a:Act) (dst:Option Tmp) (v:Value):(a.put dst v).defers = a.defers:=by cases dst <;> rfl
theorem LRel.put (h:LRel M L w t a.tmps.toList) (dst:Option Nat) {v:PV} {c:Value} (hv:VRel M L w v c):LRel M L w (put t dst v) (a.put dst c).tmps.toList:=by
 cases dst with
 | none => exact h
 | some d => simp only [Nac.put,Act.put,Array.toList_setIfInBounds];exact h.set d hv
theorem St.step (s:St P M0 L0 w0 ro M t L a w) (E:Evo M L w M' L' w') (S:Sim (RO P) M' L' w') {v:PV} {c:Value} (hv:VRel M' L' w' v c) (dst:Option Nat) :
  St P M0 L0 w0 ro M' (put t dst v) L' (a.put dst c) w' :=
 ⟨S,(s.T.evo E).put dst hv,s.E.trans E,by rw [Act.put_defers];exact s.D.evo E⟩
theorem St.fit (s:St P M0 L0 w0 ro M t L a w):Fit M L w (ev t) a.eval:=by
 intro x y h
 unfold okX at h
 split at h
 ·rename_i n m
  simp only [beq_iff_eq] at h;subst h
  simp only [ev,Act.eval,Array.getD_eq_getD_getElem?]
  cases hx:t[n]? with
  | some x =>
   obtain ⟨v,h1,h2⟩:=s.T.get hx
   rw [List.getD_eq_getElem?_getD,hx]
   rw [Array.getElem?_toList] at h1
   rw [h1];exact h2
  | none => rw [List.getD_eq_getElem?_getD,hx];exact .top _
 ·obtain ⟨rfl,h2⟩:=Qjh h
  exact .s _ h2
 ·simp only [beq_iff_eq] at h;subst h
  exact .fn _ _ _ _ _ .nil .nil
 ·rename_i g cs g'
  simp only [Bool.and_eq_true,beq_iff_eq] at h
  obtain ⟨rfl,h⟩:=h
  split at h
  ·rename_i ds hg
   obtain ⟨rfl,h2⟩:=JC h
   obtain ⟨⟨el,h3⟩,h4⟩:=s.S.env g cs hg
   refine .fp _ g 0 cs ?_ (Array.getElem?_eq_some_iff.1 h3).1 h4 ?_
   ·clear h h3 hg
    induction cs with
    | nil => exact .nil
    | cons v vs ih => exact .cons _ _ _ _ (.s _ (h2 v (by simp))) (ih fun u hu => h2 u (by simp [hu]))
   ·intro m v hv
    simp [World.cell?,h3,hv]
  ·cases h
 ·cases h
theorem Ys (ro:Option Nat) (n:Nat):(FR ro).depth.isSome = true → 1 ≤ n:=by intro h;cases h
theorem YC {n:Nat} {f:FuncId} {args:Array Value} {R:Ending → World → Prop} (h:Calls P f args w R):CallsIn (FR ro) n P f args w R :=
 show CallsIn Fence.wide n P f args w R from callsIn_wide.2 h
theorem Je {ρ:Operand → Value} {o:Oper} {k:Call} (ho:o.op = .call k):execOp ρ o = (do let d ← resolve ρ k o.type;invoke d.target d.args):=by
 simp [execOp,ho]
theorem Qbm {p:PV} (h:(view1 [] p).low 0):view1 M p = view1 [] p:=by
 cases p
 case os i ver off len => exfalso;simp [view1,PV.low] at h
 case s v => unfold view1;split <;> first|rfl|(rename_i e;cases e)
 all_goals rfl
theorem Qb9 {p:PV} (h:(view [] p).low 0):view M p = view [] p:=by
 cases p
 case agg cs =>
  simp only [view,PV.low] at h ⊢
  congr 1
  refine List.map_congr_left fun c hc => Qbm ?_
  rw [QL] at h
  exact h _ (List.mem_map.2 ⟨c,hc,rfl⟩)
 all_goals exact Qbm (M:=M) (by simpa only [view] using h)
theorem Qh2 (s:St P M0 L0 w0 ro M t L a w) {o:Oper} {c:COp} (ok:ZH P c o.op = true) {v:PV} (h:Res (Conc P) c M (ev t) v M') {n:Nat} {next:Act → World → Prop} {Q:Exit → Act → World → Prop}
  (hk:∀ L' cv w',Evo M L w M' L' w' → Sim (RO P) M' L' w' → VRel M' L' w' v cv → next (a.put o.dst cv) w'):o.uponIn (FR ro) n P a next Q ((execOp a.eval o).run P w):=by
 unfold ZH at ok
 split at ok
 ·rename_i loud f args k ho
  rw [Je ho]
  split at ok
  ·rename_i x hx
   simp only [Bool.and_eq_true] at ok
   obtain ⟨ok1,ok2⟩:=ok
   have hargs0:=Fit.list s.fit ok2
   have hargs:LRel M L w (args.map (argV M (ev t))) (k.args.map a.eval).toList:=by
    rw [Array.toList_map]
    generalize k.args.toList.map a.eval = ys at hargs0
    clear hk h ok1 ok2
    induction args generalizing ys with
    | nil => cases hargs0;exact .nil
    | cons x xs ih => cases hargs0 with | cons _ v _ vs h hs => exact .cons _ _ _ _ (by cases x <;> first | exact h | exact Vm s.S h) (ih _ hs)
   have core:∀ {g:FuncId} {as:List PV} {cargs:Array Value},Conc P (.fn g) as M v M' → LRel M L w as cargs.toList → o.uponIn (FR ro) n P a next Q ((callFunc g cargs).run P w):=by
    intro g as cargs hc hl
    rcases hc L w cargs s.S hl with ⟨h1,h2⟩|⟨_,cv,w',h1,h2⟩
    ·rw [h1,Oper.uponIn_enter]
     refine ⟨Ys ro n,YC (Calls.mono h2 fun e w' he => ?_)⟩
     cases e with
     | returned cv => obtain ⟨L',g1,g2,g3⟩:=he;exact hk L' cv w' g1 g2 g3
     | panicked => exact he.elim
     | outgrown => exact he.elim
    ·rw [h1,Oper.uponIn_value]
     obtain ⟨L',g1,g2,g3⟩:=h2;exact hk L' cv w' g1 g2 g3
   have hres:∀ {fv:Value},a.eval x = fv → (Sem.run P (do let d ← resolve a.eval k o.type;invoke d.target d.args) w) = (Sem.run P (do let d ← Deferred.ofValue fv (k.args.map a.eval);invoke d.target d.args) w):=by
    intro fv hf
    simp only [resolve,hx,hf]
   have h2:=h.2
   cases f with
   | inr g =>
    simp only at ok1 h2
    have hf:=s.fit _ _ ok1
    simp only [ev] at hf
    generalize hfv:a.eval x = fv at hf
    cases hf with
    | fn _ _ _ va vc h1 h3 =>
     obtain ⟨va⟩:=va;obtain ⟨vc⟩:=vc
     cases h1;cases h3
     rw [hres hfv]
     simp only [Deferred.ofValue,pure_bind,invoke]
     refine core h2 ?_
     simpa using hargs
   | inl y =>
    simp only at ok1 h2
    have hf:=s.fit _ _ ok1
    generalize hfv:a.eval x = fv at hf
    split at h2
    ·rename_i g first cap e
     rw [e] at hf
     cases hf with
     | fn _ _ _ va vc h1 h3 =>
      rw [hres hfv]
      simp only [Deferred.ofValue,pure_bind,invoke]
      refine core h2 ?_
      simp only [Array.toList_append]
      exact (h1.append hargs).append h3
    ·rename_i i e
     rw [e] at hf
     cases hf with
     | yl _ st pd ts ps x' y' b o' hi hL =>
      rw [hres hfv]
      simp only [Deferred.ofValue,pure_bind,invoke]
      obtain ⟨fn,tmps,x1,y1,g1,g2⟩:=h2 L w (k.args.map a.eval) s.S hargs b o' hL
      rw [show (#[] ++ Array.map a.eval k.args) = Array.map a.eval k.args from by simp,g1,Oper.uponIn_round]
      refine ⟨Ys ro n,?_⟩
      show RoundIn Fence.wide (n - 1) P b fn tmps x1 y1 w _
      refine ⟨g2.1,fun c cs hr => ?_⟩
      obtain ⟨e,w',h3,h4⟩:=g2.2 c cs (room_wide _)
      refine ⟨e,w',?_,h4⟩
      cases e with
      | returned cv => obtain ⟨L',g1,g2,g3⟩:=h3;exact hk L' cv w' g1 g2 g3
      | panicked => exact h3.elim
      | outgrown => exact h3.elim
    ·exact h2.elim
  ·cases ok
 ·rename_i y args k ho
  rw [Je ho]
  obtain ⟨i,b,hrf,rfl,hlow,hcall⟩:=h
  split at ok
  ·rename_i x hx
   simp only [Bool.and_eq_true] at ok
   obtain ⟨ok1,ok2⟩:=ok
   have hargs0:=Fit.list s.fit ok2
   have hargs:LRel M L w (args.map (argV [] (ev t))) (k.args.map a.eval).toList:=by
    rw [Array.toList_map]
    generalize k.args.toList.map a.eval = ys at hargs0
    clear hk hcall ok1 ok2
    induction args generalizing ys with
    | nil => cases hargs0;exact .nil
    | cons x xs ih =>
     simp only [List.map_cons,lowL] at hlow
     cases hargs0 with|cons _ v _ vs h hs =>
     refine .cons _ _ _ _ ?_ (ih hlow.2 _ hs)
     cases x with
     | k v => exact h
     | t n => show VRel M L w (view [] (ev t (.t n))) v;rw [← Qb9 (M:=M) hlow.1];exact Vm s.S h
     | f g => exact Vm s.S h
     | g g cs => exact Vm s.S h
   have hres:∀ {fv:Value},a.eval x = fv → (Sem.run P (do let d ← resolve a.eval k o.type;invoke d.target d.args) w) = (Sem.run P (do let d ← Deferred.ofValue fv (k.args.map a.eval);invoke d.target d.args) w):=by
    intro fv hf
    simp only [resolve,hx,hf]
   have h2:=hcall M rfl rfl
   unfold Qcn at h2
   have hf:=s.fit _ _ ok1
   generalize hfv:a.eval x = fv at hf
   split at h2
   ·rename_i g first cap e
    rw [e] at hf
    cases hf with
    | fn _ _ _ va vc h1 h3 =>
     rw [hres hfv]
     simp only [Deferred.ofValue,pure_bind,invoke]
     have hl:LRel M L w (first ++ args.map (argV [] (ev t)) ++ cap) (va ++ k.args.map a.eval ++ vc).toList:=by
      simp only [Array.toList_append]
      exact (h1.append hargs).append h3
     rcases h2 L w _ s.S hl with ⟨h1,h2⟩|⟨_,cv,w',h1,h2⟩
     ·rw [h1,Oper.uponIn_enter]
      refine ⟨Ys ro n,YC (Calls.mono h2 fun e w' he => ?_)⟩
      cases e with
      | returned cv => obtain ⟨L',g1,g2,g3⟩:=he;exact hk L' cv w' g1 g2 g3
      | panicked => exact he.elim
      | outgrown => exact he.elim
     ·rw [h1,Oper.uponIn_value]
      obtain ⟨L',g1,g2,g3⟩:=h2;exact hk L' cv w' g1 g2 g3
   ·exact h2.elim
  ·cases ok
 ·rename_i f args k ho
  rw [Je ho]
  obtain ⟨rfl,hlow,hcall⟩:=h
  split at ok
  ·rename_i x hx
   simp only [Bool.and_eq_true] at ok
   obtain ⟨ok1,ok2⟩:=ok
   have hargs0:=Fit.list s.fit ok2
   have hargs:LRel M' L w (args.map (argV [] (ev t))) (k.args.map a.eval).toList:=by
    rw [Array.toList_map]
    generalize k.args.toList.map a.eval = ys at hargs0
    clear hk hcall ok1 ok2
    induction args generalizing ys with
    | nil => cases hargs0;exact .nil
    | cons x xs ih =>
     simp only [List.map_cons,lowL] at hlow
     cases hargs0 with|cons _ v _ vs h hs =>
     refine .cons _ _ _ _ ?_ (ih hlow.2 _ hs)
     cases x with
     | k v => exact h
     | t n => show VRel M' L w (view [] (ev t (.t n))) v;rw [← Qb9 (M:=M') hlow.1];exact Vm s.S h
     | f g => exact Vm s.S h
     | g g cs => exact Vm s.S h
   have core:∀ {g:FuncId} {as:List PV} {cargs:Array Value},Conc P (.fn g) as M' v M' → LRel M' L w as cargs.toList → o.uponIn (FR ro) n P a next Q ((callFunc g cargs).run P w):=by
    intro g as cargs hc hl
    rcases hc L w cargs s.S hl with ⟨h1,h2⟩|⟨_,cv,w',h1,h2⟩
    ·rw [h1,Oper.uponIn_enter]
     refine ⟨Ys ro n,YC (Calls.mono h2 fun e w' he => ?_)⟩
     cases e with
     | returned cv => obtain ⟨L',g1,g2,g3⟩:=he;exact hk L' cv w' g1 g2 g3
     | panicked => exact he.elim
     | outgrown => exact he.elim
    ·rw [h1,Oper.uponIn_value]
     obtain ⟨L',g1,g2,g3⟩:=h2;exact hk L' cv w' g1 g2 g3
   have hres:∀ {fv:Value},a.eval x = fv → (Sem.run P (do let d ← resolve a.eval k o.type;invoke d.target d.args) w) = (Sem.run P (do let d ← Deferred.ofValue fv (k.args.map a.eval);invoke d.target d.args) w):=by
    intro fv hf
    simp only [resolve,hx,hf]
   have h2:=hcall M'
   cases f with
   | inr g =>
    simp only at ok1 h2
    have hf:=s.fit _ _ ok1
    simp only [ev] at hf
    generalize hfv:a.eval x = fv at hf
    cases hf with
    | fn _ _ _ va vc h1 h3 =>
     obtain ⟨va⟩:=va;obtain ⟨vc⟩:=vc
     cases h1;cases h3
     rw [hres hfv]
     simp only [Deferred.ofValue,pure_bind,invoke]
     refine core h2 ?_
     simpa using hargs
   | inl y =>
    simp only at ok1 h2
    have hf:=s.fit _ _ ok1
    generalize hfv:a.eval x = fv at hf
    split at h2
    ·rename_i g first cap e
     rw [e] at hf
     cases hf with
     | fn _ _ _ va vc h1 h3 =>
      rw [hres hfv]
      simp only [Deferred.ofValue,pure_bind,invoke]
      refine core h2.2.2 ?_
      simp only [Array.toList_append]
      exact (h1.append hargs).append h3
    ·exact h2.elim
  ·cases ok
 ·cases ok
theorem Qfe {i:Nat} (S:Sim (RO P) M L w) (h:freeze M i = some M'):Evo M L w M' L w ∧ Sim (RO P) M' L w:=by
 unfold freeze at h
 split at h
 ·rename_i wr k v xs hi
  cases h
  refine change S hi L (fun _ _ => rfl) ⟨rfl,rfl,rfl,(by first|exact Nat.le_refl _|exact Nat.le_succ _|simp)⟩ (.inr rfl) (Nat.le_refl _) (fun _ _ _ => rfl) (fun p hp => .inl ⟨p,hp,rfl⟩)
   ⟨Nat.le_refl _,fun _ => ⟨rfl,rfl,rfl,fun b o c el _ hc => ⟨c,hc,rfl⟩⟩⟩ fun E => ?_
  obtain ⟨h0,h1,h2⟩:=S.mem i _ hi
  exact ⟨h0,fun b o hb => by obtain ⟨c,el,vs,g1,g2,g3⟩:=h1 b o hb;exact ⟨c,el,vs,g1,g2.evo E,g3⟩,h2⟩
 ·cases h
theorem ZP (ps:List PV):∀ {M M':List Blk},Sim (RO P) M L w → Ql M ps = some M' → Evo M L w M' L w ∧ Sim (RO P) M' L w:=by
 induction ps with
 | nil => intro M M' S h;cases h;exact ⟨Evo.refl _ _ _,S⟩
 | cons p ps ih =>
  intro M M' S h
  cases p
  case os i ver off len =>
   simp only [Ql] at h
   cases hf:freeze M i with
   | none => rw [hf] at h;cases h
   | some M1 =>
    rw [hf] at h
    obtain ⟨E1,S1⟩:=Qfe S hf
    obtain ⟨E2,S2⟩:=ih S1 h
    exact ⟨E1.trans E2,S2⟩
  all_goals exact ih S h
theorem Qlx {c:COp} {o:Op} (h:okOp P c o = true ∨ ZH P c o = true ∨ okFz P c o = true):∀ k,o ≠ .defer k:=by
 rintro k rfl
 rcases h with h|h|h
 ·simp [okOp] at h
 ·simp [ZH] at h
 ·unfold okFz at h
  split at h
  ·simp [okOp] at h
  ·cases h
theorem JI (s:St P M0 L0 w0 ro M t L a w) {o:Oper} {c:COp} (ok:okOp P c o.op = true ∨ ZH P c o.op = true ∨ okFz P c o.op = true) {v:PV} (h:Res (Conc P) c M (ev t) v M') {n:Nat} {next:Act → World → Prop} {Q:Exit → Act → World → Prop}
  (hk:∀ L' cv w',Evo M L w M' L' w' → Sim (RO P) M' L' w' → VRel M' L' w' v cv → next (a.put o.dst cv) w'):o.wpIn (FR ro) n P a w next Q:=by
 refine ⟨fun f _ => trivial,?_⟩
 rw [Oper.semAt_eq _ _ _ (Qlx ok)]
 rcases ok with ok|ok|ok
 ·have hr:res M (ev t) c = some (v,M'):=by
   cases c
   case call l f args => unfold okOp at ok;split at ok <;> first|(simp at ok;done)|(simp [YK] at ok;done)|skip
   case fz c => unfold okOp at ok;split at ok <;> first|(simp at ok;done)|(simp [YK] at ok;done)|skip
   case fcall f args => unfold okOp at ok;split at ok <;> first|(simp at ok;done)|(simp [YK] at ok;done)|skip
   case pcall f args => unfold okOp at ok;split at ok <;> first|(simp at ok;done)|(simp [YK] at ok;done)|skip
   all_goals exact h
  obtain ⟨cv,w',L',h1,E,S,hv⟩:=QgQ s.S s.fit (fun _ => rfl) ok hr
  rcases h1 with h1|⟨h1,rfl⟩
  ·rw [h1];exact hk L' cv w' E S hv
  ·rw [h1];exact hk L' _ w' E S hv
 ·exact Qh2 s ok h hk
 ·unfold okFz at ok
  split at ok
  ·rename_i c
   obtain ⟨v0,M1,hr,hf,rfl⟩:=h
   obtain ⟨cv,w',L',h1,E,S,hv⟩:=QgQ s.S s.fit (fun _ => rfl) ok hr
   obtain ⟨E2,S2⟩:=ZP _ S hf
   rcases h1 with h1|⟨h1,rfl⟩
   ·rw [h1];exact hk L' cv w' (E.trans E2) S2 (Vm S2 (hv.evo E2))
   ·rw [h1];exact hk L' _ w' (E.trans E2) S2 (Vm S2 (hv.evo E2))
  ·cases ok
theorem Qda {cs:List COper} {ops:Array Oper} (ok:YM P cs ops = true) {n:Nat} {Q:Exit → Act → World → Prop}:∀ (is:List Nat) {M M':List Blk} {t t':List PV} {L:Loc} {a:Act} {w:World},
  St P M0 L0 w0 ro M t L a w → runL (Conc P) cs is M t M' t' → (∀ L' a' w',St P M0 L0 w0 ro M' t' L' a' w' → Q .normal a' w') → wpOpsIn (FR ro) n P ops Q is a w:=by
 intro is
 induction is with
 | nil =>
  intro M M' t t' L a w s h hq
  obtain ⟨rfl,rfl⟩:=h
  exact hq L a w s
 | cons i is ih =>
  intro M M' t t' L a w s h hq
  obtain ⟨c,M1,t1,hc,h1,h2⟩:=h
  simp only [YM,Bool.and_eq_true,List.all_eq_true,List.mem_range,beq_iff_eq] at ok
  have ok2:=ok.2 i (List.getElem?_eq_some_iff.1 hc).1
  rw [hc] at ok2
  cases ho:ops[i]? with
  | none => rw [ho] at ok2;cases ok2
  | some o =>
   rw [ho] at ok2
   simp only [QiS,Bool.and_eq_true,Bool.or_eq_true,beq_iff_eq] at ok2
   obtain ⟨⟨hdst,hop⟩,hg⟩:=ok2
   simp only [wpOpsIn,ho]
   have ok':YM P cs ops = true:=by simp only [YM,Bool.and_eq_true,List.all_eq_true,List.mem_range,beq_iff_eq];exact ok
   have run:∀ v,Res (Conc P) c.op M (ev t) v M1 → t1 = put t c.dst v → o.wpIn (FR ro) n P a w (wpOpsIn (FR ro) n P ops Q is) Q:=by
    intro v hv ht
    have hop:okOp P c.op o.op = true ∨ ZH P c.op o.op = true ∨ okFz P c.op o.op = true:=by
     rcases hop with ((hop|hop)|hop)|hop
     ·exfalso
      generalize c.op = cop at hv hop
      cases cop <;> first|(cases hop;done)|(cases hv)
     ·exact .inl hop
     ·exact .inr (.inl hop)
     ·exact .inr (.inr hop)
    refine JI s hop hv fun L' cv w' E S hv' => ?_
    have s':=s.step E S hv' c.dst
    rw [← ht,← hdst] at s'
    exact ih s' h2 hq
   cases hcg:c.guard with
   | none =>
    rw [hcg] at hg
    cases hog:o.guard with
    | some p => rw [hog] at hg;cases hg
    | none =>
     rw [QH,hcg] at h1
     obtain ⟨v,h3,h4⟩:=h1
     rw [if_pos (by simp [Region.wanted,hog])]
     exact run v h3 h4
   | some p =>
    obtain ⟨g,want⟩:=p
    rw [hcg] at hg
    cases hog:o.guard with
    | none => rw [hog] at hg;cases hg
    | some q =>
     obtain ⟨j,want'⟩:=q
     rw [hog] at hg
     simp only [Bool.and_eq_true,beq_iff_eq] at hg
     obtain ⟨rfl,hj⟩:=hg
     rw [QH,hcg] at h1
     obtain ⟨b,h0,h1⟩:=h1
     have hy:(yielded ops a.tmps j == some want) = b:=by
      rw [List.getD_eq_getElem?_getD] at h0
      cases hx:t[g]? with
      | none => rw [hx] at h0;cases h0
      | some x =>
       rw [hx] at h0
       simp only [Option.getD_some] at h0
       obtain ⟨u,g1,g2⟩:=s.T.get hx
       rw [Array.getElem?_toList] at g1
       unfold wanted at h0
       split at h0
       ·have:=g2.s_inv
        subst this
        cases h0
        simp [yielded,hj,g1]
       ·have:=g2.s_inv
        subst this
        cases h0
        simp [yielded,hj,g1]
       ·cases h0
     by_cases hb:b = true
     ·rw [if_pos hb] at h1
      obtain ⟨v,h3,h4⟩:=h1
      rw [if_pos (by simp only [Region.wanted,hog];exact hy.trans hb)]
      exact run v h3 h4
     ·rw [if_neg hb] at h1
      obtain ⟨rfl,h4⟩:=h1
      rw [if_neg (by simp only [Region.wanted,hog];rw [hy];exact hb)]
      refine ⟨fun _ _ => trivial,?_⟩
      have s':=s.step (Evo.refl _ _ _) s.S (v:=unit) (c:=undef) (.s undef rfl) c.dst
      rw [← h4,← hdst] at s'
      exact ih s' h2 hq
theorem St.drawn (s:St P M0 L0 w0 ro M t L a w):St P M0 L0 w0 ro M t L a { w with drawn:=w.drawn + 1 }:=by
 have E:Evo M L w M L { w with drawn:=w.drawn + 1 }:=Evo.heap ⟨rfl,rfl,rfl,(by first|exact Nat.le_refl _|exact Nat.le_succ _|simp)⟩ rfl
 exact ⟨s.S.heap ⟨rfl,rfl,rfl,(by first|exact Nat.le_refl _|exact Nat.le_succ _|simp)⟩ rfl,s.T.evo E,s.E.trans E,s.D.evo E⟩
theorem QeX (hmix:P.follows .mixedOrders = true) {cs:List COper} {id:Nat} {ops:Array Oper} {draw:Bool} (ok:Qp P (.region cs) (.region id ops draw) = true) {n:Nat}
  {K:List Blk → List PV → Prop} {Q:Exit → Act → World → Prop} (s:St P M0 L0 w0 ro M t L a w) (h:wpOps (Conc P) cs K M t)
  (hq:∀ M' t' L' a' w',K M' t' → St P M0 L0 w0 ro M' t' L' a' w' → Q .normal a' w'):(Code.region id ops draw).wpIn (FR ro) n P Q a w:=by
 simp only [Qp,Bool.and_eq_true,Bool.or_eq_true,Bool.not_eq_true'] at ok
 obtain ⟨ok1,ok2⟩:=ok
 have hn:cs.length = ops.size:=by simp only [YM,Bool.and_eq_true,beq_iff_eq] at ok1;exact ok1.1
 obtain ⟨M',t',h1,h2⟩:=Qjz [] cs h
 rw [List.nil_append,List.length_nil,← List.range_eq_range'] at h1
 cases draw with
 | false =>
  refine wpIn_region ?_
  rw [← hn]
  exact Qda ok1 _ s h1 fun L' a' w' => hq M' t' L' a' w' h2
 | true =>
  refine wpIn_region_draw fun tn => ?_
  have ok3:QaZ cs ops = true:=by simpa using ok2
  simp only [Region.schedule,hmix,Bool.true_or,if_true]
  exact Qda ok1 _ s.drawn (Qd2 hn ok3 tn h1) fun L' a' w' => hq M' t' L' a' w' h2
theorem Qg7 {ρ:CX → PV} {c:COp} {b:Bool} {k:Nat} {xs:List PV} (h:Vx ρ c = some (b,k,xs)):res M ρ c = some (if b = true then .op M.length 0 0 0 else .os M.length 0 0 xs.length,M ++ [.row true k 0 xs]):=by
 cases c <;> first|(cases h;done)|skip
 case alloc g z =>
  simp only [Vx,Option.map_eq_some_iff] at h
  obtain ⟨e,h1,h2⟩:=h
  cases h2
  simp only [res,h1];rfl
 case box own k x =>
  simp only [Vx] at h
  split at h
  ·rename_i hc
   obtain ⟨rfl,h1⟩:=hc
   cases h
   simp only [res,if_pos h1];rfl
  ·cases h
 case bsl own k x =>
  simp only [Vx] at h
  split at h
  ·rename_i hc
   obtain ⟨rfl,h1⟩:=hc
   cases h
   simp only [res,if_pos h1];simp
  ·cases h
 case onil k => cases h;rfl
theorem Qia {ρ:CX → PV} {c:COp} {b:Bool} {k:Nat} {xs:List PV} (h:Vx ρ c = some (b,k,xs)) {n:Nat} (hρ:∀ x ∈ c.opnds,(ρ x).low n):lowL n xs:=by
 cases c <;> first|(cases h;done)|skip
 case alloc g z =>
  simp only [Vx,Option.map_eq_some_iff] at h
  obtain ⟨e,h1,h2⟩:=h
  cases h2
  rw [QL]
  intro x hx
  simp only [List.mem_singleton] at hx
  subst hx
  have hz:∀ y ∈ z.map PV.s,y.low n:=by intro y hy;obtain ⟨v,_,rfl⟩:=List.mem_map.1 hy;simp [PV.low]
  unfold mkPV at h1
  split at h1
  ·cases h1;rename_i hz2;exact hz _ (by rw [hz2];simp)
  ·cases h1
  ·split at h1
   ·cases h1;rw [PV.low,QL];exact hz
   ·cases h1
 case box own k x =>
  simp only [Vx] at h
  split at h
  ·cases h;rw [QL];intro y hy;simp only [List.mem_singleton] at hy;subst hy;exact hρ _ (by simp [COp.opnds])
  ·cases h
 case bsl own k x =>
  simp only [Vx] at h
  split at h
  ·cases h;rw [QL];intro y hy;obtain ⟨z,hz,rfl⟩:=List.mem_map.1 hy;exact hρ _ hz
  ·cases h
 case onil k => cases h;simp [lowL]
theorem Qpf (T:LRel M L w t a.tmps.toList) (x:CX):(ev t x).low M.length:=by
 cases x with
 | t n =>
  simp only [ev,List.getD_eq_getElem?_getD]
  cases hx:t[n]? with
  | none => simp [PV.low]
  | some y => have:=T.low;rw [QL] at this;exact this y (List.mem_of_getElem? hx)
 | k v => simp [ev,PV.low]
 | f g => simp [ev,PV.low,lowL]
 | g g cs => simp only [ev,PV.low];exact VB _ _ fun _ => by simp [PV.low]
theorem QcB {cs:List (COper × Option Nat)} {pairs:List (Nat × Nat)} {φ:Nat → Foot} {ops:Array Oper} (ok:Yt P cs pairs ops = true) {n:Nat} {Q:Exit → Act → World → Prop}:∀ (is:List Nat) {M M':List Blk} {t t':List PV} {L:Loc} {a:Act} {w:World},
  St P M0 L0 w0 ro M t L a w → runG (stepD (Conc P) cs φ) is (M,t) (M',t') → (∀ L' a' w',St P M0 L0 w0 ro M' t' L' a' w' → Q .normal a' w') → wpOpsIn (FR ro) n P ops Q is a w:=by
 intro is
 induction is with
 | nil =>
  intro M M' t t' L a w s h hq
  cases h
  exact hq L a w s
 | cons i is ih =>
  intro M M' t t' L a w s h hq
  obtain ⟨⟨M1,t1⟩,⟨c,hc,_,v,h1,h2,h3,_⟩,h4⟩:=h
  simp only at h1 h2 h3
  have ok0:=ok
  simp only [Yt,Bool.and_eq_true,List.all_eq_true,List.mem_range,beq_iff_eq] at ok0
  have ok2:=ok0.1.2 i (List.getElem?_eq_some_iff.1 hc).1
  rw [hc] at ok2
  cases ho:ops[i]? with
  | none => rw [ho] at ok2;cases ok2
  | some o =>
   rw [ho] at ok2
   simp only [QgC,Bool.and_eq_true,beq_iff_eq] at ok2
   obtain ⟨⟨hdst,hg⟩,hop⟩:=ok2
   have hog:o.guard = none:=by simpa using hg
   simp only [wpOpsIn,ho]
   rw [if_pos (by simp [Region.wanted,hog])]
   have fin:∀ L' cv w',Evo M L w M1 L' w' → Sim (RO P) M1 L' w' → VRel M1 L' w' v cv → wpOpsIn (FR ro) n P ops Q is (a.put o.dst cv) w':=by
    intro L' cv w' E S hv'
    have s':=s.step E S hv' c.1.dst
    rw [← h3,← hdst] at s'
    exact ih s' h4 hq
   obtain ⟨c,p⟩:=c
   cases p with
   | none =>
    simp only [Bool.or_eq_true] at hop
    exact JI s (or_assoc.1 hop) h1 fin
   | some r =>
    simp only [Bool.and_eq_true] at hop
    obtain ⟨b,k,xs,g1,g2,rfl,rfl⟩:=h1
    have hr:=Qg7 (M:=M) g1
    have hrc:Res (Conc P) c.op M (ev t) (if b = true then .op M.length 0 0 0 else .os M.length 0 0 xs.length) (M ++ [.row true k 0 xs]):=by
     have:∀ l f ys,c.op ≠ .call l f ys:=by intro l f ys e;rw [e] at g1;cases g1
     have hnz:∀ c',c.op ≠ .fz c':=by intro c' e;rw [e] at g1;cases g1
     have hnp:∀ f ys,c.op ≠ .pcall f ys:=by intro f ys e;rw [e] at g1;cases g1
     have hnf:∀ f ys,c.op ≠ .fcall f ys:=by intro f ys e;rw [e] at g1;cases g1
     generalize c.op = cop at hr this hnz hnp hnf
     cases cop <;> first|exact hr|exact absurd rfl (this _ _ _)|exact absurd rfl (hnz _)|exact absurd rfl (hnp _ _)|exact absurd rfl (hnf _ _)
    refine JI s (.inl hop.1) hrc fun L' cv w' E S hv' => ?_
    obtain ⟨E2,S2,hV⟩:=Qgf E S rfl s.S.low (Qia g1 fun x _ => Qpf s.T x) g2
    refine fin _ cv w' E2 S2 ?_
    have hlt:M.length - r < M.length:=(List.getElem?_eq_some_iff.1 g2).1
    have hi1:(M ++ [Blk.row true k 0 xs])[M.length]? = some (.row true k 0 xs):=by simp
    have hi2:(M.set (M.length - r) (.row true k 1 xs))[M.length - r]? = some (.row true k 1 xs):=List.getElem?_set_self hlt
    cases b with
    | true =>
     simp only [if_true] at hv' ⊢
     obtain ⟨bb,oo,q1,q2,rfl⟩:=hv'.op_live hi1
     exact .op _ 1 0 0 true k xs bb oo hi2 q2 ((Loc.upd_self _ _ _).trans q1)
    | false =>
     simp only [Bool.false_eq_true,if_false] at hv' ⊢
     obtain ⟨ad,cap,rfl,q1,q2,q3⟩:=hv'.os_live hi1
     exact .os _ 1 0 xs.length true k xs ad cap hi2 q1 q2 fun hne => by
      obtain ⟨bb,oo,cc,el,u1,u2⟩:=q3 hne
      exact ⟨bb,oo,cc,el,(Loc.upd_self _ _ _).trans u1,u2⟩
theorem QdJ (hmix:P.follows .mixedOrders = true) {cs:List (COper × Option Nat)} {pairs:List (Nat × Nat)} {id:Nat} {ops:Array Oper} {draw:Bool} (ok:Yt P cs pairs ops = true) {n:Nat}
  {K:List Blk → List PV → Prop} {Q:Exit → Act → World → Prop} (s:St P M0 L0 w0 ro M t L a w) (h:wpD (Conc P) cs [] (fun tr M t => V3 pairs tr ∧ K M t) M t)
  (hq:∀ M' t' L' a' w',K M' t' → St P M0 L0 w0 ro M' t' L' a' w' → Q .normal a' w'):(Code.region id ops draw).wpIn (FR ro) n P Q a w:=by
 have ok0:=ok
 simp only [Yt,Bool.and_eq_true,beq_iff_eq] at ok0
 obtain ⟨⟨hn,_⟩,hord⟩:=ok0
 obtain ⟨M',t',fps,h1,⟨h2,h3⟩,h4⟩:=QnB cs [] h
 have hrun:=h4 (fun i => fps.getD i none) (fun i hi => by simp)
 simp only [List.nil_append,List.length_nil,← List.range_eq_range'] at hrun
 have hφ:∀ p ∈ pairs,Za (fps.getD p.1 none) (fps.getD p.2 none):=by rw [List.nil_append] at h2;exact h2
 cases draw with
 | false =>
  refine wpIn_region ?_
  rw [← hn]
  exact QcB ok _ s hrun fun L' a' w' => hq M' t' L' a' w' h3
 | true =>
  refine wpIn_region_draw fun tn => ?_
  simp only [Region.schedule,hmix,Bool.true_or,if_true]
  rw [hn] at hrun
  exact QcB ok _ s.drawn (Jp (S:=stepD (Conc P) cs (fun i => fps.getD i none)) hord (fun i j s s1 s2 hij hj hi => swapD hφ hij hj hi) tn hrun) fun L' a' w' => hq M' t' L' a' w' h3
end
end Go.Nac
namespace Go.Nac
variable [Env]
section
variable {P:Program} {M0:List Blk} {L0:Loc} {w0:World} {ro:Option Nat} {M M':List Blk} {t t':List PV} {L L':Loc} {a:Act} {w w':World}
def CP (P:Program) (M0:List Blk) (L0:Loc) (w0:World) (ro:Option Nat) (Q:Post):Exit → Act → World → Prop:=fun e a w => ∃ ex M t L,exRel ex e ∧ Q ex M t ∧ St P M0 L0 w0 ro M t L a w
theorem Qoa {k e m:Nat} {xs:List PV} {x:PV} (hk:∀ x ∈ xs,x.cells.length = k) (hx:xs[e]? = some x) (hm:m < k):(xs.flatMap PV.cells)[e * k + m]? = x.cells[m]?:=by
 have h:=Vu hk e
 have h2:(xs.drop e) = x :: xs.drop (e + 1):=by
  obtain ⟨h3,h4⟩:=List.getElem?_eq_some_iff.1 hx
  rw [List.drop_eq_getElem_cons h3,h4]
 rw [← List.getElem?_drop,h,h2,List.flatMap_cons,List.getElem?_append_left (by rw [hk x (List.mem_of_getElem? hx)];exact hm)]
theorem QcR {vs:List Value} {i:Nat} {v:Value} (h:vs[i]? = some v):Vi vs i [v] = vs:=by
 obtain ⟨h3,h4⟩:=List.getElem?_eq_some_iff.1 h
 simp only [Vi,List.length_singleton]
 subst h4
 rw [List.append_assoc,List.singleton_append,← List.drop_eq_getElem_cons h3,List.take_append_drop]
theorem Qhe {p:PV} {j k:Nat} (S:Sim (RO P) M L w) (h:Jy M p j k = some M'):∃ L',Evo M L w M' L' w ∧ Sim (RO P) M' L' w:=by
 unfold Jy at h
 split at h
 case h_2 => cases h
 rename_i a ver e j0
 split at h
 case h_2 => cases h
 rename_i wr0 kk0 v0 xs0 hi0
 split at h
 case h_2 => cases h
 rename_i hc
 cases hp:Q9 M a ver e (j0 + j) [.os M.length 0 0 0] with
 | none => rw [hp] at h;cases h
 | some M1 =>
  rw [hp] at h
  cases h
  obtain ⟨k',xs,x,y,hi,hx,hle,_,rfl,hy⟩:=Qao hp
  have hy:=hy (by simp)
  rw [hi] at hi0;cases hi0
  rw [hx] at hc
  simp only [Option.map_some,Option.bind_some] at hc
  obtain ⟨E1,S1⟩:=push S (.row true k 0 []) none (w':=w) ⟨rfl,rfl,rfl,(by first|exact Nat.le_refl _|exact Nat.le_succ _|simp)⟩ rfl (by
   rintro _ _ rfl rfl E
   exact ⟨by simp,fun b q hL => by simp [Loc.upd_self] at hL,fun _ => rfl⟩)
  have hlt:a < M.length:=(List.getElem?_eq_some_iff.1 hi).1
  have hi1:(M ++ [Blk.row true k 0 []])[a]? = some (.row true kk0 ver xs0):=by rw [List.getElem?_append_left hlt];exact hi
  obtain ⟨hk,h2,h3⟩:=S1.mem a _ hi1
  have hxk:=hk x (List.mem_of_getElem? hx)
  have hset:M.set a (.row true kk0 ver (xs0.set e y)) ++ [Blk.row true k 0 []] = (M ++ [Blk.row true k 0 []]).set a (.row true kk0 ver (xs0.set e y)):=by
   rw [List.set_append_left _ _ hlt]
  simp only []
  rw [hset]
  have hlt':j0 + j < kk0:=by simp at hle;omega
  have key:=change S1 hi1 (blk':=.row true kk0 ver (xs0.set e y)) (L.upd M.length (none.map fun (_:Obj) => (w.heap.size,0))) (fun _ _ => rfl) (w':=w) ⟨rfl,rfl,rfl,(by first|exact Nat.le_refl _|exact Nat.le_succ _|simp)⟩ (.inl rfl) (Nat.le_refl _) (fun _ _ _ => rfl) (fun p hp => .inl ⟨p,hp,rfl⟩)
   ⟨Nat.le_refl _,fun _ => ⟨rfl,by simp,rfl,fun b o c el _ hc => ⟨c,hc,rfl⟩⟩⟩ (fun E => by
    refine ⟨fun z hz => ?_,fun b o hb => ?_,fun hb => ?_⟩
    ·rcases List.mem_or_eq_of_mem_set hz with hz|rfl
     ·exact hk z hz
     ·rw [hy,ZU hle];exact hxk
    ·obtain ⟨c,el,vs,g1,g2,g3⟩:=h2 b o hb
     refine ⟨c,el,vs,g1,?_,g3⟩
     rw [Qec hk hx (by simp only [List.length_singleton];omega) hy]
     have g4:=g2.evo E
     have g5:(xs0.flatMap PV.cells)[e * kk0 + (j0 + j)]? = some (.s (.slice none 0 0)):=by rw [Qoa hk hx hlt'];exact hc
     obtain ⟨u,g6,g7⟩:=g4.get g5
     have:=g7.s_inv
     subst this
     rw [← QcR g6]
     refine g4.setRange (.cons _ _ _ _ ?_ .nil) _
     exact .os M.length 0 0 0 true k [] none 0 (by rw [List.getElem?_set_ne (by omega)];simp) (by simp) (Nat.le_refl _) (by simp)
    ·have:=h3 hb
     subst this
     simp at hx)
  exact ⟨_,E1.trans key.1,key.2⟩
theorem St.same (s:St P M0 L0 w0 ro M t L a w) (E:Evo M L w M' L' w') (S:Sim (RO P) M' L' w'):St P M0 L0 w0 ro M' t L' a w' :=
 ⟨S,s.T.evo E,s.E.trans E,s.D.evo E⟩
theorem LRel.forget (h:LRel M L w t a.tmps.toList) (ts:List Nat):LRel M L w (Qc4 ts t) a.tmps.toList:=by
 induction ts generalizing t with
 | nil => exact h
 | cons i ts ih =>
  refine ih ?_
  refine LRel.all (by simp [h.length]) fun j x v hx hv => ?_
  by_cases e:j = i
  ·subst e
   rw [List.getElem?_set_self (by have:=(List.getElem?_eq_some_iff.1 hv).1;rw [h.length];exact this)] at hx
   cases hx;exact .top v
  ·rw [List.getElem?_set_ne (Ne.symm e)] at hx
   obtain ⟨u,h1,h2⟩:=h.get hx
   rw [hv] at h1;cases h1;exact h2
theorem LRel.keep (h:LRel M L w t a.tmps.toList) (ks:List Nat):LRel M L w (keepL ks t) a.tmps.toList:=by
 refine LRel.all (by simp [keepL,h.length]) fun j x v hx hv => ?_
 simp only [keepL,List.getElem?_map] at hx
 have hj:j < t.length:=by have:=(List.getElem?_eq_some_iff.1 hv).1;rw [h.length];exact this
 rw [List.getElem?_range hj] at hx
 simp only [Option.map_some,Option.some.injEq] at hx
 subst hx
 split
 ·obtain ⟨u,h1,h2⟩:=h.get (List.getElem?_eq_getElem hj)
  rw [hv] at h1;cases h1
  rw [List.getD_eq_getElem?_getD,List.getElem?_eq_getElem hj];exact h2
 ·exact .top v
theorem St.top (s:St P M0 L0 w0 ro M t L a w) (i:Nat):VRel M L w (t.getD i .top) (a.tmps.getD i undef):=by
 rw [Array.getD_eq_getD_getElem?,List.getD_eq_getElem?_getD]
 cases hx:t[i]? with
 | none => exact .top _
 | some x =>
  obtain ⟨v,h1,h2⟩:=s.T.get hx
  rw [Array.getElem?_toList] at h1
  rw [h1];exact h2
theorem LRel.fix (h:LRel M L w t a.tmps.toList) (i:Nat) {x:PV} (hx:VRel M L w x (a.tmps.getD i undef)):LRel M L w (t.set i x) a.tmps.toList:=by
 refine LRel.all (by simp [h.length]) fun j y v hy hv => ?_
 by_cases e:j = i
 ·subst e
  rw [List.getElem?_set_self (by have:=(List.getElem?_eq_some_iff.1 hv).1;rw [h.length];exact this)] at hy
  cases hy
  rw [Array.getElem?_toList] at hv
  rw [Array.getD_eq_getD_getElem?,hv] at hx;exact hx
 ·rw [List.getElem?_set_ne (Ne.symm e)] at hy
  obtain ⟨u,h1,h2⟩:=h.get hy
  rw [hv] at h1;cases h1;exact h2
theorem Evo.len {M0:List Blk} {L0:Loc} {w0:World} (E:Evo M0 L0 w0 M L w):M0.length ≤ M.length:=by
 by_cases h:M0.length ≤ M.length
 ·exact h
 ·exfalso
  have hi:M0[M.length]? = some (M0[M.length]'(by omega)):=List.getElem?_eq_getElem (by omega)
  obtain ⟨b,h1,_⟩:=E.blk _ _ hi
  rw [List.getElem?_eq_none (by omega)] at h1;cases h1
theorem Marks.take {n m:Nat} {ds:List Deferred} (h:Marks n M L w ds):Marks n (M.take m) L w ds:=by
 induction ds with
 | nil => exact trivial
 | cons d ds ih =>
  obtain ⟨⟨D,rfl,h1,h2,h3,h4⟩,h5⟩:=h
  exact ⟨⟨D,rfl,h1,h2,fun h => h3 h.take,h4⟩,ih h5⟩
theorem VW.take {n m:Nat} {ds:List Deferred} (h:VW ro n M L w ds):VW ro n (M.take m) L w ds:=by
 cases ro with
 | none => exact Marks.take h
 | some l => exact h
theorem St.cut (s:St P M0 L0 w0 ro M t L a w) {n:Nat} (h0:M0.length ≤ n) (h1:lowM n (M.take n)) (h2:lowL n t):St P M0 L0 w0 ro (M.take n) t L a w :=
 ⟨s.S.take h1,s.T.take' h2,s.E.take h0,s.D.take⟩
theorem Qbx (g:CCode) (hg:ghost g = true):∀ {Q:Post} {M:List Blk} {t:List PV},Wp (Conc P) M0.length g Q M t → St P M0 L0 w0 ro M t L a w → ∃ M' t' L',Q .normal M' t' ∧ St P M0 L0 w0 ro M' t' L' a w:=by
 induction g generalizing L with
 | forget ts => intro Q M t h s;exact ⟨M,_,L,h,s.S,s.T.forget ts,s.E,s.D⟩
 | frz i =>
  intro Q M t h s
  obtain ⟨M',h1,h2⟩:=h
  obtain ⟨E,S⟩:=ZP _ s.S h1
  exact ⟨M',t,L,h2,s.same E S⟩
 | keep ks => intro Q M t h s;exact ⟨M,_,L,h,s.S,s.T.keep ks,s.E,s.D⟩
 | fix i =>
  intro Q M t h s
  obtain ⟨M',h1,h2⟩:=h
  obtain ⟨E,S⟩:=ZP _ s.S h1
  have s':=s.same E S
  exact ⟨M',_,L,h2,s'.S,s'.T.fix i (Vm s'.S (s'.top i)),s'.E,s'.D⟩
 | own i j k =>
  intro Q M t h s
  obtain ⟨M',h1,h2⟩:=h
  obtain ⟨L',E,S⟩:=Qhe s.S h1
  exact ⟨M',t,L',h2,s.same E S⟩
 | holes k =>
  intro Q M t h s
  obtain ⟨L',E,S⟩:=Qf5 s.S k
  exact ⟨_,t,L',h,s.same E S⟩
 | cut =>
  intro Q M t h s
  obtain ⟨n,h1,h2,h3,h4,h5⟩:=h
  exact ⟨_,t,L,h5,s.cut h1 h3 h4⟩
 | seq x y ihx ihy =>
  simp only [ghost,Bool.and_eq_true] at hg
  intro Q M t h s
  obtain ⟨M1,t1,L1,h1,s1⟩:=ihx hg.1 h s
  exact ihy hg.2 h1 s1
 | _ => cases hg
end
end Go.Nac
namespace Go.Nac
variable [Env]
section
variable {P:Program} {M0:List Blk} {L0:Loc} {w0:World} {ro:Option Nat} {M M':List Blk} {t t':List PV} {L L':Loc} {a:Act} {w w':World}
theorem Marks.lt {n:Nat} {ds:List Deferred} (h:Marks n M L w ds):∀ d ∈ ds,∃ D,d.target = .collected D ∧ D < w.heap.size:=by
 induction ds with
 | nil => intro d hd;cases hd
 | cons d ds ih =>
  obtain ⟨⟨D,rfl,h1,h2,h3,h4⟩,h5⟩:=h
  intro d' hd
  rcases List.mem_cons.1 hd with rfl|hd
  ·exact ⟨D,rfl,(Array.getElem?_eq_some_iff.1 h2).1⟩
  ·exact ih h5 d' hd
theorem Marks.poke {n:Nat} {ds:List Deferred} (h:Marks n M L w ds) {l:Nat} {o:Obj} {r:Loop} (hl:w.heap[l]? = some (.loop r)):Marks n M L (w.putObj l o) ds:=by
 induction ds with
 | nil => exact trivial
 | cons d ds ih =>
  obtain ⟨⟨D,rfl,h1,h2,h3,h4⟩,h5⟩:=h
  exact ⟨⟨D,rfl,h1,by rw [World.putObj_heap_other (fun e => by subst e;rw [hl] at h2;cases h2)];exact h2,h3,h4⟩,ih h5⟩
theorem VW.poke {n:Nat} {ds:List Deferred} (h:VW ro n M L w ds) {l:Nat} {o:Obj} {r:Loop} (hl:w.heap[l]? = some (.loop r)):VW ro n M L (w.putObj l o) ds:=by
 cases ro with
 | none => exact Marks.poke h hl
 | some l => exact h
def QaW (M0:List Blk) (L0:Loc) (ro:Option Nat):Prop:=∀ l,ro = some l → ∃ i st pd ts ps x y o,M0[i]? = some (.loop st pd ts ps x y) ∧ L0 i = some (l,o)
theorem YJ {i:Nat} {st:LoopState} {pd:Option Ex} {ts:List PV} {ps:List Nat} {x y:CCode} (S:Sim (RO P) M L w) (hi:M[i]? = some (.loop st pd ts ps x y)) {l o:Nat} (hL:L i = some (l,o)) :
  ∃ r,w.heap[l]? = some (.loop r) ∧ r.state = st ∧ QaU pd r.pending ∧ r.params.toList = ps ∧ LRel M L w ts r.tmps.toList ∧ RO P x r.assign ∧ RO P y r.body:=by
 obtain ⟨k,o',r,h1,h2⟩:=S.mem i _ hi
 rw [hL] at h1;cases h1
 exact ⟨r,h2⟩
theorem Qgc (hro:QaW M0 L0 ro) (s:St P M0 L0 w0 ro M t L a w) (fn:FuncId) (qs:Array Tmp) (x y:Code) {ca cb:CCode} (hx:Qp P ca x = true) (hy:Qp P cb y = true) :
  ∃ l mark w1 L1,(Instr.enterLoop fn a.tmps qs x y ro).run P w = .ok (l,mark) w1 ∧ Evo M L w (M ++ [.loop .ready none t qs.toList ca cb]) L1 w1 ∧
   Sim (RO P) (M ++ [.loop .ready none t qs.toList ca cb]) L1 w1 ∧ L1 M.length = some (l,0) ∧ w.heap.size ≤ l ∧ VW ro w0.heap.size (M ++ [.loop .ready none t qs.toList ca cb]) L1 w1 (mark ++ a.defers):=by
 have key:∀ (wA:World) (d:Nat),Evo M L w M L wA → Sim (RO P) M L wA →
   ∃ L1,Evo M L wA (M ++ [.loop .ready none t qs.toList ca cb]) L1 (wA.alloc (.loop { state:=.ready,pending:=none,fn:=fn,tmps:=a.tmps,params:=qs,assign:=x,body:=y,defers:=d })) ∧
    Sim (RO P) (M ++ [.loop .ready none t qs.toList ca cb]) L1 (wA.alloc (.loop { state:=.ready,pending:=none,fn:=fn,tmps:=a.tmps,params:=qs,assign:=x,body:=y,defers:=d })) ∧ L1 M.length = some (wA.heap.size,0):=by
  intro wA d EA SA
  have:=push SA (.loop .ready none t qs.toList ca cb) (some (.loop { state:=.ready,pending:=none,fn:=fn,tmps:=a.tmps,params:=qs,assign:=x,body:=y,defers:=d }))
   (w':=wA.alloc (.loop { state:=.ready,pending:=none,fn:=fn,tmps:=a.tmps,params:=qs,assign:=x,body:=y,defers:=d })) ⟨rfl,rfl,rfl,(by first|exact Nat.le_refl _|exact Nat.le_succ _|simp)⟩ rfl (by
    intro M' L' hM hL E
    exact ⟨wA.heap.size,0,_,by rw [hL,Loc.upd_self];rfl,World.alloc_heap_new _ _,rfl,trivial,rfl,(s.T.evo EA).evo E,hx,hy⟩)
  exact ⟨_,this.1,this.2,by rw [Loc.upd_self];rfl⟩
 cases ro with
 | none =>
  obtain ⟨EA,SA⟩:=grow s.S (.deferred (some [])) (w':=w.alloc (.deferred (some []))) ⟨rfl,rfl,rfl,(by first|exact Nat.le_refl _|exact Nat.le_succ _|simp)⟩ rfl
  obtain ⟨L1,E1,S1,hL1⟩:=key _ w.heap.size EA SA
  refine ⟨_,_,_,L1,run_enterLoop_outer fn a.tmps qs x y,EA.trans E1,S1,?_,by omega,?_⟩
  ·rw [hL1];simp
  ·have hsz:w.heap.size < (w.alloc (.deferred (some []))).heap.size:=by simp
   have hno:¬ Owned M L w.heap.size:=ZY s.S
   obtain ⟨g1,g2⟩:=E1.frame w.heap.size hsz hno
   refine ⟨⟨w.heap.size,rfl,s.E.size,g1.trans (World.alloc_heap_new _ _),g2,fun d' hd' => ?_⟩,s.D.evo (EA.trans E1)⟩
   obtain ⟨D,h1,h2⟩:=Marks.lt s.D d' hd'
   rw [h1];intro e;cases e;omega
 | some l0 =>
  obtain ⟨i,st,pd,ts,ps,x',y',o,h1,h2⟩:=hro l0 rfl
  obtain ⟨b',h3,h4⟩:=s.E.blk i _ h1
  cases b' with
  | loop st' pd' ts' ps' x1 y1 =>
   have hL:L i = some (l0,o):=h4.1.trans h2
   obtain ⟨r0,g1,_⟩:=YJ s.S h3 hL
   obtain ⟨L1,E1,S1,hL1⟩:=key w r0.defers (Evo.refl _ _ _) s.S
   exact ⟨_,_,_,L1,run_enterLoop_inner g1 fn a.tmps qs x y,E1,S1,hL1,Nat.le_refl _,s.D⟩
  | _ => exact h4.elim
theorem QfU (hro:QaW M0 L0 ro) (s:St P M0 L0 w0 ro M t L a w) {f:CX} {g:Operand} (hf:okX f g = true) {ps:List Nat} {qs:Array Tmp} (hps:ps = qs.toList) {ca cb:CCode} {x y:Code}
  (hx:Qp P ca x = true) (hy:Qp P cb y = true) {n0:Nat} {Q:Post} (h:Wp (Conc P) n0 (.rangeFunc f ps ca cb) Q M t):(Code.rangeFunc g qs x y).wpIn (FR ro) 0 P (CP P M0 L0 w0 ro Q) a w:=by
 subst hps
 obtain ⟨gf,first,cap,M',st,pend,t',ps',a',b',h1,hc,hlen,hlow,hst,hq⟩:=h
 refine wpIn_rangeFunc fun fn _ => ?_
 obtain ⟨l,mark,w1,L1,hent,E1,S1,hL1,hle,hmarks⟩:=Qgc hro s fn qs x y hx hy
 have hv:=s.fit _ _ hf
 rw [h1] at hv
 generalize hgv:a.eval g = gv at hv
 cases hv with
 | fn _ _ _ va vc ha hcap =>
  have hyl:VRel (M ++ [.loop .ready none t qs.toList ca cb]) L1 w1 (.yl M.length) (.func (.yield l) #[] #[]) :=
   .yl M.length .ready none t qs.toList ca cb l 0 (by simp) hL1
  have hargs:LRel (M ++ [.loop .ready none t qs.toList ca cb]) L1 w1 (first ++ [.yl M.length] ++ cap) ((va ++ #[Value.func (.yield l) #[] #[]]) ++ vc).toList:=by
   simp only [Array.toList_append]
   exact ((ha.evo E1).append (.cons _ _ _ _ hyl .nil)).append (hcap.evo E1)
  obtain ⟨hcall,hcalls⟩:_ ∧ _:=(hc L1 w1 _ S1 hargs).resolve_right fun h => by cases h.1
  refine ⟨l,mark,w1,{ target:=.fn (.func gf) vc,args:=va ++ #[.func (.yield l) #[] #[]] },w1,gf,_,w1,hent,?_,fun _ _ => trivial,hcall,Ys ro 0,YC (Calls.mono hcalls fun e w3 he => ?_)⟩
  ·have e:(#[Operand.const (.func (.yield l) #[] #[])]:Array Operand).map a.eval = #[Value.func (.yield l) #[] #[]]:=by simp [Act.eval]
   show (Deferred.ofValue (a.eval g) ((#[Operand.const (.func (.yield l) #[] #[])]:Array Operand).map a.eval)).run P w1 = _
   rw [hgv,e];rfl
  cases e with
  | panicked => exact he.elim
  | outgrown => exact he.elim
  | returned v =>
   obtain ⟨L3,E3,S3,_⟩:=he
   have hi3:(M' ++ [Blk.loop st pend t' ps' a' b'])[M.length]? = some (Blk.loop st pend t' ps' a' b'):=by rw [← hlen];simp
   have hL3:L3 M.length = some (l,0):=by
    obtain ⟨b',g1,g2⟩:=E3.blk M.length (.loop .ready none t qs.toList ca cb) (by simp)
    rw [hi3] at g1;cases g1
    exact g2.1.trans hL1
   obtain ⟨rc,k1,k2,k3,_⟩:=YJ S3 hi3 hL3
   have hend:=run_endLoop (P:=P) k1 (by rw [k2];exact hst)
   have htake:(M' ++ [Blk.loop st pend t' ps' a' b']).take M.length = M':=by rw [← hlen];simp
   have hD:∀ c el s,w3.heap[l]? ≠ some (.cells c el s):=by intro c el s h;rw [k1] at h;cases h
   have hO:¬ Owned M' L3 l:=by
    rintro ⟨i,bl,p,g1,g2,g3,g4⟩
    have hlt:i < M'.length:=(List.getElem?_eq_some_iff.1 g1).1
    exact S3.inj i M.length bl _ p (l,0) (by rw [List.getElem?_append_left hlt];exact g1) hi3 g2 (by omega) g3 hL3 g4
   have St4:St P M0 L0 w0 ro M' t L3 { a with defers:=mark ++ a.defers } (w3.putObj l (.loop { rc with state:=.exhausted })):=by
    have hS:=S3.take (n:=M.length) (by rw [htake];exact hlow)
    have hT:=((s.T.evo E1).evo E3).take' (n:=M.length) s.T.low
    have hE:=((s.E.trans E1).trans E3).take s.E.len
    have hM:=VW.take (m:=M.length) (hmarks.evo E3)
    rw [htake] at hS hT hE hM
    exact ⟨hS.poke hD hO,hT.poke hD,hE.poke hD (Nat.le_trans s.E.size hle),hM.poke k1⟩
   refine ⟨_,_,hend,?_⟩
   generalize w3.putObj l (.loop { rc with state:=.exhausted }) = w4 at St4 ⊢
   cases hp:rc.pending with
   | none =>
    rw [hp] at k3
    cases pend with
    | none => exact ⟨.normal,M',t,L3,trivial,hq,St4⟩
    | some e => cases e <;> exact k3.elim
   | some c =>
    rw [hp] at k3
    cases pend with
    | none => exact k3.elim
    | some e =>
     cases e with
     | normal => exact k3.elim
     | exit i =>
      cases c <;> first|exact k3.elim|skip
      cases k3
      exact wpIn_exit ⟨.exit i,M',t,L3,rfl,hq,St4⟩
     | goto i =>
      cases c <;> first|exact k3.elim|skip
      cases k3
      exact wpIn_goto ⟨.goto i,M',t,L3,rfl,hq,St4⟩
     | ret =>
      cases c <;> first|exact k3.elim|skip
      exact wpIn_ret ⟨.ret,M',t,L3,trivial,hq,St4⟩
end
end Go.Nac
namespace Go.Nac
variable [Env]
section
variable {P:Program} {M0:List Blk} {L0:Loc} {w0:World} {ro:Option Nat}
theorem QnZ {Q:Post} {K:List Blk → List PV → Prop} {Y:Act → World → Prop} (hk:∀ M t L a w,K M t → St P M0 L0 w0 ro M t L a w → Y a w) :
  ∀ e a w,CP P M0 L0 w0 ro (thenK K Q) e a w → Exit.then Y (CP P M0 L0 w0 ro Q) e a w:=by
 rintro e a w ⟨ex,M,t,L,h1,h2,h3⟩
 cases ex <;> cases e <;> first|exact h1.elim|skip
 ·exact hk _ _ _ _ _ h2 h3
 all_goals exact ⟨_,M,t,L,h1,h2,h3⟩
theorem Qmu {Q:Post} {id:Nat}:∀ e a w,CP P M0 L0 w0 ro (VF id Q) e a w → Exit.inBlock id (CP P M0 L0 w0 ro Q) e a w:=by
 rintro e a w ⟨ex,M,t,L,h1,h2,h3⟩
 cases ex <;> cases e <;> first|exact h1.elim|skip
 case exit.exit i j =>
  cases h1
  simp only [VF] at h2
  simp only [Exit.inBlock]
  split
  ·rename_i e;rw [if_pos e] at h2;exact ⟨.normal,M,t,L,trivial,h2,h3⟩
  ·rename_i e;rw [if_neg e] at h2;exact ⟨.exit i,M,t,L,rfl,h2,h3⟩
 all_goals exact ⟨_,M,t,L,h1,h2,h3⟩
theorem QhY {F:Fence} {n:Nat} {Q:Exit → Act → World → Prop} {a:Act} {w:World} {c:Code} (h:c.wpIn F n P (Exit.noGoto Q) a w):(Code.scope c).wpIn F n P Q a w:=by
 intro b k cs hro hb hr
 have h0:(lone (b.atR a (.code (.scope c) :: k)) cs w).fenced P F:=fenced_calm hb hr rfl
 have step:step P (lone (b.atR a (.code (.scope c) :: k)) cs w) = .next (lone (b.atR a (.code c :: .inScope c :: k)) cs w) :=
  step_lone_go (by simp [stepG,stepG.exec,Frame.atR])
 have step2:∀ (a:Act) (w:World),Go.step P (lone (b.atR a (.inScope c :: k)) cs w) = .next (lone (b.atR a k) cs w):=fun a w =>
  step_lone_go (by simp [stepG,stepG.exec,Frame.atR])
 obtain ⟨e,a₁,w₁,hq,harr⟩:=h b (.inScope c :: k) cs hro hb hr
 have hx:∀ id,exitTo id (.inScope c :: k) = exitTo id k:=fun id => by simp [exitTo]
 cases e with
 | normal => exact ⟨.normal,a₁,w₁,hq,.head h0 step (StepsIn.trans harr (.one (fenced_calm hb hr rfl) (step2 _ _)))⟩
 | exit id => exact ⟨.exit id,a₁,w₁,hq,fun k' hk => .head h0 step (harr.1 k' (by rw [hx];exact hk)),
   fun hr' hk => let ⟨k₁,h1,h2⟩:=harr.2 hr' (by rw [hx];exact hk);⟨k₁,h1,.head h0 step h2⟩⟩
 | goto l => exact hq.elim
 | ret => exact ⟨_,a₁,w₁,hq,.of_steps (.one h0 step) harr⟩
 | panic ch => exact ⟨_,a₁,w₁,hq,.of_steps (.one h0 step) harr⟩
 | outgrown => exact ⟨_,a₁,w₁,hq,.of_steps (.one h0 step) harr⟩
theorem QlG {Q:Post}:∀ e a w,CP P M0 L0 w0 ro (Yl Q) e a w → Exit.noGoto (CP P M0 L0 w0 ro Q) e a w:=by
 rintro e a w ⟨ex,M,t,L,h1,h2,h3⟩
 cases ex <;> cases e <;> first|exact h1.elim|exact h2.elim|skip
 all_goals exact ⟨_,M,t,L,h1,h2,h3⟩
theorem Qnt {M:List Blk} {t:List PV} {L:Loc} {a:Act} {w:World} (s:St P M0 L0 w0 ro M t L a w) {c:CX} {c':Operand} (ok:okX c c' = true) {b:Bool} (h:ev t c = .B b):a.eval c' = .bool b:=by
 have:=s.fit _ _ ok
 rw [h] at this
 exact this.s_inv
theorem Qh0 {x y:CCode} {d:Code} (h:Qp P (.seq x y) d = true):(ghost x = true ∧ Qp P y d = true) ∨ (ghost y = true ∧ Qp P x d = true) ∨ ∃ u v,d = .seq u v ∧ Qp P x u = true ∧ Qp P y v = true:=by
 cases d
 case seq u v =>
  simp [Qp] at h
  rcases h with (h|h)|h
  ·exact .inl h
  ·exact .inr (.inl h)
  ·exact .inr (.inr ⟨u,v,rfl,h.1,h.2⟩)
 all_goals
  simp [Qp] at h
  rcases h with h|h
  ·exact .inl h
  ·exact .inr (.inl h)
theorem QbL (hmix:P.follows .mixedOrders = true) (hro:QaW M0 L0 ro) (c:CCode):∀ (d:Code),Qp P c d = true → ∀ {Q:Post} {M:List Blk} {t:List PV} {L:Loc} {a:Act} {w:World},
  Wp (Conc P) M0.length c Q M t → St P M0 L0 w0 ro M t L a w → d.wpIn (FR ro) 0 P (CP P M0 L0 w0 ro Q) a w:=by
 induction c with
 | skip =>
  intro d ok Q M t L a w h s
  cases d <;> first|(simp [Qp] at ok;done)|skip
  exact wpIn_skip ⟨.normal,M,t,L,trivial,h,s⟩
 | region cs =>
  intro d ok Q M t L a w h s
  cases d <;> first|(simp [Qp] at ok;done)|skip
  exact QeX hmix ok s h fun M' t' L' a' w' hq s' => ⟨.normal,M',t',L',trivial,hq,s'⟩
 | regionD cs pairs =>
  intro d ok Q M t L a w h s
  cases d <;> first|(simp [Qp] at ok;done)|skip
  exact QdJ hmix ok s h fun M' t' L' a' w' hq s' => ⟨.normal,M',t',L',trivial,hq,s'⟩
 | seq x y ihx ihy =>
  intro d ok Q M t L a w h s
  have h':Wp (Conc P) M0.length x (thenK (Wp (Conc P) M0.length y Q) Q) M t:=h
  rcases Qh0 ok with ⟨g,ok⟩|⟨g,ok⟩|⟨u,v,rfl,ok1,ok2⟩
  ·obtain ⟨M',t',L',h1,s'⟩:=Qbx x g h' s
   exact ihy d ok h1 s'
  ·refine wpIn_mono (ihx d ok h' s) ?_
   rintro e a w ⟨ex,M',t',L',h1,h2,h3⟩
   cases ex
   ·obtain ⟨M2,t2,L2,h4,s2⟩:=Qbx y g h2 h3
    exact ⟨.normal,M2,t2,L2,h1,h4,s2⟩
   all_goals exact ⟨_,M',t',L',h1,h2,h3⟩
  ·exact wpIn_seq (wpIn_mono (ihx _ ok1 h' s) (QnZ fun M t L a w h s => ihy _ ok2 h s))
 | cond c x y ihx ihy =>
  intro d ok Q M t L a w h s
  cases d <;> first|(simp [Qp] at ok;done)|skip
  simp only [Qp,Bool.and_eq_true] at ok
  obtain ⟨b,h1,h2⟩:=h
  refine wpIn_cond (Qnt s ok.1.1 h1) ?_
  cases b
  ·exact ihy _ ok.2 h2 s
  ·exact ihx _ ok.1.2 h2 s
 | block id c ih =>
  intro d ok Q M t L a w h s
  cases d <;> first|(simp [Qp] at ok;done)|skip
  simp only [Qp,Bool.and_eq_true,beq_iff_eq] at ok
  obtain ⟨rfl,ok⟩:=ok
  exact wpIn_block (wpIn_mono (ih _ ok h s) Qmu)
 | scope c ih =>
  intro d ok Q M t L a w h s
  cases d <;> first|(simp [Qp] at ok;done)|skip
  exact QhY (wpIn_mono (ih _ (by simpa [Qp] using ok) h s) QlG)
 | loop c ih =>
  intro d ok Q M t L a w h s
  cases d <;> first|(simp [Qp] at ok;done)|skip
  rename_i d
  simp only [Qp] at ok
  intro b k cs hb1 hb hr
  have key:=h (fun M t => ∀ L a w,St P M0 L0 w0 ro M t L a w → ∃ e a' w',CP P M0 L0 w0 ro Q e a' w' ∧
    ArrivesIn (Machine.fenced P (FR ro)) P (lone (b.atR a (.code d :: .inLoop d :: k)) cs w) b k cs e a' w') (by
   intro M t hw L a w s
   obtain ⟨e,a₁,w₁,hq,harr⟩:=ih d ok hw s b (.inLoop d :: k) cs hb1 hb hr
   obtain ⟨ex,M',t',L',h1,h2,h3⟩:=hq
   cases ex <;> cases e <;> first|exact h1.elim|skip
   ·obtain ⟨e₂,a₂,w₂,hq₂,harr₂⟩:=h2 L' a₁ w₁ h3
    exact ⟨e₂,a₂,w₂,hq₂,.of_steps (StepsIn.trans harr (.one (fenced_calm hb hr rfl) stepR_inLoop)) harr₂⟩
   all_goals exact ⟨_,a₁,w₁,⟨_,M',t',L',h1,h2,h3⟩,.pass (x:=.inLoop d) rfl (fun _ _ => .inl (by simp)) harr⟩)
  obtain ⟨e,a',w',hq,harr⟩:=key L a w s
  exact ⟨e,a',w',hq,.of_steps (.one (fenced_calm hb hr rfl) stepR_loop) harr⟩
 | rangeFunc f ps x y _ _ =>
  intro d ok Q M t L a w h s
  cases d <;> first|(simp [Qp] at ok;done)|skip
  simp only [Qp,Bool.and_eq_true,beq_iff_eq] at ok
  exact QfU hro s ok.1.1.1 ok.1.1.2 ok.1.2 ok.2 h
 | exit id =>
  intro d ok Q M t L a w h s
  cases d <;> first|(simp [Qp] at ok;done)|skip
  simp only [Qp,beq_iff_eq] at ok
  subst ok
  exact wpIn_exit ⟨.exit id,M,t,L,rfl,h,s⟩
 | goto id =>
  intro d ok Q M t L a w h s
  cases d <;> first|(simp [Qp] at ok;done)|skip
  simp only [Qp,beq_iff_eq] at ok
  subst ok
  exact wpIn_goto ⟨.goto id,M,t,L,rfl,h,s⟩
 | label id =>
  intro d ok Q M t L a w h s
  cases d <;> first|(simp [Qp] at ok;done)|skip
  exact wpIn_label ⟨.normal,M,t,L,trivial,h,s⟩
 | ret =>
  intro d ok Q M t L a w h s
  cases d <;> first|(simp [Qp] at ok;done)|skip
  exact wpIn_ret ⟨.ret,M,t,L,trivial,h,s⟩
 | bad => intro d ok Q M t L a w h s;exact h.elim
 | _ =>
  intro d ok Q M t L a w h s
  cases d <;> (simp [Qp] at ok;done)
end
end Go.Nac
namespace Go.Nac
variable [Env]
def okRes (P:Program):List (Nat × Option (Option Nat)) → List ResultVar → Bool
 | [],[] => true
 | (i,none) :: r,.tmp j :: q => i == j && okRes P r q
 | (i,some g) :: r,.cell a t :: q => i == a && okG P t g && okRes P r q
 | _,_ => false
def okFn (P:Program) (f:FuncId) (cf:CFunc):Bool :=
  match P.funcs[f]? with
  | some fn => !(fn.name == "runtime.NumGoroutine") && fn.ntmps == cf.ntmps && okRes P cf.results fn.results.toList &&
      (match fn.body with|some c => Qp P cf.body c|none => false)
  | none => false
section
variable {P:Program} {M0:List Blk} {L0:Loc} {w0:World} {ro:Option Nat} {M M':List Blk} {t t':List PV} {L L':Loc} {a:Act} {w w':World}
def QaE (tmps:Array Value):ResultVar → Sem Value
 | .tmp t => pure (tmps.getD t undef)
 | .cell a t => do loadVar t (← asAddr (tmps.getD a undef))
theorem QhL (fn:Func) (tmps:Array Value):results fn tmps = (do let vs ← fn.results.mapM (QaE tmps);pure (if h:vs.size = 1 then vs[0] else .tuple vs)):=by
 unfold results
 congr 1
theorem QkP {α β:Type} (f:α → Sem β) (xs:Array α) (vs:List β) (w:World) (h:(xs.toList.mapM f).run P w = .ok vs w):(xs.mapM f).run P w = .ok vs.toArray w:=by
 rw [Array.mapM_eq_mapM_toList,map_eq_pure_bind,Sem.run_bind,h]
 rfl
theorem QfS {tt:TypeId} {c cv:Value} (h:(Instr.loadAt tt c).run P w = .ok cv w):(do loadVar tt (← asAddr c):Sem Value).run P w = .ok cv w:=by
 unfold Instr.loadAt at h
 cases c
 case pointer p =>
  cases p with
  | none => cases h
  | some a => exact h
 all_goals cases h
theorem Qgv (S:Sim (RO P) M L w) (T:LRel M L w t a.tmps.toList):∀ (rs:List (Nat × Option (Option Nat))) (qs:List ResultVar) (vs:List PV),okRes P rs qs = true → resOf M t rs = some vs →
  ∃ cvs,(qs.mapM (QaE a.tmps)).run P w = .ok cvs w ∧ LRel M L w vs cvs:=by
 have tmp:∀ i,VRel M L w (t.getD i .top) (a.tmps.getD i undef):=by
  intro i
  rw [Array.getD_eq_getD_getElem?,List.getD_eq_getElem?_getD]
  cases hx:t[i]? with
  | none => exact .top _
  | some x =>
   obtain ⟨v,h1,h2⟩:=T.get hx
   rw [Array.getElem?_toList] at h1
   rw [h1];exact h2
 intro rs
 induction rs with
 | nil =>
  intro qs vs ok h
  cases qs with
  | nil => cases h;exact ⟨[],by simp,.nil⟩
  | cons => cases ok
 | cons r rs ih =>
  intro qs vs ok h
  obtain ⟨i,g⟩:=r
  cases qs with
  | nil => cases g <;> cases ok
  | cons q qs =>
   cases g with
   | none =>
    cases q with
    | cell => cases ok
    | tmp j =>
     simp only [okRes,Bool.and_eq_true,beq_iff_eq] at ok
     obtain ⟨rfl,ok⟩:=ok
     simp only [resOf] at h
     cases hr:resOf M t rs with
     | none => rw [hr] at h;cases h
     | some us =>
      rw [hr] at h;cases h
      obtain ⟨cvs,h1,h2⟩:=ih qs us ok hr
      refine ⟨_ :: cvs,?_,.cons _ _ _ _ (tmp i) h2⟩
      simp only [List.mapM_cons,QaE,pure_bind,Sem.run_bind,h1,Result.andThen_ok,Sem.run_pure]
   | some g =>
    cases q with
    | tmp => cases ok
    | cell b tt =>
     simp only [okRes,Bool.and_eq_true,beq_iff_eq] at ok
     obtain ⟨⟨rfl,ok1⟩,ok⟩:=ok
     simp only [resOf] at h
     split at h
     ·rename_i v M1 us hl hr
      cases h
      obtain ⟨cvs,h1,h2⟩:=ih qs us ok hr
      simp only [res,ev] at hl
      obtain ⟨hl,_⟩:=Vp hl
      obtain ⟨cv,h3,h4⟩:=Qew (P:=P) S (tmp i) ok1 hl
      refine ⟨cv :: cvs,?_,.cons _ _ _ _ h4 h2⟩
      simp only [List.mapM_cons,Sem.run_bind,QaE]
      have:=QfS h3
      simp only [Sem.run_bind] at this
      rw [this]
      simp only [Result.andThen_ok,h1,Sem.run_pure]
     ·cases h
def oneOr:List Value → Value
 | [v] => v
 | vs => .tuple vs.toArray
theorem Jd {fn:Func} {tmps:Array Value} {cvs:List Value} (h:(fn.results.toList.mapM (QaE tmps)).run P w = .ok cvs w) :
  (results fn tmps).run P w = .ok (oneOr cvs) w:=by
 rw [QhL,Sem.run_bind,QkP _ _ _ _ h]
 cases cvs with
 | nil => rfl
 | cons v vs => cases vs with | nil => rfl | cons u vs => simp [oneOr]
theorem QiR (S:Sim (RO P) M L w) {n:Nat} {vs:List PV} {cvs:List Value} (h:LRel M L w vs cvs) (l:(mkRes n M vs).low n):VRel (M.take n) L w (mkRes n M vs) (oneOr cvs):=by
 cases h with
 | nil => exact .tup _ _ .nil
 | cons x v xs us h hs =>
  cases hs with
  | nil => exact h.outV S l
  | cons y u ys us h' hs =>
   simp only [mkRes,PV.low] at l ⊢
   exact .tup _ _ (LRel.outV S (.cons _ _ _ _ h (.cons _ _ _ _ h' hs)) l)
theorem leaves {fn:Func} {tmps:Array Value} {Rr:Ending → World → Prop} (ds:List Deferred):∀ {w:World},Marks w0.heap.size M L w ds → Sim (RO P) M L w → LRel M L w t tmps.toList → Evo M0 L0 w0 M L w →
  (∀ w',Sim (RO P) M L w' → LRel M L w' t tmps.toList → Evo M0 L0 w0 M L w' → ∃ v,(results fn tmps).run P w' = .ok v w' ∧ Rr (.returned v) w') → LeavesInM (FR none) 0 P fn tmps Rr ds .returning w:=by
 induction ds with
 | nil => intro w _ S T E k;exact k w S T E
 | cons d ds ih =>
  intro w hm S T E k
  obtain ⟨⟨D,rfl,h1,h2,h3,h4⟩,h5⟩:=hm
  have hD:∀ c el s,w.heap[D]? ≠ some (.cells c el s):=by intro c el s h;rw [h2] at h;cases h
  refine ⟨by simp,.inl ⟨D,_,rfl,run_takeDeferred h2,?_⟩⟩
  refine ih ?_ (S.poke hD h3) (T.poke hD) (E.poke hD h1) k
  clear ih
  induction ds with
  | nil => exact trivial
  | cons d' ds ih2 =>
   obtain ⟨⟨D',rfl,g1,g2,g3,g4⟩,g5⟩:=h5
   have hne:D' ≠ D:=fun e => h4 { target:=.collected D',args:=#[] } (by simp) (by rw [e])
   exact ⟨⟨D',rfl,g1,by rw [World.putObj_heap_other hne];exact g2,g3,g4⟩,ih2 g5 fun d hd => h4 d (List.mem_cons_of_mem _ hd)⟩
theorem Qk6 {args:List PV} {cargs:Array Value} (h:LRel M L w args cargs.toList) (n:Nat):LRel M L w (args ++ List.replicate (n - args.length) .top) (cargs ++ Array.replicate (n - cargs.size) undef).toList:=by
 have hl:args.length = cargs.size:=by simpa using h.length
 simp only [Array.toList_append,Array.toList_replicate]
 rw [hl]
 refine h.append ?_
 have:=LRel.tops (M:=M) (L:=L) (w:=w) (List.replicate (n - cargs.size) undef)
 simpa using this
theorem QeC (hmix:P.follows .mixedOrders = true) {f:FuncId} {cf:CFunc} (ok:okFn P f cf = true) {args:List PV} {r:PV} {M':List Blk} {Q:Post}
  (h:lowM M.length M → lowL M.length args → Wp (Conc P) M.length cf.body Q M (args ++ List.replicate (cf.ntmps - args.length) .top))
  (hq:∀ (fn:Func) e M1 t1 L L1 w w1 (a1:Act),P.funcs[f]? = some fn → okRes P cf.results fn.results.toList = true → Q e M1 t1 → Sim (RO P) M L w → Evo M L w M1 L1 w1 → Sim (RO P) M1 L1 w1 → LRel M1 L1 w1 t1 a1.tmps.toList →
   (match e with|.ret|.normal => True|_ => False) ∧ ∃ v,(results fn a1.tmps).run P w1 = .ok v w1 ∧ Fin P M L w r M' (.returned v) w1):Conc P (.fn f) args M r M':=by
 intro L w cargs S A
 unfold okFn at ok
 split at ok
 ·rename_i fn hf
  simp only [Bool.and_eq_true,Bool.not_eq_true',beq_iff_eq] at ok
  obtain ⟨⟨⟨ok1,ok2⟩,ok3⟩,ok4⟩:=ok
  split at ok4
  ·rename_i c hb
   refine .inl ⟨MuLone.run_callFunc_enter hf ok1 hb cargs w,callsIn_wide.1 (show CallsIn (FR none) 0 P f cargs w _ from callsIn_of_wp_marks hf hb trivial ?_)⟩
   have hw:=h S.low A.low
   have s:St P M L w none M (args ++ List.replicate (cf.ntmps - args.length) .top) L { tmps:=cargs ++ Array.replicate (fn.ntmps - cargs.size) undef,defers:=[] } w :=
    ⟨S,by rw [← ok2];exact Qk6 A _,Evo.refl _ _ _,trivial⟩
   refine wpIn_mono (QbL hmix (fun l hl => by cases hl) cf.body c ok4 hw s) ?_
   rintro e a1 w1 ⟨ex,M1,t1,L1,he,hqe,s1⟩
   have fin:=fun w' S1 T1 E1 => hq fn ex M1 t1 L L1 w w' a1 hf ok3 hqe S E1 S1 T1
   have out:LeavesInM (FR none) 0 P fn a1.tmps (Fin P M L w r M') a1.defers .returning w1 :=
    leaves a1.defers s1.D s1.S s1.T s1.E fun w' S' T' E' => (fin w' S' T' E').2
   have hx:=(fin w1 s1.S s1.T s1.E).1
   cases ex <;> cases e <;> first|exact he.elim|exact hx.elim|exact out
  ·cases ok4
 ·cases ok
end
end Go.Nac
namespace Go.Nac
variable [Env]
section
variable {P:Program} {M0:List Blk} {L0:Loc} {w0:World} {ro:Option Nat} {M M':List Blk} {t t':List PV} {L L':Loc} {a:Act} {w w':World}
theorem QoH (hmix:P.follows .mixedOrders = true) {f:FuncId} {cf:CFunc} (ok:okFn P f cf = true) {args:List PV} {r:PV} {M':List Blk}
  (h:lowM M.length M → lowL M.length args → Wp (Conc P) M.length cf.body (Vl M.length cf.results r M') M (args ++ List.replicate (cf.ntmps - args.length) .top)):Conc P (.fn f) args M r M':=by
 refine QeC hmix ok h fun fn e M1 t1 L L1 w w1 a1 hf hok hp S E S1 T1 => ?_
 obtain ⟨he,m,hn,_,hlow,rfl,vs,hres,hr,hrl⟩:=hp
 obtain ⟨cvs,g1,g2⟩:=Qgv S1 T1 _ _ _ hok hres
 rcases hr with rfl|⟨rfl,rfl⟩
 ·exact ⟨he,_,Jd g1,L1,E.take hn,S1.take hlow,QiR S1 g2 hrl⟩
 ·cases g2 with
  | cons _ v _ us h hs =>
   cases hs
   have:=h.s_inv
   subst this
   exact ⟨he,_,Jd g1,L1,E.take hn,S1.take hlow,.s _ rfl⟩
theorem Qkc (S:Sim (RO P) M L w) {n i v k:Nat} {xs:List PV} (hn:n ≤ M.length) (hlow:lowM n (M.take n)) (hi:M[i]? = some (.row true k v xs)) (hge:n ≤ i) (hx:lowL n xs) :
  (∀ {M0:List Blk} {L0:Loc} {w0:World},Evo M0 L0 w0 M L w → M0.length = n → Evo M0 L0 w0 (M.take n ++ [.row true k v xs]) (L.upd n (L i)) w) ∧
  Sim (RO P) (M.take n ++ [.row true k v xs]) (L.upd n (L i)) w:=by
 have hlen:(M.take n).length = n:=by simp;omega
 have hM:∀ j,j < n → (M.take n ++ [Blk.row true k v xs])[j]? = M[j]?:=by
  intro j hj
  rw [List.getElem?_append_left (by omega)];exact Zl hj
 have hL:∀ j,j < n → (L.upd n (L i)) j = L j:=fun j hj => Loc.upd_ne L _ (by omega)
 have get:∀ j b,(M.take n ++ [Blk.row true k v xs])[j]? = some b → (M[j]? = some b ∧ j < n) ∨ (j = n ∧ b = .row true k v xs):=by
  intro j b hj
  rcases YQ hj with ⟨h1,h2⟩|⟨h1,h2⟩
  ·exact .inl (ZG h1)
  ·exact .inr ⟨by omega,h2⟩
 have hO:∀ b,Owned (M.take n ++ [Blk.row true k v xs]) (L.upd n (L i)) b → Owned M L b:=by
  rintro b ⟨j,bl,p,h1,h2,h3,h4⟩
  rcases get j bl h1 with ⟨h5,h6⟩|⟨rfl,rfl⟩
  ·exact ⟨j,bl,p,h5,h2,by rw [← hL j h6];exact h3,h4⟩
  ·rw [Loc.upd_self] at h3
   exact ⟨i,_,p,hi,rfl,h3,h4⟩
 refine ⟨fun E e => ⟨E.os,E.tape,E.output,E.drawn,E.size,fun b h1 h2 => ⟨(E.frame b h1 h2).1,fun h => (E.frame b h1 h2).2 (hO b h)⟩,fun j b hj => ?_⟩,fun j b hj => ?_,fun x y bx bY p q hx' hy hl hne hp hq => ?_,fun g cs h => ⟨(S.env g cs h).1,fun o => (S.env g cs h).2 (hO g o)⟩⟩
 ·have hlt:j < n:=by rw [← e];exact (List.getElem?_eq_some_iff.1 hj).1
  obtain ⟨b',h1,h2⟩:=E.blk j b hj
  refine ⟨b',(hM j hlt).trans h1,?_⟩
  have hLj:=hL j hlt
  cases b with
  | row =>
   cases b' with
   | row => exact ⟨h2.1,fun e => by obtain ⟨g1,g2,g3,g4⟩:=h2.2 e;exact ⟨g1,g2,hLj.trans g3,g4⟩⟩
   | _ => exact h2.elim
  | map =>
   cases b' with
   | map => exact Eq.trans hLj h2
   | _ => exact h2.elim
  | loop =>
   cases b' with
   | loop => exact ⟨hLj.trans h2.1,h2.2⟩
   | _ => exact h2.elim
  | siter =>
   cases b' with
   | siter => exact Eq.trans hLj h2
   | _ => exact h2.elim
 ·rcases get j b hj with ⟨h1,h2⟩|⟨rfl,rfl⟩
  ·exact BRel.remap hM hL hO (S.mem j b h1) (hlow b (List.mem_of_getElem? ((Zl h2).trans h1))) (hL j h2)
  ·exact BRel.remap hM hL hO (S.mem i _ hi) (by rw [Blk.low];exact hx) (Loc.upd_self L _ _)
 ·rcases get x bx hx' with ⟨h1,h2⟩|⟨rfl,rfl⟩
  ·rcases get y bY hy with ⟨h3,h4⟩|⟨rfl,rfl⟩
   ·rw [hL x h2] at hp;rw [hL y h4] at hq
    exact S.inj x y bx bY p q h1 h3 hl hne hp hq
   ·rw [hL x h2] at hp;rw [Loc.upd_self] at hq
    exact S.inj x i bx _ p q h1 hi hl (by omega) hp hq
  ·rcases get y bY hy with ⟨h3,h4⟩|⟨rfl,rfl⟩
   ·rw [Loc.upd_self] at hp;rw [hL y h4] at hq
    exact S.inj i y _ bY p q hi h3 hl (by omega) hp hq
   ·exact absurd rfl hne
theorem QpO (hmix:P.follows .mixedOrders = true) {f:FuncId} {cf:CFunc} (ok:okFn P f cf = true) {args:List PV} {r:PV} {M':List Blk}
  (h:lowM M.length M → lowL M.length args → Wp (Conc P) M.length cf.body (Qa0 M.length cf.results r M') M (args ++ List.replicate (cf.ntmps - args.length) .top)):Conc P (.fn f) args M r M':=by
 refine QeC hmix ok h fun fn e M1 t1 L L1 w w1 a1 hf hok hp S E S1 T1 => ?_
 obtain ⟨he,hn,hlow,i,v,off,len,k,xs,hres,hge,hi,hxl,rfl,rfl⟩:=hp
 obtain ⟨cvs,g1,g2⟩:=Qgv S1 T1 _ _ _ hok hres
 cases g2 with
 | cons _ c _ us g3 g4 =>
  cases g4
  obtain ⟨k1,k2⟩:=Qkc S1 hn hlow hi hge hxl
  refine ⟨he,_,Jd g1,_,k1 E rfl,k2,?_⟩
  obtain ⟨ad,cap,rfl,hle,hcap,hm⟩:=g3.os_live hi
  refine .os _ _ _ _ true k xs ad cap ?_ hle hcap fun hne => ?_
  ·have e:(M1.take M.length).length = M.length:=by simp;omega
   rw [List.getElem?_append_right (by omega),e,Nat.sub_self];rfl
  ·obtain ⟨b,o,cc,el,q1,q2⟩:=hm hne
   exact ⟨b,o,cc,el,(Loc.upd_self _ _ _).trans q1,q2⟩
theorem QkH {ps:Array Tmp} {args:List PV} {cargs:Array Value} {ts:List PV} {ctmps:Array Value} (hs:LRel M L w ts ctmps.toList) (ha:LRel M L w args cargs.toList) :
  LRel M L w ((ps.toList.zip args).foldl (fun t p => t.set p.1 p.2) ts) ((ps.zip cargs).foldl (fun tmps (t,a) => tmps.setIfInBounds t a) ctmps).toList:=by
 rw [← Array.foldl_toList,Array.toList_zip]
 generalize ps.toList = ps
 generalize cargs.toList = cs at ha
 induction ps generalizing ts ctmps args cs with
 | nil => exact hs
 | cons p ps ih =>
  cases ha with
  | nil => exact hs
  | cons x v xs vs h h' =>
   simp only [List.zip_cons_cons,List.foldl_cons]
   exact ih (by rw [Array.toList_setIfInBounds];exact hs.set p h) _ h'
theorem turn (S:Sim (RO P) M L w) {i:Nat} {st st':LoopState} {pd pd':Option Ex} {ts:List PV} {ps:List Nat} {x y:CCode} (hi:M[i]? = some (.loop st pd ts ps x y)) {l o:Nat} (hL:L i = some (l,o))
  {r:Loop} (hr:w.heap[l]? = some (.loop r)) {pend:Option Code} (hp:QaU pd' pend) :
  Evo M L w (M.set i (.loop st' pd' ts ps x y)) L (w.putObj l (.loop { r with state:=st',pending:=pend })) ∧
   Sim (RO P) (M.set i (.loop st' pd' ts ps x y)) L (w.putObj l (.loop { r with state:=st',pending:=pend })):=by
 obtain ⟨r',h1,h2,h3,h4,h5,h6,h7⟩:=YJ S hi hL
 rw [hr] at h1;cases h1
 refine change S hi L (fun _ _ => rfl) ⟨rfl,rfl,rfl,(by first|exact Nat.le_refl _|exact Nat.le_succ _|simp)⟩ (.inl rfl) (by rw [World.putObj_size];exact Nat.le_refl _)
  (fun b hb hne => World.putObj_heap_other (fun e => hne (l,o) rfl hL e.symm)) (fun p hp => .inl ⟨p,hp,rfl⟩) ⟨rfl,rfl,rfl,rfl,rfl⟩ fun E => ?_
 exact ⟨l,o,_,hL,World.putObj_heap_same (Array.getElem?_eq_some_iff.1 hr).1,rfl,hp,h4,h5.evo E,h6,h7⟩
theorem Qmx (hmix:P.follows .mixedOrders = true) {i:Nat} {args:List PV} {r:PV} {M':List Blk} {ps:List Nat} {x y:CCode} {ts:List PV}
  (hi:M[i]? = some (.loop .ready none ts ps x y)) (hlen:args.length = ps.length)
  (h:lowM M.length M → lowL M.length args →
   Wp (Conc P) M.length x (thenK (fun M1 t1 => (∃ ts' ps' a' b',M1[i]? = some (.loop .ready none ts' ps' a' b')) ∧
    Wp (Conc P) M.length y (ZL M.length i ps x y ts r M') (M1.set i (.loop .busy none ts ps x y)) t1) (fun _ _ _ => False))
   M ((ps.zip args).foldl (fun t p => t.set p.1 p.2) ts)):Conc P (.yl i) args M r M':=by
 intro L w cargs S A
 intro b o hL
 obtain ⟨rc,h1,h2,h3,h4,h5,h6,h7⟩:=YJ S hi hL
 subst h4
 have hsz:cargs.size = rc.params.size:=by have:=A.length;simp at this hlen;omega
 refine ⟨_,_,_,_,run_yield h1 hsz,?_⟩
 have hro:QaW M L (some b):=by
  rintro l hl;cases hl
  exact ⟨i,_,_,_,_,_,_,o,hi,hL⟩
 have s:St P M L w (some b) M ((rc.params.toList.zip args).foldl (fun t p => t.set p.1 p.2) ts) L { tmps:=(rc.params.zip cargs).foldl (fun tmps (t,a) => tmps.setIfInBounds t a) rc.tmps,defers:=[] } w :=
  ⟨S,QkH h5 A,Evo.refl _ _ _,rfl⟩
 refine roundIn_of_wpIn trivial ?_
 show rc.assign.wpIn (FR (some b)) 0 P _ _ w
 refine wpIn_mono (QbL hmix hro x rc.assign h6 (h S.low A.low) s) ?_
 rintro e a1 w1 ⟨ex,M1,t1,L1,he,hq,s1⟩
 cases ex <;> cases e <;> first|exact he.elim|exact hq.elim|skip
 obtain ⟨⟨ts',ps',a',b',hi1⟩,hw⟩:=hq
 have hL1:L1 i = some (b,o) ∧ ts' = ts ∧ ps' = rc.params.toList ∧ a' = x ∧ b' = y:=by
  obtain ⟨b',k1,k2⟩:=s1.E.blk i _ hi
  rw [hi1] at k1;cases k1
  exact ⟨k2.1.trans hL,k2.2⟩
 obtain ⟨hL1,e1,e2,e3,e4⟩:=hL1
 rw [e1,e2,e3,e4] at hi1
 clear e1 e2 e3 e4
 obtain ⟨r1,g1,g2,g3,_⟩:=YJ s1.S hi1 hL1
 have hp1:r1.pending = none:=by
  cases hp:r1.pending with
  | none => rfl
  | some c => rw [hp] at g3;exact g3.elim
 refine ⟨_,run_beginRound g1 g2,?_⟩
 show rc.body.wpIn (FR (some b)) 0 P _ _ _
 have tt:=turn s1.S hi1 hL1 g1 (st':=.busy) (pd':=none) (pend:=r1.pending) (by rw [hp1];trivial)
 have s2:St P M L w (some b) (M1.set i (.loop .busy none ts rc.params.toList x y)) t1 L1 a1 (w1.putObj b (.loop { r1 with state:=.busy })) :=
  s1.same tt.1 tt.2
 refine wpIn_mono (QbL hmix hro y rc.body h7 hw s2) ?_
 rintro e a2 w2 ⟨ex,M2,t2,L2,he2,⟨⟨ts2,ps2,a2',b2',q3⟩,⟨m,q1,q0,q2,rfl⟩,rfl⟩,s3⟩
 have hL2:L2 i = some (b,o) ∧ ts2 = ts ∧ ps2 = rc.params.toList ∧ a2' = x ∧ b2' = y:=by
  obtain ⟨b',k1,k2⟩:=s3.E.blk i _ hi
  rw [q3] at k1;cases k1
  exact ⟨k2.1.trans hL,k2.2⟩
 obtain ⟨hL2,e1,e2,e3,e4⟩:=hL2
 rw [e1,e2,e3,e4] at q3
 obtain ⟨r2,u1,u2,u3,_⟩:=YJ s3.S q3 hL2
 have hlt:i < M.length:=(List.getElem?_eq_some_iff.1 hi).1
 have fin:∀ (st':LoopState) (pd':Option Ex) (pend:Option Code) (bv:Bool),QaU pd' pend → Fin P M L w (.B bv) ((M2.take m).set i (.loop st' pd' ts rc.params.toList x y)) (.returned (.bool bv))
   (w2.putObj b (.loop { r2 with state:=st',pending:=pend })):=by
  intro st' pd' pend bv hp
  have tt:=turn (s3.S.take q2) (i:=i) ((Zl (Nat.lt_of_lt_of_le hlt q1)).trans q3) hL2 u1 (st':=st') hp
  exact ⟨L2,(s3.E.take q1).trans tt.1,tt.2,.s _ rfl⟩
 cases ex <;> cases e <;> first|exact he2.elim|skip
 ·exact ⟨_,_,run_endRound none u1,fin .ready none none true trivial⟩
 ·cases he2;exact ⟨_,_,run_endRound _ u1,fin .done (some (.exit _)) (some (.exit _)) false rfl⟩
 ·cases he2;exact ⟨_,_,run_endRound _ u1,fin .done (some (.goto _)) (some (.goto _)) false rfl⟩
 ·exact ⟨_,_,run_endRound _ u1,fin .done (some .ret) (some .ret) false trivial⟩
theorem Qnk (hmix:P.follows .mixedOrders = true) {F:Prog} {X:XRel} (hF:∀ f cf,F f = some cf → okFn P f cf = true)
    (hX:∀ f args M r M',X f args M r M' → Conc P (.fn f) args M r M'):Qkd F X (Conc P) :=
  ⟨fun f cf args M r M' hf _ h => QoH hmix (hF f cf hf) h,fun f cf args M r M' hf _ h => QpO hmix (hF f cf hf) h,
   fun f args M r M' hx => hX f args M r M' hx,fun i args M r M' ps a b ts hi hlen h => Qmx hmix hi hlen h⟩
theorem Qbj (hmix:P.follows .mixedOrders = true) {F:Prog} {X:XRel} (hF:∀ f cf,F f = some cf → okFn P f cf = true)
  (hX:∀ f args M r M',X f args M r M' → Conc P (.fn f) args M r M') {f:FuncId} (hroot:(F f).isSome = true) {args:List PV} {r:PV} {M':List Blk} (h:ACall F X (.fn f) args M r M') {L:Loc} {w:World} {cargs:Array Value}
  (S:Sim (RO P) M L w) (A:LRel M L w args cargs.toList):Calls P f cargs w (Fin P M L w r M'):=by
 rcases h (Conc P) (Qnk hmix hF hX) L w cargs S A with ⟨_,h⟩|⟨_,v,w',h1,_⟩
 ·exact h
 ·obtain ⟨cf,hcf⟩:=Option.isSome_iff_exists.1 hroot
  have ok:=hF f cf hcf
  unfold okFn at ok
  split at ok
  ·rename_i fn hf
   simp only [Bool.and_eq_true,Bool.not_eq_true',beq_iff_eq] at ok
   obtain ⟨⟨⟨ok1,ok2⟩,ok3⟩,ok4⟩:=ok
   split at ok4
   ·rename_i c hb
    rw [MuLone.run_callFunc_enter hf ok1 hb cargs w] at h1
    cases h1
   ·cases ok4
  ·cases ok
end
end Go.Nac
namespace Go.Nac
def lk (i:Nat):List (Nat × PV) → PV
 | [] => .top
 | (j,v) :: r => if i = j then v else lk i r
theorem Qpj {i:Nat}:lk i [] = .top:=nrfl rfl
theorem QoN {i j:Nat} {v:PV} {r:List (Nat × PV)}:lk i ((j,v) :: r) = if i = j then v else lk i r:=nrfl rfl
def mk (n:Nat) (kvs:List (Nat × PV)):List PV:=(List.range n).map fun i => lk i kvs
theorem Qdg {n:Nat} {kvs:List (Nat × PV)}:(mk n kvs).length = n:=by simp [mk]
theorem Qfy {n i:Nat} {kvs:List (Nat × PV)}:(mk n kvs).getD i .top = if i < n then lk i kvs else .top:=by
 rw [List.getD_eq_getElem?_getD,mk,List.getElem?_map]
 split
 ·rename_i h;rw [List.getElem?_range h];rfl
 ·rename_i h;rw [List.getElem?_eq_none (by simpa using h)];rfl
theorem Qcw {n d:Nat} {v:PV} {kvs:List (Nat × PV)}:(mk n kvs).set d v = mk n ((d,v) :: kvs):=by
 apply List.ext_getElem?
 intro i
 by_cases e:i = d
 ·subst e
  by_cases h:i < n
  ·rw [List.getElem?_set_self (by rw [Qdg];exact h)]
   simp [mk,h,lk]
  ·rw [List.getElem?_eq_none (by simp [mk];omega),List.getElem?_eq_none (by simp [mk];omega)]
 ·rw [List.getElem?_set_ne (Ne.symm e)]
  simp only [mk,List.getElem?_map,lk]
  by_cases h:i < n
  ·rw [List.getElem?_range h];simp [e]
  ·rw [List.getElem?_eq_none (by simpa using h)];rfl
theorem Qp1 {n d:Nat} {v:PV} {kvs:List (Nat × PV)}:put (mk n kvs) (some d) v = mk n ((d,v) :: kvs):=Qcw
theorem ev_mk {n i:Nat} {kvs:List (Nat × PV)}:ev (mk n kvs) (.t i) = if i < n then lk i kvs else .top:=Qfy
theorem Qmq {n:Nat} {ks:List Nat} {kvs:List (Nat × PV)}:keepL ks (mk n kvs) = mk n (ks.map fun k => (k,lk k kvs)):=by
 unfold keepL
 rw [Qdg]
 apply List.ext_getElem?
 intro i
 simp only [mk,List.getElem?_map]
 by_cases h:i < n
 ·rw [List.getElem?_range h]
  simp only [Option.map_some,Option.some.injEq]
  have e1:(mk n kvs).getD i .top = lk i kvs:=by rw [Qfy,if_pos h]
  unfold mk at e1
  rw [e1]
  induction ks with
  | nil => simp [lk]
  | cons k ks ih =>
   simp only [List.contains_cons,List.map_cons,lk]
   by_cases e:i = k
   ·subst e;simp
   ·rw [if_neg e,← ih];simp [e]
 ·rw [List.getElem?_eq_none (by simpa using h)];rfl
def keepK (kvs:List (Nat × PV)):List Nat → List (Nat × PV)
 | [] => []
 | k :: ks => (k,lk k kvs) :: keepK kvs ks
theorem QjN {kvs:List (Nat × PV)}:keepK kvs [] = []:=nrfl rfl
theorem Qcz {kvs:List (Nat × PV)} {k:Nat} {ks:List Nat}:keepK kvs (k :: ks) = (k,lk k kvs) :: keepK kvs ks:=nrfl rfl
theorem Qnn {n:Nat} {ks:List Nat} {kvs:List (Nat × PV)}:keepL ks (mk n kvs) = mk n (keepK kvs ks):=by
 rw [Qmq]
 congr 1
 induction ks with
 | nil => rfl
 | cons k ks ih => rw [Qcz,← ih];rfl
theorem QbZ (args:List PV) (n:Nat) (h:args.length ≤ n):args ++ List.replicate (n - args.length) .top = mk n (args.zipIdx.map fun p => (p.2,p.1)):=by
 have key:∀ (as:List PV) (j i:Nat),lk (j + i) ((as.zipIdx j).map fun p => (p.2,p.1)) = as.getD i .top:=by
  intro as
  induction as with
  | nil => intro j i;simp [lk]
  | cons a as ih =>
   intro j i
   simp only [List.zipIdx_cons,List.map_cons,lk]
   cases i with
   | zero => simp
   | succ i => rw [if_neg (by omega),show j + (i + 1) = (j + 1) + i from by omega,ih];simp
 apply List.ext_getElem?
 intro i
 by_cases hi:i < n
 ·simp only [mk,List.getElem?_map]
  rw [List.getElem?_range hi,Option.map_some]
  have:=key args 0 i
  rw [Nat.zero_add] at this
  rw [this,List.getElem?_append,List.getD_eq_getElem?_getD]
  split
  ·rename_i h1;rw [List.getElem?_eq_getElem h1];rfl
  ·rename_i h1;rw [List.getElem?_replicate,if_pos (by omega),List.getElem?_eq_none (by omega)];rfl
 ·rw [List.getElem?_eq_none (by simp;omega),List.getElem?_eq_none (by simp [mk];omega)]
theorem QA {m n:Nat} {kvs:List (Nat × PV)} (h:lowL m (kvs.map Prod.snd)):lowL m (mk n kvs):=by
 rw [QL]
 intro x hx
 obtain ⟨i,_,rfl⟩:=List.mem_map.1 hx
 clear hx
 induction kvs with
 | nil => simp [lk,PV.low]
 | cons p kvs ih =>
  obtain ⟨j,v⟩:=p
  simp only [List.map_cons,lowL] at h
  simp only [lk]
  split
  ·exact h.1
  ·exact ih h.2
section
variable {C:CallR} {n0:Nat} {Q:Post} {K:(List Blk) → List PV → Prop} {M:(List Blk)} {t:List PV} {d:Option Nat} {os:List COper}
def b1 (o:Option PV) (f:PV → Prop):Prop:=match o with|some v => f v|none => False
def b2 (o:Option (PV × List Blk)) (f:PV → List Blk → Prop):Prop:=match o with|some (v,M) => f v M|none => False
def kont (C:CallR) (os:List COper) (K:(List Blk) → List PV → Prop) (M:List Blk) (t:List PV) (d:Option Nat):PV → Prop:=fun v => wpOps C os K M (put t d v)
def kont2 (C:CallR) (os:List COper) (K:(List Blk) → List PV → Prop) (t:List PV) (d:Option Nat):PV → List Blk → Prop:=fun v M => wpOps C os K M (put t d v)
theorem VQ {o o':Option PV} {f:PV → Prop} (h:o = o'):b1 o f = b1 o' f:=by rw [h]
theorem Vq {o o':Option (PV × List Blk)} {f:PV → List Blk → Prop} (h:o = o'):b2 o f = b2 o' f:=by rw [h]
theorem QnM {v:PV}:b1 (some v) (kont C os K M t d) = wpOps C os K M (put t d v):=nrfl rfl
theorem Qoh {v:PV} {M':List Blk}:b2 (some (v,M')) (kont2 C os K t d) = wpOps C os K M' (put t d v):=nrfl rfl
theorem Qw {o:COp} (h:o.isCall = false) {f:Option PV} (hf:res M (ev t) o = f.map (·,M)):wpOps C (⟨d,o,none⟩ :: os) K M t = b1 f (kont C os K M t d):=by
 rw [QeT h,hf]
 cases f <;> rfl
theorem Va {o:COp} (h:o.isCall = false):wpOps C (⟨d,o,none⟩ :: os) K M t = b2 (res M (ev t) o) (kont2 C os K t d):=by
 rw [QeT h]
 cases res M (ev t) o <;> rfl
theorem r_mov {x:CX}:wpOps C (⟨d,.mov x,none⟩ :: os) K M t = wpOps C os K M (put t d (ev t x)):=Qw (f:=some (ev t x)) rfl rfl
theorem Qqw {c a b:CX}:wpOps C (⟨d,.pick c a b,none⟩ :: os) K M t = b1 (pickV (ev t c) (ev t a) (ev t b)) (kont C os K M t d):=Qw rfl rfl
theorem Qn4 {z:List Value} {ps:List (Nat × Nat × CX)}:wpOps C (⟨d,.build z ps,none⟩ :: os) K M t = b1 ((QT (z.map .s) (ps.map fun p => (p.1,p.2.1,ev t p.2.2))).map .agg) (kont C os K M t d) :=
 Qw rfl (by simp only [res,Option.map_map];rfl)
theorem QqE {g:Option Nat} {x:CX}:wpOps C (⟨d,.load g x,none⟩ :: os) K M t = b1 (Q8 M g (ev t x)) (kont C os K M t d):=Qw rfl rfl
theorem r_bin {op:BinOp} {x y:CX}:wpOps C (⟨d,.bin op x y,none⟩ :: os) K M t = b1 (bin op (ev t x) (ev t y)) (kont C os K M t d):=Qw rfl rfl
theorem Qpv {op:BinOp} {x y:CX}:wpOps C (⟨d,.binb op x y,none⟩ :: os) K M t = b1 (binb op (ev t x) (ev t y)) (kont C os K M t d):=Qw rfl rfl
def eqsV (neg:Bool) (lay:List SK):PV → PV → Option PV
 | .agg xs,.agg ys => (QC lay xs ys).map fun b => .B (if neg then !b else b)
 | _,_ => none
theorem r_eqs {neg:Bool} {lay:List SK} {x y:CX}:wpOps C (⟨d,.eqs neg lay x y,none⟩ :: os) K M t = b1 (eqsV neg lay (ev t x) (ev t y)) (kont C os K M t d) :=
 Qw rfl (by
 simp only [res,eqsV]
 generalize ev t x = vx;generalize ev t y = vy
 cases vx <;> cases vy <;> first|rfl|simp only [Option.map_map,Function.comp_def])
theorem r_un {op:UnOp} {x:CX}:wpOps C (⟨d,.un op x,none⟩ :: os) K M t = b1 (un op (ev t x)) (kont C os K M t d):=Qw rfl rfl
theorem Qpg {k:IntKind} {x:CX}:wpOps C (⟨d,.conv k x,none⟩ :: os) K M t = b1 (conv k (ev t x)) (kont C os K M t d):=Qw rfl rfl
theorem r_len {x:CX}:wpOps C (⟨d,.len x,none⟩ :: os) K M t = b1 ((lenOf (ev t x)).map fun (n:Nat) => .I (n:Int)) (kont C os K M t d):=Qw rfl (by simp only [res,Option.map_map];rfl)
def lensV:PV → Option PV
 | .s (.string b) => some (.I (b.size:Int))
 | _ => none
theorem QpZ {x:CX}:wpOps C (⟨d,.lens x,none⟩ :: os) K M t = b1 (lensV (ev t x)) (kont C os K M t d):=Qw rfl (by
 simp only [res,lensV]
 generalize ev t x = vx
 cases vx <;> first|rfl|(rename_i v;cases v <;> first|rfl|simp only [Option.map_map,Function.comp_def])|(simp only [];split <;> first|rfl|simp only [Option.map_map,Function.comp_def]))
theorem r_max {x:CX} {xs:List CX}:wpOps C (⟨d,.max x xs,none⟩ :: os) K M t = b1 (foldO maxI (ev t x) (xs.map (ev t))) (kont C os K M t d):=Qw rfl rfl
theorem r_min {x:CX} {xs:List CX}:wpOps C (⟨d,.min x xs,none⟩ :: os) K M t = b1 (foldO minI (ev t x) (xs.map (ev t))) (kont C os K M t d):=Qw rfl rfl
theorem r_sop {o:SOp} {xs:List CX}:wpOps C (⟨d,.sop o xs,none⟩ :: os) K M t = b1 (sopV o (xs.map (ev t))) (kont C os K M t d):=Qw rfl rfl
theorem Qnh {n:Nat} {x:CX}:wpOps C (⟨d,.arrsl n x,none⟩ :: os) K M t = b1 (QbV n (ev t x)) (kont C os K M t d):=Qw rfl rfl
def srngO (M:List Blk):PV → Option (PV × List Blk)
 | .s (.string b) => some (.oi M.length,M ++ [.siter b 0])
 | _ => none
theorem Qqu {x:CX}:wpOps C (⟨d,.srng x,none⟩ :: os) K M t = b2 (srngO M (ev t x)) (kont2 C os K t d):=by
 rw [Va rfl]
 apply Vq
 simp only [res,srngO]
 generalize ev t x = vx
 cases vx <;> first|rfl|(rename_i v;cases v <;> rfl)
def snxtR (M:List Blk) (i:Nat):Option Blk → Option (PV × List Blk)
 | some (.siter s pos) => if pos < s.size then some (.tup [.B true,.I pos,.s (.int .i32 (Utf8.decode s pos).1)],M.set i (.siter s (pos + (Utf8.decode s pos).2))) else some (.tup [.B false],M)
 | _ => none
def snxtO (M:List Blk):PV → Option (PV × List Blk)
 | .oi i => snxtR M i M[i]?
 | _ => none
theorem Qpi {x:CX}:wpOps C (⟨d,.snxt x,none⟩ :: os) K M t = b2 (snxtO M (ev t x)) (kont2 C os K t d):=by
 rw [Va rfl]
 apply Vq
 simp only [res,snxtO]
 generalize ev t x = vx
 cases vx <;> rfl
def extV (i:Nat):PV → Option PV
 | .tup vs => vs[i]?
 | _ => none
theorem r_ext {i:Nat} {x:CX}:wpOps C (⟨d,.ext i x,none⟩ :: os) K M t = b1 (extV i (ev t x)) (kont C os K M t d):=Qw rfl (by
 simp only [res,extV]
 generalize ev t x = vx
 cases vx <;> first|rfl|(rename_i v;cases v <;> first|rfl|simp only [Option.map_map,Function.comp_def])|(simp only [];split <;> first|rfl|simp only [Option.map_map,Function.comp_def]))
def QcG (off:Nat) (g:Option Nat):PV → Option PV
 | .agg cs => mkPV g ((cs.drop off).take (g.getD 1))
 | _ => none
theorem Qoj {off:Nat} {g:Option Nat} {x:CX}:wpOps C (⟨d,.field off g x,none⟩ :: os) K M t = b1 (QcG off g (ev t x)) (kont C os K M t d):=Qw rfl (by
 simp only [res,QcG]
 generalize ev t x = vx
 cases vx <;> first|rfl|(rename_i v;cases v <;> first|rfl|simp only [Option.map_map,Function.comp_def])|(simp only [];split <;> first|rfl|simp only [Option.map_map,Function.comp_def]))
def idxaV (n k:Nat) (g:Option Nat):PV → Option Nat → Option PV
 | .agg cs,some m => if m < n then mkPV g ((cs.drop (m * k)).take (g.getD 1)) else none
 | _,_ => none
theorem QqN {n k:Nat} {g:Option Nat} {x i:CX}:wpOps C (⟨d,.idxa n k g x i,none⟩ :: os) K M t = b1 (idxaV n k g (ev t x) (asNat (ev t i))) (kont C os K M t d):=Qw rfl (by
 simp only [res,idxaV]
 generalize ev t x = vx;generalize asNat (ev t i) = vi
 cases vx <;> cases vi <;> first|rfl|(simp only [];split <;> rfl))
def idxsV:PV → Option Nat → Option PV
 | .s (.string b),some n => (b[n]?).map fun c => .s (.int .u8 c.toNat)
 | _,_ => none
theorem Qqn {x i:CX}:wpOps C (⟨d,.idxs x i,none⟩ :: os) K M t = b1 (idxsV (ev t x) (asNat (ev t i))) (kont C os K M t d):=Qw rfl (by
 simp only [res,idxsV]
 generalize ev t x = vx;generalize asNat (ev t i) = vi
 cases vi <;> cases vx <;> first|rfl|(rename_i v;cases v <;> first|rfl|simp only [Option.map_map,Function.comp_def]))
def Qi5:PV → Option PV → Option PV → Option PV
 | .s (.string b),lo,hi => (bounds b.size lo hi).map fun p => .s (.string (b.extract p.1 p.2))
 | _,_,_ => none
theorem Qo2 {x:CX} {lo hi:Option CX}:wpOps C (⟨d,.slstr x lo hi,none⟩ :: os) K M t = b1 (Qi5 (ev t x) (lo.map (ev t)) (hi.map (ev t))) (kont C os K M t d):=Qw rfl (by
 simp only [res,Qi5]
 generalize ev t x = vx
 cases vx <;> first|rfl|(rename_i v;cases v <;> first|rfl|simp only [Option.map_map,Function.comp_def])|(simp only [];split <;> first|rfl|simp only [Option.map_map,Function.comp_def]))
def arrpV (M:List Blk) (n:Nat):PV → Option PV
 | .fs xs => if n ≤ xs.length ∧ 0 < n then some (.fp ((xs.take n).flatMap PV.cells)) else none
 | .os i ver off len => if n ≤ len ∧ 0 < n then (held M (.os i ver off len)).map fun _ => .op i ver off 0 else none
 | _ => none
theorem QqM {n:Nat} {x:CX}:wpOps C (⟨d,.arrp n x,none⟩ :: os) K M t = b1 (arrpV M n (ev t x)) (kont C os K M t d):=Qw rfl (by
 simp only [res,arrpV]
 generalize ev t x = vx
 cases vx <;> first|rfl|(simp only [];split <;> simp [Option.map_map,Function.comp_def]))
def nilcV (M:List Blk):PV → Option PV
 | .fp cs => some (.fp cs)
 | .op i ver e j => if Q4 M i ver then some (.op i ver e j) else none
 | .fn (.func f) a b => some (.fn (.func f) a b)
 | _ => none
theorem QpG {x:CX}:wpOps C (⟨d,.nilc x,none⟩ :: os) K M t = b1 (nilcV M (ev t x)) (kont C os K M t d):=Qw rfl (by
 simp only [res,nilcV]
 generalize ev t x = vx
 cases vx <;> first|rfl|(rename_i f _ _;cases f <;> rfl)|(simp only [];split <;> rfl))
theorem Qp9 {f:FuncId} {cap:List CX}:wpOps C (⟨d,.mkfn f cap,none⟩ :: os) K M t = wpOps C os K M (put t d (.fn (.func f) [] (cap.map (ev t)))):=Qw (f:=some (.fn (.func f) [] (cap.map (ev t)))) rfl rfl
def YT (M:List Blk) (k:Nat):PV → Option PV → Option PV → Option PV
 | .fs xs,lo,hi => if sized k xs then (bounds xs.length lo hi).map fun b => .fs ((xs.drop b.1).take (b.2 - b.1)) else none
 | .s (.slice none 0 0),lo,hi => (bounds 0 lo hi).map fun _ => PV.nilS
 | .os i ver off len,lo,hi => if Q4 M i ver ∧ rowK M i = k then (bounds len lo hi).map fun b => .os i ver (off + b.1) (b.2 - b.1) else none
 | _,_,_ => none
theorem Qnp {k:Nat} {x:CX} {lo hi:Option CX}:wpOps C (⟨d,.slice k x lo hi,none⟩ :: os) K M t = b1 (YT M k (ev t x) (lo.map (ev t)) (hi.map (ev t))) (kont C os K M t d):=Qw rfl (by
 simp only [res,YT]
 generalize ev t x = vx
 cases vx
 case fs xs => simp only [];by_cases h:sized k xs = true <;> simp [h,Option.map_map,Function.comp_def]
 case os i ver off len => simp only [];by_cases h:Q4 M i ver = true ∧ rowK M i = k <;> simp [h,Option.map_map,Function.comp_def]
 case s v =>
  by_cases e:v = .slice none 0 0
  ·subst e;simp only [Option.map_map];rfl
  ·split
   ·rename_i h;cases h
   ·rename_i h;cases h;exact absurd rfl e
   ·rename_i h;cases h
   ·split
    ·rename_i h;cases h
    ·rename_i h;cases h;exact absurd rfl e
    ·rename_i h;cases h
    ·rfl
 all_goals rfl)
def Jw (M:List Blk) (off:Nat):PV → Option PV
 | .fp cs => if off ≤ cs.length then some (.fp (cs.drop off)) else none
 | .op i ver e j => if Q4 M i ver then some (.op i ver e (j + off)) else none
 | _ => none
theorem Qog {off:Nat} {x:CX}:wpOps C (⟨d,.faddr off x,none⟩ :: os) K M t = b1 (Jw M off (ev t x)) (kont C os K M t d):=Qw rfl (by
 simp only [res,Jw]
 generalize ev t x = vx
 cases vx <;> first|rfl|(simp only [];split <;> rfl))
def elemP (k:Nat):Option PV → Option PV
 | some y => if y.cells.length = k then some (.fp y.cells) else none
 | none => none
def rowP (k a ver off len n:Nat):Option Blk → Option PV
 | some (.row _ k' v xs) => if v = ver ∧ k' = k ∧ off + len ≤ xs.length then some (.op a ver (off + n) 0) else none
 | _ => none
def QaH (M:List Blk) (k:Nat):PV → Option Nat → Option PV
 | .fs xs,some n => elemP k (xs[n]?)
 | .os a ver off len,some n => if n < len then rowP k a ver off len n M[a]? else none
 | _,_ => none
theorem Qov {k:Nat} {x i:CX}:wpOps C (⟨d,.iaddr k x i,none⟩ :: os) K M t = b1 (QaH M k (ev t x) (asNat (ev t i))) (kont C os K M t d):=Qw rfl (by
 simp only [res,QaH]
 generalize ev t x = vx;generalize asNat (ev t i) = vi
 cases vx <;> cases vi <;> try rfl
 ·rename_i xs n
  simp only []
  cases xs[n]? with
  | none => rfl
  | some y => simp only [elemP];split <;> rfl
 ·rename_i a _ _ _ _
  simp only [];split
  ·cases M[a]? with
   | none => rfl
   | some b => cases b <;> first | rfl | (simp only [rowP];split <;> rfl)
  ·rfl)
def JB (M:List Blk) (n k:Nat):PV → Option Nat → Option PV
 | .fp cs,some m => if m < n ∧ n * k ≤ cs.length then some (.fp ((cs.drop (m * k)).take k)) else none
 | .op a ver e j,some m => if m < n ∧ Q4 M a ver then some (.op a ver e (j + m * k)) else none
 | _,_ => none
theorem Qmv {n k:Nat} {x i:CX}:wpOps C (⟨d,.iaddra n k x i,none⟩ :: os) K M t = b1 (JB M n k (ev t x) (asNat (ev t i))) (kont C os K M t d):=Qw rfl (by
 simp only [res,JB]
 generalize ev t x = vx;generalize asNat (ev t i) = vi
 cases vx <;> cases vi <;> first|rfl|(simp only [];split <;> rfl))
def lookB (z:Value) (ok:Bool) (sk:SK) (q:Value):Option Blk → Option PV
  | some (.map es) => if keyOk sk q ∧ Vz q es then
          (match find q es with
           | some v => some (if ok then .tup [.s v,.B true] else .s v)
           | none => some (if ok then .tup [.s z,.B false] else .s z))
          else none
  | _ => none
def lookV (M:List Blk) (sk:SK) (z:Value) (ok:Bool):PV → PV → Option PV
 | .om i,.s q => lookB z ok sk q M[i]?
 | _,_ => none
theorem QqJ {sk:SK} {z:Value} {ok:Bool} {m key:CX}:wpOps C (⟨d,.look sk z ok m key,none⟩ :: os) K M t = b1 (lookV M sk z ok (ev t m) (ev t key)) (kont C os K M t d):=Qw rfl (by
 simp only [res,lookV]
 generalize ev t m = vm;generalize ev t key = vk
 cases vm <;> cases vk <;> try rfl
 rename_i i q
 simp only [lookB]
 cases M[i]? with
 | none => rfl
 | some b => cases b <;> first | rfl | (rename_i es;simp only [];split <;> first | rfl | (cases find q es <;> rfl)))
theorem Qps {k:Nat}:wpOps C (⟨d,.onil k,none⟩ :: os) K M t = wpOps C os K (M ++ [.row true k 0 []]) (put t d (.os M.length 0 0 0)):=by rw [Va rfl];rfl
theorem Qn9:wpOps C (⟨d,.mkmap,none⟩ :: os) K M t = wpOps C os K (M ++ [.map []]) (put t d (.om M.length)):=by rw [Va rfl];rfl
def QjG (M:List Blk) (k:Nat):Option PV → Option (PV × List Blk)
 | some e => some (.op M.length 0 0 0,M ++ [.row true k 0 [e]])
 | none => none
theorem Qoc {g:Option Nat} {z:List Value}:wpOps C (⟨d,.alloc g z,none⟩ :: os) K M t = b2 (QjG M z.length (mkPV g (z.map .s))) (kont2 C os K t d):=by
 rw [Va rfl];simp only [res];cases mkPV g (z.map .s) <;> rfl
def boxO (M:List Blk) (own:Bool) (k:Nat) (v:PV):Option (PV × List Blk) :=
 if v.cells.length = k ∧ k ≠ 0 then
   if own then some (.op M.length 0 0 0,M ++ [.row true k 0 [v]]) else some (.fp (view M v).cells,M)
  else none
theorem r_box {own:Bool} {k:Nat} {x:CX}:wpOps C (⟨d,.box own k x,none⟩ :: os) K M t = b2 (boxO M own k (ev t x)) (kont2 C os K t d):=Va rfl
def bslO (M:List Blk) (own:Bool) (k:Nat) (vs:List PV):Option (PV × List Blk) :=
 if vs.all (fun x => x.cells.length = k) ∧ k ≠ 0 then
   if own then some (.os M.length 0 0 vs.length,M ++ [.row true k 0 vs]) else some (.fs (vs.map (view M)),M)
  else none
theorem r_bsl {own:Bool} {k:Nat} {xs:List CX}:wpOps C (⟨d,.bsl own k xs,none⟩ :: os) K M t = b2 (bslO M own k (xs.map (ev t))) (kont2 C os K t d):=by
 rw [Va rfl];simp only [res,bslO,List.length_map,List.map_map,Function.comp_def]
def Qct (M:List Blk) (k:Nat):PV → PV → Option (PV × List Blk)
 | .op i ver e j,v => if v.cells.length = k ∧ k ≠ 0 then (Q9 M i ver e j v.cells).map (unit,·) else none
 | _,_ => none
theorem Qnl {k:Nat} {a v:CX}:wpOps C (⟨d,.store k a v,none⟩ :: os) K M t = b2 (Qct M k (ev t a) (ev t v)) (kont2 C os K t d):=by
 rw [Va rfl];simp only [res,Qct]
 generalize ev t a = va
 cases va <;> rfl
def mkslO (M:List Blk) (k:Nat) (g:Option Nat) (z:List Value) (bytes:Nat):PV → PV → Option (PV × List Blk)
 | .s (.int .i64 l),.s (.int .i64 c) =>
   if 0 ≤ l ∧ l = c ∧ l ≤ 2 ^ 20 ∧ bytes ≤ 2 ^ 20 ∧ z.length = k ∧ 0 < k then
    (mkPV g (z.map .s)).map fun e => (.os M.length 0 0 l.toNat,M ++ [.row true k 0 (List.replicate l.toNat e)])
   else none
 | _,_ => none
theorem Qqf {k:Nat} {g:Option Nat} {z:List Value} {bytes:Nat} {a b:CX}:wpOps C (⟨d,.mksl k g z bytes a b,none⟩ :: os) K M t = b2 (mkslO M k g z bytes (ev t a) (ev t b)) (kont2 C os K t d):=by
 rw [Va rfl];rfl
def appO (M:List Blk) (k bytes:Nat) (vx:PV) (o:Option (List PV)):Option (PV × List Blk) :=
  match o with
  | some ys =>
   if ys.all (QS k) ∧ k ≠ 0 ∧ bytes ≤ 2 ^ 20 then
    match vx with
    | .s (.slice none 0 0) => if ys.length ≤ 2 ^ 20 then some (.os M.length 0 0 ys.length,M ++ [.row true k 0 ys]) else none
    | .os i ver off len => match M[i]? with
     | some (.row true k' v xs) =>
      if v = ver ∧ k' = k ∧ off + len ≤ xs.length ∧ len + ys.length ≤ 2 ^ 20 then
       some (.os i (ver + 1) 0 (len + ys.length),M.set i (.row true k (ver + 1) ((xs.drop off).take len ++ ys)))
      else none
     | _ => none
    | _ => none
   else none
  | none => none
theorem Qj2 {k bytes:Nat} {x y:CX}:res M (ev t) (.append k bytes x y) = appO M k bytes (ev t x) (held M (ev t y)):=nrfl rfl
def appR (M:List Blk) (k bytes i ver off len:Nat) (ys:List PV):Option Blk → Option (PV × List Blk)
 | some (.row true k' v xs) => if (ys.all (QS k) ∧ k ≠ 0 ∧ bytes ≤ 2 ^ 20) ∧ v = ver ∧ k' = k ∧ off + len ≤ xs.length ∧ len + ys.length ≤ 2 ^ 20 then
       some (.os i (ver + 1) 0 (len + ys.length),M.set i (.row true k (ver + 1) ((xs.drop off).take len ++ ys))) else none
 | _ => none
theorem Qno {k bytes i ver off len:Nat} {ys:List PV}:appO M k bytes (.os i ver off len) (some ys) = appR M k bytes i ver off len ys M[i]?:=by
 simp only [appO,appR]
 cases M[i]? with
 | none => simp
 | some b =>
  cases b with
  | row w k' v xs =>
   cases w
   ·simp
   ·simp only []
    by_cases h:ys.all (QS k) = true ∧ k ≠ 0 ∧ bytes ≤ 2 ^ 20
    ·rw [if_pos h]
     by_cases h2:v = ver ∧ k' = k ∧ off + len ≤ xs.length ∧ len + ys.length ≤ 2 ^ 20
     ·rw [if_pos h2,if_pos ⟨h,h2⟩]
     ·rw [if_neg h2,if_neg (fun h3 => h2 h3.2)]
    ·rw [if_neg h,if_neg (fun h3 => h h3.1)]
  | _ => simp
theorem Qe2 {M:List Blk} {k bytes i ver len:Nat} {xs ys:List PV} (hl:len = xs.length) (hy:ys.all (QS k) = true) (hk:k ≠ 0) (hb:bytes ≤ 2 ^ 20) (hs:xs.length + ys.length ≤ 1048576) :
  appR M k bytes i ver 0 len ys (some (.row true k ver xs)) = some (.os i (ver + 1) 0 (len + ys.length),M.set i (.row true k (ver + 1) (xs ++ ys))):=by
 subst hl
 have e:(xs.drop 0).take xs.length = xs:=by simp
 show (if (ys.all (QS k) = true ∧ k ≠ 0 ∧ bytes ≤ 2 ^ 20) ∧ ver = ver ∧ k = k ∧ 0 + xs.length ≤ xs.length ∧ xs.length + ys.length ≤ 2 ^ 20 then some (PV.os i (ver + 1) 0 (xs.length + ys.length),M.set i (Blk.row true k (ver + 1) ((xs.drop 0).take xs.length ++ ys))) else none) = _
 rw [if_pos ⟨⟨hy,hk,hb⟩,rfl,rfl,by omega,by omega⟩,e]
theorem Qey {M:List Blk} {k bytes:Nat} {ys:List PV} (hy:ys.all (QS k) = true) (hk:k ≠ 0) (hb:bytes ≤ 2 ^ 20) (hs:ys.length ≤ 1048576) :
  appO M k bytes PV.nilS (some ys) = some (.os M.length 0 0 ys.length,M ++ [.row true k 0 ys]):=by
 simp only [appO]
 rw [if_pos ⟨hy,hk,hb⟩,if_pos (by omega)]
theorem QmG {k bytes:Nat} {x y:CX}:wpOps C (⟨d,.append k bytes x y,none⟩ :: os) K M t = b2 (appO M k bytes (ev t x) (held M (ev t y))) (kont2 C os K t d):=by
 rw [Va rfl,Qj2]
def V6:Option (PV × List Blk) → Option (PV × List Blk)
 | some (v,M) => (Ql M v.cells).map fun M' => (view M' v,M')
 | none => none
theorem r_fz {c:COp} {r:Option (PV × List Blk)} (h:res M (ev t) c = r):wpOps C (⟨d,.fz c,none⟩ :: os) K M t = b2 (V6 r) (kont2 C os K t d):=by
 subst h
 apply propext
 show (∃ v M',(∃ v0 M1,res M (ev t) c = some (v0,M1) ∧ Ql M1 v0.cells = some M' ∧ v = view M' v0) ∧ wpOps C os K M' (put t d v)) ↔ _
 cases hr:res M (ev t) c with
 | none => simp [V6,b2]
 | some p =>
  obtain ⟨v0,M1⟩:=p
  cases hf:Ql M1 v0.cells with
  | none => simp [V6,b2,hf]
  | some M2 =>
   simp only [V6,b2,hf,kont2,Option.map_some]
   constructor
   ·rintro ⟨v,M',⟨v1,M3,h1,h2,rfl⟩,h3⟩
    cases h1
    rw [hf] at h2;cases h2
    exact h3
   ·exact fun h => ⟨_,_,⟨_,_,rfl,hf,rfl⟩,h⟩
theorem Qo4 {x:CX}:wpOps C (⟨d,.fz (.mov x),none⟩ :: os) K M t = b2 (V6 (some (ev t x,M))) (kont2 C os K t d):=r_fz rfl
theorem QnO {k bytes:Nat} {x y:CX}:wpOps C (⟨d,.fz (.append k bytes x y),none⟩ :: os) K M t = b2 (V6 (appO M k bytes (ev t x) (held M (ev t y)))) (kont2 C os K t d):=r_fz Qj2
def mupdB (M:List Blk) (i:Nat) (sk:SK) (q u:Value):Option Blk → Option (PV × List Blk)
 | some (.map es) => if keyOk sk q ∧ Vz q es then some (unit,M.set i (.map (upd q u es))) else none
 | _ => none
def mupdO (M:List Blk) (sk:SK):PV → PV → PV → Option (PV × List Blk)
 | .om i,.s q,.s u => mupdB M i sk q u M[i]?
 | _,_,_ => none
theorem Qqc {sk:SK} {m key v:CX}:wpOps C (⟨d,.mupd sk m key v,none⟩ :: os) K M t = b2 (mupdO M sk (ev t m) (ev t key) (ev t v)) (kont2 C os K t d):=by
 rw [Va rfl]
 simp only [res,mupdO]
 generalize ev t m = vm;generalize ev t key = vk;generalize ev t v = vv
 cases vm <;> cases vk <;> cases vv <;> rfl
def gK (x:PV) (want:Bool) (C:CallR) (d:Option Nat) (o:COp) (os:List COper) (K:(List Blk) → List PV → Prop) (M:List Blk) (t:List PV):Prop :=
 QcD x want (wpOps C (⟨d,o,none⟩ :: os) K M t) (wpOps C os K M (put t d unit))
theorem Qm8 {o:COp} {g:Nat} {want:Bool}:wpOps C (⟨d,o,some (g,want)⟩ :: os) K M t = gK (t.getD g .top) want C d o os K M t:=nrfl rfl
theorem VT {x x':PV} {want:Bool} {o:COp} (h:x = x'):gK x want C d o os K M t = gK x' want C d o os K M t:=by rw [h]
theorem gK_tt {o:COp}:gK (.B true) true C d o os K M t = wpOps C (⟨d,o,none⟩ :: os) K M t:=by unfold gK;rw [J6];rfl
theorem gK_ff {o:COp}:gK (.B false) false C d o os K M t = wpOps C (⟨d,o,none⟩ :: os) K M t:=by unfold gK;rw [J6];rfl
theorem gK_tf {o:COp}:gK (.B true) false C d o os K M t = wpOps C os K M (put t d unit):=by unfold gK;rw [J6];rfl
theorem gK_ft {o:COp}:gK (.B false) true C d o os K M t = wpOps C os K M (put t d unit):=by unfold gK;rw [J6];rfl
theorem Qoq {o:COp} {want:Bool}:gK unit want C d o os K M t = wpOps C os K M (put t d unit):=by unfold gK;rw [QfL]
theorem ZA {c want:Bool} {o:COp} (h1:c = true → gK (.B true) want C d o os K M t) (h2:c = false → gK (.B false) want C d o os K M t):gK (.B c) want C d o os K M t:=by
 cases c
 ·exact h2 rfl
 ·exact h1 rfl
def cK (x:PV) (C:CallR) (n0:Nat) (a b:CCode) (Q:Post) (M:List Blk) (t:List PV):Prop:=Qau x true (Wp C n0 a Q M t) (Wp C n0 b Q M t)
theorem Qpc {c:CX} {a b:CCode}:Wp C n0 (.cond c a b) Q M t = cK (ev t c) C n0 a b Q M t:=by rw [Qnd];rfl
theorem VN {x x':PV} {a b:CCode} (h:x = x'):cK x C n0 a b Q M t = cK x' C n0 a b Q M t:=by rw [h]
theorem cK_t {a b:CCode}:cK (.B true) C n0 a b Q M t = Wp C n0 a Q M t:=by unfold cK;rw [Qe9];rfl
theorem cK_f {a b:CCode}:cK (.B false) C n0 a b Q M t = Wp C n0 b Q M t:=by unfold cK;rw [Qe9];rfl
theorem QF {c:Bool} {a b:CCode} (h1:c = true → cK (.B true) C n0 a b Q M t) (h2:c = false → cK (.B false) C n0 a b Q M t):cK (.B c) C n0 a b Q M t:=by
 cases c
 ·exact h2 rfl
 ·exact h1 rfl
def callP (C:CallR) (lo:Bool) (g:Callee) (args:List PV) (M:List Blk) (k:PV → List Blk → Prop):Prop:=∃ v M',(lo = false → M' = M) ∧ C g args M v M' ∧ k v M'
theorem Qql {lo:Bool} {g:FuncId} {args:List CX}:wpOps C (⟨d,.call lo (.inr g) args,none⟩ :: os) K M t = callP C lo (.fn g) (args.map (argV M (ev t))) M (kont2 C os K t d):=by
 apply propext
 show (∃ v M',((lo = false → M' = M) ∧ C (.fn g) (args.map (argV M (ev t))) M v M') ∧ wpOps C os K M' (put t d v)) ↔ _
 exact ⟨fun ⟨v,M',⟨h1,h2⟩,h3⟩ => ⟨v,M',h1,h2,h3⟩,fun ⟨v,M',h1,h2,h3⟩ => ⟨v,M',⟨h1,h2⟩,h3⟩⟩
def callV (C:CallR) (lo:Bool) (f:PV) (args:List PV) (M:List Blk) (k:PV → List Blk → Prop):Prop :=
 match f with
 | .fn (.func g) first cap => callP C lo (.fn g) (first ++ args ++ cap) M k
 | .yl i => callP C lo (.yl i) args M k
 | _ => False
theorem QnJ {lo:Bool} {x:CX} {args:List CX}:wpOps C (⟨d,.call lo (.inl x) args,none⟩ :: os) K M t = callV C lo (ev t x) (args.map (argV M (ev t))) M (kont2 C os K t d):=by
 apply propext
 show (∃ v M',((lo = false → M' = M) ∧ (match ev t x with
   | .fn (.func g) first cap => C (.fn g) (first ++ args.map (argV M (ev t)) ++ cap) M v M'
   | .yl i => C (.yl i) (args.map (argV M (ev t))) M v M'
   | _ => False)) ∧ wpOps C os K M' (put t d v)) ↔ _
 unfold callV
 split
 ·exact ⟨fun ⟨v,M',⟨h1,h2⟩,h3⟩ => ⟨v,M',h1,h2,h3⟩,fun ⟨v,M',h1,h2,h3⟩ => ⟨v,M',⟨h1,h2⟩,h3⟩⟩
 ·exact ⟨fun ⟨v,M',⟨h1,h2⟩,h3⟩ => ⟨v,M',h1,h2,h3⟩,fun ⟨v,M',h1,h2,h3⟩ => ⟨v,M',⟨h1,h2⟩,h3⟩⟩
 ·simp
theorem Ql9 {lo:Bool} {g:FuncId} {first cap args:List PV} {k:PV → List Blk → Prop}:callV C lo (.fn (.func g) first cap) args M k = callP C lo (.fn g) (first ++ args ++ cap) M k:=nrfl rfl
theorem Qmt {lo:Bool} {i:Nat} {args:List PV} {k:PV → List Blk → Prop}:callV C lo (.yl i) args M k = callP C lo (.yl i) args M k:=nrfl rfl
theorem Qb {lo:Bool} {g:Callee} {args:List PV} {k:PV → List Blk → Prop} {r:PV} (h:C g args M r M) (hk:k r M):callP C lo g args M k:=⟨r,M,fun _ => rfl,h,hk⟩
theorem Q6 {g:Callee} {args:List PV} {k:PV → List Blk → Prop} {r:PV} {M':List Blk} (h:C g args M r M') (hk:k r M'):callP C true g args M k:=⟨r,M',(fun h => by cases h),h,hk⟩
theorem Qmc {v:PV} {M':List Blk}:kont2 C os K t d v M' = wpOps C os K M' (put t d v):=nrfl rfl
theorem Qo3 {ks:List Nat}:Wp C n0 (.keep ks) Q M t = Q .normal M (keepL ks t):=nrfl rfl
def fixP (Q:Post) (i:Nat) (v:PV) (t:List PV):Option (List Blk) → Prop
 | some M' => Q .normal M' (t.set i (view M' v))
 | none => False
theorem Qqg {i:Nat}:Wp C n0 (.fix i) Q M t = fixP Q i (t.getD i .top) t (Ql M (t.getD i .top).cells):=by
 apply propext
 show (∃ M',Ql M (t.getD i .top).cells = some M' ∧ Q .normal M' (t.set i (view M' (t.getD i .top)))) ↔ _
 cases Ql M (t.getD i .top).cells with
 | none => simp [fixP]
 | some M' => simp [fixP]
theorem Qi0 {i:Nat} {v:PV} {M':List Blk}:fixP Q i v t (some M') = Q .normal M' (t.set i (view M' v)):=nrfl rfl
def Again {α:Type} (n:Nat) (I:α → Prop) (σ:α → List Blk) (τ:α → List (Nat × PV)) (μ:α → Nat) (x:α) (M:List Blk) (t:List PV):Prop:=∃ y,I y ∧ μ y < μ x ∧ M = σ y ∧ t = mk n (τ y)
theorem again {α:Type} {n:Nat} {I:α → Prop} {σ:α → List Blk} {τ:α → List (Nat × PV)} {μ:α → Nat} {x:α} (y:α) (h1:I y) (h2:μ y < μ x) (h3:M = σ y) (h4:t = mk n (τ y)):Again n I σ τ μ x M t:=⟨y,h1,h2,h3,h4⟩
theorem again' {α:Type} {n:Nat} {I:α → Prop} {σ:α → List Blk} {τ:α → List (Nat × PV)} {μ:α → Nat} {x:α} {kvs:List (Nat × PV)} (y:α) (h1:I y) (h2:μ y < μ x) (h3:M = σ y) (h4:kvs = τ y):Again n I σ τ μ x M (mk n kvs):=⟨y,h1,h2,h3,by rw [h4]⟩
theorem Qo {c:CCode} {n:Nat} {kvs:List (Nat × PV)} {α:Type} (x0:α) (I:α → Prop) (σ:α → List Blk) (τ:α → List (Nat × PV)) (μ:α → Nat) (h0:I x0) (hM:M = σ x0) (ht:kvs = τ x0)
  (h:∀ x,I x → Wp C n0 c (thenK (Again n I σ τ μ x) Q) (σ x) (mk n (τ x))):Wp C n0 (.loop c) Q M (mk n kvs):=by
 subst hM;subst ht
 exact Qlr I σ (fun x => mk n (τ x)) μ h x0 h0
end
theorem Qe7 {n:Nat} {rs:List (Nat × Option (Option Nat))} {r:PV} {M N:List Blk} {t:List PV} {vs:List PV} {e:Ex} (he:match e with|.ret|.normal => True|_ => False) (hM:lowM M.length M) (hn:n = M.length)
  (hv:resOf (M ++ N) t rs = some vs) (hr:mkRes M.length (M ++ N) vs = r) (hl:r.low M.length):Vl n rs r M e (M ++ N) t:=by
 subst hn
 exact ⟨he,M.length,Nat.le_refl _,by simp,by simpa using hM,by simp,vs,hv,.inl hr.symm,hl⟩
theorem Qko {n:Nat} {rs:List (Nat × Option (Option Nat))} {r:PV} {M:List Blk} {t:List PV} {vs:List PV} {e:Ex} (he:match e with|.ret|.normal => True|_ => False) (hM:lowM M.length M) (hn:n = M.length)
  (hv:resOf M t rs = some vs) (hr:mkRes M.length M vs = r) (hl:r.low M.length):Vl n rs r M e M t:=by
 have:=Qe7 (N:=[]) (r:=r) (rs:=rs) (t:=t) (vs:=vs) he hM hn (by simpa using hv) (by simpa using hr) hl
 simpa using this
end Go.Nac
