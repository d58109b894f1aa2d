import Derived.Test.YtdlngmbgalmdeaaK11
set_option linter.unusedVariables false
set_option linter.unusedSectionVars false
set_option linter.unusedSimpArgs false
namespace Go.Nac
def okRes (P : Program) : List (Nat × Option (Option Nat)) → List ResultVar → Bool
  | [], [] => true
  | (i, none) :: r, .tmp j :: q => i == j && okRes P r q
  | (i, some g) :: r, .cell a t :: q => i == a && okG P t g && okRes P r q
  | _, _ => false
def okFn (P : Program) (f : FuncId) (cf : CFunc) : Bool :=
  match P.funcs[f]? with
  | some fn => !(fn.name == "runtime.NumGoroutine") && fn.ntmps == cf.ntmps && okRes P cf.results fn.results.toList &&
      (match fn.body with | some c => okCode P cf.body c | none => false)
  | none => false
section
variable {P : Program} {M0 : List Blk} {L0 : Loc} {w0 : World} {ro : Option Nat} {M M' : List Blk} {t t' : List PV} {L L' : Loc} {a : Act} {w w' : World}
def resVar (tmps : Array Value) : ResultVar → Sem Value
  | .tmp t => pure (tmps.getD t undef)
  | .cell a t => do loadVar t (← asAddr (tmps.getD a undef))
theorem results_eq (fn : Func) (tmps : Array Value) : results fn tmps = (do let vs ← fn.results.mapM (resVar tmps); pure (if h : vs.size = 1 then vs[0] else .tuple vs)) := by
  unfold results
  congr 1
theorem run_mapM {α β : Type} (f : α → Sem β) (xs : Array α) (vs : List β) (w : World) (h : (xs.toList.mapM f).run P w = .ok vs w) : (xs.mapM f).run P w = .ok vs.toArray w := by
  rw [Array.mapM_eq_mapM_toList, map_eq_pure_bind, Sem.run_bind, h]
  rfl
theorem loadAt_cell {tt : TypeId} {c cv : Value} (h : (Instr.loadAt tt c).run P w = .ok cv w) : (do loadVar tt (← asAddr c) : Sem Value).run P w = .ok cv w := by
  unfold Instr.loadAt at h
  cases c
  case pointer p =>
    cases p with
    | none => cases h
    | some a => exact h
  all_goals cases h
theorem res_rel (S : Sim (RO P) M L w) (T : LRel M L w t a.tmps.toList) : ∀ (rs : List (Nat × Option (Option Nat))) (qs : List ResultVar) (vs : List PV), okRes P rs qs = true → resOf M t rs = some vs →
    ∃ cvs, (qs.mapM (resVar a.tmps)).run P w = .ok cvs w ∧ LRel M L w vs cvs := by
  have tmp : ∀ i, VRel M L w (t.getD i .top) (a.tmps.getD i undef) := by
    intro i
    rw [Array.getD_eq_getD_getElem?, List.getD_eq_getElem?_getD]
    cases hx : t[i]? with
    | none => exact .top _
    | some x =>
      obtain ⟨v, h1, h2⟩ := T.get hx
      rw [Array.getElem?_toList] at h1
      rw [h1]; exact h2
  intro rs
  induction rs with
  | nil =>
    intro qs vs ok h
    cases qs with
    | nil => cases h; exact ⟨[], by simp, .nil⟩
    | cons => cases ok
  | cons r rs ih =>
    intro qs vs ok h
    obtain ⟨i, g⟩ := r
    cases qs with
    | nil => cases g <;> cases ok
    | cons q qs =>
      cases g with
      | none =>
        cases q with
        | cell => cases ok
        | tmp j =>
          simp only [okRes, Bool.and_eq_true, beq_iff_eq] at ok
          obtain ⟨rfl, ok⟩ := ok
          simp only [resOf] at h
          cases hr : resOf M t rs with
          | none => rw [hr] at h; cases h
          | some us =>
            rw [hr] at h; cases h
            obtain ⟨cvs, h1, h2⟩ := ih qs us ok hr
            refine ⟨_ :: cvs, ?_, .cons _ _ _ _ (tmp i) h2⟩
            simp only [List.mapM_cons, resVar, pure_bind, Sem.run_bind, h1, Result.andThen_ok, Sem.run_pure]
      | some g =>
        cases q with
        | tmp => cases ok
        | cell b tt =>
          simp only [okRes, Bool.and_eq_true, beq_iff_eq] at ok
          obtain ⟨⟨rfl, ok1⟩, ok⟩ := ok
          simp only [resOf] at h
          split at h
          · rename_i v M1 us hl hr
            cases h
            obtain ⟨cvs, h1, h2⟩ := ih qs us ok hr
            simp only [res, ev] at hl
            obtain ⟨hl, _⟩ := map_pair hl
            obtain ⟨cv, h3, h4⟩ := load_rel (P := P) S (tmp i) ok1 hl
            refine ⟨cv :: cvs, ?_, .cons _ _ _ _ h4 h2⟩
            simp only [List.mapM_cons, Sem.run_bind, resVar]
            have := loadAt_cell h3
            simp only [Sem.run_bind] at this
            rw [this]
            simp only [Result.andThen_ok, h1, Sem.run_pure]
          · cases h
def oneOr : List Value → Value
  | [v] => v
  | vs => .tuple vs.toArray
theorem run_results {fn : Func} {tmps : Array Value} {cvs : List Value} (h : (fn.results.toList.mapM (resVar tmps)).run P w = .ok cvs w) :
    (results fn tmps).run P w = .ok (oneOr cvs) w := by
  rw [results_eq, Sem.run_bind, run_mapM _ _ _ _ h]
  cases cvs with
  | nil => rfl
  | cons v vs => cases vs with | nil => rfl | cons u vs => simp [oneOr]
theorem mkRes_rel (S : Sim (RO P) M L w) {n : Nat} {vs : List PV} {cvs : List Value} (h : LRel M L w vs cvs) (l : (mkRes n M vs).low n) : VRel (M.take n) L w (mkRes n M vs) (oneOr cvs) := by
  cases h with
  | nil => exact .tup _ _ .nil
  | cons x v xs us h hs =>
    cases hs with
    | nil => exact h.outV S l
    | cons y u ys us h' hs =>
      simp only [mkRes, PV.low] at l ⊢
      exact .tup _ _ (LRel.outV S (.cons _ _ _ _ h (.cons _ _ _ _ h' hs)) l)
/-- All marks are passed. -/
theorem leaves {fn : Func} {tmps : Array Value} {Rr : Ending → World → Prop} (ds : List Deferred) : ∀ {w : World}, Marks w0.heap.size M L w ds → Sim (RO P) M L w → LRel M L w t tmps.toList → Evo M0 L0 w0 M L w →
    (∀ w', Sim (RO P) M L w' → LRel M L w' t tmps.toList → Evo M0 L0 w0 M L w' → ∃ v, (results fn tmps).run P w' = .ok v w' ∧ Rr (.returned v) w') → LeavesInM (FR none) 0 P fn tmps Rr ds .returning w := by
  induction ds with
  | nil => intro w _ S T E k; exact k w S T E
  | cons d ds ih =>
    intro w hm S T E k
    obtain ⟨⟨D, rfl, h1, h2, h3, h4⟩, h5⟩ := hm
    have hD : ∀ c el s, w.heap[D]? ≠ some (.cells c el s) := by intro c el s h; rw [h2] at h; cases h
    refine ⟨by simp, .inl ⟨D, _, rfl, run_takeDeferred h2, ?_⟩⟩
    refine ih ?_ (S.poke hD h3) (T.poke hD) (E.poke hD h1) k
    clear ih
    induction ds with
    | nil => exact trivial
    | cons d' ds ih2 =>
      obtain ⟨⟨D', rfl, g1, g2, g3, g4⟩, g5⟩ := h5
      have hne : D' ≠ D := fun e => h4 { target := .collected D', args := #[] } (by simp) (by rw [e])
      exact ⟨⟨D', rfl, g1, by rw [World.putObj_heap_other hne]; exact g2, g3, g4⟩, ih2 g5 fun d hd => h4 d (List.mem_cons_of_mem _ hd)⟩
theorem tmps_rel {args : List PV} {cargs : Array Value} (h : LRel M L w args cargs.toList) (n : Nat) : LRel M L w (args ++ List.replicate (n - args.length) .top) (cargs ++ Array.replicate (n - cargs.size) undef).toList := by
  have hl : args.length = cargs.size := by simpa using h.length
  simp only [Array.toList_append, Array.toList_replicate]
  rw [hl]
  refine h.append ?_
  have := LRel.tops (M := M) (L := L) (w := w) (List.replicate (n - cargs.size) undef)
  simpa using this
/-- A function's contract from its body. -/
theorem fn_sound (hmix : P.follows .mixedOrders = true) {f : FuncId} {cf : CFunc} (ok : okFn P f cf = true) {args : List PV} {r : PV} {M' : List Blk} {Q : Post}
    (h : lowM M.length M → lowL M.length args → Wp (Conc P) M.length cf.body Q M (args ++ List.replicate (cf.ntmps - args.length) .top))
    (hq : ∀ (fn : Func) e M1 t1 L L1 w w1 (a1 : Act), P.funcs[f]? = some fn → okRes P cf.results fn.results.toList = true → Q e M1 t1 → Sim (RO P) M L w → Evo M L w M1 L1 w1 → Sim (RO P) M1 L1 w1 → LRel M1 L1 w1 t1 a1.tmps.toList →
      (match e with | .ret | .normal => True | _ => False) ∧ ∃ v, (results fn a1.tmps).run P w1 = .ok v w1 ∧ Fin P M L w r M' (.returned v) w1) : Conc P (.fn f) args M r M' := by
  intro L w cargs S A
  unfold okFn at ok
  split at ok
  · rename_i fn hf
    simp only [Bool.and_eq_true, Bool.not_eq_true', beq_iff_eq] at ok
    obtain ⟨⟨⟨ok1, ok2⟩, ok3⟩, ok4⟩ := ok
    split at ok4
    · rename_i c hb
      refine ⟨MuLone.run_callFunc_enter hf ok1 hb cargs w, callsIn_wide.1 (show CallsIn (FR none) 0 P f cargs w _ from callsIn_of_wp_marks hf hb trivial ?_)⟩
      have hw := h S.low A.low
      have s : St P M L w none M (args ++ List.replicate (cf.ntmps - args.length) .top) L { tmps := cargs ++ Array.replicate (fn.ntmps - cargs.size) undef, defers := [] } w :=
        ⟨S, by rw [← ok2]; exact tmps_rel A _, Evo.refl _ _ _, trivial⟩
      refine wpIn_mono (Wp_sound hmix (fun l hl => by cases hl) cf.body c ok4 hw s) ?_
      rintro e a1 w1 ⟨ex, M1, t1, L1, he, hqe, s1⟩
      have fin := fun w' S1 T1 E1 => hq fn ex M1 t1 L L1 w w' a1 hf ok3 hqe S E1 S1 T1
      have out : LeavesInM (FR none) 0 P fn a1.tmps (Fin P M L w r M') a1.defers .returning w1 :=
        leaves a1.defers s1.D s1.S s1.T s1.E fun w' S' T' E' => (fin w' S' T' E').2
      have hx := (fin w1 s1.S s1.T s1.E).1
      cases ex <;> cases e <;> first | exact he.elim | exact hx.elim | exact out
    · cases ok4
  · cases ok
end
end Go.Nac

