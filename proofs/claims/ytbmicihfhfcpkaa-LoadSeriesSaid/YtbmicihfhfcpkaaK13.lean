import Derived.Test.YtbmicihfhfcpkaaK10
set_option linter.unusedVariables false
set_option linter.unusedSectionVars false
set_option linter.unusedSimpArgs false
namespace Go.Nac
section
variable {P : Program} {M0 : List Blk} {L0 : Loc} {w0 : World} {ro : Option Nat} {M M' : List Blk} {t t' : List PV} {L L' : Loc} {a : Act} {w w' : World}
theorem fn_body (hmix : P.follows .mixedOrders = true) {f : FuncId} {cf : CFunc} (ok : okFn P f cf = true) {args : List PV} {r : PV} {M' : List Blk}
    (h : lowM M.length M → lowL M.length args → Wp (Conc P) M.length cf.body (bodyPost M.length cf.results r M') M (args ++ List.replicate (cf.ntmps - args.length) .top)) : Conc P (.fn f) args M r M' := by
  refine fn_sound hmix ok h fun fn e M1 t1 L L1 w w1 a1 hf hok hp S E S1 T1 => ?_
  obtain ⟨he, m, hn, _, hlow, rfl, vs, hres, hr, hrl⟩ := hp
  obtain ⟨cvs, g1, g2⟩ := res_rel S1 T1 _ _ _ hok hres
  rcases hr with rfl | ⟨rfl, rfl⟩
  · exact ⟨he, _, run_results g1, L1, E.take hn, S1.take hlow, mkRes_rel S1 g2 hrl⟩
  · cases g2 with
    | cons _ v _ us h hs =>
      cases hs
      have := h.s_inv
      subst this
      exact ⟨he, _, run_results g1, L1, E.take hn, S1.take hlow, .s _ rfl⟩
theorem own_sound (S : Sim (RO P) M L w) {n i v k : Nat} {xs : List PV} (hn : n ≤ M.length) (hlow : lowM n (M.take n)) (hi : M[i]? = some (.row true k v xs)) (hge : n ≤ i) (hx : lowL n xs) :
    (∀ {M0 : List Blk} {L0 : Loc} {w0 : World}, Evo M0 L0 w0 M L w → M0.length = n → Evo M0 L0 w0 (M.take n ++ [.row true k v xs]) (L.upd n (L i)) w) ∧
    Sim (RO P) (M.take n ++ [.row true k v xs]) (L.upd n (L i)) w := by
  have hlen : (M.take n).length = n := by simp; omega
  have hM : ∀ j, j < n → (M.take n ++ [Blk.row true k v xs])[j]? = M[j]? := by
    intro j hj
    rw [List.getElem?_append_left (by omega)]; exact take_get hj
  have hL : ∀ j, j < n → (L.upd n (L i)) j = L j := fun j hj => Loc.upd_ne L _ (by omega)
  have get : ∀ j b, (M.take n ++ [Blk.row true k v xs])[j]? = some b → (M[j]? = some b ∧ j < n) ∨ (j = n ∧ b = .row true k v xs) := by
    intro j b hj
    rcases get_push hj with ⟨h1, h2⟩ | ⟨h1, h2⟩
    · exact .inl (take_some h1)
    · exact .inr ⟨by omega, h2⟩
  have hO : ∀ b, Owned (M.take n ++ [Blk.row true k v xs]) (L.upd n (L i)) b → Owned M L b := by
    rintro b ⟨j, bl, p, h1, h2, h3, h4⟩
    rcases get j bl h1 with ⟨h5, h6⟩ | ⟨rfl, rfl⟩
    · exact ⟨j, bl, p, h5, h2, by rw [← hL j h6]; exact h3, h4⟩
    · rw [Loc.upd_self] at h3
      exact ⟨i, _, p, hi, rfl, h3, h4⟩
  refine ⟨fun E e => ⟨E.os, E.tape, E.output, E.size, fun b h1 h2 => ⟨(E.frame b h1 h2).1, fun h => (E.frame b h1 h2).2 (hO b h)⟩, fun j b hj => ?_⟩, fun j b hj => ?_, fun x y bx bY p q hx' hy hl hne hp hq => ?_⟩
  · have hlt : j < n := by rw [← e]; exact (List.getElem?_eq_some_iff.1 hj).1
    obtain ⟨b', h1, h2⟩ := E.blk j b hj
    refine ⟨b', (hM j hlt).trans h1, ?_⟩
    have hLj := hL j hlt
    cases b with
    | row =>
      cases b' with
      | row => exact ⟨h2.1, fun e => by obtain ⟨g1, g2, g3, g4⟩ := h2.2 e; exact ⟨g1, g2, hLj.trans g3, g4⟩⟩
      | _ => exact h2.elim
    | map =>
      cases b' with
      | map => exact Eq.trans hLj h2
      | _ => exact h2.elim
    | loop =>
      cases b' with
      | loop => exact ⟨hLj.trans h2.1, h2.2⟩
      | _ => exact h2.elim
    | siter =>
      cases b' with
      | siter => exact Eq.trans hLj h2
      | _ => exact h2.elim
  · rcases get j b hj with ⟨h1, h2⟩ | ⟨rfl, rfl⟩
    · exact BRel.remap hM hL hO (S.mem j b h1) (hlow b (List.mem_of_getElem? ((take_get h2).trans h1))) (hL j h2)
    · exact BRel.remap hM hL hO (S.mem i _ hi) (by rw [Blk.low]; exact hx) (Loc.upd_self L _ _)
  · rcases get x bx hx' with ⟨h1, h2⟩ | ⟨rfl, rfl⟩
    · rcases get y bY hy with ⟨h3, h4⟩ | ⟨rfl, rfl⟩
      · rw [hL x h2] at hp; rw [hL y h4] at hq
        exact S.inj x y bx bY p q h1 h3 hl hne hp hq
      · rw [hL x h2] at hp; rw [Loc.upd_self] at hq
        exact S.inj x i bx _ p q h1 hi hl (by omega) hp hq
    · rcases get y bY hy with ⟨h3, h4⟩ | ⟨rfl, rfl⟩
      · rw [Loc.upd_self] at hp; rw [hL y h4] at hq
        exact S.inj i y _ bY p q hi h3 hl (by omega) hp hq
      · exact absurd rfl hne
theorem fn_own (hmix : P.follows .mixedOrders = true) {f : FuncId} {cf : CFunc} (ok : okFn P f cf = true) {args : List PV} {r : PV} {M' : List Blk}
    (h : lowM M.length M → lowL M.length args → Wp (Conc P) M.length cf.body (ownPost M.length cf.results r M') M (args ++ List.replicate (cf.ntmps - args.length) .top)) : Conc P (.fn f) args M r M' := by
  refine fn_sound hmix ok h fun fn e M1 t1 L L1 w w1 a1 hf hok hp S E S1 T1 => ?_
  obtain ⟨he, hn, hlow, i, v, off, len, k, xs, hres, hge, hi, hxl, rfl, rfl⟩ := hp
  obtain ⟨cvs, g1, g2⟩ := res_rel S1 T1 _ _ _ hok hres
  cases g2 with
  | cons _ c _ us g3 g4 =>
    cases g4
    obtain ⟨k1, k2⟩ := own_sound S1 hn hlow hi hge hxl
    refine ⟨he, _, run_results g1, _, k1 E rfl, k2, ?_⟩
    obtain ⟨ad, cap, rfl, hle, hcap, hm⟩ := g3.os_live hi
    refine .os _ _ _ _ true k xs ad cap ?_ hle hcap fun hne => ?_
    · have e : (M1.take M.length).length = M.length := by simp; omega
      rw [List.getElem?_append_right (by omega), e, Nat.sub_self]; rfl
    · obtain ⟨b, o, cc, el, q1, q2⟩ := hm hne
      exact ⟨b, o, cc, el, (Loc.upd_self _ _ _).trans q1, q2⟩
theorem fold_rel {ps : Array Tmp} {args : List PV} {cargs : Array Value} {ts : List PV} {ctmps : Array Value} (hs : LRel M L w ts ctmps.toList) (ha : LRel M L w args cargs.toList) :
    LRel M L w ((ps.toList.zip args).foldl (fun t p => t.set p.1 p.2) ts) ((ps.zip cargs).foldl (fun tmps (t, a) => tmps.setIfInBounds t a) ctmps).toList := by
  rw [← Array.foldl_toList, Array.toList_zip]
  generalize ps.toList = ps
  generalize cargs.toList = cs at ha
  induction ps generalizing ts ctmps args cs with
  | nil => exact hs
  | cons p ps ih =>
    cases ha with
    | nil => exact hs
    | cons x v xs vs h h' =>
      simp only [List.zip_cons_cons, List.foldl_cons]
      exact ih (by rw [Array.toList_setIfInBounds]; exact hs.set p h) _ h'
/-- A record is turned. -/
theorem turn (S : Sim (RO P) M L w) {i : Nat} {st st' : LoopState} {pd pd' : Option Ex} {ts : List PV} {ps : List Nat} {x y : CCode} (hi : M[i]? = some (.loop st pd ts ps x y)) {l o : Nat} (hL : L i = some (l, o))
    {r : Loop} (hr : w.heap[l]? = some (.loop r)) {pend : Option Code} (hp : pendRel pd' pend) :
    Evo M L w (M.set i (.loop st' pd' ts ps x y)) L (w.putObj l (.loop { r with state := st', pending := pend })) ∧
      Sim (RO P) (M.set i (.loop st' pd' ts ps x y)) L (w.putObj l (.loop { r with state := st', pending := pend })) := by
  obtain ⟨r', h1, h2, h3, h4, h5, h6, h7⟩ := loop_at S hi hL
  rw [hr] at h1; cases h1
  refine change S hi L (fun _ _ => rfl) ⟨rfl, rfl, rfl⟩ (.inl rfl) (by rw [World.putObj_size]; exact Nat.le_refl _)
    (fun b hb hne => World.putObj_heap_other (fun e => hne (l, o) rfl hL e.symm)) (fun p hp => .inl ⟨p, hp, rfl⟩) ⟨rfl, rfl, rfl, rfl, rfl⟩ fun E => ?_
  exact ⟨l, o, _, hL, World.putObj_heap_same (Array.getElem?_eq_some_iff.1 hr).1, rfl, hp, h4, h5.evo E, h6, h7⟩
theorem yl_sound (hmix : P.follows .mixedOrders = true) {i : Nat} {args : List PV} {r : PV} {M' : List Blk} {ps : List Nat} {x y : CCode} {ts : List PV}
    (hi : M[i]? = some (.loop .ready none ts ps x y)) (hlen : args.length = ps.length)
    (h : lowM M.length M → lowL M.length args →
      Wp (Conc P) M.length x (thenK (fun M1 t1 => (∃ ts' ps' a' b', M1[i]? = some (.loop .ready none ts' ps' a' b')) ∧
        Wp (Conc P) M.length y (roundPost M.length i ps x y ts r M') (M1.set i (.loop .busy none ts ps x y)) t1) (fun _ _ _ => False))
      M ((ps.zip args).foldl (fun t p => t.set p.1 p.2) ts)) : Conc P (.yl i) args M r M' := by
  intro L w cargs S A
  intro b o hL
  obtain ⟨rc, h1, h2, h3, h4, h5, h6, h7⟩ := loop_at S hi hL
  subst h4
  have hsz : cargs.size = rc.params.size := by have := A.length; simp at this hlen; omega
  refine ⟨_, _, _, _, run_yield h1 hsz, ?_⟩
  have hro : InRound M L (some b) := by
    rintro l hl; cases hl
    exact ⟨i, _, _, _, _, _, _, o, hi, hL⟩
  have s : St P M L w (some b) M ((rc.params.toList.zip args).foldl (fun t p => t.set p.1 p.2) ts) L { tmps := (rc.params.zip cargs).foldl (fun tmps (t, a) => tmps.setIfInBounds t a) rc.tmps, defers := [] } w :=
    ⟨S, fold_rel h5 A, Evo.refl _ _ _, rfl⟩
  refine roundIn_of_wpIn trivial ?_
  show rc.assign.wpIn (FR (some b)) 0 P _ _ w
  refine wpIn_mono (Wp_sound hmix hro x rc.assign h6 (h S.low A.low) s) ?_
  rintro e a1 w1 ⟨ex, M1, t1, L1, he, hq, s1⟩
  cases ex <;> cases e <;> first | exact he.elim | exact hq.elim | skip
  obtain ⟨⟨ts', ps', a', b', hi1⟩, hw⟩ := hq
  have hL1 : L1 i = some (b, o) ∧ ts' = ts ∧ ps' = rc.params.toList ∧ a' = x ∧ b' = y := by
    obtain ⟨b', k1, k2⟩ := s1.E.blk i _ hi
    rw [hi1] at k1; cases k1
    exact ⟨k2.1.trans hL, k2.2⟩
  obtain ⟨hL1, e1, e2, e3, e4⟩ := hL1
  rw [e1, e2, e3, e4] at hi1
  clear e1 e2 e3 e4
  obtain ⟨r1, g1, g2, g3, _⟩ := loop_at s1.S hi1 hL1
  have hp1 : r1.pending = none := by
    cases hp : r1.pending with
    | none => rfl
    | some c => rw [hp] at g3; exact g3.elim
  refine ⟨_, run_beginRound g1 g2, ?_⟩
  show rc.body.wpIn (FR (some b)) 0 P _ _ _
  have tt := turn s1.S hi1 hL1 g1 (st' := .busy) (pd' := none) (pend := r1.pending) (by rw [hp1]; trivial)
  have s2 : St P M L w (some b) (M1.set i (.loop .busy none ts rc.params.toList x y)) t1 L1 a1 (w1.putObj b (.loop { r1 with state := .busy })) :=
    s1.same tt.1 tt.2
  refine wpIn_mono (Wp_sound hmix hro y rc.body h7 hw s2) ?_
  rintro e a2 w2 ⟨ex, M2, t2, L2, he2, ⟨⟨ts2, ps2, a2', b2', q3⟩, ⟨m, q1, q0, q2, rfl⟩, rfl⟩, s3⟩
  have hL2 : L2 i = some (b, o) ∧ ts2 = ts ∧ ps2 = rc.params.toList ∧ a2' = x ∧ b2' = y := by
    obtain ⟨b', k1, k2⟩ := s3.E.blk i _ hi
    rw [q3] at k1; cases k1
    exact ⟨k2.1.trans hL, k2.2⟩
  obtain ⟨hL2, e1, e2, e3, e4⟩ := hL2
  rw [e1, e2, e3, e4] at q3
  obtain ⟨r2, u1, u2, u3, _⟩ := loop_at s3.S q3 hL2
  have hlt : i < M.length := (List.getElem?_eq_some_iff.1 hi).1
  have fin : ∀ (st' : LoopState) (pd' : Option Ex) (pend : Option Code) (bv : Bool), pendRel pd' pend → Fin P M L w (.B bv) ((M2.take m).set i (.loop st' pd' ts rc.params.toList x y)) (.returned (.bool bv))
      (w2.putObj b (.loop { r2 with state := st', pending := pend })) := by
    intro st' pd' pend bv hp
    have tt := turn (s3.S.take q2) (i := i) ((take_get (Nat.lt_of_lt_of_le hlt q1)).trans q3) hL2 u1 (st' := st') hp
    exact ⟨L2, (s3.E.take q1).trans tt.1, tt.2, .s _ rfl⟩
  cases ex <;> cases e <;> first | exact he2.elim | skip
  · exact ⟨_, _, run_endRound none u1, fin .ready none none true trivial⟩
  · cases he2; exact ⟨_, _, run_endRound _ u1, fin .done (some (.exit _)) (some (.exit _)) false rfl⟩
  · cases he2; exact ⟨_, _, run_endRound _ u1, fin .done (some (.goto _)) (some (.goto _)) false rfl⟩
  · exact ⟨_, _, run_endRound _ u1, fin .done (some .ret) (some .ret) false trivial⟩
theorem conc_ok (hmix : P.follows .mixedOrders = true) {F : Prog} {X : FuncId → List PV → PV → Prop} (hF : ∀ f cf, F f = some cf → okFn P f cf = true)
    (hX : ∀ f args r, X f args r → ∀ M, Conc P (.fn f) args M r M) : CallOk F X (Conc P) :=
  ⟨fun f cf args M r M' hf _ h => fn_body hmix (hF f cf hf) h, fun f cf args M r M' hf _ h => fn_own hmix (hF f cf hf) h,
   fun f args M r hx => hX f args r hx M, fun i args M r M' ps a b ts hi hlen h => yl_sound hmix hi hlen h⟩
/-- **The plain reading's calls are the machine's.** -/
theorem ACall_sound (hmix : P.follows .mixedOrders = true) {F : Prog} {X : FuncId → List PV → PV → Prop} (hF : ∀ f cf, F f = some cf → okFn P f cf = true)
    (hX : ∀ f args r, X f args r → ∀ M, Conc P (.fn f) args M r M) {f : FuncId} (hroot : (F f).isSome = true) {args : List PV} {r : PV} {M' : List Blk} (h : ACall F X (.fn f) args M r M') {L : Loc} {w : World} {cargs : Array Value}
    (S : Sim (RO P) M L w) (A : LRel M L w args cargs.toList) : Calls P f cargs w (Fin P M L w r M') := by
  rcases h (Conc P) (conc_ok hmix hF hX) L w cargs S A with ⟨_, h⟩ | ⟨_, v, w', h1, _⟩
  · exact h
  · obtain ⟨cf, hcf⟩ := Option.isSome_iff_exists.1 hroot
    have ok := hF f cf hcf
    unfold okFn at ok
    split at ok
    · rename_i fn hf
      simp only [Bool.and_eq_true, Bool.not_eq_true', beq_iff_eq] at ok
      obtain ⟨⟨⟨ok1, ok2⟩, ok3⟩, ok4⟩ := ok
      split at ok4
      · rename_i c hb
        rw [MuLone.run_callFunc_enter hf ok1 hb cargs w] at h1
        cases h1
      · cases ok4
    · cases ok
end
end Go.Nac

