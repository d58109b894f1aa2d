import Derived.Test.YtdlngmbgalmdeaaK10b
import Derived.Scope
set_option linter.unusedVariables false
set_option linter.unusedSectionVars false
set_option linter.unusedSimpArgs false
namespace Go.Nac
section
variable {P : Program} {M0 : List Blk} {L0 : Loc} {w0 : World} {ro : Option Nat}
theorem cp_then {Q : Post} {K : List Blk → List PV → Prop} {Y : Act → World → Prop} (hk : ∀ M t L a w, K M t → St P M0 L0 w0 ro M t L a w → Y a w) :
    ∀ e a w, CP P M0 L0 w0 ro (thenK K Q) e a w → Exit.then Y (CP P M0 L0 w0 ro Q) e a w := by
  rintro e a w ⟨ex, M, t, L, h1, h2, h3⟩
  cases ex <;> cases e <;> first | exact h1.elim | skip
  · exact hk _ _ _ _ _ h2 h3
  all_goals exact ⟨_, M, t, L, h1, h2, h3⟩
theorem cp_block {Q : Post} {id : Nat} : ∀ e a w, CP P M0 L0 w0 ro (blockK id Q) e a w → Exit.inBlock id (CP P M0 L0 w0 ro Q) e a w := by
  rintro e a w ⟨ex, M, t, L, h1, h2, h3⟩
  cases ex <;> cases e <;> first | exact h1.elim | skip
  case exit.exit i j =>
    cases h1
    simp only [blockK] at h2
    simp only [Exit.inBlock]
    split
    · rename_i e; rw [if_pos e] at h2; exact ⟨.normal, M, t, L, trivial, h2, h3⟩
    · rename_i e; rw [if_neg e] at h2; exact ⟨.exit i, M, t, L, rfl, h2, h3⟩
  all_goals exact ⟨_, M, t, L, h1, h2, h3⟩
theorem wpIn_scope {F : Fence} {n : Nat} {Q : Exit → Act → World → Prop} {a : Act} {w : World} {c : Code} (h : c.wpIn F n P (Exit.noGoto Q) a w) : (Code.scope c).wpIn F n P Q a w := by
  intro b k cs hro hb hr
  have h0 : (lone (b.atR a (.code (.scope c) :: k)) cs w).fenced P F := fenced_calm hb hr rfl
  have step : step P (lone (b.atR a (.code (.scope c) :: k)) cs w) = .next (lone (b.atR a (.code c :: .inScope c :: k)) cs w) :=
    step_lone_go (by simp [stepG, stepG.exec, Frame.atR])
  have step2 : ∀ (a : Act) (w : World), Go.step P (lone (b.atR a (.inScope c :: k)) cs w) = .next (lone (b.atR a k) cs w) := fun a w =>
    step_lone_go (by simp [stepG, stepG.exec, Frame.atR])
  obtain ⟨e, a₁, w₁, hq, harr⟩ := h b (.inScope c :: k) cs hro hb hr
  have hx : ∀ id, exitTo id (.inScope c :: k) = exitTo id k := fun id => by simp [exitTo]
  cases e with
  | normal => exact ⟨.normal, a₁, w₁, hq, .head h0 step (StepsIn.trans harr (.one (fenced_calm hb hr rfl) (step2 _ _)))⟩
  | exit id => exact ⟨.exit id, a₁, w₁, hq, fun k' hk => .head h0 step (harr.1 k' (by rw [hx]; exact hk)),
      fun hr' hk => let ⟨k₁, h1, h2⟩ := harr.2 hr' (by rw [hx]; exact hk); ⟨k₁, h1, .head h0 step h2⟩⟩
  | goto l => exact hq.elim
  | ret => exact ⟨_, a₁, w₁, hq, .of_steps (.one h0 step) harr⟩
  | panic ch => exact ⟨_, a₁, w₁, hq, .of_steps (.one h0 step) harr⟩
  | outgrown => exact ⟨_, a₁, w₁, hq, .of_steps (.one h0 step) harr⟩
theorem cp_scope {Q : Post} : ∀ e a w, CP P M0 L0 w0 ro (scopeK Q) e a w → Exit.noGoto (CP P M0 L0 w0 ro Q) e a w := by
  rintro e a w ⟨ex, M, t, L, h1, h2, h3⟩
  cases ex <;> cases e <;> first | exact h1.elim | exact h2.elim | skip
  all_goals exact ⟨_, M, t, L, h1, h2, h3⟩
theorem ev_bool {M : List Blk} {t : List PV} {L : Loc} {a : Act} {w : World} (s : St P M0 L0 w0 ro M t L a w) {c : CX} {c' : Operand} (ok : okX c c' = true) {b : Bool} (h : ev t c = .B b) : a.eval c' = .bool b := by
  have := s.fit _ _ ok
  rw [h] at this
  exact this.s_inv
theorem okCode_seq {x y : CCode} {d : Code} (h : okCode P (.seq x y) d = true) : (ghost x = true ∧ okCode P y d = true) ∨ (ghost y = true ∧ okCode P x d = true) ∨ ∃ u v, d = .seq u v ∧ okCode P x u = true ∧ okCode P y v = true := by
  cases d
  case seq u v =>
    simp [okCode] at h
    rcases h with (h | h) | h
    · exact .inl h
    · exact .inr (.inl h)
    · exact .inr (.inr ⟨u, v, rfl, h.1, h.2⟩)
  all_goals
    simp [okCode] at h
    rcases h with h | h
    · exact .inl h
    · exact .inr (.inl h)
theorem Wp_sound (hmix : P.follows .mixedOrders = true) (hro : InRound M0 L0 ro) (c : CCode) : ∀ (d : Code), okCode P c d = true → ∀ {Q : Post} {M : List Blk} {t : List PV} {L : Loc} {a : Act} {w : World},
    Wp (Conc P) M0.length c Q M t → St P M0 L0 w0 ro M t L a w → d.wpIn (FR ro) 0 P (CP P M0 L0 w0 ro Q) a w := by
  induction c with
  | skip =>
    intro d ok Q M t L a w h s
    cases d <;> first | (simp [okCode] at ok; done) | skip
    exact wpIn_skip ⟨.normal, M, t, L, trivial, h, s⟩
  | region cs =>
    intro d ok Q M t L a w h s
    cases d <;> first | (simp [okCode] at ok; done) | skip
    exact region_sound hmix ok s h fun M' t' L' a' w' hq s' => ⟨.normal, M', t', L', trivial, hq, s'⟩
  | regionD cs pairs =>
    intro d ok Q M t L a w h s
    cases d <;> first | (simp [okCode] at ok; done) | skip
    exact regionD_sound hmix ok s h fun M' t' L' a' w' hq s' => ⟨.normal, M', t', L', trivial, hq, s'⟩
  | seq x y ihx ihy =>
    intro d ok Q M t L a w h s
    have h' : Wp (Conc P) M0.length x (thenK (Wp (Conc P) M0.length y Q) Q) M t := h
    rcases okCode_seq ok with ⟨g, ok⟩ | ⟨g, ok⟩ | ⟨u, v, rfl, ok1, ok2⟩
    · obtain ⟨M', t', L', h1, s'⟩ := ghost_sound x g h' s
      exact ihy d ok h1 s'
    · refine wpIn_mono (ihx d ok h' s) ?_
      rintro e a w ⟨ex, M', t', L', h1, h2, h3⟩
      cases ex
      · obtain ⟨M2, t2, L2, h4, s2⟩ := ghost_sound y g h2 h3
        exact ⟨.normal, M2, t2, L2, h1, h4, s2⟩
      all_goals exact ⟨_, M', t', L', h1, h2, h3⟩
    · exact wpIn_seq (wpIn_mono (ihx _ ok1 h' s) (cp_then fun M t L a w h s => ihy _ ok2 h s))
  | cond c x y ihx ihy =>
    intro d ok Q M t L a w h s
    cases d <;> first | (simp [okCode] at ok; done) | skip
    simp only [okCode, Bool.and_eq_true] at ok
    obtain ⟨b, h1, h2⟩ := h
    refine wpIn_cond (ev_bool s ok.1.1 h1) ?_
    cases b
    · exact ihy _ ok.2 h2 s
    · exact ihx _ ok.1.2 h2 s
  | block id c ih =>
    intro d ok Q M t L a w h s
    cases d <;> first | (simp [okCode] at ok; done) | skip
    simp only [okCode, Bool.and_eq_true, beq_iff_eq] at ok
    obtain ⟨rfl, ok⟩ := ok
    exact wpIn_block (wpIn_mono (ih _ ok h s) cp_block)
  | scope c ih =>
    intro d ok Q M t L a w h s
    cases d <;> first | (simp [okCode] at ok; done) | skip
    exact wpIn_scope (wpIn_mono (ih _ (by simpa [okCode] using ok) h s) cp_scope)
  | loop c ih =>
    intro d ok Q M t L a w h s
    cases d <;> first | (simp [okCode] at ok; done) | skip
    rename_i d
    simp only [okCode] at ok
    intro b k cs hb1 hb hr
    have key := h (fun M t => ∀ L a w, St P M0 L0 w0 ro M t L a w → ∃ e a' w', CP P M0 L0 w0 ro Q e a' w' ∧
        ArrivesIn (Machine.fenced P (FR ro)) P (lone (b.atR a (.code d :: .inLoop d :: k)) cs w) b k cs e a' w') (by
      intro M t hw L a w s
      obtain ⟨e, a₁, w₁, hq, harr⟩ := ih d ok hw s b (.inLoop d :: k) cs hb1 hb hr
      obtain ⟨ex, M', t', L', h1, h2, h3⟩ := hq
      cases ex <;> cases e <;> first | exact h1.elim | skip
      · obtain ⟨e₂, a₂, w₂, hq₂, harr₂⟩ := h2 L' a₁ w₁ h3
        exact ⟨e₂, a₂, w₂, hq₂, .of_steps (StepsIn.trans harr (.one (fenced_calm hb hr rfl) stepR_inLoop)) harr₂⟩
      all_goals exact ⟨_, a₁, w₁, ⟨_, M', t', L', h1, h2, h3⟩, .pass (x := .inLoop d) rfl (fun _ _ => .inl (by simp)) harr⟩)
    obtain ⟨e, a', w', hq, harr⟩ := key L a w s
    exact ⟨e, a', w', hq, .of_steps (.one (fenced_calm hb hr rfl) stepR_loop) harr⟩
  | rangeFunc f ps x y _ _ =>
    intro d ok Q M t L a w h s
    cases d <;> first | (simp [okCode] at ok; done) | skip
    simp only [okCode, Bool.and_eq_true, beq_iff_eq] at ok
    exact range_sound hro s ok.1.1.1 ok.1.1.2 ok.1.2 ok.2 h
  | exit id =>
    intro d ok Q M t L a w h s
    cases d <;> first | (simp [okCode] at ok; done) | skip
    simp only [okCode, beq_iff_eq] at ok
    subst ok
    exact wpIn_exit ⟨.exit id, M, t, L, rfl, h, s⟩
  | goto id =>
    intro d ok Q M t L a w h s
    cases d <;> first | (simp [okCode] at ok; done) | skip
    simp only [okCode, beq_iff_eq] at ok
    subst ok
    exact wpIn_goto ⟨.goto id, M, t, L, rfl, h, s⟩
  | label id =>
    intro d ok Q M t L a w h s
    cases d <;> first | (simp [okCode] at ok; done) | skip
    exact wpIn_label ⟨.normal, M, t, L, trivial, h, s⟩
  | ret =>
    intro d ok Q M t L a w h s
    cases d <;> first | (simp [okCode] at ok; done) | skip
    exact wpIn_ret ⟨.ret, M, t, L, trivial, h, s⟩
  | bad => intro d ok Q M t L a w h s; exact h.elim
  | _ =>
    intro d ok Q M t L a w h s
    cases d <;> (simp [okCode] at ok; done)
end
end Go.Nac

