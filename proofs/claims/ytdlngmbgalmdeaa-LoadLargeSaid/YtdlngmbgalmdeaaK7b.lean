import Derived.Test.YtdlngmbgalmdeaaK7
set_option linter.unusedVariables false
set_option linter.unusedSectionVars false
set_option linter.unusedSimpArgs false
namespace Go.Nac
def stepOf (C : CallR) (o : COper) (M : List Blk) (t : List PV) (M' : List Blk) (t' : List PV) : Prop :=
  match o.guard with
  | none => ∃ v, Res C o.op M (ev t) v M' ∧ t' = put t o.dst v
  | some (g, want) => ∃ b, wanted (t.getD g .top) want = some b ∧
      (if b = true then ∃ v, Res C o.op M (ev t) v M' ∧ t' = put t o.dst v else M' = M ∧ t' = put t o.dst unit)
def runL (C : CallR) (cs : List COper) : List Nat → List Blk → List PV → List Blk → List PV → Prop
  | [], M, t, M', t' => M' = M ∧ t' = t
  | i :: r, M, t, M', t' => ∃ o M1 t1, cs[i]? = some o ∧ stepOf C o M t M1 t1 ∧ runL C cs r M1 t1 M' t'
theorem wpOp_step {C : CallR} {o : COper} {K : List Blk → List PV → Prop} {M : List Blk} {t : List PV} (h : wpOp C o K M t) : ∃ M' t', stepOf C o M t M' t' ∧ K M' t' := by
  cases hg : o.guard with
  | none =>
    rw [wpOp, hg] at h
    obtain ⟨v, M', h1, h2⟩ := h
    refine ⟨M', _, ?_, h2⟩
    rw [stepOf, hg]
    exact ⟨v, h1, rfl⟩
  | some p =>
    obtain ⟨g, want⟩ := p
    rw [wpOp, hg] at h
    obtain ⟨b, h0, h⟩ := h
    by_cases hb : b = true
    · rw [if_pos hb] at h
      obtain ⟨v, M', h1, h2⟩ := h
      refine ⟨M', _, ?_, h2⟩
      rw [stepOf, hg]
      exact ⟨b, h0, by rw [if_pos hb]; exact ⟨v, h1, rfl⟩⟩
    · rw [if_neg hb] at h
      refine ⟨M, _, ?_, h⟩
      rw [stepOf, hg]
      exact ⟨b, h0, by rw [if_neg hb]; exact ⟨rfl, rfl⟩⟩
theorem wpOps_run {C : CallR} {K : List Blk → List PV → Prop} (pre : List COper) : ∀ (os : List COper) {M : List Blk} {t : List PV}, wpOps C os K M t →
    ∃ M' t', runL C (pre ++ os) (List.range' pre.length os.length) M t M' t' ∧ K M' t' := by
  intro os
  induction os generalizing pre with
  | nil => exact fun h => ⟨_, _, ⟨rfl, rfl⟩, h⟩
  | cons o os ih =>
    intro M t h
    obtain ⟨M1, t1, h1, h2⟩ := wpOp_step h
    obtain ⟨M2, t2, h3, h4⟩ := ih (pre ++ [o]) h2
    refine ⟨M2, t2, ?_, h4⟩
    simp only [List.length_append, List.length_cons, List.length_nil, List.append_assoc, List.cons_append, List.nil_append, List.range'_succ] at h3 ⊢
    exact ⟨o, M1, t1, by simp, h1, h3⟩
def COper.looks (o : COper) : List Nat :=
  (o.op.opnds.filterMap fun | .t n => some n | _ => none) ++ (match o.guard with | some (g, _) => [g] | none => [])
def indep (a b : COper) : Bool :=
  (match a.dst with | some d => !b.looks.contains d && b.dst != some d | none => true) &&
  (match b.dst with | some d => !a.looks.contains d | none => true) &&
  (a.op.cls == 0 || b.op.cls == 0 || (decide (a.op.cls ≤ 1) && decide (b.op.cls ≤ 1)))
theorem ev_put {t : List PV} {dst : Option Nat} {v : PV} {o : COper} (h : ∀ d, dst = some d → d ∉ o.looks) : ∀ x ∈ o.op.opnds, ev (put t dst v) x = ev t x := by
  intro x hx
  cases dst with
  | none => rfl
  | some d =>
    cases x with
    | t n =>
      have hne : d ≠ n := fun e => h d rfl (by simp only [COper.looks, List.mem_append, List.mem_filterMap]; exact .inl ⟨.t n, hx, by simp [e]⟩)
      simp [ev, put, List.getD, List.getElem?_set_ne hne]
    | k v => rfl
    | f g => rfl
theorem guard_put {t : List PV} {dst : Option Nat} {v : PV} {o : COper} (h : ∀ d, dst = some d → d ∉ o.looks) {g : Nat} {want : Bool} (hg : o.guard = some (g, want)) :
    (put t dst v).getD g .top = t.getD g .top := by
  cases dst with
  | none => rfl
  | some d =>
    have hne : d ≠ g := fun e => h d rfl (by simp [COper.looks, hg, e])
    simp [put, List.getD, List.getElem?_set_ne hne]
theorem put_comm {t : List PV} {a b : Option Nat} {v u : PV} (h : ∀ d, a = some d → b ≠ some d) : put (put t a v) b u = put (put t b u) a v := by
  cases a with
  | none => rfl
  | some d =>
    cases b with
    | none => rfl
    | some e =>
      have : d ≠ e := fun x => h d rfl (by rw [x])
      simp only [put]
      exact List.set_comm _ _ this
/-- What a step does, once its temporaries are known to be the same. -/
theorem stepOf_put {C : CallR} {o : COper} {M M' : List Blk} {t t' : List PV} {dst : Option Nat} {v : PV} (h : ∀ d, dst = some d → d ∉ o.looks) (hd : ∀ d, dst = some d → o.dst ≠ some d)
    (k : stepOf C o (M) (put t dst v) M' t') : ∃ t1, stepOf C o M t M' t1 ∧ t' = put t1 dst v := by
  unfold stepOf at *
  split at k
  · obtain ⟨u, h1, rfl⟩ := k
    exact ⟨_, ⟨u, Res_congr _ (ev_put h) h1, rfl⟩, put_comm hd⟩
  · rename_i g want hg
    obtain ⟨b, h0, k⟩ := k
    rw [guard_put h hg] at h0
    split at k
    · rename_i hb
      obtain ⟨u, h1, rfl⟩ := k
      exact ⟨_, ⟨b, h0, by rw [if_pos hb]; exact ⟨u, Res_congr _ (ev_put h) h1, rfl⟩⟩, put_comm hd⟩
    · rename_i hb
      obtain ⟨rfl, rfl⟩ := k
      exact ⟨_, ⟨b, h0, by rw [if_neg hb]; exact ⟨rfl, rfl⟩⟩, put_comm hd⟩
theorem stepOf_put' {C : CallR} {o : COper} {M M' : List Blk} {t t1 : List PV} {dst : Option Nat} {v : PV} (h : ∀ d, dst = some d → d ∉ o.looks) (hd : ∀ d, dst = some d → o.dst ≠ some d)
    (k : stepOf C o M t M' t1) : stepOf C o M (put t dst v) M' (put t1 dst v) := by
  unfold stepOf at *
  split at k
  · obtain ⟨u, h1, rfl⟩ := k
    exact ⟨u, Res_congr _ (fun x hx => (ev_put h x hx).symm) h1, (put_comm hd).symm⟩
  · rename_i g want hg
    obtain ⟨b, h0, k⟩ := k
    refine ⟨b, by rw [guard_put h hg]; exact h0, ?_⟩
    split at k
    · rename_i hb
      obtain ⟨u, h1, rfl⟩ := k
      rw [if_pos hb]
      exact ⟨u, Res_congr _ (fun x hx => (ev_put h x hx).symm) h1, (put_comm hd).symm⟩
    · rename_i hb
      obtain ⟨rfl, rfl⟩ := k
      rw [if_neg hb]
      exact ⟨rfl, (put_comm hd).symm⟩
theorem stepOf_dst {C : CallR} {o : COper} {M M' : List Blk} {t t' : List PV} (k : stepOf C o M t M' t') : ∃ v, t' = put t o.dst v := by
  unfold stepOf at k
  split at k
  · obtain ⟨u, _, rfl⟩ := k; exact ⟨_, rfl⟩
  · obtain ⟨b, _, k⟩ := k
    split at k
    · obtain ⟨u, _, rfl⟩ := k; exact ⟨_, rfl⟩
    · exact ⟨_, k.2⟩
theorem stepOf_pure {C : CallR} {o : COper} {M M' : List Blk} {t t' : List PV} (hc : o.op.cls = 0) (k : stepOf C o M t M' t') : M' = M ∧ ∀ M2, stepOf C o M2 t M2 t' := by
  unfold stepOf at *
  split at k
  · obtain ⟨u, h1, rfl⟩ := k
    obtain ⟨h2, h3⟩ := Res_pure hc h1
    exact ⟨h2, fun M2 => ⟨u, h3 M2, rfl⟩⟩
  · obtain ⟨b, h0, k⟩ := k
    split at k
    · rename_i hb
      obtain ⟨u, h1, rfl⟩ := k
      obtain ⟨h2, h3⟩ := Res_pure hc h1
      exact ⟨h2, fun M2 => ⟨b, h0, by rw [if_pos hb]; exact ⟨u, h3 M2, rfl⟩⟩⟩
    · rename_i hb
      exact ⟨k.1, fun M2 => ⟨b, h0, by rw [if_neg hb]; exact ⟨rfl, k.2⟩⟩⟩
theorem stepOf_read {C : CallR} {o : COper} {M M' : List Blk} {t t' : List PV} (hc : o.op.cls ≤ 1) (k : stepOf C o M t M' t') : M' = M := by
  unfold stepOf at k
  split at k
  · obtain ⟨u, h1, rfl⟩ := k; exact Res_read hc h1
  · obtain ⟨b, h0, k⟩ := k
    split at k
    · obtain ⟨u, h1, rfl⟩ := k; exact Res_read hc h1
    · exact k.1
theorem swap {C : CallR} {a b : COper} (hi : indep a b = true) {M M1 M2 : List Blk} {t t1 t2 : List PV} (hb : stepOf C b M t M1 t1) (ha : stepOf C a M1 t1 M2 t2) :
    ∃ M3 t3, stepOf C a M t M3 t3 ∧ stepOf C b M3 t3 M2 t2 := by
  simp only [indep, Bool.and_eq_true, Bool.or_eq_true, decide_eq_true_eq, beq_iff_eq] at hi
  obtain ⟨⟨i1, i2⟩, i3⟩ := hi
  have n1 : ∀ d, a.dst = some d → d ∉ b.looks ∧ b.dst ≠ some d := by
    intro d hd; rw [hd] at i1; simp at i1; exact i1
  have n2 : ∀ d, b.dst = some d → d ∉ a.looks := by
    intro d hd; rw [hd] at i2; simp at i2; exact i2
  have n3 : ∀ d, b.dst = some d → a.dst ≠ some d := fun d hd ha => (n1 d ha).2 hd
  obtain ⟨v, rfl⟩ := stepOf_dst hb
  obtain ⟨t3, ha', rfl⟩ := stepOf_put n2 n3 ha
  obtain ⟨u, rfl⟩ := stepOf_dst ha'
  have hb' : stepOf C b M (put t a.dst u) M1 (put (put t b.dst v) a.dst u) := stepOf_put' (fun d hd => (n1 d hd).1) (fun d hd => (n1 d hd).2) hb
  rw [put_comm n3] at hb'
  rcases i3 with (h0 | h0) | ⟨h1, h2⟩
  · obtain ⟨rfl, hall⟩ := stepOf_pure h0 ha'
    exact ⟨M, _, hall M, hb'⟩
  · obtain ⟨rfl, _⟩ := stepOf_pure h0 hb
    obtain ⟨_, hall⟩ := stepOf_pure h0 hb'
    exact ⟨M2, _, ha', hall M2⟩
  · have e1 := stepOf_read h2 hb
    have e2 := stepOf_read h1 ha'
    subst e1; subst e2
    exact ⟨_, _, ha', hb'⟩
section
variable {σ : Type} {S : Nat → σ → σ → Prop} {I : Nat → Nat → Prop}
def runG (S : Nat → σ → σ → Prop) : List Nat → σ → σ → Prop
  | [], s, s' => s' = s
  | i :: r, s, s' => ∃ s1, S i s s1 ∧ runG S r s1 s'
theorem pullG (hsw : ∀ i j s s1 s2, I i j → S j s s1 → S i s1 s2 → ∃ s3, S i s s3 ∧ S j s3 s2) {i : Nat} (l2 : List Nat) : ∀ (l1 : List Nat) {s s' : σ}, runG S (l1 ++ i :: l2) s s' → (∀ j ∈ l1, I i j) → runG S (i :: (l1 ++ l2)) s s' := by
  intro l1
  induction l1 with
  | nil => exact fun h _ => h
  | cons j l1 ih =>
    intro s s' h hall
    obtain ⟨s1, h1, h2⟩ := h
    obtain ⟨s2, h3, h4⟩ := ih h2 fun k hk => hall k (by simp [hk])
    obtain ⟨s3, h5, h6⟩ := hsw i j _ _ _ (hall j (by simp)) h1 h3
    exact ⟨s3, h5, s2, h6, h4⟩
end
/-- Which operations come ahead of each, by the edges that bind: a number's bits. -/
def maskOf (ms : List Nat) (o : Oper) : Nat := o.after.toList.foldl (fun m e => if Region.binds .any e then m ||| ((1 <<< e.on) ||| ms.getD e.on 0) else m) 0
def masks (ops : Array Oper) : Nat → List Nat
  | 0 => []
  | k + 1 => let ms := masks ops k; ms ++ [match ops[k]? with | some o => maskOf ms o | none => 0]
/-- Every two operations stand in the order of the edges, or are apart. -/
def orderG (n : Nat) (ops : Array Oper) (ok : Nat → Nat → Bool) : Bool :=
  let ms := masks ops ops.size
  (List.range n).all fun i =>
    match ops[i]? with
    | some o => (o.after.all fun e => !Region.binds .any e || decide (e.on < i)) && (List.range i).all fun j => (ms.getD i 0).testBit j || ok i j
    | none => false
def orderOk (cs : List COper) (ops : Array Oper) : Bool := orderG cs.length ops fun i j => match cs[i]?, cs[j]? with | some a, some b => indep a b | _, _ => false
theorem masks_length (ops : Array Oper) : ∀ k, (masks ops k).length = k := by
  intro k
  induction k with
  | zero => rfl
  | succ k ih => simp [masks, ih]
theorem masks_get (ops : Array Oper) : ∀ (k i : Nat), i < k → (masks ops k).getD i 0 = match ops[i]? with | some o => maskOf (masks ops i) o | none => 0 := by
  intro k
  induction k with
  | zero => intro i h; omega
  | succ k ih =>
    intro i h
    by_cases e : i = k
    · subst e
      simp [masks, List.getD, masks_length]
    · have hlt : i < k := by omega
      rw [← ih i hlt]
      simp only [masks, List.getD]
      rw [List.getElem?_append_left (by rw [masks_length]; exact hlt)]
theorem maskOf_bit {ms : List Nat} {o : Oper} {j : Nat} (h : (maskOf ms o).testBit j = true) : ∃ e ∈ o.after, Region.binds .any e = true ∧ (e.on = j ∨ (ms.getD e.on 0).testBit j = true) := by
  unfold maskOf at h
  have key : ∀ (l : List Edge) (m : Nat), (l.foldl (fun m e => if Region.binds .any e then m ||| ((1 <<< e.on) ||| ms.getD e.on 0) else m) m).testBit j = true →
      m.testBit j = true ∨ ∃ e ∈ l, Region.binds .any e = true ∧ (e.on = j ∨ (ms.getD e.on 0).testBit j = true) := by
    intro l
    induction l with
    | nil => exact fun m h => .inl h
    | cons e l ih =>
      intro m h
      rcases ih _ h with h | ⟨e', h1, h2⟩
      · simp only [] at h
        split at h
        · rename_i hb
          rw [Nat.testBit_or, Nat.testBit_or, Bool.or_eq_true, Bool.or_eq_true] at h
          rcases h with h | h | h
          · exact .inl h
          · rw [Nat.one_shiftLeft, Nat.testBit_two_pow] at h
            exact .inr ⟨e, by simp, hb, .inl (by simpa using h)⟩
          · exact .inr ⟨e, by simp, hb, .inr h⟩
        · exact .inl h
      · exact .inr ⟨e', by simp [h1], h2⟩
  rcases key _ 0 h with h | ⟨e, h1, h2⟩
  · simp at h
  · exact ⟨e, by simpa using h1, h2⟩
/-- What is closed under edges holds what comes ahead. -/
theorem mask_closed {ops : Array Oper} {S : Nat → Prop} (hS : ∀ x o, S x → ops[x]? = some o → ∀ e ∈ o.after, Region.binds .any e = true → S e.on) (hlt : ∀ x o, ops[x]? = some o → ∀ e ∈ o.after, Region.binds .any e = true → e.on < x) :
    ∀ (i : Nat) (o : Oper), ops[i]? = some o → (∀ e ∈ o.after, Region.binds .any e = true → S e.on) → ∀ j, ((masks ops ops.size).getD i 0).testBit j = true → S j := by
  intro i
  induction i using Nat.strongRecOn with
  | _ i ih =>
    intro o ho he j hj
    rw [masks_get ops _ i (Array.getElem?_eq_some_iff.1 ho).1, ho] at hj
    obtain ⟨e, h1, h2, h3⟩ := maskOf_bit hj
    have hSe := he e h1 h2
    have hl := hlt i o ho e h1 h2
    rcases h3 with rfl | h3
    · exact hSe
    · have hlt2 : e.on < ops.size := by have := (Array.getElem?_eq_some_iff.1 ho).1; omega
      have ho2 : ops[e.on]? = some ops[e.on] := Array.getElem?_eq_getElem hlt2
      refine ih e.on hl _ ho2 (fun e' h4 h5 => hS e.on _ hSe ho2 e' h4 h5) j ?_
      rw [masks_get ops _ e.on hlt2, ho2]
      rwa [masks_get ops _ e.on hl, ho2] at h3
theorem go_runG {σ : Type} {S : Nat → σ → σ → Prop} {ops : Array Oper} {ok : Nat → Nat → Bool} (hok : orderG ops.size ops ok = true)
    (hsw : ∀ i j s s1 s2, ok i j = true → S j s s1 → S i s1 s2 → ∃ s3, S i s s3 ∧ S j s3 s2) : ∀ (fuel tn : Nat) (listed : Array Bool) (rem : List Nat) {s s' : σ},
    rem.length = fuel → rem.Pairwise (· < ·) → (∀ i, i ∈ rem ↔ i < ops.size ∧ listed.getD i true = false) → listed.size = ops.size →
    (∀ x o, listed.getD x false = true → ops[x]? = some o → ∀ e ∈ o.after, Region.binds .any e = true → listed.getD e.on false = true) →
    runG S rem s s' → runG S (Region.linearise.go .any ops fuel tn listed []) s s' := by
  intro fuel
  induction fuel with
  | zero =>
    intro tn listed rem s s' hl _ _ _ _ h
    rw [List.length_eq_zero_iff.1 hl] at h
    simpa [Region.linearise.go] using h
  | succ fuel ih =>
    intro tn listed rem s s' hl hp hm hs hcl h
    have facts : ∀ i, i < ops.size → ∃ o, ops[i]? = some o ∧ (∀ e ∈ o.after, Region.binds .any e = true → e.on < i) ∧
        ∀ j, j < i → ((masks ops ops.size).getD i 0).testBit j = true ∨ ok i j = true := by
      intro i hi
      have := List.all_eq_true.1 hok i (by simpa using hi)
      cases ho : ops[i]? with
      | none => rw [ho] at this; cases this
      | some o =>
        rw [ho] at this
        simp only [Bool.and_eq_true, Array.all_eq_true', Bool.or_eq_true, Bool.not_eq_true', decide_eq_true_eq, List.all_eq_true, List.mem_range] at this
        refine ⟨o, rfl, fun e he hb => ?_, fun j hj => this.2 j hj⟩
        rcases this.1 e he with h | h
        · rw [hb] at h; cases h
        · exact h
    have ready : ∀ i, i ∈ Region.ready .any ops listed ↔ i ∈ rem ∧ ∃ o, ops[i]? = some o ∧ ∀ e ∈ o.after, Region.binds .any e = true → listed.getD e.on false = true := by
      intro i
      rw [hm]
      simp only [Region.ready, List.mem_filter, List.mem_range, Bool.and_eq_true, Bool.not_eq_true', and_assoc]
      refine and_congr_right fun hi => and_congr_right fun _ => ?_
      obtain ⟨o, ho, _⟩ := facts i hi
      rw [ho]
      simp only [Option.map_some, Option.getD_some, Array.all_eq_true', Bool.or_eq_true, Bool.not_eq_true', Option.some.injEq, exists_eq_left']
      refine forall_congr' fun e => forall_congr' fun he => ?_
      cases Region.binds .any e <;> simp
    simp only [Region.linearise.go]
    change runG S (match (Region.ready .any ops listed)[tn % (Region.ready .any ops listed).length]? with
      | some i => Region.linearise.go .any ops fuel (tn / (Region.ready .any ops listed).length) (listed.setIfInBounds i true) [i]
      | none => [].reverse) s s'
    cases hi : (Region.ready .any ops listed)[tn % (Region.ready .any ops listed).length]? with
    | none =>
      exfalso
      have hnil : Region.ready .any ops listed = [] := by
        cases hr : Region.ready .any ops listed with
        | nil => rfl
        | cons x xs =>
          rw [hr] at hi
          have hlt : tn % (x :: xs).length < (x :: xs).length := Nat.mod_lt _ (by simp)
          simp at hi
          simp at hlt
          omega
      cases rem with
      | nil => simp at hl
      | cons i rem =>
        have hin := (hm i).1 (by simp)
        obtain ⟨o, ho, h1, _⟩ := facts i hin.1
        have : i ∈ Region.ready .any ops listed := by
          rw [ready]
          refine ⟨by simp, o, ho, fun e he hb => ?_⟩
          have hlt := h1 e he hb
          have hnot : e.on ∉ i :: rem := by
            intro hmem
            rcases List.mem_cons.1 hmem with e1 | e1
            · omega
            · have := (List.pairwise_cons.1 hp).1 _ e1; omega
          have h2 : ¬ (e.on < ops.size ∧ listed.getD e.on true = false) := fun hh => hnot ((hm e.on).2 hh)
          have h3 : e.on < listed.size := by omega
          have h4 : listed.getD e.on true ≠ false := fun hh => h2 ⟨by omega, hh⟩
          simp only [Array.getD, h3, dif_pos] at h4 ⊢
          simpa using h4
        rw [hnil] at this; cases this
    | some i =>
      simp only []
      rw [linearise_go_acc, List.reverse_singleton, List.singleton_append]
      obtain ⟨hrem, o, ho, hedge⟩ := (ready i).1 (List.mem_of_getElem? hi)
      have hin := (hm i).1 hrem
      obtain ⟨o', ho', _, h2⟩ := facts i hin.1
      rw [ho] at ho'; cases ho'
      obtain ⟨l1, l2, rfl⟩ := List.append_of_mem hrem
      have hp' := List.pairwise_append.1 hp
      have hp2 := List.pairwise_cons.1 hp'.2.1
      have key := pullG (I := fun i j => ok i j = true) hsw l2 l1 h (by
        intro j hj
        have hji : j < i := hp'.2.2 j hj i (by simp)
        rcases h2 j hji with hbit | hind
        · exfalso
          have h5 := mask_closed (S := fun x => listed.getD x false = true) hcl (fun x o' hx => by
            obtain ⟨o2, ho2, h8, _⟩ := facts x (Array.getElem?_eq_some_iff.1 hx).1
            rw [hx] at ho2; cases ho2; exact h8) i o ho hedge j hbit
          have h6 := ((hm j).1 (by simp [hj])).2
          have h7 : j < listed.size := by omega
          simp only [Array.getD, h7, dif_pos] at h5 h6
          rw [h5] at h6; cases h6
        · exact hind)
      obtain ⟨s1, h3, h4⟩ := key
      refine ⟨s1, h3, ih _ _ (l1 ++ l2) (by simp at hl ⊢; omega) ?_ ?_ (by simpa using hs) ?_ h4⟩
      · exact List.pairwise_append.2 ⟨hp'.1, hp2.2, fun x hx y hy => hp'.2.2 x hx y (by simp [hy])⟩
      · intro k
        have hk := hm k
        by_cases e : k = i
        · subst e
          have n1 : k ∉ l1 := fun hh => by have := hp'.2.2 k hh k (by simp); omega
          have n2 : k ∉ l2 := fun hh => by have := hp2.1 k hh; omega
          have h7 : k < listed.size := by omega
          simp [n1, n2, Array.getD, h7]
        · simp only [List.mem_append, List.mem_cons, e, false_or] at hk ⊢
          rw [hk]
          have : (listed.setIfInBounds i true).getD k true = listed.getD k true := by
            simp [Array.getD_eq_getD_getElem?, Array.getElem?_setIfInBounds_ne (Ne.symm e)]
          rw [this]
      · have up : ∀ x, listed.getD x false = true → (listed.setIfInBounds i true).getD x false = true := by
          intro x hx
          by_cases e : i = x
          · subst e
            have h7 : i < listed.size := by omega
            simp [Array.getD, h7]
          · simpa [Array.getD_eq_getD_getElem?, Array.getElem?_setIfInBounds_ne e] using hx
        intro x o' hx hox e he hb
        by_cases e1 : i = x
        · subst e1
          rw [ho] at hox; cases hox
          exact up _ (hedge e he hb)
        · refine up _ (hcl x o' ?_ hox e he hb)
          simpa [Array.getD_eq_getD_getElem?, Array.getElem?_setIfInBounds_ne e1] using hx
theorem linearise_runG {σ : Type} {S : Nat → σ → σ → Prop} {ops : Array Oper} {ok : Nat → Nat → Bool} (hok : orderG ops.size ops ok = true)
    (hsw : ∀ i j s s1 s2, ok i j = true → S j s s1 → S i s1 s2 → ∃ s3, S i s s3 ∧ S j s3 s2) (tn : Nat) {s s' : σ} (h : runG S (List.range ops.size) s s') : runG S (Region.linearise .any ops tn) s s' := by
  refine go_runG hok hsw ops.size tn _ (List.range ops.size) (by simp) List.pairwise_lt_range ?_ (by simp) (fun x o hx => by exfalso; revert hx; simp [Array.getD]; try split <;> simp) h
  intro i
  simp only [List.mem_range]
  constructor
  · intro hi; exact ⟨hi, by simp [Array.getD, hi]⟩
  · exact fun h => h.1
def stepS (C : CallR) (cs : List COper) (i : Nat) (s s' : List Blk × List PV) : Prop := ∃ o, cs[i]? = some o ∧ stepOf C o s.1 s.2 s'.1 s'.2
theorem runL_G {C : CallR} {cs : List COper} : ∀ (l : List Nat) {M M' : List Blk} {t t' : List PV}, runL C cs l M t M' t' ↔ runG (stepS C cs) l (M, t) (M', t') := by
  intro l
  induction l with
  | nil => intro M M' t t'; simp [runL, runG]
  | cons i l ih =>
    intro M M' t t'
    constructor
    · rintro ⟨o, M1, t1, h1, h2, h3⟩
      exact ⟨(M1, t1), ⟨o, h1, h2⟩, ih.1 h3⟩
    · rintro ⟨⟨M1, t1⟩, ⟨o, h1, h2⟩, h3⟩
      exact ⟨o, M1, t1, h1, h2, ih.2 h3⟩
theorem linearise_run {C : CallR} {cs : List COper} {ops : Array Oper} (hn : cs.length = ops.size) (hok : orderOk cs ops = true) (tn : Nat) {M M' : List Blk} {t t' : List PV}
    (h : runL C cs (List.range cs.length) M t M' t') : runL C cs (Region.linearise .any ops tn) M t M' t' := by
  rw [runL_G] at h ⊢
  rw [hn] at h
  unfold orderOk at hok
  rw [hn] at hok
  refine linearise_runG hok (fun i j s s1 s2 hij hj hi => ?_) tn h
  obtain ⟨b, hb, h1⟩ := hj
  obtain ⟨a, ha, h2⟩ := hi
  simp only [ha, hb] at hij
  obtain ⟨M3, t3, h3, h4⟩ := swap hij h1 h2
  exact ⟨(M3, t3), ⟨a, ha, h3⟩, b, hb, h4⟩
end Go.Nac

