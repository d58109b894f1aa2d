import Derived.Test.YtbmicihfhfcpkaaK7
set_option linter.unusedVariables false
set_option linter.unusedSectionVars false
set_option linter.unusedSimpArgs false
namespace Go.Nac
def stepOf (C : CallR) (o : COper) (M : List Blk) (t : List PV) (M' : List Blk) (t' : List PV) : Prop :=
  match o.guard with
  | none => ∃ v, Res C o.op M (ev t) v M' ∧ t' = put t o.dst v
  | some (g, want) => ∃ b, wanted (t.getD g .top) want = some b ∧
      (if b = true then ∃ v, Res C o.op M (ev t) v M' ∧ t' = put t o.dst v else M' = M ∧ t' = put t o.dst unit)
def runL (C : CallR) (cs : List COper) : List Nat → List Blk → List PV → List Blk → List PV → Prop
  | [], M, t, M', t' => M' = M ∧ t' = t
  | i :: r, M, t, M', t' => ∃ o M1 t1, cs[i]? = some o ∧ stepOf C o M t M1 t1 ∧ runL C cs r M1 t1 M' t'
theorem wpOp_step {C : CallR} {o : COper} {K : List Blk → List PV → Prop} {M : List Blk} {t : List PV} (h : wpOp C o K M t) : ∃ M' t', stepOf C o M t M' t' ∧ K M' t' := by
  cases hg : o.guard with
  | none =>
    rw [wpOp, hg] at h
    obtain ⟨v, M', h1, h2⟩ := h
    refine ⟨M', _, ?_, h2⟩
    rw [stepOf, hg]
    exact ⟨v, h1, rfl⟩
  | some p =>
    obtain ⟨g, want⟩ := p
    rw [wpOp, hg] at h
    obtain ⟨b, h0, h⟩ := h
    by_cases hb : b = true
    · rw [if_pos hb] at h
      obtain ⟨v, M', h1, h2⟩ := h
      refine ⟨M', _, ?_, h2⟩
      rw [stepOf, hg]
      exact ⟨b, h0, by rw [if_pos hb]; exact ⟨v, h1, rfl⟩⟩
    · rw [if_neg hb] at h
      refine ⟨M, _, ?_, h⟩
      rw [stepOf, hg]
      exact ⟨b, h0, by rw [if_neg hb]; exact ⟨rfl, rfl⟩⟩
theorem wpOps_run {C : CallR} {K : List Blk → List PV → Prop} (pre : List COper) : ∀ (os : List COper) {M : List Blk} {t : List PV}, wpOps C os K M t →
    ∃ M' t', runL C (pre ++ os) (List.range' pre.length os.length) M t M' t' ∧ K M' t' := by
  intro os
  induction os generalizing pre with
  | nil => exact fun h => ⟨_, _, ⟨rfl, rfl⟩, h⟩
  | cons o os ih =>
    intro M t h
    obtain ⟨M1, t1, h1, h2⟩ := wpOp_step h
    obtain ⟨M2, t2, h3, h4⟩ := ih (pre ++ [o]) h2
    refine ⟨M2, t2, ?_, h4⟩
    simp only [List.length_append, List.length_cons, List.length_nil, List.append_assoc, List.cons_append, List.nil_append, List.range'_succ] at h3 ⊢
    exact ⟨o, M1, t1, by simp, h1, h3⟩
def COper.looks (o : COper) : List Nat :=
  (o.op.opnds.filterMap fun | .t n => some n | _ => none) ++ (match o.guard with | some (g, _) => [g] | none => [])
def indep (a b : COper) : Bool :=
  (match a.dst with | some d => !b.looks.contains d && b.dst != some d | none => true) &&
  (match b.dst with | some d => !a.looks.contains d | none => true) &&
  (a.op.cls == 0 || b.op.cls == 0 || (decide (a.op.cls ≤ 1) && decide (b.op.cls ≤ 1)))
theorem ev_put {t : List PV} {dst : Option Nat} {v : PV} {o : COper} (h : ∀ d, dst = some d → d ∉ o.looks) : ∀ x ∈ o.op.opnds, ev (put t dst v) x = ev t x := by
  intro x hx
  cases dst with
  | none => rfl
  | some d =>
    cases x with
    | t n =>
      have hne : d ≠ n := fun e => h d rfl (by simp only [COper.looks, List.mem_append, List.mem_filterMap]; exact .inl ⟨.t n, hx, by simp [e]⟩)
      simp [ev, put, List.getD, List.getElem?_set_ne hne]
    | k v => rfl
    | f g => rfl
theorem guard_put {t : List PV} {dst : Option Nat} {v : PV} {o : COper} (h : ∀ d, dst = some d → d ∉ o.looks) {g : Nat} {want : Bool} (hg : o.guard = some (g, want)) :
    (put t dst v).getD g .top = t.getD g .top := by
  cases dst with
  | none => rfl
  | some d =>
    have hne : d ≠ g := fun e => h d rfl (by simp [COper.looks, hg, e])
    simp [put, List.getD, List.getElem?_set_ne hne]
theorem put_comm {t : List PV} {a b : Option Nat} {v u : PV} (h : ∀ d, a = some d → b ≠ some d) : put (put t a v) b u = put (put t b u) a v := by
  cases a with
  | none => rfl
  | some d =>
    cases b with
    | none => rfl
    | some e =>
      have : d ≠ e := fun x => h d rfl (by rw [x])
      simp only [put]
      exact List.set_comm _ _ this
/-- What a step does, once its temporaries are known to be the same. -/
theorem stepOf_put {C : CallR} {o : COper} {M M' : List Blk} {t t' : List PV} {dst : Option Nat} {v : PV} (h : ∀ d, dst = some d → d ∉ o.looks) (hd : ∀ d, dst = some d → o.dst ≠ some d)
    (k : stepOf C o (M) (put t dst v) M' t') : ∃ t1, stepOf C o M t M' t1 ∧ t' = put t1 dst v := by
  unfold stepOf at *
  split at k
  · obtain ⟨u, h1, rfl⟩ := k
    exact ⟨_, ⟨u, Res_congr _ (ev_put h) h1, rfl⟩, put_comm hd⟩
  · rename_i g want hg
    obtain ⟨b, h0, k⟩ := k
    rw [guard_put h hg] at h0
    split at k
    · rename_i hb
      obtain ⟨u, h1, rfl⟩ := k
      exact ⟨_, ⟨b, h0, by rw [if_pos hb]; exact ⟨u, Res_congr _ (ev_put h) h1, rfl⟩⟩, put_comm hd⟩
    · rename_i hb
      obtain ⟨rfl, rfl⟩ := k
      exact ⟨_, ⟨b, h0, by rw [if_neg hb]; exact ⟨rfl, rfl⟩⟩, put_comm hd⟩
theorem stepOf_put' {C : CallR} {o : COper} {M M' : List Blk} {t t1 : List PV} {dst : Option Nat} {v : PV} (h : ∀ d, dst = some d → d ∉ o.looks) (hd : ∀ d, dst = some d → o.dst ≠ some d)
    (k : stepOf C o M t M' t1) : stepOf C o M (put t dst v) M' (put t1 dst v) := by
  unfold stepOf at *
  split at k
  · obtain ⟨u, h1, rfl⟩ := k
    exact ⟨u, Res_congr _ (fun x hx => (ev_put h x hx).symm) h1, (put_comm hd).symm⟩
  · rename_i g want hg
    obtain ⟨b, h0, k⟩ := k
    refine ⟨b, by rw [guard_put h hg]; exact h0, ?_⟩
    split at k
    · rename_i hb
      obtain ⟨u, h1, rfl⟩ := k
      rw [if_pos hb]
      exact ⟨u, Res_congr _ (fun x hx => (ev_put h x hx).symm) h1, (put_comm hd).symm⟩
    · rename_i hb
      obtain ⟨rfl, rfl⟩ := k
      rw [if_neg hb]
      exact ⟨rfl, (put_comm hd).symm⟩
theorem stepOf_dst {C : CallR} {o : COper} {M M' : List Blk} {t t' : List PV} (k : stepOf C o M t M' t') : ∃ v, t' = put t o.dst v := by
  unfold stepOf at k
  split at k
  · obtain ⟨u, _, rfl⟩ := k; exact ⟨_, rfl⟩
  · obtain ⟨b, _, k⟩ := k
    split at k
    · obtain ⟨u, _, rfl⟩ := k; exact ⟨_, rfl⟩
    · exact ⟨_, k.2⟩
theorem stepOf_pure {C : CallR} {o : COper} {M M' : List Blk} {t t' : List PV} (hc : o.op.cls = 0) (k : stepOf C o M t M' t') : M' = M ∧ ∀ M2, stepOf C o M2 t M2 t' := by
  unfold stepOf at *
  split at k
  · obtain ⟨u, h1, rfl⟩ := k
    obtain ⟨h2, h3⟩ := Res_pure hc h1
    exact ⟨h2, fun M2 => ⟨u, h3 M2, rfl⟩⟩
  · obtain ⟨b, h0, k⟩ := k
    split at k
    · rename_i hb
      obtain ⟨u, h1, rfl⟩ := k
      obtain ⟨h2, h3⟩ := Res_pure hc h1
      exact ⟨h2, fun M2 => ⟨b, h0, by rw [if_pos hb]; exact ⟨u, h3 M2, rfl⟩⟩⟩
    · rename_i hb
      exact ⟨k.1, fun M2 => ⟨b, h0, by rw [if_neg hb]; exact ⟨rfl, k.2⟩⟩⟩
theorem stepOf_read {C : CallR} {o : COper} {M M' : List Blk} {t t' : List PV} (hc : o.op.cls ≤ 1) (k : stepOf C o M t M' t') : M' = M := by
  unfold stepOf at k
  split at k
  · obtain ⟨u, h1, rfl⟩ := k; exact Res_read hc h1
  · obtain ⟨b, h0, k⟩ := k
    split at k
    · obtain ⟨u, h1, rfl⟩ := k; exact Res_read hc h1
    · exact k.1
theorem swap {C : CallR} {a b : COper} (hi : indep a b = true) {M M1 M2 : List Blk} {t t1 t2 : List PV} (hb : stepOf C b M t M1 t1) (ha : stepOf C a M1 t1 M2 t2) :
    ∃ M3 t3, stepOf C a M t M3 t3 ∧ stepOf C b M3 t3 M2 t2 := by
  simp only [indep, Bool.and_eq_true, Bool.or_eq_true, decide_eq_true_eq, beq_iff_eq] at hi
  obtain ⟨⟨i1, i2⟩, i3⟩ := hi
  have n1 : ∀ d, a.dst = some d → d ∉ b.looks ∧ b.dst ≠ some d := by
    intro d hd; rw [hd] at i1; simp at i1; exact i1
  have n2 : ∀ d, b.dst = some d → d ∉ a.looks := by
    intro d hd; rw [hd] at i2; simp at i2; exact i2
  have n3 : ∀ d, b.dst = some d → a.dst ≠ some d := fun d hd ha => (n1 d ha).2 hd
  obtain ⟨v, rfl⟩ := stepOf_dst hb
  obtain ⟨t3, ha', rfl⟩ := stepOf_put n2 n3 ha
  obtain ⟨u, rfl⟩ := stepOf_dst ha'
  have hb' : stepOf C b M (put t a.dst u) M1 (put (put t b.dst v) a.dst u) := stepOf_put' (fun d hd => (n1 d hd).1) (fun d hd => (n1 d hd).2) hb
  rw [put_comm n3] at hb'
  rcases i3 with (h0 | h0) | ⟨h1, h2⟩
  · obtain ⟨rfl, hall⟩ := stepOf_pure h0 ha'
    exact ⟨M, _, hall M, hb'⟩
  · obtain ⟨rfl, _⟩ := stepOf_pure h0 hb
    obtain ⟨_, hall⟩ := stepOf_pure h0 hb'
    exact ⟨M2, _, ha', hall M2⟩
  · have e1 := stepOf_read h2 hb
    have e2 := stepOf_read h1 ha'
    subst e1; subst e2
    exact ⟨_, _, ha', hb'⟩
section
variable {σ : Type} {S : Nat → σ → σ → Prop} {I : Nat → Nat → Prop}
def runG (S : Nat → σ → σ → Prop) : List Nat → σ → σ → Prop
  | [], s, s' => s' = s
  | i :: r, s, s' => ∃ s1, S i s s1 ∧ runG S r s1 s'
theorem pullG (hsw : ∀ i j s s1 s2, I i j → S j s s1 → S i s1 s2 → ∃ s3, S i s s3 ∧ S j s3 s2) {i : Nat} (l2 : List Nat) : ∀ (l1 : List Nat) {s s' : σ}, runG S (l1 ++ i :: l2) s s' → (∀ j ∈ l1, I i j) → runG S (i :: (l1 ++ l2)) s s' := by
  intro l1
  induction l1 with
  | nil => exact fun h _ => h
  | cons j l1 ih =>
    intro s s' h hall
    obtain ⟨s1, h1, h2⟩ := h
    obtain ⟨s2, h3, h4⟩ := ih h2 fun k hk => hall k (by simp [hk])
    obtain ⟨s3, h5, h6⟩ := hsw i j _ _ _ (hall j (by simp)) h1 h3
    exact ⟨s3, h5, s2, h6, h4⟩
end
/-- Which operations come ahead of each, by the edges that bind: a number's bits. -/
def maskOf (ms : List Nat) (o : Oper) : Nat := o.after.toList.foldl (fun m e => if Region.binds .any e then m ||| ((1 <<< e.on) ||| ms.getD e.on 0) else m) 0
def masks (ops : Array Oper) : Nat → List Nat
  | 0 => []
  | k + 1 => let ms := masks ops k; ms ++ [match ops[k]? with | some o => maskOf ms o | none => 0]
/-- Every two operations stand in the order of the edges, or are apart. -/
def orderG (n : Nat) (ops : Array Oper) (ok : Nat → Nat → Bool) : Bool :=
  let ms := masks ops ops.size
  (List.range n).all fun i =>
    match ops[i]? with
    | some o => (o.after.all fun e => !Region.binds .any e || decide (e.on < i)) && (List.range i).all fun j => (ms.getD i 0).testBit j || ok i j
    | none => false
def orderOk (cs : List COper) (ops : Array Oper) : Bool := orderG cs.length ops fun i j => match cs[i]?, cs[j]? with | some a, some b => indep a b | _, _ => false
theorem masks_length (ops : Array Oper) : ∀ k, (masks ops k).length = k := by
  intro k
  induction k with
  | zero => rfl
  | succ k ih => simp [masks, ih]
theorem masks_get (ops : Array Oper) : ∀ (k i : Nat), i < k → (masks ops k).getD i 0 = match ops[i]? with | some o => maskOf (masks ops i) o | none => 0 := by
  intro k
  induction k with
  | zero => intro i h; omega
  | succ k ih =>
    intro i h
    by_cases e : i = k
    · subst e
      simp [masks, List.getD, masks_length]
    · have hlt : i < k := by omega
      rw [← ih i hlt]
      simp only [masks, List.getD]
      rw [List.getElem?_append_left (by rw [masks_length]; exact hlt)]
theorem maskOf_bit {ms : List Nat} {o : Oper} {j : Nat} (h : (maskOf ms o).testBit j = true) : ∃ e ∈ o.after, Region.binds .any e = true ∧ (e.on = j ∨ (ms.getD e.on 0).testBit j = true) := by
  unfold maskOf at h
  have key : ∀ (l : List Edge) (m : Nat), (l.foldl (fun m e => if Region.binds .any e then m ||| ((1 <<< e.on) ||| ms.getD e.on 0) else m) m).testBit j = true →
      m.testBit j = true ∨ ∃ e ∈ l, Region.binds .any e = true ∧ (e.on = j ∨ (ms.getD e.on 0).testBit j = true) := by
    intro l
    induction l with
    | nil => exact fun m h => .inl h
    | cons e l ih =>
      intro m h
      rcases ih _ h with h | ⟨e', h1, h2⟩
      · simp only [] at h
        split at h
        · rename_i hb
          rw [Nat.testBit_or, Nat.testBit_or, Bool.or_eq_true, Bool.or_eq_true] at h
          rcases h with h | h | h
          · exact .inl h
          · rw [Nat.one_shiftLeft, Nat.testBit_two_pow] at h
            exact .inr ⟨e, by simp, hb, .inl (by simpa using h)⟩
          · exact .inr ⟨e, by simp, hb, .inr h⟩
        · exact .inl h
      · exact .inr ⟨e', by simp [h1], h2⟩
  rcases key _ 0 h with h | ⟨e, h1, h2⟩
  · simp at h
  · exact ⟨e, by simpa using h1, h2⟩
/-- What is closed under edges holds what comes ahead. -/
theorem mask_closed {ops : Array Oper} {S : Nat → Prop} (hS : ∀ x o, S x → ops[x]? = some o → ∀ e ∈ o.after, Region.binds .any e = true → S e.on) (hlt : ∀ x o, ops[x]? = some o → ∀ e ∈ o.after, Region.binds .any e = true → e.on < x) :
    ∀ (i : Nat) (o : Oper), ops[i]? = some o → (∀ e ∈ o.after, Region.binds .any e = true → S e.on) → ∀ j, ((masks ops ops.size).getD i 0).testBit j = true → S j := by
  intro i
  induction i using Nat.strongRecOn with
  | _ i ih =>
    intro o ho he j hj
    rw [masks_get ops _ i (Array.getElem?_eq_some_iff.1 ho).1, ho] at hj
    obtain ⟨e, h1, h2, h3⟩ := maskOf_bit hj
    have hSe := he e h1 h2
    have hl := hlt i o ho e h1 h2
    rcases h3 with rfl | h3
    · exact hSe
    · have hlt2 : e.on < ops.size := by have := (Array.getElem?_eq_some_iff.1 ho).1; omega
      have ho2 : ops[e.on]? = some ops[e.on] := Array.getElem?_eq_getElem hlt2
      refine ih e.on hl _ ho2 (fun e' h4 h5 => hS e.on _ hSe ho2 e' h4 h5) j ?_
      rw [masks_get ops _ e.on hlt2, ho2]
      rwa [masks_get ops _ e.on hl, ho2] at h3
theorem go_runG {σ : Type} {S : Nat → σ → σ → Prop} {ops : Array Oper} {ok : Nat → Nat → Bool} (hok : orderG ops.size ops ok = true)
    (hsw : ∀ i j s s1 s2, ok i j = true → S j s s1 → S i s1 s2 → ∃ s3, S i s s3 ∧ S j s3 s2) : ∀ (fuel tn : Nat) (listed : Array Bool) (rem : List Nat) {s s' : σ},
    rem.length = fuel → rem.Pairwise (· < ·) → (∀ i, i ∈ rem ↔ i < ops.size ∧ listed.getD i true = false) → listed.size = ops.size →
    (∀ x o, listed.getD x false = true → ops[x]? = some o → ∀ e ∈ o.after, Region.binds .any e = true → listed.getD e.on false = true) →
    runG S rem s s' → runG S (Region.linearise.go .any ops fuel tn listed []) s s' := by
  intro fuel
  induction fuel with
  | zero =>
    intro tn listed rem s s' hl _ _ _ _ h
    rw [List.length_eq_zero_iff.1 hl] at h
    simpa [Region.linearise.go] using h
  | succ fuel ih =>
    intro tn listed rem s s' hl hp hm hs hcl h
    have facts : ∀ i, i < ops.size → ∃ o, ops[i]? = some o ∧ (∀ e ∈ o.after, Region.binds .any e = true → e.on < i) ∧
        ∀ j, j < i → ((masks ops ops.size).getD i 0).testBit j = true ∨ ok i j = true := by
      intro i hi
      have := List.all_eq_true.1 hok i (by simpa using hi)
      cases ho : ops[i]? with
      | none => rw [ho] at this; cases this
      | some o =>
        rw [ho] at this
        simp only [Bool.and_eq_true, Array.all_eq_true', Bool.or_eq_true, Bool.not_eq_true', decide_eq_true_eq, List.all_eq_true, List.mem_range] at this
        refine ⟨o, rfl, fun e he hb => ?_, fun j hj => this.2 j hj⟩
        rcases this.1 e he with h | h
        · rw [hb] at h; cases h
        · exact h
    have ready : ∀ i, i ∈ Region.ready .any ops listed ↔ i ∈ rem ∧ ∃ o, ops[i]? = some o ∧ ∀ e ∈ o.after, Region.binds .any e = true → listed.getD e.on false = true := by
      intro i
      rw [hm]
      simp only [Region.ready, List.mem_filter, List.mem_range, Bool.and_eq_true, Bool.not_eq_true', and_assoc]
      refine and_congr_right fun hi => and_congr_right fun _ => ?_
      obtain ⟨o, ho, _⟩ := facts i hi
      rw [ho]
      simp only [Option.map_some, Option.getD_some, Array.all_eq_true', Bool.or_eq_true, Bool.not_eq_true', Option.some.injEq, exists_eq_left']
      refine forall_congr' fun e => forall_congr' fun he => ?_
      cases Region.binds .any e <;> simp
    simp only [Region.linearise.go]
    change runG S (match (Region.ready .any ops listed)[tn % (Region.ready .any ops listed).length]? with
      | some i => Region.linearise.go .any ops fuel (tn / (Region.ready .any ops listed).length) (listed.setIfInBounds i true) [i]
      | none => [].reverse) s s'
    cases hi : (Region.ready .any ops listed)[tn % (Region.ready .any ops listed).length]? with
    | none =>
      exfalso
      have hnil : Region.ready .any ops listed = [] := by
        cases hr : Region.ready .any ops listed with
        | nil => rfl
        | cons x xs =>
          rw [hr] at hi
          have hlt : tn % (x :: xs).length < (x :: xs).length := Nat.mod_lt _ (by simp)
          simp at hi
          simp at hlt
          omega
      cases rem with
      | nil => simp at hl
      | cons i rem =>
        have hin := (hm i).1 (by simp)
        obtain ⟨o, ho, h1, _⟩ := facts i hin.1
        have : i ∈ Region.ready .any ops listed := by
          rw [ready]
          refine ⟨by simp, o, ho, fun e he hb => ?_⟩
          have hlt := h1 e he hb
          have hnot : e.on ∉ i :: rem := by
            intro hmem
            rcases List.mem_cons.1 hmem with e1 | e1
            · omega
            · have := (List.pairwise_cons.1 hp).1 _ e1; omega
          have h2 : ¬ (e.on < ops.size ∧ listed.getD e.on true = false) := fun hh => hnot ((hm e.on).2 hh)
          have h3 : e.on < listed.size := by omega
          have h4 : listed.getD e.on true ≠ false := fun hh => h2 ⟨by omega, hh⟩
          simp only [Array.getD, h3, dif_pos] at h4 ⊢
          simpa using h4
        rw [hnil] at this; cases this
    | some i =>
      simp only []
      rw [linearise_go_acc, List.reverse_singleton, List.singleton_append]
      obtain ⟨hrem, o, ho, hedge⟩ := (ready i).1 (List.mem_of_getElem? hi)
      have hin := (hm i).1 hrem
      obtain ⟨o', ho', _, h2⟩ := facts i hin.1
      rw [ho] at ho'; cases ho'
      obtain ⟨l1, l2, rfl⟩ := List.append_of_mem hrem
      have hp' := List.pairwise_append.1 hp
      have hp2 := List.pairwise_cons.1 hp'.2.1
      have key := pullG (I := fun i j => ok i j = true) hsw l2 l1 h (by
        intro j hj
        have hji : j < i := hp'.2.2 j hj i (by simp)
        rcases h2 j hji with hbit | hind
        · exfalso
          have h5 := mask_closed (S := fun x => listed.getD x false = true) hcl (fun x o' hx => by
            obtain ⟨o2, ho2, h8, _⟩ := facts x (Array.getElem?_eq_some_iff.1 hx).1
            rw [hx] at ho2; cases ho2; exact h8) i o ho hedge j hbit
          have h6 := ((hm j).1 (by simp [hj])).2
          have h7 : j < listed.size := by omega
          simp only [Array.getD, h7, dif_pos] at h5 h6
          rw [h5] at h6; cases h6
        · exact hind)
      obtain ⟨s1, h3, h4⟩ := key
      refine ⟨s1, h3, ih _ _ (l1 ++ l2) (by simp at hl ⊢; omega) ?_ ?_ (by simpa using hs) ?_ h4⟩
      · exact List.pairwise_append.2 ⟨hp'.1, hp2.2, fun x hx y hy => hp'.2.2 x hx y (by simp [hy])⟩
      · intro k
        have hk := hm k
        by_cases e : k = i
        · subst e
          have n1 : k ∉ l1 := fun hh => by have := hp'.2.2 k hh k (by simp); omega
          have n2 : k ∉ l2 := fun hh => by have := hp2.1 k hh; omega
          have h7 : k < listed.size := by omega
          simp [n1, n2, Array.getD, h7]
        · simp only [List.mem_append, List.mem_cons, e, false_or] at hk ⊢
          rw [hk]
          have : (listed.setIfInBounds i true).getD k true = listed.getD k true := by
            simp [Array.getD_eq_getD_getElem?, Array.getElem?_setIfInBounds_ne (Ne.symm e)]
          rw [this]
      · have up : ∀ x, listed.getD x false = true → (listed.setIfInBounds i true).getD x false = true := by
          intro x hx
          by_cases e : i = x
          · subst e
            have h7 : i < listed.size := by omega
            simp [Array.getD, h7]
          · simpa [Array.getD_eq_getD_getElem?, Array.getElem?_setIfInBounds_ne e] using hx
        intro x o' hx hox e he hb
        by_cases e1 : i = x
        · subst e1
          rw [ho] at hox; cases hox
          exact up _ (hedge e he hb)
        · refine up _ (hcl x o' ?_ hox e he hb)
          simpa [Array.getD_eq_getD_getElem?, Array.getElem?_setIfInBounds_ne e1] using hx
theorem linearise_runG {σ : Type} {S : Nat → σ → σ → Prop} {ops : Array Oper} {ok : Nat → Nat → Bool} (hok : orderG ops.size ops ok = true)
    (hsw : ∀ i j s s1 s2, ok i j = true → S j s s1 → S i s1 s2 → ∃ s3, S i s s3 ∧ S j s3 s2) (tn : Nat) {s s' : σ} (h : runG S (List.range ops.size) s s') : runG S (Region.linearise .any ops tn) s s' := by
  refine go_runG hok hsw ops.size tn _ (List.range ops.size) (by simp) List.pairwise_lt_range ?_ (by simp) (fun x o hx => by exfalso; revert hx; simp [Array.getD]; try split <;> simp) h
  intro i
  simp only [List.mem_range]
  constructor
  · intro hi; exact ⟨hi, by simp [Array.getD, hi]⟩
  · exact fun h => h.1
def stepS (C : CallR) (cs : List COper) (i : Nat) (s s' : List Blk × List PV) : Prop := ∃ o, cs[i]? = some o ∧ stepOf C o s.1 s.2 s'.1 s'.2
theorem runL_G {C : CallR} {cs : List COper} : ∀ (l : List Nat) {M M' : List Blk} {t t' : List PV}, runL C cs l M t M' t' ↔ runG (stepS C cs) l (M, t) (M', t') := by
  intro l
  induction l with
  | nil => intro M M' t t'; simp [runL, runG]
  | cons i l ih =>
    intro M M' t t'
    constructor
    · rintro ⟨o, M1, t1, h1, h2, h3⟩
      exact ⟨(M1, t1), ⟨o, h1, h2⟩, ih.1 h3⟩
    · rintro ⟨⟨M1, t1⟩, ⟨o, h1, h2⟩, h3⟩
      exact ⟨o, M1, t1, h1, h2, ih.2 h3⟩
theorem linearise_run {C : CallR} {cs : List COper} {ops : Array Oper} (hn : cs.length = ops.size) (hok : orderOk cs ops = true) (tn : Nat) {M M' : List Blk} {t t' : List PV}
    (h : runL C cs (List.range cs.length) M t M' t') : runL C cs (Region.linearise .any ops tn) M t M' t' := by
  rw [runL_G] at h ⊢
  rw [hn] at h
  unfold orderOk at hok
  rw [hn] at hok
  refine linearise_runG hok (fun i j s s1 s2 hij hj hi => ?_) tn h
  obtain ⟨b, hb, h1⟩ := hj
  obtain ⟨a, ha, h2⟩ := hi
  simp only [ha, hb] at hij
  obtain ⟨M3, t3, h3, h4⟩ := swap hij h1 h2
  exact ⟨(M3, t3), ⟨a, ha, h3⟩, b, hb, h4⟩
end Go.Nac
set_option linter.unusedVariables false
set_option linter.unusedSectionVars false
set_option linter.unusedSimpArgs false
namespace Go.Nac
section
variable {M M2 : List Blk}
theorem held_agree {p : PV} (h : ∀ i ∈ refs p, M2[i]? = M[i]?) : held M2 p = held M p := by
  cases p
  case os i ver off len => have := h i (by simp [refs, refs1]); simp only [held, this]
  case s v => unfold held; split <;> first | rfl | (rename_i e; cases e)
  all_goals rfl
theorem view1_agree {p : PV} (h : ∀ i ∈ refs1 p, M2[i]? = M[i]?) : view1 M2 p = view1 M p := by
  cases p
  case os i ver off len => have := h i (by simp [refs1]); simp only [view1, this]
  case s v => unfold view1; split <;> first | rfl | (rename_i e; cases e)
  all_goals rfl
theorem view_agree {p : PV} (h : ∀ i ∈ refs p, M2[i]? = M[i]?) : view M2 p = view M p := by
  cases p
  case agg cs =>
    simp only [view]
    congr 1
    refine List.map_congr_left fun c hc => view1_agree fun i hi => h i ?_
    simp only [refs, List.mem_flatMap]; exact ⟨c, hc, hi⟩
  all_goals exact view1_agree (M := M) (M2 := M2) (by simpa only [refs] using h)
theorem cellsAt_agree {i ver e j n : Nat} (h : M2[i]? = M[i]?) : cellsAt M2 i ver e j n = cellsAt M i ver e j n := by simp only [cellsAt, h]
theorem loadPV_agree {g : Option Nat} {p : PV} (h : ∀ i ∈ refs p, M2[i]? = M[i]?) : loadPV M2 g p = loadPV M g p := by
  cases p
  case op i ver e j => have := h i (by simp [refs, refs1]); simp only [loadPV, cellsAt_agree this]
  all_goals rfl
theorem liveRow_agree {i ver : Nat} (h : M2[i]? = M[i]?) : liveRow M2 i ver = liveRow M i ver := by simp only [liveRow, h]
theorem rowK_agree {i : Nat} (h : M2[i]? = M[i]?) : rowK M2 i = rowK M i := by simp only [rowK, h]
end
/-- A reading operation gives the same elsewhere, where what it reads is the same. -/
theorem read_agree {M M2 M' : List Blk} {ρ : CX → PV} {v : PV} {c : COp} {R : List Nat} (hf : fpOp ρ c = some (R, [])) (hc : c.cls ≤ 1) (h : res M ρ c = some (v, M')) (ha : ∀ i ∈ R, M2[i]? = M[i]?) : res M2 ρ c = some (v, M2) := by
  have hM := res_read hc h
  subst hM
  cases c <;> simp only [fpOp, Option.some.injEq, Prod.mk.injEq, reduceCtorEq] at hf
  case load g x =>
    obtain ⟨rfl, _⟩ := hf
    simp only [res, loadPV_agree ha] at h ⊢
    rw [(map_pair h).1]; rfl
  case nilc x =>
    obtain ⟨rfl, _⟩ := hf
    simp only [res] at h ⊢
    generalize ρ x = p at h ha
    cases p
    case fp cs => simp at h ⊢; exact h
    case op i ver e j =>
      have := ha i (by simp [refs, refs1])
      simp only [liveRow_agree this] at h ⊢
      split at h
      · rename_i hl; rw [if_pos hl]; simp at h ⊢; exact h
      · cases h
    case fn f _ _ => cases f <;> first | (cases h; done) | (simp at h ⊢; exact h)
    all_goals cases h
  case arrp n x =>
    obtain ⟨rfl, _⟩ := hf
    simp only [res] at h ⊢
    generalize ρ x = p at h ha
    cases p
    case fs xs =>
      simp only at h ⊢
      split at h
      · rename_i hl; rw [if_pos hl]; simp at h ⊢; exact h
      · cases h
    case os i ver off len =>
      simp only [held_agree ha] at h ⊢
      split at h
      · rename_i hl; rw [if_pos hl]
        simp only [Option.map_eq_some_iff] at h ⊢
        obtain ⟨a, h1, h2⟩ := h
        exact ⟨a, h1, by simp at h2 ⊢; exact h2⟩
      · cases h
    all_goals cases h
  case slice k x lo hi =>
    obtain ⟨rfl, _⟩ := hf
    simp only [res] at h ⊢
    generalize ρ x = p at h ha
    cases p
    case fs xs =>
      simp only at h ⊢
      split at h
      · rename_i hl; rw [if_pos hl]
        simp only [Option.map_eq_some_iff] at h ⊢
        obtain ⟨a, h1, h2⟩ := h
        exact ⟨a, h1, by simp at h2 ⊢; exact h2⟩
      · cases h
    case s u =>
      by_cases e : u = .slice none 0 0
      · subst e
        simp only [Option.map_eq_some_iff] at h ⊢
        obtain ⟨a, h1, h2⟩ := h
        exact ⟨a, h1, by simp at h2 ⊢; exact h2⟩
      · exfalso
        split at h
        · rename_i e1; cases e1
        · rename_i e1; cases e1; exact e rfl
        · rename_i e1; cases e1
        · cases h
    case os i ver off len =>
      have := ha i (by simp [refs, refs1])
      simp only [liveRow_agree this, rowK_agree this] at h ⊢
      split at h
      · rename_i hl; rw [if_pos hl]
        simp only [Option.map_eq_some_iff] at h ⊢
        obtain ⟨a, h1, h2⟩ := h
        exact ⟨a, h1, by simp at h2 ⊢; exact h2⟩
      · cases h
    all_goals cases h
  case faddr off x =>
    obtain ⟨rfl, _⟩ := hf
    simp only [res] at h ⊢
    generalize ρ x = p at h ha
    cases p
    case fp cs =>
      simp only at h ⊢
      split at h
      · rename_i hl; rw [if_pos hl]; simp at h ⊢; exact h
      · cases h
    case op i ver e j =>
      have := ha i (by simp [refs, refs1])
      simp only [liveRow_agree this] at h ⊢
      split at h
      · rename_i hl; rw [if_pos hl]; simp at h ⊢; exact h
      · cases h
    all_goals cases h
  case iaddr k x i =>
    obtain ⟨rfl, _⟩ := hf
    simp only [res] at h ⊢
    generalize ρ x = p at h ha
    generalize asNat (ρ i) = m at h
    cases p <;> cases m <;> first | (cases h; done) | skip
    · rename_i xs m
      simp only at h ⊢
      split at h
      · split at h
        · rename_i hl; rw [if_pos hl]; simp at h ⊢; exact h
        · cases h
      · cases h
    · rename_i a ver off len m
      have := ha a (by simp [refs, refs1])
      simp only [this] at h ⊢
      split at h
      · rename_i hl; rw [if_pos hl]
        split at h
        · split at h
          · rename_i hl; rw [if_pos hl]; simp at h ⊢; exact h
          · cases h
        · cases h
      · cases h
  case iaddra n k x i =>
    obtain ⟨rfl, _⟩ := hf
    simp only [res] at h ⊢
    generalize ρ x = p at h ha
    generalize asNat (ρ i) = m at h
    cases p <;> cases m <;> first | (cases h; done) | skip
    · simp only at h ⊢
      split at h
      · rename_i hl; rw [if_pos hl]; simp at h ⊢; exact h
      · cases h
    · rename_i a ver e j m
      have := ha a (by simp [refs, refs1])
      simp only [liveRow_agree this] at h ⊢
      split at h
      · rename_i hl; rw [if_pos hl]; simp at h ⊢; exact h
      · cases h
  case look sk z ok m key =>
    obtain ⟨rfl, _⟩ := hf
    simp only [res] at h ⊢
    generalize ρ m = p at h ha
    generalize ρ key = q at h
    cases p <;> first | (cases h; done) | skip
    rename_i a
    cases q <;> first | (cases h; done) | skip
    have := ha a (by simp [refs, refs1])
    simp only [this] at h ⊢
    split at h
    · split at h
      · rename_i hl; rw [if_pos hl]
        split at h
        · simp at h ⊢; exact h
        · simp at h ⊢; exact h
      · cases h
    · cases h
  case box own k x =>
    cases own
    · simp at hf; subst hf
      simp only [res, Bool.false_eq_true, if_false] at h ⊢
      rw [view_agree ha]
      split at h
      · rename_i hl; rw [if_pos hl]; simp at h ⊢; exact h
      · cases h
    · simp at hf
  case bsl own k xs =>
    cases own
    · simp at hf; subst hf
      simp only [res, Bool.false_eq_true, if_false] at h ⊢
      have : xs.map (fun x => view M2 (ρ x)) = xs.map (fun x => view M' (ρ x)) := List.map_congr_left fun x hx => view_agree fun i hi => ha i (by simp only [List.mem_flatMap]; exact ⟨x, hx, hi⟩)
      rw [this]
      split at h
      · rename_i hl; rw [if_pos hl]; simp at h ⊢; exact h
      · cases h
    · simp at hf
  all_goals (simp only [COp.cls] at hc; omega)
end Go.Nac
set_option linter.unusedVariables false
set_option linter.unusedSectionVars false
set_option linter.unusedSimpArgs false
namespace Go.Nac
/-- What a step does to memory: nothing, or one block. -/
def Upd (W : List Nat) (u : List Blk → List Blk) : Prop := (W = [] ∧ u = id) ∨ ∃ i b, W = [i] ∧ u = fun M => M.set i b
theorem elemPut_agree {M M' : List Blk} {i ver e j : Nat} {vs : List PV} (h : elemPut M i ver e j vs = some M') : ∃ b, M' = M.set i b ∧ ∀ M2 : List Blk, M2[i]? = M[i]? → elemPut M2 i ver e j vs = some (M2.set i b) := by
  unfold elemPut at h
  split at h
  · rename_i k v xs hi
    split at h
    · rename_i hv
      split at h
      · rename_i x hx
        split at h
        · rename_i hc
          split at h
          · rename_i cs
            cases h
            refine ⟨_, rfl, fun M2 h2 => ?_⟩
            simp only [elemPut, h2, hi, if_pos hv, hx, if_pos hc]
          · rename_i hno
            split at h
            · rename_i y
              split at h
              · cases h
              · rename_i hny
                cases h
                refine ⟨_, rfl, fun M2 h2 => ?_⟩
                simp only [elemPut, h2, hi, if_pos hv, hx, if_pos hc]
            · cases h
        · cases h
      · cases h
    · cases h
  · cases h
theorem write_agree {M M' : List Blk} {ρ : CX → PV} {v : PV} {c : COp} {R W : List Nat} (hf : fpOp ρ c = some (R, W)) (hc : ¬ c.cls ≤ 1) (h : res M ρ c = some (v, M')) (hl : M'.length = M.length) :
    ∃ i b, W = [i] ∧ M' = M.set i b ∧ ∀ M2 : List Blk, M2.length = M.length → (∀ k ∈ R ++ W, M2[k]? = M[k]?) → res M2 ρ c = some (v, M2.set i b) := by
  cases c <;> simp only [fpOp, Option.some.injEq, Prod.mk.injEq, reduceCtorEq] at hf
  case store k a x =>
    obtain ⟨rfl, rfl⟩ := hf
    simp only [res] at h ⊢
    generalize ρ a = p at h
    cases p
    case op i ver e j =>
      simp only at h
      split at h
      · rename_i hk
        cases hp : elemPut M i ver e j (ρ x).cells with
        | none => rw [hp] at h; cases h
        | some M1 =>
          rw [hp] at h
          obtain ⟨b, rfl, h2⟩ := elemPut_agree hp
          simp only [Option.map_some, Option.some.injEq, Prod.mk.injEq] at h
          obtain ⟨rfl, rfl⟩ := h
          refine ⟨i, b, by simp [refs, refs1], rfl, fun M2 _ ha => ?_⟩
          simp only
          rw [if_pos hk, h2 M2 (ha i (by simp [refs, refs1]))]; rfl
      · cases h
    all_goals cases h
  case append k bytes x y =>
    obtain ⟨rfl, rfl⟩ := hf
    simp only [res] at h ⊢
    cases hy : held M (ρ y) with
    | none => rw [hy] at h; cases h
    | some ys =>
      rw [hy] at h
      simp only at h
      split at h
      case isFalse => cases h
      rename_i hys
      generalize hpx : ρ x = p at h
      cases p
      case s u =>
        exfalso
        split at h
        · split at h
          · cases h; simp at hl
          · cases h
        · rename_i e; cases e
        · cases h
      case os i ver off len =>
        simp only at h
        split at h
        case h_2 => cases h
        rename_i k' vv xs hi
        split at h
        case isFalse => cases h
        rename_i hc1
        cases h
        refine ⟨i, _, by simp [refs, refs1], rfl, fun M2 _ ha => ?_⟩
        have h1 : held M2 (ρ y) = some ys := by rw [← hy]; exact held_agree fun z hz => ha z (by simp [hz])
        have h2 : M2[i]? = M[i]? := ha i (by simp [hpx, refs, refs1])
        simp only [h1, if_pos hys, h2, hi, if_pos hc1]
      all_goals cases h
  case copy k x y =>
    obtain ⟨rfl, rfl⟩ := hf
    simp only [res] at h ⊢
    generalize hpx : ρ x = p at h
    cases hy : held M (ρ y) with
    | none => rw [hy] at h; cases p <;> cases h
    | some ys =>
      rw [hy] at h
      cases p
      case os i ver off len =>
        simp only at h
        split at h
        case h_2 => cases h
        rename_i k' vv xs hi
        split at h
        case isFalse => cases h
        rename_i hc1
        cases h
        refine ⟨i, _, by simp [refs, refs1], rfl, fun M2 _ ha => ?_⟩
        have h1 : held M2 (ρ y) = some ys := by rw [← hy]; exact held_agree fun z hz => ha z (by simp [hz])
        have h2 : M2[i]? = M[i]? := ha i (by simp [hpx, refs, refs1])
        simp only [h1, h2, hi, if_pos hc1]
      all_goals cases h
  case mupd sk m key x =>
    obtain ⟨rfl, rfl⟩ := hf
    simp only [res] at h ⊢
    generalize ρ m = p at h
    generalize ρ key = q at h
    generalize ρ x = u at h
    cases p <;> first | (cases h; done) | skip
    rename_i a
    cases q <;> first | (cases h; done) | skip
    cases u <;> first | (cases h; done) | skip
    simp only at h ⊢
    split at h
    case h_2 => cases h
    rename_i es hi
    split at h
    case isFalse => cases h
    rename_i hc1
    cases h
    refine ⟨a, _, by simp [refs, refs1], rfl, fun M2 _ ha => ?_⟩
    have h2 : M2[a]? = M[a]? := ha a (by simp [refs, refs1])
    simp only [h2, hi, if_pos hc1]
  case box own k x =>
    cases own
    · simp [COp.cls] at hc
    · simp at hf
  case bsl own k xs =>
    cases own
    · simp [COp.cls] at hc
    · simp at hf
  all_goals (exfalso; simp only [COp.cls] at hc; omega)
theorem fpOp_read {ρ : CX → PV} {c : COp} {R W : List Nat} (hf : fpOp ρ c = some (R, W)) (hc : c.cls ≤ 1) : W = [] := by
  cases c <;> simp only [fpOp, Option.some.injEq, Prod.mk.injEq, reduceCtorEq] at hf
  case box own k x => cases own <;> simp at hf; exact hf.2
  case bsl own k x => cases own <;> simp at hf; exact hf.2
  case store => simp [COp.cls] at hc
  case append => simp [COp.cls] at hc
  case copy => simp [COp.cls] at hc
  case mupd => simp [COp.cls] at hc
  all_goals exact hf.2.symm
theorem foot {C : CallR} {o : COper × Option Nat} {M M' : List Blk} {ρ : CX → PV} {v : PV} {R W : List Nat} (hf : fpD M.length ρ o = some (R, W)) (h : resD C o.2 o.1.op M ρ v M') (hl : M'.length = M.length) :
    ∃ u : List Blk → List Blk, Upd W u ∧ M' = u M ∧ ∀ M2 : List Blk, M2.length = M.length → (∀ k ∈ R ++ W, M2[k]? = M[k]?) → resD C o.2 o.1.op M2 ρ v (u M2) := by
  obtain ⟨o, p⟩ := o
  cases p with
  | some r =>
    simp only [fpD, Option.some.injEq, Prod.mk.injEq] at hf
    obtain ⟨rfl, rfl⟩ := hf
    obtain ⟨b, k, xs, h1, h2, h3, rfl⟩ := h
    refine ⟨fun M2 => M2.set (M.length - r) (.row true k 1 xs), .inr ⟨_, _, rfl, rfl⟩, rfl, fun M2 h4 h5 => ⟨b, k, xs, h1, ?_, ?_, ?_⟩⟩
    · rw [h4]; exact (h5 _ (by simp)).trans h2
    · rw [h4]; exact h3
    · rw [h4]
  | none =>
    simp only [fpD] at hf
    simp only [resD] at h ⊢
    have hne : ∀ l f xs, o.op ≠ .call l f xs := by intro l f xs e; rw [e] at hf; cases hf
    have hR : ∀ {M M' : List Blk}, Res C o.op M ρ v M' ↔ res M ρ o.op = some (v, M') := by
      intro M M'
      have hnz : ∀ c, o.op ≠ .fz c := by intro c e; rw [e] at hf; cases hf
      generalize o.op = c at hne hnz
      cases c <;> first | exact Iff.rfl | exact absurd rfl (hne _ _ _) | exact absurd rfl (hnz _)
    rw [hR] at h
    by_cases hc : o.op.cls ≤ 1
    · have := fpOp_read hf hc
      subst this
      have hM := res_read hc h
      subst hM
      exact ⟨id, .inl ⟨rfl, rfl⟩, rfl, fun M2 h4 h5 => hR.2 (read_agree hf hc h fun i hi => h5 i (by simp [hi]))⟩
    · obtain ⟨i, b, rfl, rfl, h3⟩ := write_agree hf hc h hl
      exact ⟨fun M2 => M2.set i b, .inr ⟨i, b, rfl, rfl⟩, rfl, fun M2 h4 h5 => hR.2 (h3 M2 h4 h5)⟩
theorem Upd.length {W : List Nat} {u : List Blk → List Blk} (h : Upd W u) (M : List Blk) : (u M).length = M.length := by
  rcases h with ⟨_, rfl⟩ | ⟨i, b, _, rfl⟩
  · rfl
  · simp
theorem Upd.out {W : List Nat} {u : List Blk → List Blk} (h : Upd W u) (M : List Blk) {k : Nat} (hk : k ∉ W) : (u M)[k]? = M[k]? := by
  rcases h with ⟨_, rfl⟩ | ⟨i, b, rfl, rfl⟩
  · rfl
  · rw [List.getElem?_set_ne (by simpa using fun e => hk (by simp [e]))]
theorem Upd.comm {W W' : List Nat} {u u' : List Blk → List Blk} (h : Upd W u) (h' : Upd W' u') (hd : apartL W W') (M : List Blk) : u (u' M) = u' (u M) := by
  rcases h with ⟨_, rfl⟩ | ⟨i, b, rfl, rfl⟩
  · rfl
  · rcases h' with ⟨_, rfl⟩ | ⟨j, c, rfl, rfl⟩
    · rfl
    · exact List.set_comm _ _ fun e => hd i (by simp) j (by simp) e.symm
theorem resD_congr {C : CallR} {p : Option Nat} {M M' : List Blk} {ρ ρ' : CX → PV} {v : PV} (c : COp) (h : ∀ x ∈ c.opnds, ρ x = ρ' x) (k : resD C p c M ρ v M') : resD C p c M ρ' v M' := by
  cases p with
  | none => exact Res_congr c h k
  | some r =>
    obtain ⟨o, kk, xs, h1, h2, h3, h4⟩ := k
    refine ⟨o, kk, xs, ?_, h2, h3, h4⟩
    rw [← h1]
    cases c <;> first | rfl | skip
    case box own k x => simp only [allocB, h x (by simp [COp.opnds])]
    case bsl own k xs => simp only [allocB, map_congr' (ρ := ρ) (ρ' := ρ') (xs := xs) h]
theorem fpOp_congr {ρ ρ' : CX → PV} (c : COp) (h : ∀ x ∈ c.opnds, ρ x = ρ' x) : fpOp ρ c = fpOp ρ' c := by
  cases c
  case bsl own k xs =>
    simp only [fpOp]
    have : (xs.flatMap fun x => refs (ρ x)) = xs.flatMap fun x => refs (ρ' x) := by
      rw [List.flatMap_def, List.flatMap_def]
      congr 1
      exact List.map_congr_left fun x hx => by rw [h x hx]
    rw [this]
  case slice k x lo hi => simp only [fpOp, h x (by simp [COp.opnds])]
  all_goals first
    | rfl
    | (simp only [COp.opnds, List.mem_cons, List.not_mem_nil, or_false, forall_eq_or_imp, forall_eq] at h
       first
         | (simp only [fpOp, h]; done)
         | (obtain ⟨h1, h2, h3⟩ := h; simp only [fpOp, h1, h2, h3]; done)
         | (obtain ⟨h1, h2⟩ := h; simp only [fpOp, h1, h2]; done))
end Go.Nac
set_option linter.unusedVariables false
set_option linter.unusedSectionVars false
set_option linter.unusedSimpArgs false
namespace Go.Nac
def stepD (C : CallR) (ops : List (COper × Option Nat)) (φ : Nat → Foot) (i : Nat) (s s' : List Blk × List PV) : Prop :=
  ∃ o, ops[i]? = some o ∧ o.1.guard = none ∧ ∃ v, resD C o.2 o.1.op s.1 (ev s.2) v s'.1 ∧ s'.1.length = s.1.length ∧ s'.2 = put s.2 o.1.dst v ∧ fpD s.1.length (ev s.2) o = φ i
theorem wpD_run {C : CallR} (os : List (COper × Option Nat)) : ∀ (pre : List (COper × Option Nat)) {tr : List Foot} {K : List Foot → List Blk → List PV → Prop} {M : List Blk} {t : List PV}, wpD C os tr K M t →
    ∃ M' t' fps, fps.length = os.length ∧ K (tr ++ fps) M' t' ∧ ∀ φ : Nat → Foot, (∀ i, i < os.length → φ (pre.length + i) = fps.getD i none) →
      runG (stepD C (pre ++ os) φ) (List.range' pre.length os.length) (M, t) (M', t') := by
  induction os with
  | nil => exact fun pre tr K M t h => ⟨M, t, [], rfl, by rw [List.append_nil]; exact h, fun φ _ => rfl⟩
  | cons o os ih =>
    intro pre tr K M t h
    obtain ⟨h0, v, M1, h1, h2, h3⟩ := h
    obtain ⟨M', t', fps, h4, h5, h6⟩ := ih (pre ++ [o]) h3
    refine ⟨M', t', fpD M.length (ev t) o :: fps, by simp [h4], by simpa using h5, fun φ hφ => ?_⟩
    simp only [List.length_cons, List.range'_succ]
    refine ⟨(M1, put t o.1.dst v), ⟨o, by simp, h0, v, h1, h2, rfl, ?_⟩, ?_⟩
    · have := hφ 0 (by simp)
      simpa using this.symm
    · have := h6 φ (fun i hi => by
        have := hφ (i + 1) (by simp; omega)
        simp only [List.length_append, List.length_singleton, List.getD_cons_succ] at this ⊢
        rw [← this]; congr 1; omega)
      simpa using this
def tempsApart (a b : COper) : Bool :=
  (match a.dst with | some d => !b.looks.contains d && b.dst != some d | none => true) &&
  (match b.dst with | some d => !a.looks.contains d | none => true)
def okD (ops : List (COper × Option Nat)) (pairs : List (Nat × Nat)) (i j : Nat) : Bool :=
  match ops[i]?, ops[j]? with
  | some a, some b => tempsApart a.1 b.1 &&
      ((a.2.isNone && a.1.op.cls == 0) || (b.2.isNone && b.1.op.cls == 0) || (a.2.isNone && b.2.isNone && decide (a.1.op.cls ≤ 1) && decide (b.1.op.cls ≤ 1)) || pairs.contains (j, i))
  | _, _ => false
theorem okPair_inv {x y : Foot} (h : okPair x y) : ∃ r1 w1 r2 w2, x = some (r1, w1) ∧ y = some (r2, w2) ∧ apartL w1 r2 ∧ apartL w1 w2 ∧ apartL r1 w2 := by
  cases x with
  | none => cases y <;> cases h
  | some p => cases y with
    | none => cases h
    | some q => exact ⟨p.1, p.2, q.1, q.2, rfl, rfl, h⟩
theorem swapD {C : CallR} {ops : List (COper × Option Nat)} {pairs : List (Nat × Nat)} {φ : Nat → Foot} (hφ : ∀ p ∈ pairs, okPair (φ p.1) (φ p.2)) {i j : Nat} {s s1 s2 : List Blk × List PV} (ok : okD ops pairs i j = true)
    (hj : stepD C ops φ j s s1) (hi : stepD C ops φ i s1 s2) : ∃ s3, stepD C ops φ i s s3 ∧ stepD C ops φ j s3 s2 := by
  obtain ⟨b, hb, gb, v, b1, b2, b3, b4⟩ := hj
  obtain ⟨a, ha, ga, u, a1, a2, a3, a4⟩ := hi
  obtain ⟨M, t⟩ := s
  obtain ⟨M1, t1⟩ := s1
  obtain ⟨M2, t2⟩ := s2
  simp only at b1 b2 b3 b4 a1 a2 a3 a4
  subst b3; subst a3
  simp only [okD, ha, hb, tempsApart, Bool.and_eq_true, Bool.or_eq_true, decide_eq_true_eq, beq_iff_eq, Option.isNone_iff_eq_none, List.contains_eq_mem] at ok
  obtain ⟨⟨i1, i2⟩, i3⟩ := ok
  have n1 : ∀ d, a.1.dst = some d → d ∉ b.1.looks ∧ b.1.dst ≠ some d := by
    intro d hd; rw [hd] at i1; simp at i1; exact i1
  have n2 : ∀ d, b.1.dst = some d → d ∉ a.1.looks := by
    intro d hd; rw [hd] at i2; simp at i2; exact i2
  have n3 : ∀ d, b.1.dst = some d → a.1.dst ≠ some d := fun d hd ha => (n1 d ha).2 hd
  have ea : ∀ x ∈ a.1.op.opnds, ev (put t b.1.dst v) x = ev t x := ev_put n2
  have eb : ∀ x ∈ b.1.op.opnds, ev t x = ev (put t a.1.dst u) x := fun x hx => (ev_put (fun d hd => (n1 d hd).1) x hx).symm
  have a1' := resD_congr a.1.op ea a1
  have fpa : fpD M1.length (ev (put t b.1.dst v)) a = fpD M.length (ev t) a := by
    rw [b2]; unfold fpD; split
    · rfl
    · exact fpOp_congr _ ea
  have fpb : fpD M.length (ev t) b = fpD M.length (ev (put t a.1.dst u)) b := by
    unfold fpD; split
    · rfl
    · exact fpOp_congr _ eb
  -- what is left: where memory stands between
  suffices h : ∃ M3, resD C a.2 a.1.op M (ev t) u M3 ∧ M3.length = M.length ∧ resD C b.2 b.1.op M3 (ev t) v M2 by
    obtain ⟨M3, h1, h2, h3⟩ := h
    refine ⟨(M3, put t a.1.dst u), ⟨a, ha, ga, u, h1, h2, rfl, ?_⟩, b, hb, gb, v, resD_congr b.1.op eb h3, ?_, ?_, ?_⟩
    · exact fpa.symm.trans a4
    · simp only; omega
    · exact put_comm n3
    · simp only; rw [h2, ← fpb]; exact b4
  rcases i3 with ((⟨p1, p2⟩ | ⟨p1, p2⟩) | ⟨⟨⟨p1, p2⟩, p3⟩, p4⟩) | hp
  · rw [p1] at a1' ⊢
    obtain ⟨rfl, hall⟩ := Res_pure p2 a1'
    exact ⟨M, hall M, rfl, b1⟩
  · rw [p1] at b1 ⊢
    obtain ⟨rfl, hall⟩ := Res_pure p2 b1
    exact ⟨M2, a1', a2, hall M2⟩
  · rw [p1] at a1' ⊢
    rw [p2] at b1 ⊢
    have e1 : M1 = M := Res_read p4 b1
    subst e1
    have e2 : M2 = M1 := Res_read p3 a1'
    subst e2
    exact ⟨M2, a1', rfl, b1⟩
  · have hok := hφ _ (by simpa using hp)
    simp only at hok
    rw [← a4, ← b4, fpa] at hok
    obtain ⟨Rb, Wb, Ra, Wa, hfb, hfa, o1, o2, o3⟩ := okPair_inv hok
    obtain ⟨ub, hub, rfl, hb2⟩ := foot hfb b1 b2
    have hfa' : fpD (ub M).length (ev t) a = some (Ra, Wa) := by rw [b2]; exact hfa
    obtain ⟨ua, hua, rfl, ha2⟩ := foot hfa' a1' a2
    have agree : ∀ k ∈ Ra ++ Wa, M[k]? = (ub M)[k]? := by
      intro k hk
      refine (hub.out M fun hw => ?_).symm
      rcases List.mem_append.1 hk with hk | hk
      · exact o1 k hw k hk rfl
      · exact o2 k hw k hk rfl
    refine ⟨ua M, ha2 M b2.symm agree, hua.length M, ?_⟩
    have h5 := hb2 (ua M) (hua.length M) (fun k hk => hua.out M fun hw => by
      rcases List.mem_append.1 hk with hk | hk
      · exact o3 k hk k hw rfl
      · exact o2 k hk k hw rfl)
    rw [hub.comm hua o2] at h5
    exact h5
end Go.Nac

