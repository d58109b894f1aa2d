import Derived.Test.YtdlngmbgalmdeaaK5
set_option linter.unusedVariables false
set_option linter.unusedSectionVars false
set_option linter.unusedSimpArgs false
namespace Go.Nac
def eqVs : List SK → List Value → List Value → Option Bool
  | [], [], [] => some true
  | k :: ks, x :: xs, y :: ys => do
    let a ← eqSK k x y
    let b ← eqVs ks xs ys
    pure (a && b)
  | _, _, _ => none
theorem eqVs_length : ∀ {ks : List SK} {xs ys : List Value} {b : Bool}, eqVs ks xs ys = some b → xs.length = ks.length ∧ ys.length = ks.length
  | [], [], [], _, _ => ⟨rfl, rfl⟩
  | k :: ks, x :: xs, y :: ys, b, h => by
    simp only [eqVs] at h
    cases h1 : eqSK k x y with
    | none => rw [h1] at h; cases h
    | some a =>
      rw [h1] at h
      cases h2 : eqVs ks xs ys with
      | none => rw [h2] at h; cases h
      | some c => have := eqVs_length h2; simp [this.1, this.2]
  | [], [], _ :: _, _, h => by simp [eqVs] at h
  | [], _ :: _, _, _, h => by simp [eqVs] at h
  | _ :: _, [], _, _, h => by simp [eqVs] at h
  | _ :: _, _ :: _, [], _, h => by simp [eqVs] at h
theorem eqVs_cut {ks : List SK} {xs ys : List Value} {b : Bool} (n : Nat) (h : eqVs ks xs ys = some b) :
    ∃ b1 b2, eqVs (ks.take n) (xs.take n) (ys.take n) = some b1 ∧ eqVs (ks.drop n) (xs.drop n) (ys.drop n) = some b2 ∧ b = (b1 && b2) := by
  induction n generalizing ks xs ys b with
  | zero => exact ⟨true, b, rfl, h, by simp⟩
  | succ n ih =>
    cases ks with
    | nil =>
      have := eqVs_length h
      have hx : xs = [] := List.eq_nil_of_length_eq_zero this.1
      have hy : ys = [] := List.eq_nil_of_length_eq_zero this.2
      subst hx; subst hy
      exact ⟨true, b, rfl, h, by simp⟩
    | cons k ks =>
      cases xs with
      | nil => simp [eqVs] at h
      | cons x xs =>
        cases ys with
        | nil => simp [eqVs] at h
        | cons y ys =>
          simp only [eqVs] at h
          cases h1 : eqSK k x y with
          | none => rw [h1] at h; cases h
          | some a =>
            rw [h1] at h
            cases h2 : eqVs ks xs ys with
            | none => rw [h2] at h; cases h
            | some c =>
              rw [h2] at h
              obtain ⟨b1, b2, g1, g2, rfl⟩ := ih h2
              refine ⟨a && b1, b2, by simp [eqVs, h1, g1], g2, ?_⟩
              have : (a && (b1 && b2)) = b := by simpa using h
              rw [← this, Bool.and_assoc]
theorem eqSK_bool {x y : Value} {r : Bool} (h : eqSK .bool x y = some r) : ∃ a b, x = .bool a ∧ y = .bool b ∧ r = (a == b) := by
  cases x <;> cases y <;> first | (simp [eqSK] at h; done) | (simp only [eqSK, Option.some.injEq] at h; exact ⟨_, _, rfl, rfl, h.symm⟩)
theorem eqSK_str {x y : Value} {r : Bool} (h : eqSK .str x y = some r) : ∃ a b, x = .string a ∧ y = .string b ∧ r = (a == b) := by
  cases x <;> cases y <;> first | (simp [eqSK] at h; done) | (simp only [eqSK, Option.some.injEq] at h; exact ⟨_, _, rfl, rfl, h.symm⟩)
theorem eqSK_int {x y : Value} {r : Bool} (h : eqSK .int x y = some r) : ∃ k a b, x = .int k a ∧ y = .int k b ∧ r = (a == b) := by
  cases x <;> cases y <;> first
    | (simp [eqSK] at h; done)
    | (simp only [eqSK] at h
       split at h
       · rename_i e; subst e; exact ⟨_, _, _, rfl, rfl, (Option.some.inj h).symm⟩
       · cases h)
def tySize (P : Program) (t : TypeId) : Option Nat := (P.info? t).map (·.size)
def aggT (P : Program) (t : TypeId) : Option Bool := (P.underlying t).map fun d => match d with | .struct _ | .array _ _ => true | _ => false
mutual
def eqTy (P : Program) : Nat → TypeId → List SK → Bool
  | 0, _, _ => false
  | f + 1, t, ks =>
    match P.underlying t with
    | some .bool => ks == [.bool]
    | some .string => ks == [.str]
    | some (.int _) => ks == [.int]
    | some (.struct fs) => !P.stoodInHeld t && eqFs P f fs.toList 0 ks
    | _ => false
def eqFs (P : Program) : Nat → List Field → Nat → List SK → Bool
  | _, [], _, ks => ks == []
  | 0, _ :: _, _, _ => false
  | f + 1, x :: fs, cur, ks =>
    match tySize P x.type with
    | some s => x.name != "_" && x.offset == cur && (ks.take s).length == s && eqTy P f x.type (ks.take s) && eqFs P f fs (cur + s) (ks.drop s)
    | none => false
end
section
variable {P : Program} {w : World}
theorem run_isAgg {t : TypeId} {b : Bool} (h : aggT P t = some b) : (isAgg t).run P w = .ok b w := by
  unfold aggT at h
  cases hu : P.underlying t with
  | none => rw [hu] at h; cases h
  | some d =>
    rw [hu] at h
    simp only [Option.map_some, Option.some.injEq] at h
    simp only [isAgg, Sem.run_bind, run_underlying hu, Result.andThen_ok]
    subst h
    cases d <;> rfl
theorem run_sizeOf' {t : TypeId} {n : Nat} (h : tySize P t = some n) : (sizeOf t).run P w = .ok n w := by
  unfold tySize at h
  cases hi : P.info? t with
  | none => rw [hi] at h; cases h
  | some i =>
    rw [hi] at h
    simp only [Option.map_some, Option.some.injEq] at h
    simp [sizeOf, typeInfo, hi, h]
/-- Cells as a value. -/
def valOf (b : Bool) (cs : List Value) : Value := if b then .agg cs.toArray else cs.headD undef
/-- A part of an aggregate. -/
theorem run_part' {t : TypeId} {b : Bool} {s off : Nat} {cs : Array Value} (ha : aggT P t = some b) (hs : tySize P t = some s) (h0 : b = false → 0 < s) (hlt : off + s ≤ cs.size) :
    (part t cs off).run P w = .ok (valOf b ((cs.toList.drop off).take s)) w := by
  cases b with
  | true =>
    simp only [part, Sem.run_bind, run_isAgg ha, Result.andThen_ok, if_true, run_sizeOf' hs, Sem.run_pure, valOf]
    congr 2
    apply Array.ext'
    simp [List.extract, Nat.add_sub_cancel_left]
  | false =>
    have hp := h0 rfl
    have hlt' : off < cs.size := by omega
    have hd : cs.toList.drop off = cs[off] :: cs.toList.drop (off + 1) := by
      rw [List.drop_eq_getElem_cons (by simpa using hlt')]; simp
    obtain ⟨s, rfl⟩ : ∃ m, s = m + 1 := ⟨s - 1, by omega⟩
    simp only [part, Sem.run_bind, run_isAgg ha, Result.andThen_ok, if_false, Bool.false_eq_true, Array.getElem?_eq_getElem hlt', Sem.run_pure, valOf, hd, List.take_succ_cons, List.headD_cons]
theorem eqTy_size {f : Nat} {t : TypeId} {ks : List SK} (h : eqTy P f t ks = true) : ∃ b, aggT P t = some b ∧ (b = false → ks.length = 1) := by
  cases f with
  | zero => simp [eqTy] at h
  | succ f =>
    unfold eqTy at h
    unfold aggT
    split at h <;> rename_i hu <;> first
      | (cases h; done)
      | (rw [hu]; exact ⟨_, rfl, fun hb => by first | (cases hb; done) | (have : _ = _ := (by simpa using h : ks = _); subst this; rfl)⟩)
mutual
theorem eqTy_run : ∀ (f : Nat) (t : TypeId) (ks : List SK) (xs ys : List Value) (r b : Bool) (d : Nat) (w : World), eqTy P f t ks = true → aggT P t = some b → eqVs ks xs ys = some r → f ≤ d →
    (Op.equalIn d t (valOf b xs) (valOf b ys)).run P w = .ok r w
  | 0, _, _, _, _, _, _, _, _, h, _, _, _ => by simp [eqTy] at h
  | f + 1, t, ks, xs, ys, r, b, d, w, h, hb, hv, hd => by
    obtain ⟨d, rfl⟩ : ∃ m, d = m + 1 := ⟨d - 1, by omega⟩
    have one : ∀ (k : SK), ks = [k] → ∃ x y, xs = [x] ∧ ys = [y] ∧ eqSK k x y = some r := by
      intro k hk
      subst hk
      have hl := eqVs_length hv
      match xs, ys, hl with
      | [x], [y], _ =>
        refine ⟨x, y, rfl, rfl, ?_⟩
        simp only [eqVs] at hv
        cases h1 : eqSK k x y with
        | none => rw [h1] at hv; cases hv
        | some a => rw [h1] at hv; simpa using hv
    unfold eqTy at h
    unfold aggT at hb
    split at h
    · rename_i hu
      rw [hu] at hb
      obtain rfl : false = b := by simpa using hb
      obtain ⟨x, y, rfl, rfl, hk⟩ := one .bool (by simpa using h)
      obtain ⟨_, _, rfl, rfl, rfl⟩ := eqSK_bool hk
      exact run_equalIn_bool' w d t _ _ hu
    · rename_i hu
      rw [hu] at hb
      obtain rfl : false = b := by simpa using hb
      obtain ⟨x, y, rfl, rfl, hk⟩ := one .str (by simpa using h)
      obtain ⟨_, _, rfl, rfl, rfl⟩ := eqSK_str hk
      exact (run_equalIn_string w d t _ _ hu).trans (by rw [beq_toListBytes])
    · rename_i k hu
      rw [hu] at hb
      obtain rfl : false = b := by simpa using hb
      obtain ⟨x, y, rfl, rfl, hk⟩ := one .int (by simpa using h)
      obtain ⟨_, _, _, rfl, rfl, rfl⟩ := eqSK_int hk
      exact run_equalIn_int w d t _ k _ _ hu
    · rename_i fs hu
      rw [hu] at hb
      obtain rfl : true = b := by simpa using hb
      simp only [Bool.and_eq_true, Bool.not_eq_true'] at h
      have hf : P.fieldsOf t = fs := by unfold Program.fieldsOf; rw [hu]
      show (Op.equalIn (d + 1) t (.agg xs.toArray) (.agg ys.toArray)).run P w = _
      rw [run_equalIn_struct w d t _ _ (by rw [hf]; exact hu) h.1, hf]
      have := eqFs_run f fs.toList 0 ks xs ys xs ys r d w h.2 hv rfl rfl (by omega)
      exact this
    · cases h
theorem eqFs_run : ∀ (f : Nat) (fs : List Field) (cur : Nat) (ks : List SK) (xs ys XS YS : List Value) (r : Bool) (d : Nat) (w : World), eqFs P f fs cur ks = true → eqVs ks xs ys = some r →
    XS.drop cur = xs → YS.drop cur = ys → f ≤ d → (Op.eqFields d XS.toArray YS.toArray fs).run P w = .ok r w
  | f, [], cur, ks, xs, ys, XS, YS, r, d, w, h, hv, hx, hy, hd => by
    have hk : ks = [] := by cases f <;> simpa [eqFs] using h
    subst hk
    have hl := eqVs_length hv
    have h1 : xs = [] := List.eq_nil_of_length_eq_zero hl.1
    have h2 : ys = [] := List.eq_nil_of_length_eq_zero hl.2
    subst h1; subst h2
    simp only [eqVs] at hv
    obtain rfl := Option.some.inj hv
    rfl
  | 0, _ :: _, _, _, _, _, _, _, _, _, _, h, _, _, _, _ => by simp [eqFs] at h
  | f + 1, x :: fs, cur, ks, xs, ys, XS, YS, r, d, w, h, hv, hx, hy, hd => by
    unfold eqFs at h
    split at h
    · rename_i s hs
      simp only [Bool.and_eq_true, bne_iff_ne, beq_iff_eq] at h
      obtain ⟨⟨⟨⟨hn, ho⟩, hlen⟩, h1⟩, h2⟩ := h
      subst ho
      obtain ⟨b, hb, hb1⟩ := eqTy_size h1
      obtain ⟨r1, r2, g1, g2, rfl⟩ := eqVs_cut s hv
      have hl := eqVs_length g1
      have hsz : ∀ {zs ZS : List Value}, ZS.drop x.offset = zs → (zs.take s).length = (ks.take s).length → x.offset + s ≤ ZS.toArray.size ∨ s = 0 := by
        intro zs ZS hz hzl
        subst hz
        rw [hlen] at hzl
        simp at hzl ⊢
        omega
      have pos : b = false → 0 < s := fun hb' => by have := hb1 hb'; omega
      have p : ∀ {zs ZS : List Value} (w : World), ZS.drop x.offset = zs → (zs.take s).length = (ks.take s).length → (part x.type ZS.toArray x.offset).run P w = .ok (valOf b (zs.take s)) w := by
        intro zs ZS w hz hzl
        rcases hsz hz hzl with hlt | h0
        · rw [run_part' hb hs pos hlt]; simp [hz]
        · subst h0
          cases b with
          | false => exact absurd (pos rfl) (by omega)
          | true =>
            simp only [part, Sem.run_bind, run_isAgg hb, Result.andThen_ok, if_true, run_sizeOf' hs, Sem.run_pure, valOf]
            congr 2
            apply Array.ext'
            simp
      have e1 := eqTy_run f x.type (ks.take s) (xs.take s) (ys.take s) r1 b d w h1 hb g1 (by omega)
      simp only [Op.eqFields, if_pos hn, Sem.run_bind, p w hx hl.1, p w hy hl.2, Result.andThen_ok, e1, Sem.run_ite]
      cases r1 with
      | false => simp
      | true =>
        simp only [Bool.not_true, Bool.false_eq_true, if_false, Bool.true_and]
        exact eqFs_run f fs (x.offset + s) (ks.drop s) (xs.drop s) (ys.drop s) XS YS r2 d w h2 g2 (by rw [← hx, List.drop_drop]) (by rw [← hy, List.drop_drop]) (by omega)
    · cases h
end
theorem eqCells_vs {M : List Blk} {L : Loc} : ∀ {ks : List SK} {xs ys : List PV} {vs us : List Value} {b : Bool}, eqCells ks xs ys = some b → LRel M L w xs vs → LRel M L w ys us → eqVs ks vs us = some b
  | [], [], [], _, _, b, h, h1, h2 => by cases h1; cases h2; exact h
  | k :: ks, x :: xs, y :: ys, _, _, b, h, h1, h2 => by
    cases h1 with
    | cons _ v _ vs hx hxs =>
      cases h2 with
      | cons _ u _ us hy hys =>
        cases x <;> cases y <;> first
          | (simp [eqCells] at h; done)
          | (obtain rfl := hx.s_inv
             obtain rfl := hy.s_inv
             simp only [eqCells] at h
             simp only [eqVs]
             cases h1 : eqSK k v u with
             | none => rw [h1] at h; cases h
             | some a =>
               rw [h1] at h
               cases h2 : eqCells ks xs ys with
               | none => rw [h2] at h; cases h
               | some c =>
                 rw [h2] at h
                 rw [eqCells_vs h2 hxs hys]
                 exact h)
  | [], [], _ :: _, _, _, _, h, _, _ => by simp [eqCells] at h
  | [], _ :: _, _, _, _, _, h, _, _ => by simp [eqCells] at h
  | _ :: _, [], _, _, _, _, h, _, _ => by simp [eqCells] at h
  | _ :: _, _ :: _, [], _, _, _, h, _, _ => by simp [eqCells] at h
end
end Go.Nac

