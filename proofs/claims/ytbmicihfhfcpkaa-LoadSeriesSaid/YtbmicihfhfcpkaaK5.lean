import Derived.Test.YtbmicihfhfcpkaaK4
import Derived.Laws.StructEq
import Derived.Laws.Append
import Derived.Laws.Rows
set_option linter.unusedVariables false
set_option linter.unusedSectionVars false
set_option linter.unusedSimpArgs false
namespace Go.Nac
def okV : Value → Value → Bool
  | .bool a, .bool b => a == b
  | .int k a, .int k' b => k == k' && a == b
  | .string a, .string b => a.data == b.data
  | .slice none 0 0, .slice none 0 0 => true
  | .float k a, .float k' b => k == k' && a == b
  | .nilFunc, .nilFunc => true
  | .nilIface, .nilIface => true
  | .map none, .map none => true
  | .pointer none, .pointer none => true
  | _, _ => false
theorem okV_eq {v w : Value} (h : okV v w = true) : v = w ∧ aggV v = false := by
  unfold okV at h
  split at h
  · simp at h; subst h; exact ⟨rfl, rfl⟩
  · simp at h; obtain ⟨rfl, rfl⟩ := h; exact ⟨rfl, rfl⟩
  · rename_i a b
    have : a.data = b.data := by simpa using h
    exact ⟨by cases a; cases b; simp_all, rfl⟩
  · exact ⟨rfl, rfl⟩
  · simp at h; obtain ⟨rfl, rfl⟩ := h; exact ⟨rfl, rfl⟩
  · exact ⟨rfl, rfl⟩
  · exact ⟨rfl, rfl⟩
  · exact ⟨rfl, rfl⟩
  · exact ⟨rfl, rfl⟩
  · cases h
def okX : CX → Operand → Bool
  | .t n, .tmp m => n == m
  | .k v, .const w => okV v w
  | .f g, .func h => g == h
  | _, _ => false
def okVs : List Value → List Value → Bool
  | [], [] => true
  | v :: vs, w :: ws => okV v w && okVs vs ws
  | _, _ => false
theorem okVs_eq : ∀ {vs ws : List Value}, okVs vs ws = true → vs = ws ∧ ∀ v ∈ vs, aggV v = false
  | [], [], _ => ⟨rfl, by simp⟩
  | v :: vs, w :: ws, h => by
    simp only [okVs, Bool.and_eq_true] at h
    obtain ⟨rfl, h1⟩ := okV_eq h.1
    obtain ⟨rfl, h2⟩ := okVs_eq h.2
    exact ⟨rfl, by simp; exact ⟨h1, h2⟩⟩
  | [], _ :: _, h => by simp [okVs] at h
  | _ :: _, [], h => by simp [okVs] at h
def okXs : List CX → List Operand → Bool
  | [], [] => true
  | x :: xs, y :: ys => okX x y && okXs xs ys
  | _, _ => false
def okXo : Option CX → Option Operand → Bool
  | none, none => true
  | some x, some y => okX x y
  | _, _ => false
section
variable {R : CCode → Code → Prop} {P : Program} {M : List Blk} {L : Loc} {w : World} {ρ : CX → PV} {σ : Operand → Value}
def Good (R : CCode → Code → Prop) (P : Program) (s : Sem Next) (M : List Blk) (L : Loc) (w : World) (v : PV) (M' : List Blk) : Prop :=
  ∃ cv w' L', (s.run P w = .ok (.value cv) w' ∨ s.run P w = .ok .skip w' ∧ cv = undef) ∧ Evo M L w M' L' w' ∧ Sim R M' L' w' ∧ VRel M' L' w' v cv
def Fit (M : List Blk) (L : Loc) (w : World) (ρ : CX → PV) (σ : Operand → Value) : Prop := ∀ x y, okX x y = true → VRel M L w (ρ x) (σ y)
theorem good_pure {s : Sem Next} {v : PV} {cv : Value} (S : Sim R M L w) (hr : s.run P w = .ok (.value cv) w) (hv : VRel M L w v cv) : Good R P s M L w v M :=
  ⟨cv, w, L, .inl hr, Evo.refl M L w, S, hv⟩
theorem Fit.list (H : Fit M L w ρ σ) : ∀ {xs : List CX} {ys : List Operand}, okXs xs ys = true → LRel M L w (xs.map ρ) (ys.map σ)
  | [], [], _ => .nil
  | x :: xs, y :: ys, h => by
    simp only [okXs, Bool.and_eq_true] at h
    exact .cons _ _ _ _ (H x y h.1) (H.list h.2)
  | [], _ :: _, h => by simp [okXs] at h
  | _ :: _, [], h => by simp [okXs] at h
theorem VRel.s_inv {v c : Value} (h : VRel M L w (.s v) c) : c = v := by cases h; rfl
theorem binInt_run {op : BinOp} {k : IntKind} {a b : Int} {v : Value} (h : binInt op k a b = some v) (t : TypeId) : (binOp op t (.int k a) (.int k b)).run P w = .ok v w ∧ aggV v = false := by
  cases op <;> simp only [binInt] at h <;> first
    | (cases h; done)
    | (obtain rfl := Option.some.inj h; exact ⟨by simp [binOp, Op.intArith, Op.intCmp], rfl⟩)
    | (split at h
       · cases h
       · rename_i hb
         obtain rfl := Option.some.inj h
         exact ⟨by simp [binOp, Op.intDiv, hb], rfl⟩)
theorem eqGuard_int {op : BinOp} {k k' : IntKind} {a b : Int} (t : TypeId) (x y : Operand) : (eqGuard op t x y (.int k a) (.int k' b)).run P w = .ok () w := by
  unfold eqGuard; split <;> rfl
theorem eqGuard_str {op : BinOp} {a b : ByteArray} (t : TypeId) (x y : Operand) : (eqGuard op t x y (.string a) (.string b)).run P w = .ok () w := by
  unfold eqGuard; split <;> rfl
theorem eqGuard_bool {op : BinOp} {a b : Bool} (t : TypeId) (x y : Operand) : (eqGuard op t x y (.bool a) (.bool b)).run P w = .ok () w := by
  unfold eqGuard; split <;> rfl
theorem binStr_run {op : BinOp} {a b : ByteArray} {v : Value} (h : binStr op a b = some v) (t : TypeId) : (binOp op t (.string a) (.string b)).run P w = .ok v w ∧ aggV v = false := by
  cases op <;> simp only [binStr] at h <;> first
    | (cases h; done)
    | (obtain rfl := Option.some.inj h; exact ⟨by simp [binOp, Op.stringOp], rfl⟩)
    | (split at h
       · rename_i hb
         obtain rfl := Option.some.inj h
         have h2 : ¬ ((a.size : Int) + (b.size : Int) > 9223372036854775807) := by omega
         have h3 : ¬ (9223372036854775807 < (a.size : Int) + (b.size : Int)) := by omega
         exact ⟨by simp [binOp, Op.stringOp, IntKind.max, IntKind.signed, IntKind.bits]; omega, rfl⟩
       · cases h)
theorem binBool_run {op : BinOp} {a b : Bool} {v : Value} (h : binBool op a b = some v) (t : TypeId) (ht : P.underlying t = some .bool) :
    (binOp op t (.bool a) (.bool b)).run P w = .ok v w ∧ aggV v = false := by
  cases op <;> simp only [binBool] at h <;> first
    | (cases h; done)
    | (obtain rfl := Option.some.inj h; first | exact ⟨run_eql_bool w t a b ht, rfl⟩ | exact ⟨run_neq_bool w t a b ht, rfl⟩)
end
end Go.Nac
set_option linter.unusedVariables false
set_option linter.unusedSectionVars false
set_option linter.unusedSimpArgs false
namespace Go.Nac
def eqVs : List SK → List Value → List Value → Option Bool
  | [], [], [] => some true
  | k :: ks, x :: xs, y :: ys => do
    let a ← eqSK k x y
    let b ← eqVs ks xs ys
    pure (a && b)
  | _, _, _ => none
theorem eqVs_length : ∀ {ks : List SK} {xs ys : List Value} {b : Bool}, eqVs ks xs ys = some b → xs.length = ks.length ∧ ys.length = ks.length
  | [], [], [], _, _ => ⟨rfl, rfl⟩
  | k :: ks, x :: xs, y :: ys, b, h => by
    simp only [eqVs] at h
    cases h1 : eqSK k x y with
    | none => rw [h1] at h; cases h
    | some a =>
      rw [h1] at h
      cases h2 : eqVs ks xs ys with
      | none => rw [h2] at h; cases h
      | some c => have := eqVs_length h2; simp [this.1, this.2]
  | [], [], _ :: _, _, h => by simp [eqVs] at h
  | [], _ :: _, _, _, h => by simp [eqVs] at h
  | _ :: _, [], _, _, h => by simp [eqVs] at h
  | _ :: _, _ :: _, [], _, h => by simp [eqVs] at h
theorem eqVs_cut {ks : List SK} {xs ys : List Value} {b : Bool} (n : Nat) (h : eqVs ks xs ys = some b) :
    ∃ b1 b2, eqVs (ks.take n) (xs.take n) (ys.take n) = some b1 ∧ eqVs (ks.drop n) (xs.drop n) (ys.drop n) = some b2 ∧ b = (b1 && b2) := by
  induction n generalizing ks xs ys b with
  | zero => exact ⟨true, b, rfl, h, by simp⟩
  | succ n ih =>
    cases ks with
    | nil =>
      have := eqVs_length h
      have hx : xs = [] := List.eq_nil_of_length_eq_zero this.1
      have hy : ys = [] := List.eq_nil_of_length_eq_zero this.2
      subst hx; subst hy
      exact ⟨true, b, rfl, h, by simp⟩
    | cons k ks =>
      cases xs with
      | nil => simp [eqVs] at h
      | cons x xs =>
        cases ys with
        | nil => simp [eqVs] at h
        | cons y ys =>
          simp only [eqVs] at h
          cases h1 : eqSK k x y with
          | none => rw [h1] at h; cases h
          | some a =>
            rw [h1] at h
            cases h2 : eqVs ks xs ys with
            | none => rw [h2] at h; cases h
            | some c =>
              rw [h2] at h
              obtain ⟨b1, b2, g1, g2, rfl⟩ := ih h2
              refine ⟨a && b1, b2, by simp [eqVs, h1, g1], g2, ?_⟩
              have : (a && (b1 && b2)) = b := by simpa using h
              rw [← this, Bool.and_assoc]
theorem eqSK_bool {x y : Value} {r : Bool} (h : eqSK .bool x y = some r) : ∃ a b, x = .bool a ∧ y = .bool b ∧ r = (a == b) := by
  cases x <;> cases y <;> first | (simp [eqSK] at h; done) | (simp only [eqSK, Option.some.injEq] at h; exact ⟨_, _, rfl, rfl, h.symm⟩)
theorem eqSK_str {x y : Value} {r : Bool} (h : eqSK .str x y = some r) : ∃ a b, x = .string a ∧ y = .string b ∧ r = (a == b) := by
  cases x <;> cases y <;> first | (simp [eqSK] at h; done) | (simp only [eqSK, Option.some.injEq] at h; exact ⟨_, _, rfl, rfl, h.symm⟩)
theorem eqSK_int {x y : Value} {r : Bool} (h : eqSK .int x y = some r) : ∃ k a b, x = .int k a ∧ y = .int k b ∧ r = (a == b) := by
  cases x <;> cases y <;> first
    | (simp [eqSK] at h; done)
    | (simp only [eqSK] at h
       split at h
       · rename_i e; subst e; exact ⟨_, _, _, rfl, rfl, (Option.some.inj h).symm⟩
       · cases h)
def tySize (P : Program) (t : TypeId) : Option Nat := (P.info? t).map (·.size)
def aggT (P : Program) (t : TypeId) : Option Bool := (P.underlying t).map fun d => match d with | .struct _ | .array _ _ => true | _ => false
mutual
def eqTy (P : Program) : Nat → TypeId → List SK → Bool
  | 0, _, _ => false
  | f + 1, t, ks =>
    match P.underlying t with
    | some .bool => ks == [.bool]
    | some .string => ks == [.str]
    | some (.int _) => ks == [.int]
    | some (.struct fs) => !P.stoodInHeld t && eqFs P f fs.toList 0 ks
    | _ => false
def eqFs (P : Program) : Nat → List Field → Nat → List SK → Bool
  | _, [], _, ks => ks == []
  | 0, _ :: _, _, _ => false
  | f + 1, x :: fs, cur, ks =>
    match tySize P x.type with
    | some s => x.name != "_" && x.offset == cur && (ks.take s).length == s && eqTy P f x.type (ks.take s) && eqFs P f fs (cur + s) (ks.drop s)
    | none => false
end
section
variable {P : Program} {w : World}
theorem run_isAgg {t : TypeId} {b : Bool} (h : aggT P t = some b) : (isAgg t).run P w = .ok b w := by
  unfold aggT at h
  cases hu : P.underlying t with
  | none => rw [hu] at h; cases h
  | some d =>
    rw [hu] at h
    simp only [Option.map_some, Option.some.injEq] at h
    simp only [isAgg, Sem.run_bind, run_underlying hu, Result.andThen_ok]
    subst h
    cases d <;> rfl
theorem run_sizeOf' {t : TypeId} {n : Nat} (h : tySize P t = some n) : (sizeOf t).run P w = .ok n w := by
  unfold tySize at h
  cases hi : P.info? t with
  | none => rw [hi] at h; cases h
  | some i =>
    rw [hi] at h
    simp only [Option.map_some, Option.some.injEq] at h
    simp [sizeOf, typeInfo, hi, h]
/-- Cells as a value. -/
def valOf (b : Bool) (cs : List Value) : Value := if b then .agg cs.toArray else cs.headD undef
/-- A part of an aggregate. -/
theorem run_part' {t : TypeId} {b : Bool} {s off : Nat} {cs : Array Value} (ha : aggT P t = some b) (hs : tySize P t = some s) (h0 : b = false → 0 < s) (hlt : off + s ≤ cs.size) :
    (part t cs off).run P w = .ok (valOf b ((cs.toList.drop off).take s)) w := by
  cases b with
  | true =>
    simp only [part, Sem.run_bind, run_isAgg ha, Result.andThen_ok, if_true, run_sizeOf' hs, Sem.run_pure, valOf]
    congr 2
    apply Array.ext'
    simp [List.extract, Nat.add_sub_cancel_left]
  | false =>
    have hp := h0 rfl
    have hlt' : off < cs.size := by omega
    have hd : cs.toList.drop off = cs[off] :: cs.toList.drop (off + 1) := by
      rw [List.drop_eq_getElem_cons (by simpa using hlt')]; simp
    obtain ⟨s, rfl⟩ : ∃ m, s = m + 1 := ⟨s - 1, by omega⟩
    simp only [part, Sem.run_bind, run_isAgg ha, Result.andThen_ok, if_false, Bool.false_eq_true, Array.getElem?_eq_getElem hlt', Sem.run_pure, valOf, hd, List.take_succ_cons, List.headD_cons]
theorem eqTy_size {f : Nat} {t : TypeId} {ks : List SK} (h : eqTy P f t ks = true) : ∃ b, aggT P t = some b ∧ (b = false → ks.length = 1) := by
  cases f with
  | zero => simp [eqTy] at h
  | succ f =>
    unfold eqTy at h
    unfold aggT
    split at h <;> rename_i hu <;> first
      | (cases h; done)
      | (rw [hu]; exact ⟨_, rfl, fun hb => by first | (cases hb; done) | (have : _ = _ := (by simpa using h : ks = _); subst this; rfl)⟩)
mutual
theorem eqTy_run : ∀ (f : Nat) (t : TypeId) (ks : List SK) (xs ys : List Value) (r b : Bool) (d : Nat) (w : World), eqTy P f t ks = true → aggT P t = some b → eqVs ks xs ys = some r → f ≤ d →
    (Op.equalIn d t (valOf b xs) (valOf b ys)).run P w = .ok r w
  | 0, _, _, _, _, _, _, _, _, h, _, _, _ => by simp [eqTy] at h
  | f + 1, t, ks, xs, ys, r, b, d, w, h, hb, hv, hd => by
    obtain ⟨d, rfl⟩ : ∃ m, d = m + 1 := ⟨d - 1, by omega⟩
    have one : ∀ (k : SK), ks = [k] → ∃ x y, xs = [x] ∧ ys = [y] ∧ eqSK k x y = some r := by
      intro k hk
      subst hk
      have hl := eqVs_length hv
      match xs, ys, hl with
      | [x], [y], _ =>
        refine ⟨x, y, rfl, rfl, ?_⟩
        simp only [eqVs] at hv
        cases h1 : eqSK k x y with
        | none => rw [h1] at hv; cases hv
        | some a => rw [h1] at hv; simpa using hv
    unfold eqTy at h
    unfold aggT at hb
    split at h
    · rename_i hu
      rw [hu] at hb
      obtain rfl : false = b := by simpa using hb
      obtain ⟨x, y, rfl, rfl, hk⟩ := one .bool (by simpa using h)
      obtain ⟨_, _, rfl, rfl, rfl⟩ := eqSK_bool hk
      exact run_equalIn_bool' w d t _ _ hu
    · rename_i hu
      rw [hu] at hb
      obtain rfl : false = b := by simpa using hb
      obtain ⟨x, y, rfl, rfl, hk⟩ := one .str (by simpa using h)
      obtain ⟨_, _, rfl, rfl, rfl⟩ := eqSK_str hk
      exact (run_equalIn_string w d t _ _ hu).trans (by rw [beq_toListBytes])
    · rename_i k hu
      rw [hu] at hb
      obtain rfl : false = b := by simpa using hb
      obtain ⟨x, y, rfl, rfl, hk⟩ := one .int (by simpa using h)
      obtain ⟨_, _, _, rfl, rfl, rfl⟩ := eqSK_int hk
      exact run_equalIn_int w d t _ k _ _ hu
    · rename_i fs hu
      rw [hu] at hb
      obtain rfl : true = b := by simpa using hb
      simp only [Bool.and_eq_true, Bool.not_eq_true'] at h
      have hf : P.fieldsOf t = fs := by unfold Program.fieldsOf; rw [hu]
      show (Op.equalIn (d + 1) t (.agg xs.toArray) (.agg ys.toArray)).run P w = _
      rw [run_equalIn_struct w d t _ _ (by rw [hf]; exact hu) h.1, hf]
      have := eqFs_run f fs.toList 0 ks xs ys xs ys r d w h.2 hv rfl rfl (by omega)
      exact this
    · cases h
theorem eqFs_run : ∀ (f : Nat) (fs : List Field) (cur : Nat) (ks : List SK) (xs ys XS YS : List Value) (r : Bool) (d : Nat) (w : World), eqFs P f fs cur ks = true → eqVs ks xs ys = some r →
    XS.drop cur = xs → YS.drop cur = ys → f ≤ d → (Op.eqFields d XS.toArray YS.toArray fs).run P w = .ok r w
  | f, [], cur, ks, xs, ys, XS, YS, r, d, w, h, hv, hx, hy, hd => by
    have hk : ks = [] := by cases f <;> simpa [eqFs] using h
    subst hk
    have hl := eqVs_length hv
    have h1 : xs = [] := List.eq_nil_of_length_eq_zero hl.1
    have h2 : ys = [] := List.eq_nil_of_length_eq_zero hl.2
    subst h1; subst h2
    simp only [eqVs] at hv
    obtain rfl := Option.some.inj hv
    rfl
  | 0, _ :: _, _, _, _, _, _, _, _, _, _, h, _, _, _, _ => by simp [eqFs] at h
  | f + 1, x :: fs, cur, ks, xs, ys, XS, YS, r, d, w, h, hv, hx, hy, hd => by
    unfold eqFs at h
    split at h
    · rename_i s hs
      simp only [Bool.and_eq_true, bne_iff_ne, beq_iff_eq] at h
      obtain ⟨⟨⟨⟨hn, ho⟩, hlen⟩, h1⟩, h2⟩ := h
      subst ho
      obtain ⟨b, hb, hb1⟩ := eqTy_size h1
      obtain ⟨r1, r2, g1, g2, rfl⟩ := eqVs_cut s hv
      have hl := eqVs_length g1
      have hsz : ∀ {zs ZS : List Value}, ZS.drop x.offset = zs → (zs.take s).length = (ks.take s).length → x.offset + s ≤ ZS.toArray.size ∨ s = 0 := by
        intro zs ZS hz hzl
        subst hz
        rw [hlen] at hzl
        simp at hzl ⊢
        omega
      have pos : b = false → 0 < s := fun hb' => by have := hb1 hb'; omega
      have p : ∀ {zs ZS : List Value} (w : World), ZS.drop x.offset = zs → (zs.take s).length = (ks.take s).length → (part x.type ZS.toArray x.offset).run P w = .ok (valOf b (zs.take s)) w := by
        intro zs ZS w hz hzl
        rcases hsz hz hzl with hlt | h0
        · rw [run_part' hb hs pos hlt]; simp [hz]
        · subst h0
          cases b with
          | false => exact absurd (pos rfl) (by omega)
          | true =>
            simp only [part, Sem.run_bind, run_isAgg hb, Result.andThen_ok, if_true, run_sizeOf' hs, Sem.run_pure, valOf]
            congr 2
            apply Array.ext'
            simp
      have e1 := eqTy_run f x.type (ks.take s) (xs.take s) (ys.take s) r1 b d w h1 hb g1 (by omega)
      simp only [Op.eqFields, if_pos hn, Sem.run_bind, p w hx hl.1, p w hy hl.2, Result.andThen_ok, e1, Sem.run_ite]
      cases r1 with
      | false => simp
      | true =>
        simp only [Bool.not_true, Bool.false_eq_true, if_false, Bool.true_and]
        exact eqFs_run f fs (x.offset + s) (ks.drop s) (xs.drop s) (ys.drop s) XS YS r2 d w h2 g2 (by rw [← hx, List.drop_drop]) (by rw [← hy, List.drop_drop]) (by omega)
    · cases h
end
theorem eqCells_vs {M : List Blk} {L : Loc} : ∀ {ks : List SK} {xs ys : List PV} {vs us : List Value} {b : Bool}, eqCells ks xs ys = some b → LRel M L w xs vs → LRel M L w ys us → eqVs ks vs us = some b
  | [], [], [], _, _, b, h, h1, h2 => by cases h1; cases h2; exact h
  | k :: ks, x :: xs, y :: ys, _, _, b, h, h1, h2 => by
    cases h1 with
    | cons _ v _ vs hx hxs =>
      cases h2 with
      | cons _ u _ us hy hys =>
        cases x <;> cases y <;> first
          | (simp [eqCells] at h; done)
          | (obtain rfl := hx.s_inv
             obtain rfl := hy.s_inv
             simp only [eqCells] at h
             simp only [eqVs]
             cases h1 : eqSK k v u with
             | none => rw [h1] at h; cases h
             | some a =>
               rw [h1] at h
               cases h2 : eqCells ks xs ys with
               | none => rw [h2] at h; cases h
               | some c =>
                 rw [h2] at h
                 rw [eqCells_vs h2 hxs hys]
                 exact h)
  | [], [], _ :: _, _, _, _, h, _, _ => by simp [eqCells] at h
  | [], _ :: _, _, _, _, _, h, _, _ => by simp [eqCells] at h
  | _ :: _, [], _, _, _, _, h, _, _ => by simp [eqCells] at h
  | _ :: _, _ :: _, [], _, _, _, h, _, _ => by simp [eqCells] at h
end
end Go.Nac
set_option linter.unusedVariables false
set_option linter.unusedSectionVars false
set_option linter.unusedSimpArgs false
namespace Go.Nac
/-- The zero of a type, in cells. -/
def okZ (P : Program) (t : TypeId) (g : Option Nat) (z : List Value) : Bool :=
  match (P.info? t).bind (·.zero) with
  | some v =>
    (match g with
    | some k => (match v with | .agg vs => okVs z vs.toList && z.length == k | _ => false)
    | none => okVs z [v])
  | none => false
/-- none: a scalar; some k: an aggregate of k cells. -/
def okG (P : Program) (t : TypeId) (g : Option Nat) : Bool :=
  match aggT P t, tySize P t, g with
  | some true, some n, some k => n == k
  | some false, some n, none => n == 1
  | _, _, _ => false
section
variable {R : CCode → Code → Prop} {P : Program} {M : List Blk} {L : Loc} {w : World} {ρ : CX → PV} {σ : Operand → Value}
theorem okG_spec {t : TypeId} {g : Option Nat} (h : okG P t g = true) : ∃ b, aggT P t = some b ∧ tySize P t = some (g.getD 1) ∧ (b = true ↔ g.isSome = true) ∧ (b = false → g = none) := by
  unfold okG at h
  split at h
  · rename_i h1 h2; exact ⟨true, h1, by simp at h; subst h; exact h2, by simp, by simp⟩
  · rename_i h1 h2; exact ⟨false, h1, by simp at h; subst h; exact h2, by simp, by simp⟩
  · cases h
theorem mkPV_rel {g : Option Nat} {cs : List PV} {vs : List Value} {p : PV} {b : Bool} (h : mkPV g cs = some p) (hb : b = true ↔ g.isSome = true) (hr : LRel M L w cs vs) : VRel M L w p (valOf b vs) := by
  unfold mkPV at h
  split at h
  · obtain rfl := Option.some.inj h
    have hf : b = false := by cases b <;> simp_all
    subst hf
    cases hr with
    | cons _ v _ vs h hs => cases hs; exact h
  · cases h
  · split at h
    · obtain rfl := Option.some.inj h
      have hf : b = true := by simpa using hb
      subst hf
      exact .agg _ _ (by simpa [valOf] using hr)
    · cases h
theorem mkPV_length {g : Option Nat} {cs : List PV} {p : PV} (h : mkPV g cs = some p) : cs.length = g.getD 1 := by
  unfold mkPV at h
  split at h
  · rfl
  · cases h
  · split at h
    · rename_i e; exact e
    · cases h
theorem g_mov (S : Sim R M L w) (H : Fit M L w ρ σ) {o : Oper} {x : CX} {y : Operand} (ho : o.op = .move y ∨ o.op = .assign y) (hx : okX x y = true) : Good R P (execOp σ o) M L w (ρ x) M := by
  refine good_pure S ?_ (H x y hx)
  rcases ho with ho | ho <;> simp [execOp, ho]
theorem g_pick (S : Sim R M L w) (H : Fit M L w ρ σ) {o : Oper} {c a b : CX} {c' a' b' : Operand} (ho : o.op = .pick c' a' b') (hc : okX c c' = true) (ha : okX a a' = true) (hb : okX b b' = true)
    {v : PV} (h : pickV (ρ c) (ρ a) (ρ b) = some v) : Good R P (execOp σ o) M L w v M := by
  have k1 := H c c' hc; have k2 := H a a' ha; have k3 := H b b' hb
  unfold pickV at h
  split at h
  · rename_i q e1
    rw [e1] at k1
    have := k1.s_inv
    obtain rfl := Option.some.inj h
    refine good_pure (cv := if q then σ a' else σ b') S ?_ ?_
    · simp [execOp, ho, this, asBool]
    · cases q
      · exact k3
      · exact k2
  · cases h
theorem g_bin (S : Sim R M L w) (H : Fit M L w ρ σ) {o : Oper} {op : BinOp} {t ty : TypeId} {x y : CX} {x' y' : Operand} (ho : o.op = .binOp op t x' y' ty) (hx : okX x x' = true) (hy : okX y y' = true)
    {v : PV} (h : bin op (ρ x) (ρ y) = some v) : Good R P (execOp σ o) M L w v M := by
  have k1 := H x x' hx; have k2 := H y y' hy
  unfold bin at h
  split at h
  · rename_i k a k' b e1 e2
    rw [e1] at k1; rw [e2] at k2
    have c1 := k1.s_inv; have c2 := k2.s_inv
    split at h
    · rename_i ek; subst ek
      cases hb : binInt op k a b with
      | none => rw [hb] at h; cases h
      | some r =>
        rw [hb] at h
        obtain rfl := Option.some.inj h
        obtain ⟨h1, h2⟩ := binInt_run (P := P) (w := w) hb t
        exact good_pure S (by simp [execOp, ho, c1, c2, eqGuard_int, h1]) (.s r h2)
    · cases h
  · rename_i a b e1 e2
    rw [e1] at k1; rw [e2] at k2
    have c1 := k1.s_inv; have c2 := k2.s_inv
    cases hb : binStr op a b with
    | none => rw [hb] at h; cases h
    | some r =>
      rw [hb] at h
      obtain rfl := Option.some.inj h
      obtain ⟨h1, h2⟩ := binStr_run (P := P) (w := w) hb t
      exact good_pure S (by simp [execOp, ho, c1, c2, eqGuard_str, h1]) (.s r h2)
  · cases h
theorem g_binb (S : Sim R M L w) (H : Fit M L w ρ σ) {o : Oper} {op : BinOp} {t ty : TypeId} {x y : CX} {x' y' : Operand} (ho : o.op = .binOp op t x' y' ty) (hx : okX x x' = true) (hy : okX y y' = true)
    (ht : P.underlying t = some .bool) {v : PV} (h : binb op (ρ x) (ρ y) = some v) : Good R P (execOp σ o) M L w v M := by
  have k1 := H x x' hx; have k2 := H y y' hy
  unfold binb at h
  split at h
  · rename_i a b e1 e2
    rw [e1] at k1; rw [e2] at k2
    have c1 := k1.s_inv; have c2 := k2.s_inv
    cases hb : binBool op a b with
    | none => rw [hb] at h; cases h
    | some r =>
      rw [hb] at h
      obtain rfl := Option.some.inj h
      obtain ⟨h1, h2⟩ := binBool_run (P := P) (w := w) hb t ht
      exact good_pure S (by simp [execOp, ho, c1, c2, eqGuard_bool, h1]) (.s r h2)
  · cases h
theorem g_eqs (S : Sim R M L w) (H : Fit M L w ρ σ) {o : Oper} {neg : Bool} {lay : List SK} {t ty : TypeId} {x y : CX} {x' y' : Operand} (ho : o.op = .binOp (if neg then .neq else .eql) t x' y' ty) (hx : okX x x' = true) (hy : okX y y' = true)
    (hl : eqTy P 100 t lay = true) (hg : P.eqGuardType P.depth t = false) (hb : aggT P t = some true)
    {v : PV} {M' : List Blk} (h : res M ρ (.eqs neg lay x y) = some (v, M')) : Good R P (execOp σ o) M L w v M' := by
  have k1 := H x x' hx; have k2 := H y y' hy
  simp only [res] at h
  split at h
  · rename_i xs ys e1 e2
    rw [e1] at k1; rw [e2] at k2
    cases hq : eqCells lay xs ys with
    | none => rw [hq] at h; cases h
    | some r =>
      rw [hq] at h
      simp only [Option.map_some, Option.some.injEq, Prod.mk.injEq] at h
      obtain ⟨rfl, rfl⟩ := h
      generalize hc1 : σ x' = c1 at k1
      generalize hc2 : σ y' = c2 at k2
      cases k1 with
      | agg _ vs h1 =>
        cases k2 with
        | agg _ us h2 =>
          have hv := eqCells_vs hq h1 h2
          have hr := eqTy_run (P := P) 100 t lay vs.toList us.toList r true 10000 w hl hb hv (by omega)
          simp only [valOf, if_true, Array.toArray_toList] at hr
          refine good_pure S ?_ (.s _ rfl)
          cases neg
          · simp only [Bool.false_eq_true, if_false] at ho ⊢
            simp only [execOp, ho, hc1, hc2, Sem.run_bind, run_eqGuard_agg w .eql t x' y' vs us hg, Result.andThen_ok, run_eql_struct, hr]
            rfl
          · simp only [if_true] at ho ⊢
            simp only [execOp, ho, hc1, hc2, Sem.run_bind, run_eqGuard_agg w .neq t x' y' vs us hg, Result.andThen_ok, run_neq_struct, hr]
            rfl
  · cases h
theorem g_un (S : Sim R M L w) (H : Fit M L w ρ σ) {o : Oper} {op : UnOp} {t : TypeId} {x : CX} {x' : Operand} (ho : o.op = .unOp op t x') (hx : okX x x' = true)
    {v : PV} (h : un op (ρ x) = some v) : Good R P (execOp σ o) M L w v M := by
  have k1 := H x x' hx
  unfold un at h
  split at h
  · rename_i k n e1
    rw [e1] at k1
    have c1 := k1.s_inv
    split at h
    · obtain rfl := Option.some.inj h
      exact good_pure S (by simp [execOp, ho, c1, Op.unary, Op.intArith]) (.s _ rfl)
    · cases h
  · rename_i b e1
    rw [e1] at k1
    have c1 := k1.s_inv
    split at h
    · obtain rfl := Option.some.inj h
      exact good_pure S (by simp [execOp, ho, c1, Op.unary]) (.s _ rfl)
    · cases h
  · cases h
theorem g_conv (S : Sim R M L w) (H : Fit M L w ρ σ) {o : Oper} {k ks : IntKind} {s t : TypeId} {x : CX} {x' : Operand} (ho : o.op = .convert s t x') (hx : okX x x' = true)
    (hs : P.underlying s = some (.int ks)) (ht : P.underlying t = some (.int k)) {v : PV} (h : conv k (ρ x) = some v) : Good R P (execOp σ o) M L w v M := by
  have k1 := H x x' hx
  unfold conv at h
  split at h
  · rename_i k' n e1
    rw [e1] at k1
    have c1 := k1.s_inv
    obtain rfl := Option.some.inj h
    exact good_pure S (by simp [execOp, ho, c1, convert, run_underlying hs, run_underlying ht, Conv.intToInt]) (.s _ rfl)
  · cases h
theorem g_ext (S : Sim R M L w) (H : Fit M L w ρ σ) {o : Oper} {i : Nat} {x : CX} {x' : Operand} (ho : o.op = .extract x' i) (hx : okX x x' = true)
    {v : PV} {M' : List Blk} (h : res M ρ (.ext i x) = some (v, M')) : Good R P (execOp σ o) M L w v M' := by
  have k1 := H x x' hx
  simp only [res] at h
  split at h
  · rename_i vs e1
    rw [e1] at k1
    generalize hc : σ x' = c at k1
    cases k1 with
    | tup _ us hu =>
      cases hv : vs[i]? with
      | none => rw [hv] at h; cases h
      | some p =>
        rw [hv] at h
        simp only [Option.map_some, Option.some.injEq, Prod.mk.injEq] at h
        obtain ⟨rfl, rfl⟩ := h
        obtain ⟨u, h1, h2⟩ := hu.get hv
        have h1' : us[i]? = some u := by simpa using h1
        exact good_pure S (by simp [execOp, ho, hc, Instr.extract, h1']) h2
  · cases h
theorem g_mkfn (S : Sim R M L w) (H : Fit M L w ρ σ) {o : Oper} {f : FuncId} {cap : List CX} {cap' : Array Operand} (ho : o.op = .makeFunc (.func f) #[] cap') (hx : okXs cap cap'.toList = true) :
    Good R P (execOp σ o) M L w (.fn (.func f) [] (cap.map ρ)) M := by
  have k := H.list hx
  refine good_pure S (cv := .func (.func f) #[] (cap'.map σ)) (by simp [execOp, ho, Instr.makeFunc]) (.fn _ _ _ _ _ .nil ?_)
  simpa using k
theorem lenOf_run {x : Value} {p : PV} {n : Nat} (h : VRel M L w p x) (hp : lenOf p = some n) : ∃ a c, x = .slice a n c := by
  unfold lenOf at hp
  split at hp
  · obtain rfl := Option.some.inj hp
    cases h with | fs _ a n cap k vs hn => exact ⟨a, cap, by rw [hn]⟩
  · obtain rfl := Option.some.inj hp
    exact ⟨_, _, h.s_inv⟩
  · obtain rfl := Option.some.inj hp
    cases h with
    | os _ _ _ _ wr k xs a cap => exact ⟨a, cap, rfl⟩
    | os' _ _ _ _ wr k v' xs a c => exact ⟨a, c, rfl⟩
  · cases hp
end
end Go.Nac
set_option linter.unusedVariables false
set_option linter.unusedSectionVars false
set_option linter.unusedSimpArgs false
namespace Go.Nac
theorem flat_drop {k : Nat} {xs : List PV} (hk : ∀ x ∈ xs, x.cells.length = k) (e : Nat) : (xs.flatMap PV.cells).drop (e * k) = (xs.drop e).flatMap PV.cells := by
  induction e generalizing xs with
  | zero => simp
  | succ e ih =>
    cases xs with
    | nil => simp
    | cons x xs =>
      have h1 : x.cells.length = k := hk x (by simp)
      rw [List.flatMap_cons, Nat.add_mul, Nat.one_mul, Nat.add_comm (e * k) k, ← h1, ← List.drop_drop, List.drop_left, h1]
      exact ih fun y hy => hk y (by simp [hy])
theorem flat_length {k : Nat} {xs : List PV} (hk : ∀ x ∈ xs, x.cells.length = k) : (xs.flatMap PV.cells).length = xs.length * k := by
  induction xs with
  | nil => simp
  | cons x xs ih =>
    rw [List.flatMap_cons, List.length_append, hk x (by simp), ih fun y hy => hk y (by simp [hy]), List.length_cons, Nat.add_mul]
    omega
theorem flat_take {k : Nat} {xs : List PV} (hk : ∀ x ∈ xs, x.cells.length = k) (e : Nat) : (xs.flatMap PV.cells).take (e * k) = (xs.take e).flatMap PV.cells := by
  induction e generalizing xs with
  | zero => simp
  | succ e ih =>
    cases xs with
    | nil => simp
    | cons x xs =>
      have h1 : x.cells.length = k := hk x (by simp)
      rw [List.flatMap_cons, Nat.add_mul, Nat.one_mul, Nat.add_comm (e * k) k, ← h1, List.take_length_add_append, h1, ih fun y hy => hk y (by simp [hy])]
      rfl
theorem add_none (b o j : Nat) : (⟨b, o, none⟩ : Addr).add j = ⟨b, o + j, none⟩ := by unfold Addr.add; split <;> simp_all
section
variable {R : CCode → Code → Prop} {P : Program} {M : List Blk} {L : Loc} {w : World} {ρ : CX → PV} {σ : Operand → Value}
theorem run_loadVar' {t : TypeId} {b : Bool} {B o : Nat} {vs : List Value} (ha : aggT P t = some b) (hs : tySize P t = some vs.length) (h1 : b = false → vs.length = 1)
    (hc : ∀ m v, vs[m]? = some v → w.cell? ⟨B, o + m, none⟩ = some v) : (loadVar t ⟨B, o, none⟩).run P w = .ok (valOf b vs) w := by
  cases b with
  | true =>
    have hl := run_loadCells_list (P := P) w ⟨B, o, none⟩ vs (fun j v hv => by rw [add_none]; exact hc j v hv)
    simp only [loadVar, Sem.run_bind, run_isAgg ha, Result.andThen_ok, if_true, run_sizeOf' hs, hl, Sem.run_pure, valOf]
  | false =>
    have hl := h1 rfl
    match vs, hl with
    | [v], _ =>
      have := hc 0 v rfl
      simp only [Nat.add_zero] at this
      simp only [loadVar, Sem.run_bind, run_isAgg ha, Result.andThen_ok, Bool.false_eq_true, if_false, valOf, List.headD_cons]
      rw [run_load]
      simp [this]
/-- The cells of a row, as they lie. -/
theorem row_cells (S : Sim R M L w) {i k ver b o : Nat} {wr : Bool} {xs : List PV} (hi : M[i]? = some (.row wr k ver xs)) (hL : L i = some (b, o)) :
    (∀ x ∈ xs, x.cells.length = k) ∧ ∃ c el vs, w.heap[b]? = some (.cells c el (0, 0)) ∧ LRel M L w (xs.flatMap PV.cells) vs ∧ (∀ m v, vs[m]? = some v → c[o + m]? = some v) ∧
      ∀ m v, vs[m]? = some v → w.cell? ⟨b, o + m, none⟩ = some v := by
  obtain ⟨h1, h2, _⟩ := S.mem i _ hi
  obtain ⟨c, el, vs, g1, g2, g3⟩ := h2 b o hL
  exact ⟨h1, c, el, vs, g1, g2, g3, fun m v hv => by simp [World.cell?, g1, g3 m v hv]⟩
theorem cellsAt_spec {i ver e j n : Nat} {cs : List PV} (h : cellsAt M i ver e j n = some cs) : ∃ wr k xs, M[i]? = some (.row wr k ver xs) ∧ e < xs.length ∧
    cs = (((xs.drop e).flatMap PV.cells).drop j).take n ∧ j + n ≤ ((xs.drop e).flatMap PV.cells).length := by
  unfold cellsAt at h
  split at h
  · rename_i wr k v xs hi
    split at h
    · rename_i hv; subst hv
      split at h
      · rename_i x hx
        obtain ⟨he, hx'⟩ := List.getElem?_eq_some_iff.1 hx
        have hd : (xs.drop e).flatMap PV.cells = x.cells ++ (xs.drop (e + 1)).flatMap PV.cells := by
          rw [List.drop_eq_getElem_cons he, List.flatMap_cons, hx']
        refine ⟨wr, k, xs, hi, he, ?_⟩
        split at h
        · rename_i hle
          obtain rfl := Option.some.inj h
          refine ⟨?_, by rw [hd, List.length_append]; omega⟩
          rw [hd, List.drop_append_of_le_length (by omega), List.take_append_of_le_length (by simp; omega)]
        · split at h
          · rename_i hle
            exact ⟨(Option.some.inj h).symm, hle⟩
          · cases h
      · cases h
    · cases h
  · cases h
theorem VRel.os_live {i ver off len : Nat} {c : Value} (h : VRel M L w (.os i ver off len) c) {wr : Bool} {k : Nat} {xs : List PV} (hi : M[i]? = some (.row wr k ver xs)) :
    ∃ a cap, c = .slice a len cap ∧ off + len ≤ xs.length ∧ len ≤ cap ∧ (cap ≠ 0 → ∃ b o c el, L i = some (b, o) ∧ a = some ⟨b, o + off * k, none⟩ ∧ w.heap[b]? = some (.cells c el (0, 0)) ∧ o + (off + cap) * k ≤ c.size) := by
  cases h with
  | os _ _ _ _ wr' k' xs' a cap hi' hx hc hm =>
    rw [hi] at hi'; cases hi'
    exact ⟨a, cap, rfl, hx, hc, hm⟩
  | os' _ _ _ _ wr' k' v' xs' a cap hi' hv => rw [hi] at hi'; cases hi'; omega
theorem VRel.op_live {i ver e j : Nat} {c : Value} (h : VRel M L w (.op i ver e j) c) {wr : Bool} {k : Nat} {xs : List PV} (hi : M[i]? = some (.row wr k ver xs)) :
    ∃ b o, L i = some (b, o) ∧ e < xs.length ∧ c = .pointer (some ⟨b, o + e * k + j, none⟩) := by
  cases h with
  | op _ _ _ _ wr' k' xs' b o hi' he hL => rw [hi] at hi'; cases hi'; exact ⟨b, o, hL, he, rfl⟩
  | op' _ _ _ _ wr' k' v' xs' a hi' hv => rw [hi] at hi'; cases hi'; omega
/-- What a pointer leads to. -/
theorem load_rel (S : Sim R M L w) {t : TypeId} {g : Option Nat} {p v : PV} {c : Value} (hp : VRel M L w p c) (ht : okG P t g = true)
    (h : loadPV M g p = some v) : ∃ cv, (Instr.loadAt t c).run P w = .ok cv w ∧ VRel M L w v cv := by
  obtain ⟨b, ha, hs, hb, hb1⟩ := okG_spec ht
  have one : b = false → g.getD 1 = 1 := fun h => by rw [hb1 h]; rfl
  cases p with
  | fp cs =>
    simp only [loadPV] at h
    cases hp with
    | fp _ B o vs hr hlt hno hc =>
      have hr' := hr.take (g.getD 1)
      have hl : (vs.take (g.getD 1)).length = g.getD 1 := by rw [← hr'.length]; exact mkPV_length h
      refine ⟨valOf b (vs.take (g.getD 1)), ?_, mkPV_rel h hb hr'⟩
      simp only [Instr.loadAt, Instr.sureAddr, Sem.run_bind, Sem.run_pure, Result.andThen_ok]
      refine run_loadVar' ha (by rw [hl]; exact hs) (fun h => by rw [hl]; exact one h) fun m u hu => hc m u ?_
      rw [List.getElem?_take] at hu
      split at hu
      · exact hu
      · cases hu
  | op i ver e j =>
    simp only [loadPV] at h
    cases hc : cellsAt M i ver e j (g.getD 1) with
    | none => rw [hc] at h; cases h
    | some cs =>
      rw [hc] at h
      simp only [Option.bind_some] at h
      obtain ⟨wr, k, xs, hi, he, hcs, hle⟩ := cellsAt_spec hc
      obtain ⟨B, o, hL, _, rfl⟩ := hp.op_live hi
      obtain ⟨hk, ca, el, vs, g1, g2, g3, g4⟩ := row_cells S hi hL
      have hr : LRel M L w cs ((vs.drop (e * k + j)).take (g.getD 1)) := by
        have := (g2.drop (e * k + j)).take (g.getD 1)
        rw [← List.drop_drop, flat_drop hk, ← hcs] at this
        exact this
      have hl : ((vs.drop (e * k + j)).take (g.getD 1)).length = g.getD 1 := by rw [← hr.length]; exact mkPV_length h
      refine ⟨valOf b ((vs.drop (e * k + j)).take (g.getD 1)), ?_, mkPV_rel h hb hr⟩
      simp only [Instr.loadAt, Instr.sureAddr, Sem.run_bind, Sem.run_pure, Result.andThen_ok]
      refine run_loadVar' ha (by rw [hl]; exact hs) (fun h => by rw [hl]; exact one h) fun m u hu => ?_
      rw [List.getElem?_take] at hu
      split at hu
      · rw [List.getElem?_drop] at hu
        have := g4 _ _ hu
        rw [show o + e * k + j + m = o + (e * k + j + m) from by omega]
        exact this
      · cases hu
  | _ => simp [loadPV] at h
theorem g_load (S : Sim R M L w) (H : Fit M L w ρ σ) {o : Oper} {g : Option Nat} {t : TypeId} {x : CX} {x' : Operand} (ho : o.op = .load t x') (hx : okX x x' = true) (ht : okG P t g = true)
    {v : PV} {M' : List Blk} (h : res M ρ (.load g x) = some (v, M')) : Good R P (execOp σ o) M L w v M' := by
  simp only [res] at h
  cases hq : loadPV M g (ρ x) with
  | none => rw [hq] at h; cases h
  | some q =>
    rw [hq] at h
    simp only [Option.map_some, Option.some.injEq, Prod.mk.injEq] at h
    obtain ⟨rfl, rfl⟩ := h
    obtain ⟨cv, h1, h2⟩ := load_rel S (H x x' hx) ht hq
    exact good_pure S (by simp [execOp, ho, h1]) h2
theorem liveRow_spec {i ver : Nat} (h : liveRow M i ver = true) : ∃ wr k xs, M[i]? = some (.row wr k ver xs) := by
  unfold liveRow at h
  split at h
  · rename_i wr k v xs hi
    simp only [beq_iff_eq] at h
    subst h
    exact ⟨wr, k, xs, hi⟩
  · cases h
theorem g_nilc (S : Sim R M L w) (H : Fit M L w ρ σ) {o : Oper} {x : CX} {x' : Operand} (ho : o.op = .nilCheck x') (hx : okX x x' = true)
    {v : PV} {M' : List Blk} (h : res M ρ (.nilc x) = some (v, M')) : Good R P (execOp σ o) M L w v M' := by
  have k1 := H x x' hx
  simp only [res] at h
  split at h
  · rename_i cs e1
    simp only [Option.some.injEq, Prod.mk.injEq] at h
    obtain ⟨rfl, rfl⟩ := h
    rw [e1] at k1
    generalize hc : σ x' = c at k1
    have k2 := k1
    cases k1 with
    | fp => exact good_pure S (by simp [execOp, ho, hc]) k2
  · rename_i i ver e j e1
    split at h
    · rename_i hl
      obtain ⟨wr, k, xs, hi⟩ := liveRow_spec hl
      simp only [Option.some.injEq, Prod.mk.injEq] at h
      obtain ⟨rfl, rfl⟩ := h
      rw [e1] at k1
      generalize hc : σ x' = c at k1
      have k2 := k1
      obtain ⟨b, q, _, _, rfl⟩ := k1.op_live hi
      exact good_pure S (by simp [execOp, ho, hc]) k2
    · cases h
  · rename_i f a b e1
    simp only [Option.some.injEq, Prod.mk.injEq] at h
    obtain ⟨rfl, rfl⟩ := h
    rw [e1] at k1
    generalize hc : σ x' = c at k1
    have k2 := k1
    cases k1 with
    | fn => exact good_pure S (by simp [execOp, ho, hc]) k2
  · cases h
theorem g_faddr (S : Sim R M L w) (H : Fit M L w ρ σ) {o : Oper} {off f : Nat} {s : TypeId} {x : CX} {x' : Operand} (ho : o.op = .fieldAddr s x' f) (hx : okX x x' = true)
    {fs : Array Field} {fd : Field} {n : Nat} (hs : P.underlying s = some (.struct fs)) (hf : fs[f]? = some fd) (hoff : fd.offset = off) (hn : tySize P fd.type = some n) (hn0 : n ≠ 0)
    {v : PV} {M' : List Blk} (h : res M ρ (.faddr off x) = some (v, M')) : Good R P (execOp σ o) M L w v M' := by
  have k1 := H x x' hx
  have run : ∀ B q, (Instr.fieldAt s (.pointer (some ⟨B, q, none⟩)) f).run P w = .ok (.pointer (some ⟨B, q + off, none⟩)) w := by
    intro B q
    simp [Instr.fieldAt, run_underlying hs, hf, Instr.sureAddr, fieldPlace, run_sizeOf' hn, hn0, hoff, add_none]
  simp only [res] at h
  split at h
  · rename_i cs e1
    split at h
    · rename_i hle
      simp only [Option.some.injEq, Prod.mk.injEq] at h
      obtain ⟨rfl, rfl⟩ := h
      rw [e1] at k1
      generalize hc : σ x' = c at k1
      cases k1 with
      | fp _ B q vs hr hlt hno hm =>
        refine good_pure S (cv := .pointer (some ⟨B, q + off, none⟩)) (by simp [execOp, ho, hc, run]) (.fp _ B (q + off) (vs.drop off) (hr.drop off) hlt hno fun m u hu => ?_)
        rw [List.getElem?_drop] at hu
        rw [show q + off + m = q + (off + m) from by omega]
        exact hm _ _ hu
    · cases h
  · rename_i i ver e j e1
    split at h
    · rename_i hl
      obtain ⟨wr, k, xs, hi⟩ := liveRow_spec hl
      simp only [Option.some.injEq, Prod.mk.injEq] at h
      obtain ⟨rfl, rfl⟩ := h
      rw [e1] at k1
      obtain ⟨B, q, hL, he, hc⟩ := k1.op_live hi
      refine good_pure S (cv := .pointer (some ⟨B, q + e * k + j + off, none⟩)) (by simp [execOp, ho, hc, run]) ?_
      rw [Nat.add_assoc]
      exact .op i ver e (j + off) wr k xs B q hi he hL
    · cases h
  · cases h
end
end Go.Nac

