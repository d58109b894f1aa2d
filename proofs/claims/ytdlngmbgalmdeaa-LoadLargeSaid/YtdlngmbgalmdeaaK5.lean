import Derived.Test.YtdlngmbgalmdeaaK4
import Derived.Laws.StructEq
import Derived.Laws.Append
set_option linter.unusedVariables false
set_option linter.unusedSectionVars false
set_option linter.unusedSimpArgs false
namespace Go.Nac
def okV : Value → Value → Bool
  | .bool a, .bool b => a == b
  | .int k a, .int k' b => k == k' && a == b
  | .string a, .string b => a.data == b.data
  | .slice none 0 0, .slice none 0 0 => true
  | .float k a, .float k' b => k == k' && a == b
  | .nilFunc, .nilFunc => true
  | .nilIface, .nilIface => true
  | .map none, .map none => true
  | .pointer none, .pointer none => true
  | _, _ => false
theorem okV_eq {v w : Value} (h : okV v w = true) : v = w ∧ aggV v = false := by
  unfold okV at h
  split at h
  · simp at h; subst h; exact ⟨rfl, rfl⟩
  · simp at h; obtain ⟨rfl, rfl⟩ := h; exact ⟨rfl, rfl⟩
  · rename_i a b
    have : a.data = b.data := by simpa using h
    exact ⟨by cases a; cases b; simp_all, rfl⟩
  · exact ⟨rfl, rfl⟩
  · simp at h; obtain ⟨rfl, rfl⟩ := h; exact ⟨rfl, rfl⟩
  · exact ⟨rfl, rfl⟩
  · exact ⟨rfl, rfl⟩
  · exact ⟨rfl, rfl⟩
  · exact ⟨rfl, rfl⟩
  · cases h
def okX : CX → Operand → Bool
  | .t n, .tmp m => n == m
  | .k v, .const w => okV v w
  | .f g, .func h => g == h
  | _, _ => false
def okVs : List Value → List Value → Bool
  | [], [] => true
  | v :: vs, w :: ws => okV v w && okVs vs ws
  | _, _ => false
theorem okVs_eq : ∀ {vs ws : List Value}, okVs vs ws = true → vs = ws ∧ ∀ v ∈ vs, aggV v = false
  | [], [], _ => ⟨rfl, by simp⟩
  | v :: vs, w :: ws, h => by
    simp only [okVs, Bool.and_eq_true] at h
    obtain ⟨rfl, h1⟩ := okV_eq h.1
    obtain ⟨rfl, h2⟩ := okVs_eq h.2
    exact ⟨rfl, by simp; exact ⟨h1, h2⟩⟩
  | [], _ :: _, h => by simp [okVs] at h
  | _ :: _, [], h => by simp [okVs] at h
def okXs : List CX → List Operand → Bool
  | [], [] => true
  | x :: xs, y :: ys => okX x y && okXs xs ys
  | _, _ => false
def okXo : Option CX → Option Operand → Bool
  | none, none => true
  | some x, some y => okX x y
  | _, _ => false
section
variable {R : CCode → Code → Prop} {P : Program} {M : List Blk} {L : Loc} {w : World} {ρ : CX → PV} {σ : Operand → Value}
def Good (R : CCode → Code → Prop) (P : Program) (s : Sem Next) (M : List Blk) (L : Loc) (w : World) (v : PV) (M' : List Blk) : Prop :=
  ∃ cv w' L', (s.run P w = .ok (.value cv) w' ∨ s.run P w = .ok .skip w' ∧ cv = undef) ∧ Evo M L w M' L' w' ∧ Sim R M' L' w' ∧ VRel M' L' w' v cv
def Fit (M : List Blk) (L : Loc) (w : World) (ρ : CX → PV) (σ : Operand → Value) : Prop := ∀ x y, okX x y = true → VRel M L w (ρ x) (σ y)
theorem good_pure {s : Sem Next} {v : PV} {cv : Value} (S : Sim R M L w) (hr : s.run P w = .ok (.value cv) w) (hv : VRel M L w v cv) : Good R P s M L w v M :=
  ⟨cv, w, L, .inl hr, Evo.refl M L w, S, hv⟩
theorem Fit.list (H : Fit M L w ρ σ) : ∀ {xs : List CX} {ys : List Operand}, okXs xs ys = true → LRel M L w (xs.map ρ) (ys.map σ)
  | [], [], _ => .nil
  | x :: xs, y :: ys, h => by
    simp only [okXs, Bool.and_eq_true] at h
    exact .cons _ _ _ _ (H x y h.1) (H.list h.2)
  | [], _ :: _, h => by simp [okXs] at h
  | _ :: _, [], h => by simp [okXs] at h
theorem VRel.s_inv {v c : Value} (h : VRel M L w (.s v) c) : c = v := by cases h; rfl
theorem binInt_run {op : BinOp} {k : IntKind} {a b : Int} {v : Value} (h : binInt op k a b = some v) (t : TypeId) : (binOp op t (.int k a) (.int k b)).run P w = .ok v w ∧ aggV v = false := by
  cases op <;> simp only [binInt] at h <;> first
    | (cases h; done)
    | (obtain rfl := Option.some.inj h; exact ⟨by simp [binOp, Op.intArith, Op.intCmp], rfl⟩)
    | (split at h
       · cases h
       · rename_i hb
         obtain rfl := Option.some.inj h
         exact ⟨by simp [binOp, Op.intDiv, hb], rfl⟩)
theorem eqGuard_int {op : BinOp} {k k' : IntKind} {a b : Int} (t : TypeId) (x y : Operand) : (eqGuard op t x y (.int k a) (.int k' b)).run P w = .ok () w := by
  unfold eqGuard; split <;> rfl
theorem eqGuard_str {op : BinOp} {a b : ByteArray} (t : TypeId) (x y : Operand) : (eqGuard op t x y (.string a) (.string b)).run P w = .ok () w := by
  unfold eqGuard; split <;> rfl
theorem eqGuard_bool {op : BinOp} {a b : Bool} (t : TypeId) (x y : Operand) : (eqGuard op t x y (.bool a) (.bool b)).run P w = .ok () w := by
  unfold eqGuard; split <;> rfl
theorem binStr_run {op : BinOp} {a b : ByteArray} {v : Value} (h : binStr op a b = some v) (t : TypeId) : (binOp op t (.string a) (.string b)).run P w = .ok v w ∧ aggV v = false := by
  cases op <;> simp only [binStr] at h <;> first
    | (cases h; done)
    | (obtain rfl := Option.some.inj h; exact ⟨by simp [binOp, Op.stringOp], rfl⟩)
    | (split at h
       · rename_i hb
         obtain rfl := Option.some.inj h
         have h2 : ¬ ((a.size : Int) + (b.size : Int) > 9223372036854775807) := by omega
         have h3 : ¬ (9223372036854775807 < (a.size : Int) + (b.size : Int)) := by omega
         exact ⟨by simp [binOp, Op.stringOp, IntKind.max, IntKind.signed, IntKind.bits]; omega, rfl⟩
       · cases h)
theorem binBool_run {op : BinOp} {a b : Bool} {v : Value} (h : binBool op a b = some v) (t : TypeId) (ht : P.underlying t = some .bool) :
    (binOp op t (.bool a) (.bool b)).run P w = .ok v w ∧ aggV v = false := by
  cases op <;> simp only [binBool] at h <;> first
    | (cases h; done)
    | (obtain rfl := Option.some.inj h; first | exact ⟨run_eql_bool w t a b ht, rfl⟩ | exact ⟨run_neq_bool w t a b ht, rfl⟩)
end
end Go.Nac

