import Derived.Test.YtbmicihfhfcpkaaK5i
set_option linter.unusedVariables false
set_option linter.unusedSectionVars false
set_option linter.unusedSimpArgs false
namespace Go.Nac
def isNilS : Operand → Bool
  | .const (.slice none 0 0) => true
  | _ => false
def elemT (P : Program) (t : TypeId) : Option TypeId :=
  match P.underlying t with
  | some (.slice e) => some e
  | _ => none
def arrT (P : Program) (t : TypeId) : Option (Nat × TypeId) :=
  match P.underlying t with
  | some (.array n e) => some (n, e)
  | _ => none
def isStrT (P : Program) (t : TypeId) : Bool := match P.underlying t with | some .string => true | _ => false
def isBoolT (P : Program) (t : TypeId) : Bool := match P.underlying t with | some .bool => true | _ => false
def intT (P : Program) (t : TypeId) : Option IntKind := match P.underlying t with | some (.int k) => some k | _ => none
def fltT (P : Program) (t : TypeId) : Option FloatKind := match P.underlying t with | some (.float k) => some k | _ => none
def mapT (P : Program) (t : TypeId) : Option (TypeId × TypeId) := match P.underlying t with | some (.map k e) => some (k, e) | _ => none
def notIntT (P : Program) (t : TypeId) : Bool := match P.underlying t with | some (.int _) => false | some _ => true | none => false
def fieldT (P : Program) (t : TypeId) (f : Nat) : Option Field :=
  match P.underlying t with
  | some (.struct fs) => fs[f]?
  | _ => none
section
variable {P : Program} {t : TypeId}
theorem elemT_spec {e : TypeId} (h : elemT P t = some e) : P.underlying t = some (.slice e) := by
  unfold elemT at h; split at h
  · rename_i hu; rw [hu, Option.some.inj h]
  · cases h
theorem arrT_spec {n : Nat} {e : TypeId} (h : arrT P t = some (n, e)) : P.underlying t = some (.array n e) := by
  unfold arrT at h; split at h
  · rename_i hu; cases h; exact hu
  · cases h
theorem isStrT_spec (h : isStrT P t = true) : P.underlying t = some .string := by
  unfold isStrT at h; split at h
  · assumption
  · cases h
theorem isBoolT_spec (h : isBoolT P t = true) : P.underlying t = some .bool := by
  unfold isBoolT at h; split at h
  · assumption
  · cases h
theorem intT_spec {k : IntKind} (h : intT P t = some k) : P.underlying t = some (.int k) := by
  unfold intT at h; split at h
  · rename_i hu; cases h; exact hu
  · cases h
theorem fltT_spec {k : FloatKind} (h : fltT P t = some k) : P.underlying t = some (.float k) := by
  unfold fltT at h; split at h
  · rename_i hu; cases h; exact hu
  · cases h
theorem mapT_spec {k e : TypeId} (h : mapT P t = some (k, e)) : P.underlying t = some (.map k e) := by
  unfold mapT at h; split at h
  · rename_i hu; cases h; exact hu
  · cases h
theorem notIntT_spec (h : notIntT P t = true) : ∃ d, P.underlying t = some d ∧ ∀ k, d ≠ .int k := by
  unfold notIntT at h; split at h
  · cases h
  · rename_i d hn hu; exact ⟨d, hu, fun k e => hn k (by rw [e])⟩
  · cases h
theorem fieldT_spec {f : Nat} {fd : Field} (h : fieldT P t f = some fd) : ∃ fs, P.underlying t = some (.struct fs) ∧ fs[f]? = some fd := by
  unfold fieldT at h; split at h
  · rename_i fs hu; exact ⟨fs, hu, h⟩
  · cases h
theorem isNilS_spec {y : Operand} (h : isNilS y = true) : y = .const (.slice none 0 0) := by
  unfold isNilS at h; split at h
  · rfl
  · cases h
end
def okBuild (P : Program) (z : List Value) (parts : List (Nat × Nat × CX)) (t : TypeId) (parts' : Array (Nat × Operand)) : Bool :=
  okZ P t (some z.length) z &&
  match P.underlying t with
  | some (.struct fs) => (match fieldPlaces P fs.toList with | some pl => okParts (fun (i : Nat) => pl[i]?) parts parts'.toList | none => false)
  | some (.array _ el) => (match tySize P el with | some k => okParts (fun i => some (i * k, k)) parts parts'.toList | none => false)
  | _ => false
def args1 (c : Call) : Option Operand := match c.args with | ⟨[x]⟩ => some x | _ => none
def args2 (c : Call) : Option (Operand × Operand) := match c.args with | ⟨[x, y]⟩ => some (x, y) | _ => none
def okCall1 (P : Program) (c : COp) (k : Call) : Bool :=
  match c, k.callee with
  | .len x, .builtin .len => (match args1 k, k.argTypes[0]? with | some y, some t => okX x y && (elemT P t).isSome | _, _ => false)
  | .lens x, .builtin .len => (match args1 k, k.argTypes[0]? with | some y, some t => okX x y && isStrT P t | _, _ => false)
  | .append n bytes x y, .builtin .append =>
    (match args2 k, k.argTypes[0]?, k.argTypes[1]? with
    | some (x', y'), some t, some t1 => okX x x' && okX y y' && notIntT P t1 &&
        (match elemT P t with
        | some el => tySize P el == some n && (P.info? el).map (·.bytes) == some bytes && (match (P.info? el).bind (·.zero) with | some v => okVs v.cells.toList v.cells.toList && v.cells.size == n && (aggV v || n == 1) | none => false)
        | none => false)
    | _, _, _ => false)
  | .copy n x y, .builtin .copy =>
    (match args2 k, k.argTypes[0]? with
    | some (x', y'), some t => okX x x' && okX y y' && (match elemT P t with | some el => tySize P el == some n | none => false)
    | _, _ => false)
  | .capn x, .builtin .cap => (match args1 k, k.argTypes[0]? with | some y, some t => okX x y && (elemT P t).isSome | _, _ => false)
  | .appz n g z bytes x y, .builtin .append =>
    (match args2 k, k.argTypes[0]?, k.argTypes[1]? with
    | some (x', y'), some t, some t1 => okX x x' && okX y y' && (intT P t1).isSome &&
        (match elemT P t with
        | some el => tySize P el == some n && (P.info? el).map (·.bytes) == some bytes && okZ P el g z
        | none => false)
    | _, _, _ => false)
  | .max x xs, .builtin .max => okXs (x :: xs) k.args.toList
  | .min x xs, .builtin .min => okXs (x :: xs) k.args.toList
  | _, _ => false
/-- An operation without a call of a function. -/
def okOp (P : Program) (c : COp) (o : Op) : Bool :=
  match o with
  | .move y | .assign y => (match c with | .mov x => okX x y | .onil _ => isNilS y | _ => false)
  | .pick c' a' b' => (match c with | .pick c a b => okX c c' && okX a a' && okX b b' | _ => false)
  | .alloc t => (match c with | .alloc g z => okZ P t g z | _ => false)
  | .box _ y => (match c with | .box _ _ x => okX x y | _ => false)
  | .build t parts' => (match c with | .build z parts => okBuild P z parts t parts' | _ => false)
  | .buildSlice t n parts => (match c with
    | .bsl _ k xs => n == xs.length && decide (n * k ≤ 2 ^ 24) && okSeq 0 xs parts.toList && (match elemT P t with | some el => tySize P el == some k && ((P.info? el).bind (·.zero)).isSome | none => false)
    | _ => false)
  | .load t y => (match c with | .load g x => okX x y && okG P t g | _ => false)
  | .store t a' v' => (match c with | .store k a v => okX a a' && okX v v' && tySize P t == some k | _ => false)
  | .nilCheck y => (match c with | .nilc x => okX x y | _ => false)
  | .binOp op' t x' y' _ => (match c with
    | .bin op x y => op == op' && okX x x' && okX y y'
    | .binb op x y => op == op' && okX x x' && okX y y' && isBoolT P t
    | .sop (.fbin op) [x, y] => op == op' && okX x x' && okX y y'
    | .eqs neg lay x y => op' == (if neg then .neq else .eql) && okX x x' && okX y y' && eqTy P 100 t lay && !(P.eqGuardType P.depth t) && aggT P t == some true
    | _ => false)
  | .unOp op' _ y => (match c with | .un op x => op == op' && okX x y | _ => false)
  | .convert s t y => (match c with
    | .conv k x => okX x y && (intT P s).isSome && intT P t == some k
    | .sop (.ff d) [x] => okX x y && (P.underlying s).isSome && fltT P t == some d
    | .sop (.fi d) [x] => okX x y && (P.underlying s).isSome && intT P t == some d
    | .sop (.itf d) [x] => okX x y && (P.underlying s).isSome && fltT P t == some d
    | _ => false)
  | .range t y => (match c with | .srng x => okX x y && isStrT P t | _ => false)
  | .next y str => (match c with | .snxt x => okX x y && str | _ => false)
  | .sliceToArrayPointer t y => (match c with | .arrp n x => okX x y && (match arrT P t with | some (m, _) => m == n | none => false) | _ => false)
  | .makeFunc f first cap => (match c with | .mkfn g xs => (match f with | .func f => f == g | _ => false) && first.isEmpty && okXs xs cap.toList | _ => false)
  | .makeMap _ r => (match c with | .mkmap => r.isNone | _ => false)
  | .makeSlice t l n => (match c with
    | .mksl k g z bytes len cap => okX len l && okX cap n && (match elemT P t with | some el => tySize P el == some k && (P.info? el).map (·.bytes) == some bytes && okZ P el g z | none => false)
    | _ => false)
  | .slice t y lo' hi' mx => mx.isNone && (match c with
    | .slice k x lo hi => okX x y && okXo lo lo' && okXo hi hi' && (match elemT P t with | some el => tySize P el == some k | none => false)
    | .slstr x lo hi => okX x y && okXo lo lo' && okXo hi hi' && isStrT P t
    | _ => false)
  | .fieldAddr t y f => (match c with | .faddr off x => okX x y && (match fieldT P t f with | some fd => fd.offset == off && (match tySize P fd.type with | some n => n != 0 | none => false) | none => false) | _ => false)
  | .field t y f => (match c with | .field off g x => okX x y && (match fieldT P t f with | some fd => fd.offset == off && okG P fd.type g | none => false) | _ => false)
  | .indexAddr t y i' => (match c with
    | .iaddr k x i => okX x y && okX i i' && (match elemT P t with | some el => tySize P el == some k | none => false)
    | .iaddra n k x i => okX x y && okX i i' && (match arrT P t with | some (m, el) => m == n && tySize P el == some k | none => false)
    | _ => false)
  | .index t y i' => (match c with
    | .idxs x i => okX x y && okX i i' && isStrT P t
    | .idxa n k g x i => okX x y && okX i i' && (match arrT P t with | some (m, el) => m == n && tySize P el == some k && okG P el g | none => false)
    | _ => false)
  | .lookup t m' key' ok' => (match c with | .look sk z ok m key => ok == ok' && okX m m' && okX key key' && (match mapT P t with | some (kt, et) => okKey P kt sk && okZ P et none [z] | none => false) | _ => false)
  | .mapUpdate t m' key' v' | .insert t m' key' v' => (match c with | .mupd sk m key v => okX m m' && okX key key' && okX v v' && (match mapT P t with | some (kt, _) => okKey P kt sk | none => false) | _ => false)
  | .extract y i' => (match c with | .ext i x => i == i' && okX x y | _ => false)
  | .call k => okCall1 P c k
  | _ => false
section
variable {R : CCode → Code → Prop} {P : Program} {M : List Blk} {L : Loc} {w w' : World} {ρ : CX → PV} {σ : Operand → Value}
theorem map_pair {α β : Type} {x : Option α} {M : β} {v : α} {M' : β} (h : x.map (·, M) = some (v, M')) : x = some v ∧ M' = M := by
  cases x with
  | none => cases h
  | some y => simp at h; exact ⟨by rw [h.1], h.2.symm⟩
theorem args1_spec {c : Call} {x : Operand} (h : args1 c = some x) : c.args = #[x] := by
  unfold args1 at h; split at h
  · rename_i y hy; cases h; exact hy
  · cases h
theorem args2_spec {c : Call} {x y : Operand} (h : args2 c = some (x, y)) : c.args = #[x, y] := by
  unfold args2 at h; split at h
  · rename_i a b hy; cases h; exact hy
  · cases h
theorem op_good (S : Sim R M L w) (H : Fit M L w ρ σ) (hσ : ∀ v, σ (.const v) = v) {o : Oper} {c : COp} (ok : okOp P c o.op = true) {v : PV} {M' : List Blk} (h : res M ρ c = some (v, M')) : Good R P (execOp σ o) M L w v M' := by
  generalize ho : o.op = op at ok
  cases op with
  | move y =>
    cases c with
    | mov x =>
      simp only [res, Option.some.injEq, Prod.mk.injEq] at h; obtain ⟨rfl, rfl⟩ := h
      exact g_mov S H (.inl ho) ok
    | onil k =>
      exact g_onil S (.inl ho) (isNilS_spec ok) hσ h
    | _ => exact Bool.noConfusion ok
  | assign y =>
    cases c with
    | mov x =>
      simp only [res, Option.some.injEq, Prod.mk.injEq] at h; obtain ⟨rfl, rfl⟩ := h
      exact g_mov S H (.inr ho) ok
    | onil k =>
      exact g_onil S (.inr ho) (isNilS_spec ok) hσ h
    | _ => exact Bool.noConfusion ok
  | pick c' a' b' =>
    cases c with
    | pick c a b =>
      simp only [okOp, Bool.and_eq_true, beq_iff_eq, decide_eq_true_eq, bne_iff_ne, Bool.not_eq_true'] at ok
      simp only [res] at h
      obtain ⟨h1, rfl⟩ := map_pair h
      exact g_pick S H ho ok.1.1 ok.1.2 ok.2 h1
    | _ => exact Bool.noConfusion ok
  | alloc t =>
    cases c with
    | alloc g z =>
      exact g_alloc S ho ok h
    | _ => exact Bool.noConfusion ok
  | box t y =>
    cases c with
    | box own k x =>
      exact g_box S H ho ok h
    | _ => exact Bool.noConfusion ok
  | build t parts' =>
    cases c with
    | build z parts =>
      simp only [okOp, okBuild, Bool.and_eq_true] at ok
      obtain ⟨hz, ok⟩ := ok
      split at ok
      · rename_i fs hu
        split at ok
        · rename_i pl hpl
          exact g_build_struct S H ho hu hz hpl ok h
        · cases ok
      · rename_i n el hu
        split at ok
        · rename_i k hk
          exact g_build_array S H ho hu hk hz ok h
        · cases ok
      · cases ok
    | _ => exact Bool.noConfusion ok
  | buildSlice t n parts =>
    cases c with
    | bsl own k xs =>
      simp only [okOp, Bool.and_eq_true, beq_iff_eq, decide_eq_true_eq, bne_iff_ne, Bool.not_eq_true'] at ok
      obtain ⟨⟨⟨hn, hle⟩, hseq⟩, ok⟩ := ok
      split at ok
      · rename_i el hel
        simp only [Bool.and_eq_true, beq_iff_eq] at ok
        exact g_bsl S H ho (elemT_spec hel) ok.1 hn hle ok.2 hseq h
      · cases ok
    | _ => exact Bool.noConfusion ok
  | load t y =>
    cases c with
    | load g x =>
      simp only [okOp, Bool.and_eq_true, beq_iff_eq, decide_eq_true_eq, bne_iff_ne, Bool.not_eq_true'] at ok
      exact g_load S H ho ok.1 ok.2 h
    | _ => exact Bool.noConfusion ok
  | store t a' v' =>
    cases c with
    | store k a v =>
      simp only [okOp, Bool.and_eq_true, beq_iff_eq, decide_eq_true_eq, bne_iff_ne, Bool.not_eq_true'] at ok
      exact g_store S H ho ok.1.1 ok.1.2 ok.2 h
    | _ => exact Bool.noConfusion ok
  | nilCheck y =>
    cases c with
    | nilc x =>
      exact g_nilc S H ho ok h
    | _ => exact Bool.noConfusion ok
  | binOp op' t x' y' ty =>
    cases c with
    | bin op x y =>
      simp only [okOp, Bool.and_eq_true, beq_iff_eq, decide_eq_true_eq, bne_iff_ne, Bool.not_eq_true'] at ok
      obtain ⟨⟨rfl, hx⟩, hy⟩ := ok
      simp only [res] at h
      obtain ⟨h1, rfl⟩ := map_pair h
      exact g_bin S H ho hx hy h1
    | binb op x y =>
      simp only [okOp, Bool.and_eq_true, beq_iff_eq, decide_eq_true_eq, bne_iff_ne, Bool.not_eq_true'] at ok
      obtain ⟨⟨⟨rfl, hx⟩, hy⟩, ht⟩ := ok
      simp only [res] at h
      obtain ⟨h1, rfl⟩ := map_pair h
      exact g_binb S H ho hx hy (isBoolT_spec ht) h1
    | eqs neg lay x y =>
      simp only [okOp, Bool.and_eq_true, beq_iff_eq, decide_eq_true_eq, bne_iff_ne, Bool.not_eq_true'] at ok
      obtain ⟨⟨⟨⟨⟨rfl, hx⟩, hy⟩, hl⟩, hg⟩, hb⟩ := ok
      exact g_eqs S H ho hx hy hl hg hb h
    | sop o' xs =>
      simp only [okOp] at ok
      split at ok
      all_goals first | (cases ok; done) | skip
      all_goals first | (rename_i heq; cases heq; done) | skip
      rename_i op x y heq
      cases heq
      simp only [Bool.and_eq_true, beq_iff_eq] at ok
      obtain ⟨⟨rfl, hx⟩, hy⟩ := ok
      simp only [res, List.map] at h
      obtain ⟨h1, rfl⟩ := map_pair h
      exact g_fbin S H ho hx hy h1
    | _ => exact Bool.noConfusion ok
  | unOp op' t y =>
    cases c with
    | un op x =>
      simp only [okOp, Bool.and_eq_true, beq_iff_eq, decide_eq_true_eq, bne_iff_ne, Bool.not_eq_true'] at ok
      obtain ⟨rfl, hx⟩ := ok
      simp only [res] at h
      obtain ⟨h1, rfl⟩ := map_pair h
      exact g_un S H ho hx h1
    | _ => exact Bool.noConfusion ok
  | convert s t y =>
    cases c with
    | conv k x =>
      simp only [okOp, Bool.and_eq_true, beq_iff_eq, decide_eq_true_eq, bne_iff_ne, Bool.not_eq_true'] at ok
      obtain ⟨⟨hx, hs⟩, ht⟩ := ok
      obtain ⟨ks, hks⟩ := Option.isSome_iff_exists.1 hs
      simp only [res] at h
      obtain ⟨h1, rfl⟩ := map_pair h
      exact g_conv S H ho hx (intT_spec hks) (intT_spec ht) h1
    | sop o' xs =>
      simp only [okOp] at ok
      split at ok
      all_goals first | (cases ok; done) | skip
      all_goals first | (rename_i heq; cases heq; done) | skip
      all_goals
        rename_i heq
        cases heq
        simp only [Bool.and_eq_true, beq_iff_eq] at ok
        obtain ⟨⟨hx, hs⟩, ht⟩ := ok
        simp only [res, List.map] at h
        obtain ⟨h1, rfl⟩ := map_pair h
        first
          | exact g_ff S H ho hx hs (fltT_spec ht) h1
          | exact g_fi S H ho hx hs (intT_spec ht) h1
          | exact g_itf S H ho hx hs (fltT_spec ht) h1
    | _ => exact Bool.noConfusion ok
  | range t y =>
    cases c with
    | srng x =>
      simp only [okOp, Bool.and_eq_true] at ok
      exact g_srng S H ho ok.1 (isStrT_spec ok.2) h
    | _ => exact Bool.noConfusion ok
  | next y str =>
    cases c with
    | snxt x =>
      simp only [okOp, Bool.and_eq_true] at ok
      obtain ⟨hx, rfl⟩ := ok
      exact g_snxt S H ho hx h
    | _ => exact Bool.noConfusion ok
  | sliceToArrayPointer t y =>
    cases c with
    | arrp n x =>
      simp only [okOp, Bool.and_eq_true, beq_iff_eq, decide_eq_true_eq, bne_iff_ne, Bool.not_eq_true'] at ok
      obtain ⟨hx, ok⟩ := ok
      split at ok
      · rename_i m e he
        simp only [beq_iff_eq] at ok
        subst ok
        exact g_arrp S H ho hx (arrT_spec he) h
      · cases ok
    | _ => exact Bool.noConfusion ok
  | makeFunc f first cap =>
    cases c with
    | mkfn g xs =>
      simp only [okOp, Bool.and_eq_true, beq_iff_eq, decide_eq_true_eq, bne_iff_ne, Bool.not_eq_true'] at ok
      obtain ⟨⟨hf, hfirst⟩, hx⟩ := ok
      split at hf
      · simp only [beq_iff_eq] at hf
        subst hf
        have hfe : first = #[] := by simpa using hfirst
        subst hfe
        simp only [res, Option.some.injEq, Prod.mk.injEq] at h
        obtain ⟨rfl, rfl⟩ := h
        exact g_mkfn S H ho hx
      · cases hf
    | _ => exact Bool.noConfusion ok
  | makeMap t r =>
    cases c with
    | mkmap  =>
      simp only [okOp, Option.isNone_iff_eq_none] at ok
      subst ok
      exact g_mkmap S ho h
    | _ => exact Bool.noConfusion ok
  | makeSlice t l n =>
    cases c with
    | mksl k g z bytes len cap =>
      simp only [okOp, Bool.and_eq_true, beq_iff_eq, decide_eq_true_eq, bne_iff_ne, Bool.not_eq_true'] at ok
      obtain ⟨⟨h1, h2⟩, ok⟩ := ok
      split at ok
      · rename_i el hel
        simp only [Bool.and_eq_true, beq_iff_eq] at ok
        exact g_mksl S H ho h1 h2 (elemT_spec hel) ok.1.1 ok.1.2 ok.2 h
      · cases ok
    | _ => exact Bool.noConfusion ok
  | slice t y lo' hi' mx =>
    simp only [okOp, Bool.and_eq_true, Option.isNone_iff_eq_none] at ok
    obtain ⟨rfl, ok⟩ := ok
    cases c with
    | slice k x lo hi =>
      simp only [Bool.and_eq_true] at ok
      obtain ⟨⟨⟨hx, hl⟩, hh⟩, ok⟩ := ok
      split at ok
      · rename_i el hel
        simp only [beq_iff_eq] at ok
        exact g_slice S H ho hx hl hh (elemT_spec hel) ok h
      · cases ok
    | slstr x lo hi =>
      simp only [Bool.and_eq_true] at ok
      obtain ⟨⟨⟨hx, hl⟩, hh⟩, ok⟩ := ok
      exact g_slstr S H ho hx hl hh (isStrT_spec ok) h
    | _ => exact Bool.noConfusion ok
  | fieldAddr t y f =>
    cases c with
    | faddr off x =>
      simp only [okOp, Bool.and_eq_true, beq_iff_eq, decide_eq_true_eq, bne_iff_ne, Bool.not_eq_true'] at ok
      obtain ⟨hx, ok⟩ := ok
      split at ok
      · rename_i fd hfd
        obtain ⟨fs, hu, hf⟩ := fieldT_spec hfd
        simp only [Bool.and_eq_true, beq_iff_eq] at ok
        obtain ⟨hoff, ok⟩ := ok
        split at ok
        · rename_i n hn
          exact g_faddr S H ho hx hu hf hoff hn (by simpa using ok) h
        · cases ok
      · cases ok
    | _ => exact Bool.noConfusion ok
  | field t y f =>
    cases c with
    | field off g x =>
      simp only [okOp, Bool.and_eq_true, beq_iff_eq, decide_eq_true_eq, bne_iff_ne, Bool.not_eq_true'] at ok
      obtain ⟨hx, ok⟩ := ok
      split at ok
      · rename_i fd hfd
        obtain ⟨fs, hu, hf⟩ := fieldT_spec hfd
        simp only [Bool.and_eq_true, beq_iff_eq] at ok
        exact g_field S H ho hx hu hf ok.1 ok.2 h
      · cases ok
    | _ => exact Bool.noConfusion ok
  | indexAddr t y i' =>
    cases c with
    | iaddr k x i =>
      simp only [okOp, Bool.and_eq_true, beq_iff_eq, decide_eq_true_eq, bne_iff_ne, Bool.not_eq_true'] at ok
      obtain ⟨⟨hx, hi⟩, ok⟩ := ok
      split at ok
      · rename_i el hel
        simp only [beq_iff_eq] at ok
        exact g_iaddr S H ho hx hi (elemT_spec hel) ok h
      · cases ok
    | iaddra n k x i =>
      simp only [okOp, Bool.and_eq_true, beq_iff_eq, decide_eq_true_eq, bne_iff_ne, Bool.not_eq_true'] at ok
      obtain ⟨⟨hx, hi⟩, ok⟩ := ok
      split at ok
      · rename_i m el hel
        simp only [Bool.and_eq_true, beq_iff_eq] at ok
        obtain ⟨rfl, hk⟩ := ok
        exact g_iaddra S H ho hx hi (arrT_spec hel) hk h
      · cases ok
    | _ => exact Bool.noConfusion ok
  | index t y i' =>
    cases c with
    | idxs x i =>
      simp only [okOp, Bool.and_eq_true, beq_iff_eq, decide_eq_true_eq, bne_iff_ne, Bool.not_eq_true'] at ok
      exact g_idxs S H ho ok.1.1 ok.1.2 (isStrT_spec ok.2) h
    | idxa n k g x i =>
      simp only [okOp, Bool.and_eq_true, beq_iff_eq, decide_eq_true_eq, bne_iff_ne, Bool.not_eq_true'] at ok
      obtain ⟨⟨hx, hi⟩, ok⟩ := ok
      split at ok
      · rename_i m el hel
        simp only [Bool.and_eq_true, beq_iff_eq] at ok
        obtain ⟨⟨rfl, hk⟩, hg⟩ := ok
        exact g_idxa S H ho hx hi (arrT_spec hel) hk hg h
      · cases ok
    | _ => exact Bool.noConfusion ok
  | lookup t m' key' ok' =>
    cases c with
    | look sk z ok2 m key =>
      simp only [okOp, Bool.and_eq_true, beq_iff_eq, decide_eq_true_eq, bne_iff_ne, Bool.not_eq_true'] at ok
      obtain ⟨⟨⟨rfl, hm⟩, hk⟩, ok⟩ := ok
      split at ok
      · rename_i kt et hmt
        simp only [Bool.and_eq_true] at ok
        exact g_look S H ho hm hk (mapT_spec hmt) ok.1 ok.2 h
      · cases ok
    | _ => exact Bool.noConfusion ok
  | mapUpdate t m' key' v' =>
    cases c with
    | mupd sk m key v =>
      simp only [okOp, Bool.and_eq_true, beq_iff_eq, decide_eq_true_eq, bne_iff_ne, Bool.not_eq_true'] at ok
      obtain ⟨⟨⟨hm, hk⟩, hv⟩, ok⟩ := ok
      split at ok
      · rename_i kt et hmt
        exact g_mupd S H (.inl ho) hm hk hv (mapT_spec hmt) ok h
      · cases ok
    | _ => exact Bool.noConfusion ok
  | insert t m' key' v' =>
    cases c with
    | mupd sk m key v =>
      simp only [okOp, Bool.and_eq_true, beq_iff_eq, decide_eq_true_eq, bne_iff_ne, Bool.not_eq_true'] at ok
      obtain ⟨⟨⟨hm, hk⟩, hv⟩, ok⟩ := ok
      split at ok
      · rename_i kt et hmt
        exact g_mupd S H (.inr ho) hm hk hv (mapT_spec hmt) ok h
      · cases ok
    | _ => exact Bool.noConfusion ok
  | extract y i' =>
    cases c with
    | ext i x =>
      simp only [okOp, Bool.and_eq_true, beq_iff_eq, decide_eq_true_eq, bne_iff_ne, Bool.not_eq_true'] at ok
      obtain ⟨rfl, hx⟩ := ok
      exact g_ext S H ho hx h
    | _ => exact Bool.noConfusion ok
  | call k =>
    obtain ⟨callee, args, ats⟩ := k
    simp only [okOp, okCall1] at ok
    split at ok
    · rename_i x
      split at ok
      · rename_i y t hy ht
        simp only [Bool.and_eq_true] at ok
        have hy' := args1_spec hy
        subst hy'
        obtain ⟨el, hel⟩ := Option.isSome_iff_exists.1 ok.2
        exact g_len S H ho ok.1 ht (elemT_spec hel) h
      · cases ok
    · rename_i x
      split at ok
      · rename_i y t hy ht
        simp only [Bool.and_eq_true] at ok
        have hy' := args1_spec hy
        subst hy'
        exact g_lens S H ho ok.1 ht (isStrT_spec ok.2) h
      · cases ok
    · rename_i n bytes x y
      split at ok
      · rename_i x' y' t t1 hy ht ht1
        have hy' := args2_spec hy
        subst hy'
        simp only [Bool.and_eq_true] at ok
        obtain ⟨⟨⟨hx, hy⟩, hni⟩, ok⟩ := ok
        obtain ⟨d, hd, hdi⟩ := notIntT_spec hni
        split at ok
        · rename_i el hel
          simp only [Bool.and_eq_true, beq_iff_eq] at ok
          obtain ⟨⟨hk, hby⟩, ok⟩ := ok
          split at ok
          · rename_i zv hzv
            simp only [Bool.and_eq_true, beq_iff_eq, Bool.or_eq_true] at ok
            obtain ⟨⟨h1, h2⟩, h3⟩ := ok
            cases hag : aggV zv with
            | true =>
              cases zv <;> simp [aggV] at hag
              rename_i cs
              refine g_append S H ho hx hy ht ht1 (elemT_spec hel) hd hdi hk hby (g := some cs.toList.length) (zz := cs.toList) ?_ (by simpa [Value.cells] using h2) h
              unfold okZ
              rw [hzv]
              simp only [Bool.and_eq_true, beq_iff_eq, and_true]
              simpa [Value.cells] using h1
            | false =>
              refine g_append S H ho hx hy ht ht1 (elemT_spec hel) hd hdi hk hby (g := none) (zz := zv.cells.toList) ?_ (by simpa using h2) h
              unfold okZ
              rw [hzv]
              have : zv.cells.toList = [zv] := by cases zv <;> first | rfl | (simp [aggV] at hag)
              rw [this] at h1 ⊢
              exact h1
          · cases ok
        · cases ok
      · cases ok
    · rename_i n x y
      split at ok
      · rename_i x' y' t hy ht
        have hy' := args2_spec hy
        subst hy'
        simp only [Bool.and_eq_true] at ok
        obtain ⟨⟨hx, hy⟩, ok⟩ := ok
        split at ok
        · rename_i el hel
          simp only [beq_iff_eq] at ok
          exact g_copy S H ho hx hy ht (elemT_spec hel) ok h
        · cases ok
      · cases ok
    · rename_i x
      split at ok
      · rename_i y t hy ht
        simp only [Bool.and_eq_true] at ok
        have hy' := args1_spec hy
        subst hy'
        obtain ⟨el, hel⟩ := Option.isSome_iff_exists.1 ok.2
        exact g_capn S H ho ok.1 ht (elemT_spec hel) h
      · cases ok
    · rename_i n g z bytes x y
      split at ok
      · rename_i x' y' t t1 hy ht ht1
        have hy' := args2_spec hy
        subst hy'
        simp only [Bool.and_eq_true] at ok
        obtain ⟨⟨⟨hx, hy⟩, hni⟩, ok⟩ := ok
        obtain ⟨kk, hkk⟩ := Option.isSome_iff_exists.1 hni
        split at ok
        · rename_i el hel
          simp only [Bool.and_eq_true, beq_iff_eq] at ok
          exact g_appz S H ho hx hy ht ht1 (elemT_spec hel) (intT_spec hkk) ok.1.1 ok.1.2 ok.2 h
        · cases ok
      · cases ok
    · rename_i x xs
      exact g_max S H ho ok h
    · rename_i x xs
      exact g_min S H ho ok h
    · cases ok
  | _ => exact Bool.noConfusion ok
end
end Go.Nac

