import Derived.Test.YtbmicihfhfcpkaaK17
import Derived.Test.YtbmicihfhfcpkaaK13
import Derived.OpenShut
import Derived.ChangeArms
import Derived.Below
import Derived.Carry
import Derived.ChangeShapes
set_option linter.unusedVariables false
set_option linter.unusedSectionVars false
namespace Go.Nac
/-- What a type's cells read as: the plain values of one a that is ok. -/
def Opens (P : Program) (t : TypeId) {α : Type} (f : α → List PV) (ok : α → Prop) : Prop :=
  ∀ (H : Type) (enc : TypeId × Value → H) (W : World) (L : Loc) (n : Nat) (cs : List Value) (x : DataW H × List MemPlace),
    DataW.trod enc P W 0 (fun _ => true) true n t cs = some x → ∃ a, ok a ∧ LRel [] L W (f a) cs
theorem wf_i64 {z : Int} (h : (Lit.int .i64 z).wf = true) : -9223372036854775808 ≤ z ∧ z ≤ 9223372036854775807 := bounds_i64 h
theorem opens_int {P : Program} {t : TypeId} (ht : P.underlying t = some (.int .i64)) : Opens P t (fun z : Int => [.I z]) (fun z => -9223372036854775808 ≤ z ∧ z ≤ 9223372036854775807) := by
  intro H enc W L n cs x h
  obtain ⟨z, rfl, _, hw⟩ := DataW.trod_int ht h
  exact ⟨z, wf_i64 hw, .cons _ _ _ _ (.s _ rfl) .nil⟩
theorem lrel_of {M : List Blk} {L : Loc} {w : World} {α : Type} (f : α → List PV) {k : Nat} (hf : ∀ a, (f a).length = k) (g : Nat → List Value) :
    ∀ (l : List α) (o : Nat), (∀ i a, l[i]? = some a → LRel M L w (f a) (g (o + i))) → LRel M L w (l.flatMap f) ((List.range l.length).flatMap fun i => g (o + i))
  | [], _, _ => .nil
  | a :: l, o, h => by
    rw [List.flatMap_cons, List.length_cons, List.range_succ_eq_map, List.flatMap_cons, List.flatMap_map]
    refine LRel.append (by simpa using h 0 a rfl) ?_
    have := lrel_of f hf g l (o + 1) fun i b hb => by
      have := h (i + 1) b (by simpa using hb)
      rwa [show o + (i + 1) = o + 1 + i by omega] at this
    have e : (fun i => g (o + 1 + i)) = fun i => g (o + (i + 1)) := by funext i; congr 1; omega
    rw [e] at this
    exact this
theorem flat_get {g : Nat → List Value} {k n : Nat} (hk : 0 < k) (hg : ∀ i, i < n → (g i).length = k) {m : Nat} {v : Value} (h : ((List.range n).flatMap g)[m]? = some v) :
    ∃ i j, i < n ∧ j < k ∧ m = i * k + j ∧ (g i)[j]? = some v := by
  induction n with
  | zero => simp at h
  | succ n ih =>
    have hl : ((List.range n).flatMap g).length = n * k := by
      clear ih h
      have hg' : ∀ i, i < n → (g i).length = k := fun i hi => hg i (by omega)
      clear hg
      induction n with
      | zero => simp
      | succ n ih =>
        rw [List.range_succ, List.flatMap_append, List.length_append, ih fun i hi => hg' i (by omega)]
        simp [hg' n (by omega), Nat.succ_mul]
    rw [List.range_succ, List.flatMap_append] at h
    by_cases hm : m < n * k
    · rw [List.getElem?_append_left (by omega)] at h
      obtain ⟨i, j, h1, h2, h3, h4⟩ := ih (fun i hi => hg i (by omega)) h
      exact ⟨i, j, by omega, h2, h3, h4⟩
    · rw [List.getElem?_append_right (by omega), hl] at h
      simp only [List.flatMap_cons, List.flatMap_nil, List.append_nil] at h
      have := (List.getElem?_eq_some_iff.1 h).1
      rw [hg n (by omega)] at this
      exact ⟨n, m - n * k, by omega, this, by omega, h⟩
theorem mapM_get {α β : Type} {f : α → Option β} : ∀ {l : List α} {r : List β}, l.mapM f = some r → r.length = l.length ∧ ∀ (i : Nat) (a : α), l[i]? = some a → f a = r[i]?
  | l, r, h => ⟨by simpa using mapM_some_length h, fun i a hi => mapM_some_get h i a hi⟩
theorem opens_slice {P : Program} {t e : TypeId} (ht : P.underlying t = some (.slice e)) {k : Nat} (he : P.cellsOf e = k) (hk : 0 < k) {α : Type} {f : α → List PV} {ok : α → Prop}
    (g : α → PV) (hg : ∀ a, (g a).cells = f a) (hf : ∀ a, (f a).length = k) (h : Opens P e f ok) : Opens P t (fun l : List α => [.fs (l.map g)]) (fun l => ∀ a ∈ l, ok a) := by
  intro H enc W L n cs x hx
  have hcells : ∀ l : List α, ∀ x ∈ l.map g, x.cells.length = k := by
    intro l x hx
    obtain ⟨a, _, rfl⟩ := List.mem_map.1 hx
    rw [hg, hf]
  rcases DataW.trod_slice ht hx with ⟨rfl, _⟩ | ⟨a, len, cap, elems, rest, m, _, rfl, _, hb, hl, hm, hlen, hel, _, _⟩
  · exact ⟨[], by simp, .cons _ _ _ _ (.fs _ _ _ _ k [] rfl (by simp) (by simp) .nil (by simp)) .nil⟩
  · have each : ∀ i, i < len → ∃ cs', W.cells? 0 (a.add (i * k)) k = some cs' ∧ ∃ b, ok b ∧ LRel [] L W (f b) cs' := by
      intro i hi
      have h1 := hel i hi
      rw [he, List.getElem?_eq_getElem (by omega), Option.bind_eq_some_iff] at h1
      obtain ⟨cs', h2, h3⟩ := h1
      exact ⟨cs', h2, h H enc W L _ _ _ h3⟩
    let G : Nat → List Value := fun i => (W.cells? 0 (a.add (i * k)) k).getD []
    have pick : ∀ i, i < len → ∃ b, ok b ∧ LRel [] L W (f b) (G i) := by
      intro i hi
      obtain ⟨cs', h1, h2⟩ := each i hi
      show ∃ b, ok b ∧ LRel [] L W (f b) ((W.cells? 0 (a.add (i * k)) k).getD [])
      rw [h1]; exact h2
    have choose : ∀ n, n ≤ len → ∃ l : List α, l.length = n ∧ (∀ b ∈ l, ok b) ∧ ∀ i b, l[i]? = some b → LRel [] L W (f b) (G i) := by
      intro n hn
      induction n with
      | zero => exact ⟨[], rfl, by simp, by simp⟩
      | succ n ih =>
        obtain ⟨l, h1, h2, h3⟩ := ih (by omega)
        obtain ⟨b, h4, h5⟩ := pick n (by omega)
        refine ⟨l ++ [b], by simp [h1], ?_, ?_⟩
        · intro c hc
          rcases List.mem_append.1 hc with hc | hc
          · exact h2 c hc
          · rw [List.mem_singleton.1 hc]; exact h4
        · intro i c hc
          by_cases hi : i < l.length
          · rw [List.getElem?_append_left hi] at hc; exact h3 i c hc
          · have : i = n := by have := (List.getElem?_eq_some_iff.1 hc).1; simp at this; omega
            subst this
            rw [List.getElem?_append_right (by omega), h1, Nat.sub_self] at hc
            simp at hc; subst hc; exact h5
    obtain ⟨l, hl1, hl2, hl3⟩ := choose len (Nat.le_refl _)
    have hG : ∀ i, i < len → (G i).length = k := by
      intro i hi
      obtain ⟨b, _, hb⟩ := pick i hi
      rw [← hb.length, hf]
    refine ⟨l, hl2, .cons _ _ _ _ (.fs _ _ _ _ k ((List.range l.length).flatMap G) (by simp [hl1]) (by simp; omega) (hcells l) ?_ ?_) .nil⟩
    · have e : (l.map g).flatMap PV.cells = l.flatMap f := by
        rw [List.flatMap_map]; simp only [hg]
      rw [e]
      have := lrel_of (M := []) (L := L) (w := W) f hf G l 0 (fun i b hb => by simpa using hl3 i b hb)
      simpa using this
    · intro hne
      have h0 : 0 < len := by
        rw [← hl1]
        cases l with
        | nil => simp at hne
        | cons => simp
      have cell : ∀ i j v, i < len → j < k → (G i)[j]? = some v → W.cell? ((a.add (i * k)).add j) = some v := by
        intro i j v hi hj hv
        obtain ⟨cs', h1, _⟩ := each i hi
        have hGi : G i = cs' := by show (W.cells? 0 (a.add (i * k)) k).getD [] = cs'; rw [h1]; rfl
        rw [hGi] at hv
        unfold World.cells? at h1
        split at h1
        · have := (mapM_get h1).2 j j (by simp [hj])
          rw [this, hv]
        · cases h1
      obtain ⟨v0, hv0⟩ : ∃ v, (G 0)[0]? = some v := ⟨_, List.getElem?_eq_getElem (by rw [hG 0 h0]; exact hk)⟩
      have hc0 := cell 0 0 v0 h0 hk hv0
      simp only [Nat.zero_mul, Addr.add, if_true] at hc0
      have hsp : a.spot = none := by
        unfold World.cell? at hc0
        split at hc0
        · split at hc0
          · cases hc0
          · rename_i hs; simpa using hs
        · cases hc0
      have hblk : a.block < W.heap.size := World.block_lt_of_cell? W a hc0
      obtain ⟨ab, ao, as⟩ := a
      simp only at hsp
      subst hsp
      refine ⟨ab, ao, rfl, hblk, fun ⟨i, b, p, hi, _⟩ => by simp at hi, fun m v hmv => ?_⟩
      rw [hl1] at hmv
      obtain ⟨i, j, h1, h2, rfl, h3⟩ := flat_get hk hG hmv
      have := cell i j v h1 h2 h3
      have e : (Addr.add (Addr.add ⟨ab, ao, none⟩ (i * k)) j) = ⟨ab, ao + (i * k + j), none⟩ := by
        unfold Addr.add
        split <;> split <;> simp_all <;> omega
      rw [← e]; exact this
/-- A struct, all of whose fields are one cell: cell by cell. -/
theorem struct_cells {P : Program} {t : TypeId} {fs : Array Field} (ht : P.underlying t = some (.struct fs)) {H : Type} {enc : TypeId × Value → H} {W : World} {n : Nat} {cs : List Value} {x : DataW H × List MemPlace}
    (h : DataW.trod enc P W 0 (fun _ => true) true n t cs = some x) (hc : P.cellsOf t = fs.size) (hf : ∀ (i : Nat) (f : Field), fs[i]? = some f → f.offset = i ∧ P.cellsOf f.type = 1) :
    cs.length = fs.size ∧ ∀ (i : Nat) (f : Field), fs[i]? = some f → ∃ v m y, cs[i]? = some v ∧ DataW.trod enc P W 0 (fun _ => true) true m f.type [v] = some y := by
  obtain ⟨xs, m, _, _, hl, hxl, hx⟩ := DataW.trod_struct ht h
  refine ⟨hl.trans hc, fun i f hi => ?_⟩
  have h1 := hx i f hi
  have hlt := (Array.getElem?_eq_some_iff.1 hi).1
  rw [(hf i f hi).1, (hf i f hi).2, List.getElem?_eq_getElem (by omega)] at h1
  have hlt2 : i < cs.length := by omega
  rw [List.drop_eq_getElem_cons hlt2] at h1
  exact ⟨cs[i], m, _, List.getElem?_eq_getElem hlt2, h1⟩
theorem opens_rev {P : Program} {t : TypeId} {f0 f1 : Field} (ht : P.underlying t = some (.struct #[f0, f1])) (hc : P.cellsOf t = 2) (h0 : f0.offset = 0 ∧ P.cellsOf f0.type = 1 ∧ P.underlying f0.type = some (.int .i64))
    (h1 : f1.offset = 1 ∧ P.cellsOf f1.type = 1 ∧ P.underlying f1.type = some (.int .i64)) :
    Opens P t (fun r : Rev => [.I r.at_, .I r.ld]) (fun r => (-9223372036854775808 ≤ r.at_ ∧ r.at_ ≤ 9223372036854775807) ∧ (-9223372036854775808 ≤ r.ld ∧ r.ld ≤ 9223372036854775807)) := by
  intro H enc W L n cs x h
  obtain ⟨hl, hf⟩ := struct_cells ht h hc (by
    intro i f hi
    match i, hi with
    | 0, hi => simp at hi; subst hi; exact ⟨h0.1, h0.2.1⟩
    | 1, hi => simp at hi; subst hi; exact ⟨h1.1, h1.2.1⟩
    | n + 2, hi => simp at hi)
  obtain ⟨v0, m0, y0, e0, g0⟩ := hf 0 f0 rfl
  obtain ⟨v1, m1, y1, e1, g1⟩ := hf 1 f1 rfl
  obtain ⟨z0, k0, _, w0⟩ := DataW.trod_int h0.2.2 g0
  obtain ⟨z1, k1, _, w1⟩ := DataW.trod_int h1.2.2 g1
  cases k0; cases k1
  obtain ⟨c0, c1, rfl⟩ : ∃ a b, cs = [a, b] := by
    match cs, hl with
    | [a, b], _ => exact ⟨a, b, rfl⟩
  simp at e0 e1; subst e0; subst e1
  exact ⟨⟨z0, z1⟩, ⟨wf_i64 w0, wf_i64 w1⟩, .cons _ _ _ _ (.s _ rfl) (.cons _ _ _ _ (.s _ rfl) .nil)⟩
open Go.RowKit in
/-- A law's call from its contract: it says true, and what was there before is as it was. -/
theorem law_callsX {P : Program} (hmix : P.follows .mixedOrders = true) {F : Prog} {X : FuncId → List PV → PV → Prop} (hF : ∀ f cf, F f = some cf → okFn P f cf = true) (hX : ∀ f args r, X f args r → ∀ M, Conc P (.fn f) args M r M) {f : FuncId} (hroot : (F f).isSome = true) {args : List PV} (h : ∀ M, ACall F X (.fn f) args M (.B true) M)
    {W : World} {cargs : Array Value} (A : LRel [] (fun _ => none) W args cargs.toList) : Calls P f cargs W fun e W' => e = .returned (.bool true) ∧ Below W.heap.size W W' := by
  refine (ACall_sound hmix hF hX hroot (h []) (L := fun _ => none) ⟨fun i b hi => by simp at hi, fun i j bi bj p q hi => by simp at hi⟩ A).mono fun e W' he => ?_
  cases e with
  | returned v =>
    obtain ⟨L', E, S, R⟩ := he
    refine ⟨?_, E.os, E.tape, E.output, E.size, fun k hk => (E.frame k hk fun ⟨i, b, p, hi, _⟩ => by simp at hi).1⟩
    cases R with
    | s _ _ => rfl
  | _ => exact he.elim
end Go.Nac
set_option linter.unusedVariables false
namespace Go.Nac
/-- One field of one cell. -/
theorem Opens.one {P : Program} {t : TypeId} {α : Type} {f : α → List PV} {ok : α → Prop} (h : Opens P t f ok) (g : α → PV) (hg : ∀ a, f a = [g a]) {H : Type} {enc : TypeId × Value → H} {W : World} {L : Loc} {n : Nat} {v : Value} {x : DataW H × List MemPlace}
    (ht : DataW.trod enc P W 0 (fun _ => true) true n t [v] = some x) : ∃ a, ok a ∧ VRel [] L W (g a) v := by
  obtain ⟨a, h1, h2⟩ := h H enc W L n _ _ ht
  rw [hg] at h2
  cases h2 with | cons _ _ _ _ h3 _ => exact ⟨a, h1, h3⟩
end Go.Nac
set_option linter.unusedVariables false
namespace Go.Nac
end Go.Nac
set_option linter.unusedVariables false
namespace Go.Nac
def cellsSum (P : Program) (fs : List Field) : Nat := (fs.map fun f => P.cellsOf f.type).sum
def OpensFs (P : Program) (fs : List Field) (off : Nat) {α : Type} (f : α → List PV) (ok : α → Prop) : Prop :=
  ∀ (H : Type) (enc : TypeId × Value → H) (W : World) (L : Loc) (cs : List Value), cs.length = cellsSum P fs →
    (∀ (i : Nat) (fd : Field), fs[i]? = some fd → ∃ m y, DataW.trod enc P W 0 (fun _ => true) true m fd.type ((cs.drop (fd.offset - off)).take (P.cellsOf fd.type)) = some y) → ∃ a, ok a ∧ LRel [] L W (f a) cs
theorem OpensFs.nil {P : Program} {off : Nat} : OpensFs P [] off (fun _ : Unit => []) (fun _ => True) := by
  intro H enc W L cs hl _
  have : cs = [] := List.eq_nil_of_length_eq_zero (by simpa [cellsSum] using hl)
  subst this; exact ⟨(), trivial, .nil⟩
theorem OpensFs.cons {P : Program} {fd : Field} {fs : List Field} {off k : Nat} {α β : Type} {f : α → List PV} {g : β → List PV} {ok : α → Prop} {ok' : β → Prop}
    (h : Opens P fd.type f ok) (ho : fd.offset = off) (hk : P.cellsOf fd.type = k) (hge : ∀ x ∈ fs, off + k ≤ x.offset) (hs : OpensFs P fs (off + k) g ok') :
    OpensFs P (fd :: fs) off (fun p : α × β => f p.1 ++ g p.2) (fun p => ok p.1 ∧ ok' p.2) := by
  intro H enc W L cs hl hf
  have hl' : cs.length = k + cellsSum P fs := by rw [hl]; simp [cellsSum, hk]
  obtain ⟨m, y, h0⟩ := hf 0 fd rfl
  rw [ho, Nat.sub_self, List.drop_zero, hk] at h0
  obtain ⟨a, o1, r1⟩ := h H enc W L m _ _ h0
  obtain ⟨b, o2, r2⟩ := hs H enc W L (cs.drop k) (by simp; omega) (by
    intro i fd' hi
    obtain ⟨m, y, h1⟩ := hf (i + 1) fd' (by simpa using hi)
    have hg := hge fd' (List.mem_of_getElem? hi)
    refine ⟨m, y, ?_⟩
    rw [List.drop_drop, show k + (fd'.offset - (off + k)) = fd'.offset - off by omega]; exact h1)
  refine ⟨(a, b), ⟨o1, o2⟩, ?_⟩
  have := LRel.append r1 r2
  rwa [List.take_append_drop] at this
theorem Opens.struct {P : Program} {t : TypeId} {fs : Array Field} (ht : P.underlying t = some (.struct fs)) (hc : P.cellsOf t = cellsSum P fs.toList) {α : Type} {f : α → List PV} {ok : α → Prop} (h : OpensFs P fs.toList 0 f ok) : Opens P t f ok := by
  intro H enc W L n cs x hx
  obtain ⟨xs, m, _, _, hl, hxl, hf⟩ := DataW.trod_struct ht hx
  refine h H enc W L cs (hl.trans hc) fun i fd hi => ?_
  rw [Array.getElem?_toList] at hi
  have h1 := hf i fd hi
  have hlt := (Array.getElem?_eq_some_iff.1 hi).1
  rw [List.getElem?_eq_getElem (by omega)] at h1
  exact ⟨m, _, h1⟩
theorem Opens.map {P : Program} {t : TypeId} {α β : Type} {f : α → List PV} {ok : α → Prop} (h : Opens P t f ok) (φ : α → β) {g : β → List PV} (hg : ∀ a, f a = g (φ a)) {ok' : β → Prop} (hok : ∀ a, ok a → ok' (φ a)) : Opens P t g ok' := by
  intro H enc W L n cs x hx
  obtain ⟨a, h1, h2⟩ := h H enc W L n cs x hx
  exact ⟨φ a, hok a h1, by rw [← hg]; exact h2⟩
/-- A struct as an argument. -/
theorem Opens.argA {P : Program} {t : TypeId} {α : Type} {f : α → List PV} {ok : α → Prop} (h : Opens P t f ok) {H : Type} {enc : TypeId × Value → H} {W : World} {vs : Array Value} {d : DataW H} {ps : List MemPlace}
    (ht : DataW.Trod enc P W 0 (fun _ => true) true t (.agg vs) d ps) (L : Loc) : ∃ a, ok a ∧ VRel [] L W (.agg (f a)) (.agg vs) := by
  obtain ⟨n, hn⟩ := ht
  obtain ⟨a, h1, h2⟩ := h H enc W L n _ _ hn
  exact ⟨a, h1, .agg _ _ h2⟩
end Go.Nac
set_option linter.unusedVariables false
namespace Go.Nac
theorem trod_float {P : Program} {t : TypeId} {k : FloatKind} (ht : P.underlying t = some (.float k)) {H : Type} {enc : TypeId × Value → H} {W : World} {n : Nat} {cs : List Value} {x : DataW H × List MemPlace}
    (h : DataW.trod enc P W 0 (fun _ => true) true n t cs = some x) : ∃ b, cs = [.float k b] := by
  cases n with
  | zero => simp [DataW.trod] at h
  | succ n =>
    unfold DataW.trod at h
    rw [ht] at h
    split at h <;> simp_all
theorem opens_f32 {P : Program} {t : TypeId} (ht : P.underlying t = some (.float .f32)) : Opens P t (fun b : Nat => [.s (.float .f32 b)]) (fun _ => True) := by
  intro H enc W L n cs x h
  obtain ⟨b, rfl⟩ := trod_float ht h
  exact ⟨b, trivial, .cons _ _ _ _ (.s _ rfl) .nil⟩
theorem opens_str {P : Program} {t : TypeId} (ht : P.underlying t = some .string) : Opens P t (fun s : ByteArray => [.s (.string s)]) (fun _ => True) := by
  intro H enc W L n cs x h
  obtain ⟨s, rfl, _⟩ := DataW.trod_string ht h
  exact ⟨s, trivial, .cons _ _ _ _ (.s _ rfl) .nil⟩
end Go.Nac

