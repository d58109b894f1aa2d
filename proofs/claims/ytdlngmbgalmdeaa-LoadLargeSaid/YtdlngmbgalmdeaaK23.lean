import Derived.Test.YtdlngmbgalmdeaaK22
set_option linter.unusedVariables false
namespace Go.Nac
def cellsSum (P : Program) (fs : List Field) : Nat := (fs.map fun f => P.cellsOf f.type).sum
def OpensFs (P : Program) (fs : List Field) (off : Nat) {α : Type} (f : α → List PV) (ok : α → Prop) : Prop :=
  ∀ (H : Type) (enc : TypeId × Value → H) (W : World) (L : Loc) (cs : List Value), cs.length = cellsSum P fs →
    (∀ (i : Nat) (fd : Field), fs[i]? = some fd → ∃ m y, DataW.trod enc P W 0 (fun _ => true) true m fd.type ((cs.drop (fd.offset - off)).take (P.cellsOf fd.type)) = some y) → ∃ a, ok a ∧ LRel [] L W (f a) cs
theorem OpensFs.nil {P : Program} {off : Nat} : OpensFs P [] off (fun _ : Unit => []) (fun _ => True) := by
  intro H enc W L cs hl _
  have : cs = [] := List.eq_nil_of_length_eq_zero (by simpa [cellsSum] using hl)
  subst this; exact ⟨(), trivial, .nil⟩
theorem OpensFs.cons {P : Program} {fd : Field} {fs : List Field} {off k : Nat} {α β : Type} {f : α → List PV} {g : β → List PV} {ok : α → Prop} {ok' : β → Prop}
    (h : Opens P fd.type f ok) (ho : fd.offset = off) (hk : P.cellsOf fd.type = k) (hge : ∀ x ∈ fs, off + k ≤ x.offset) (hs : OpensFs P fs (off + k) g ok') :
    OpensFs P (fd :: fs) off (fun p : α × β => f p.1 ++ g p.2) (fun p => ok p.1 ∧ ok' p.2) := by
  intro H enc W L cs hl hf
  have hl' : cs.length = k + cellsSum P fs := by rw [hl]; simp [cellsSum, hk]
  obtain ⟨m, y, h0⟩ := hf 0 fd rfl
  rw [ho, Nat.sub_self, List.drop_zero, hk] at h0
  obtain ⟨a, o1, r1⟩ := h H enc W L m _ _ h0
  obtain ⟨b, o2, r2⟩ := hs H enc W L (cs.drop k) (by simp; omega) (by
    intro i fd' hi
    obtain ⟨m, y, h1⟩ := hf (i + 1) fd' (by simpa using hi)
    have hg := hge fd' (List.mem_of_getElem? hi)
    refine ⟨m, y, ?_⟩
    rw [List.drop_drop, show k + (fd'.offset - (off + k)) = fd'.offset - off by omega]; exact h1)
  refine ⟨(a, b), ⟨o1, o2⟩, ?_⟩
  have := LRel.append r1 r2
  rwa [List.take_append_drop] at this
theorem Opens.struct {P : Program} {t : TypeId} {fs : Array Field} (ht : P.underlying t = some (.struct fs)) (hc : P.cellsOf t = cellsSum P fs.toList) {α : Type} {f : α → List PV} {ok : α → Prop} (h : OpensFs P fs.toList 0 f ok) : Opens P t f ok := by
  intro H enc W L n cs x hx
  obtain ⟨xs, m, _, _, hl, hxl, hf⟩ := DataW.trod_struct ht hx
  refine h H enc W L cs (hl.trans hc) fun i fd hi => ?_
  rw [Array.getElem?_toList] at hi
  have h1 := hf i fd hi
  have hlt := (Array.getElem?_eq_some_iff.1 hi).1
  rw [List.getElem?_eq_getElem (by omega)] at h1
  exact ⟨m, _, h1⟩
theorem Opens.map {P : Program} {t : TypeId} {α β : Type} {f : α → List PV} {ok : α → Prop} (h : Opens P t f ok) (φ : α → β) {g : β → List PV} (hg : ∀ a, f a = g (φ a)) {ok' : β → Prop} (hok : ∀ a, ok a → ok' (φ a)) : Opens P t g ok' := by
  intro H enc W L n cs x hx
  obtain ⟨a, h1, h2⟩ := h H enc W L n cs x hx
  exact ⟨φ a, hok a h1, by rw [← hg]; exact h2⟩
theorem wf_u16 {z : Int} (h : (Lit.int .u16 z).wf = true) : 0 ≤ z ∧ z ≤ 65535 := by
  simp only [Lit.wf, Bool.and_eq_true, decide_eq_true_eq] at h
  exact h
theorem opens_u16 {P : Program} {t : TypeId} (ht : P.underlying t = some (.int .u16)) : Opens P t (fun z : Int => [.s (.int .u16 z)]) (fun z => 0 ≤ z ∧ z ≤ 65535) := by
  intro H enc W L n cs x h
  obtain ⟨z, rfl, _, hw⟩ := DataW.trod_int ht h
  exact ⟨z, wf_u16 hw, .cons _ _ _ _ (.s _ rfl) .nil⟩
end Go.Nac

