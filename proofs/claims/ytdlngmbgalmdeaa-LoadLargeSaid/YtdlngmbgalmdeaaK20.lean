import Derived.Test.YtdlngmbgalmdeaaK17
import Derived.Test.YtdlngmbgalmdeaaK13
import Derived.OpenShut
import Derived.ChangeArms
import Derived.Below
import Derived.Carry
import Derived.ChangeShapes
set_option linter.unusedVariables false
set_option linter.unusedSectionVars false
namespace Go.Nac
/-- What a type's cells read as: the plain values of one a that is ok. -/
def Opens (P : Program) (t : TypeId) {α : Type} (f : α → List PV) (ok : α → Prop) : Prop :=
  ∀ (H : Type) (enc : TypeId × Value → H) (W : World) (L : Loc) (n : Nat) (cs : List Value) (x : DataW H × List MemPlace),
    DataW.trod enc P W 0 (fun _ => true) true n t cs = some x → ∃ a, ok a ∧ LRel [] L W (f a) cs
theorem wf_i64 {z : Int} (h : (Lit.int .i64 z).wf = true) : -9223372036854775808 ≤ z ∧ z ≤ 9223372036854775807 := bounds_i64 h
theorem opens_int {P : Program} {t : TypeId} (ht : P.underlying t = some (.int .i64)) : Opens P t (fun z : Int => [.I z]) (fun z => -9223372036854775808 ≤ z ∧ z ≤ 9223372036854775807) := by
  intro H enc W L n cs x h
  obtain ⟨z, rfl, _, hw⟩ := DataW.trod_int ht h
  exact ⟨z, wf_i64 hw, .cons _ _ _ _ (.s _ rfl) .nil⟩
theorem lrel_of {M : List Blk} {L : Loc} {w : World} {α : Type} (f : α → List PV) {k : Nat} (hf : ∀ a, (f a).length = k) (g : Nat → List Value) :
    ∀ (l : List α) (o : Nat), (∀ i a, l[i]? = some a → LRel M L w (f a) (g (o + i))) → LRel M L w (l.flatMap f) ((List.range l.length).flatMap fun i => g (o + i))
  | [], _, _ => .nil
  | a :: l, o, h => by
    rw [List.flatMap_cons, List.length_cons, List.range_succ_eq_map, List.flatMap_cons, List.flatMap_map]
    refine LRel.append (by simpa using h 0 a rfl) ?_
    have := lrel_of f hf g l (o + 1) fun i b hb => by
      have := h (i + 1) b (by simpa using hb)
      rwa [show o + (i + 1) = o + 1 + i by omega] at this
    have e : (fun i => g (o + 1 + i)) = fun i => g (o + (i + 1)) := by funext i; congr 1; omega
    rw [e] at this
    exact this
theorem flat_get {g : Nat → List Value} {k n : Nat} (hk : 0 < k) (hg : ∀ i, i < n → (g i).length = k) {m : Nat} {v : Value} (h : ((List.range n).flatMap g)[m]? = some v) :
    ∃ i j, i < n ∧ j < k ∧ m = i * k + j ∧ (g i)[j]? = some v := by
  induction n with
  | zero => simp at h
  | succ n ih =>
    have hl : ((List.range n).flatMap g).length = n * k := by
      clear ih h
      have hg' : ∀ i, i < n → (g i).length = k := fun i hi => hg i (by omega)
      clear hg
      induction n with
      | zero => simp
      | succ n ih =>
        rw [List.range_succ, List.flatMap_append, List.length_append, ih fun i hi => hg' i (by omega)]
        simp [hg' n (by omega), Nat.succ_mul]
    rw [List.range_succ, List.flatMap_append] at h
    by_cases hm : m < n * k
    · rw [List.getElem?_append_left (by omega)] at h
      obtain ⟨i, j, h1, h2, h3, h4⟩ := ih (fun i hi => hg i (by omega)) h
      exact ⟨i, j, by omega, h2, h3, h4⟩
    · rw [List.getElem?_append_right (by omega), hl] at h
      simp only [List.flatMap_cons, List.flatMap_nil, List.append_nil] at h
      have := (List.getElem?_eq_some_iff.1 h).1
      rw [hg n (by omega)] at this
      exact ⟨n, m - n * k, by omega, this, by omega, h⟩
theorem mapM_get {α β : Type} {f : α → Option β} : ∀ {l : List α} {r : List β}, l.mapM f = some r → r.length = l.length ∧ ∀ (i : Nat) (a : α), l[i]? = some a → f a = r[i]?
  | l, r, h => ⟨by simpa using mapM_some_length h, fun i a hi => mapM_some_get h i a hi⟩
theorem opens_slice {P : Program} {t e : TypeId} (ht : P.underlying t = some (.slice e)) {k : Nat} (he : P.cellsOf e = k) (hk : 0 < k) {α : Type} {f : α → List PV} {ok : α → Prop}
    (g : α → PV) (hg : ∀ a, (g a).cells = f a) (hf : ∀ a, (f a).length = k) (h : Opens P e f ok) : Opens P t (fun l : List α => [.fs (l.map g)]) (fun l => ∀ a ∈ l, ok a) := by
  intro H enc W L n cs x hx
  have hcells : ∀ l : List α, ∀ x ∈ l.map g, x.cells.length = k := by
    intro l x hx
    obtain ⟨a, _, rfl⟩ := List.mem_map.1 hx
    rw [hg, hf]
  rcases DataW.trod_slice ht hx with ⟨rfl, _⟩ | ⟨a, len, cap, elems, rest, m, _, rfl, _, hb, hl, hm, hlen, hel, _, _⟩
  · exact ⟨[], by simp, .cons _ _ _ _ (.fs _ _ _ _ k [] rfl (by simp) (by simp) .nil (by simp)) .nil⟩
  · have each : ∀ i, i < len → ∃ cs', W.cells? 0 (a.add (i * k)) k = some cs' ∧ ∃ b, ok b ∧ LRel [] L W (f b) cs' := by
      intro i hi
      have h1 := hel i hi
      rw [he, List.getElem?_eq_getElem (by omega), Option.bind_eq_some_iff] at h1
      obtain ⟨cs', h2, h3⟩ := h1
      exact ⟨cs', h2, h H enc W L _ _ _ h3⟩
    let G : Nat → List Value := fun i => (W.cells? 0 (a.add (i * k)) k).getD []
    have pick : ∀ i, i < len → ∃ b, ok b ∧ LRel [] L W (f b) (G i) := by
      intro i hi
      obtain ⟨cs', h1, h2⟩ := each i hi
      show ∃ b, ok b ∧ LRel [] L W (f b) ((W.cells? 0 (a.add (i * k)) k).getD [])
      rw [h1]; exact h2
    have choose : ∀ n, n ≤ len → ∃ l : List α, l.length = n ∧ (∀ b ∈ l, ok b) ∧ ∀ i b, l[i]? = some b → LRel [] L W (f b) (G i) := by
      intro n hn
      induction n with
      | zero => exact ⟨[], rfl, by simp, by simp⟩
      | succ n ih =>
        obtain ⟨l, h1, h2, h3⟩ := ih (by omega)
        obtain ⟨b, h4, h5⟩ := pick n (by omega)
        refine ⟨l ++ [b], by simp [h1], ?_, ?_⟩
        · intro c hc
          rcases List.mem_append.1 hc with hc | hc
          · exact h2 c hc
          · rw [List.mem_singleton.1 hc]; exact h4
        · intro i c hc
          by_cases hi : i < l.length
          · rw [List.getElem?_append_left hi] at hc; exact h3 i c hc
          · have : i = n := by have := (List.getElem?_eq_some_iff.1 hc).1; simp at this; omega
            subst this
            rw [List.getElem?_append_right (by omega), h1, Nat.sub_self] at hc
            simp at hc; subst hc; exact h5
    obtain ⟨l, hl1, hl2, hl3⟩ := choose len (Nat.le_refl _)
    have hG : ∀ i, i < len → (G i).length = k := by
      intro i hi
      obtain ⟨b, _, hb⟩ := pick i hi
      rw [← hb.length, hf]
    refine ⟨l, hl2, .cons _ _ _ _ (.fs _ _ _ _ k ((List.range l.length).flatMap G) (by simp [hl1]) (by simp; omega) (hcells l) ?_ ?_) .nil⟩
    · have e : (l.map g).flatMap PV.cells = l.flatMap f := by
        rw [List.flatMap_map]; simp only [hg]
      rw [e]
      have := lrel_of (M := []) (L := L) (w := W) f hf G l 0 (fun i b hb => by simpa using hl3 i b hb)
      simpa using this
    · intro hne
      have h0 : 0 < len := by
        rw [← hl1]
        cases l with
        | nil => simp at hne
        | cons => simp
      have cell : ∀ i j v, i < len → j < k → (G i)[j]? = some v → W.cell? ((a.add (i * k)).add j) = some v := by
        intro i j v hi hj hv
        obtain ⟨cs', h1, _⟩ := each i hi
        have hGi : G i = cs' := by show (W.cells? 0 (a.add (i * k)) k).getD [] = cs'; rw [h1]; rfl
        rw [hGi] at hv
        unfold World.cells? at h1
        split at h1
        · have := (mapM_get h1).2 j j (by simp [hj])
          rw [this, hv]
        · cases h1
      obtain ⟨v0, hv0⟩ : ∃ v, (G 0)[0]? = some v := ⟨_, List.getElem?_eq_getElem (by rw [hG 0 h0]; exact hk)⟩
      have hc0 := cell 0 0 v0 h0 hk hv0
      simp only [Nat.zero_mul, Addr.add, if_true] at hc0
      have hsp : a.spot = none := by
        unfold World.cell? at hc0
        split at hc0
        · split at hc0
          · cases hc0
          · rename_i hs; simpa using hs
        · cases hc0
      have hblk : a.block < W.heap.size := World.block_lt_of_cell? W a hc0
      obtain ⟨ab, ao, as⟩ := a
      simp only at hsp
      subst hsp
      refine ⟨ab, ao, rfl, hblk, fun ⟨i, b, p, hi, _⟩ => by simp at hi, fun m v hmv => ?_⟩
      rw [hl1] at hmv
      obtain ⟨i, j, h1, h2, rfl, h3⟩ := flat_get hk hG hmv
      have := cell i j v h1 h2 h3
      have e : (Addr.add (Addr.add ⟨ab, ao, none⟩ (i * k)) j) = ⟨ab, ao + (i * k + j), none⟩ := by
        unfold Addr.add
        split <;> split <;> simp_all <;> omega
      rw [← e]; exact this
/-- One argument, opened. -/
theorem Opens.arg {P : Program} {t : TypeId} {α : Type} {f : α → List PV} {ok : α → Prop} (h : Opens P t f ok) (g : α → PV) (hg : ∀ a, f a = [g a]) {H : Type} {enc : TypeId × Value → H} {W : World} {v : Value} {d : DataW H} {ps : List MemPlace}
    (hv : v.cells.toList = [v]) (ht : DataW.Trod enc P W 0 (fun _ => true) true t v d ps) (L : Loc) : ∃ a, ok a ∧ VRel [] L W (g a) v := by
  obtain ⟨n, hn⟩ := ht
  obtain ⟨a, h1, h2⟩ := h H enc W L n _ _ hn
  rw [hg, hv] at h2
  cases h2 with | cons _ _ _ _ h3 _ => exact ⟨a, h1, h3⟩
open Go.RowKit in
/-- A law's call from its contract: it says true, and what was there before is as it was. -/
theorem law_calls {P : Program} (hmix : P.follows .mixedOrders = true) {F : Prog} (hF : ∀ f cf, F f = some cf → okFn P f cf = true) {f : FuncId} {args : List PV} (h : ∀ M, ACall F (fun _ _ _ => False) (.fn f) args M (.B true) M)
    {W : World} {cargs : Array Value} (A : LRel [] (fun _ => none) W args cargs.toList) : Calls P f cargs W fun e W' => e = .returned (.bool true) ∧ Below W.heap.size W W' := by
  refine (ACall_sound hmix hF (fun _ _ _ h => h.elim) (h []) (L := fun _ => none) ⟨fun i b hi => by simp at hi, fun i j bi bj p q hi => by simp at hi⟩ A).mono fun e W' he => ?_
  cases e with
  | returned v =>
    obtain ⟨L', E, S, R⟩ := he
    refine ⟨?_, E.os, E.tape, E.output, E.size, fun k hk => (E.frame k hk fun ⟨i, b, p, hi, _⟩ => by simp at hi).1⟩
    cases R with
    | s _ _ => rfl
  | _ => exact he.elim
end Go.Nac

