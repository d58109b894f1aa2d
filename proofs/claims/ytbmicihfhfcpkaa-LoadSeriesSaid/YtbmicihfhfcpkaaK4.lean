import Derived.Test.YtbmicihfhfcpkaaK3
set_option linter.unusedVariables false
set_option linter.unusedSectionVars false
set_option linter.unusedSimpArgs false
namespace Go.Nac
section
variable {R : CCode → Code → Prop} {M : List Blk} {L : Loc} {w w' : World}
structure Same (w w' : World) : Prop where
  os : w'.os = w.os
  tape : w'.tape = w.tape
  output : w'.output = w.output
theorem BRel.evo {M' : List Blk} {L' : Loc} (E : Evo M L w M' L' w') {j : Nat} {b : Blk} (hL : L' j = L j)
    (hh : ∀ p, L j = some p → w'.heap[p.1]? = w.heap[p.1]?) (h : BRel R M L w j b) : BRel R M' L' w' j b := by
  cases b with
  | row wr k ver xs =>
    obtain ⟨h1, h2, h3⟩ := h
    refine ⟨h1, fun b o hb => ?_, fun hb => h3 (hL ▸ hb)⟩
    rw [hL] at hb
    obtain ⟨c, el, vs, g1, g2, g3⟩ := h2 b o hb
    exact ⟨c, el, vs, (hh _ hb).trans g1, LRel.evo E g2, g3⟩
  | map es =>
    obtain ⟨b, o, ents, clock, h1, h2, h3⟩ := h
    exact ⟨b, o, ents, clock, hL.trans h1, (hh _ h1).trans h2, h3⟩
  | loop st pd ts ps x y =>
    obtain ⟨k, o, r, h1, h2, h3, h4, h5, h6, h7, h8⟩ := h
    exact ⟨k, o, r, hL.trans h1, (hh _ h1).trans h2, h3, h4, h5, LRel.evo E h6, h7, h8⟩
  | siter s pos =>
    obtain ⟨b, o, h1, h2⟩ := h
    exact ⟨b, o, hL.trans h1, (hh _ h1).trans h2⟩
/-- What a block's place is worth: its block lies in the heap. -/
theorem BRel.lt {j : Nat} {b : Blk} (h : BRel R M L w j b) {p : Nat × Nat} (hp : L j = some p) : p.1 < w.heap.size := by
  have key : ∀ {k : Nat} {o : Obj}, w.heap[k]? = some o → k < w.heap.size := fun h => (Array.getElem?_eq_some_iff.1 h).1
  cases b with
  | row => obtain ⟨c, el, vs, g1, _⟩ := h.2.1 p.1 p.2 hp; exact key g1
  | map => obtain ⟨b, o, _, _, h1, h2, _⟩ := h; rw [h1] at hp; cases hp; exact key h2
  | loop => obtain ⟨b, o, _, h1, h2, _⟩ := h; rw [h1] at hp; cases hp; exact key h2
  | siter => obtain ⟨b, o, h1, h2⟩ := h; rw [h1] at hp; cases hp; exact key h2
theorem Owned.lt (S : Sim R M L w) {b : Nat} (h : Owned M L b) : b < w.heap.size := by
  obtain ⟨i, blk, p, h1, h2, h3, rfl⟩ := h
  exact (S.mem i blk h1).lt h3
/-- The heap stands. -/
theorem Evo.heap (hw : Same w w') (hh : w'.heap = w.heap) : Evo M L w M L w' :=
  ⟨hw.os, hw.tape, hw.output, by rw [hh]; exact Nat.le_refl _, fun b _ h => ⟨by rw [hh], h⟩, fun i b h => ⟨b, h, by
    have : BEvo L L w w' i b b := by
      cases b with
      | row => exact ⟨Nat.le_refl _, fun _ => ⟨rfl, rfl, rfl, fun _ _ c _ _ h => ⟨c, by rw [hh]; exact h, rfl⟩⟩⟩
      | map => rfl
      | loop => exact ⟨rfl, rfl, rfl, rfl, rfl⟩
      | siter => rfl
    exact this⟩⟩
theorem Sim.heap (S : Sim R M L w) (hw : Same w w') (hh : w'.heap = w.heap) : Sim R M L w' :=
  ⟨fun i b h => (S.mem i b h).evo (Evo.heap hw hh) rfl fun p _ => by rw [hh], S.inj⟩
def Loc.upd (L : Loc) (i : Nat) (p : Option (Nat × Nat)) : Loc := fun j => if j = i then p else L j
theorem Loc.upd_self (L : Loc) (i : Nat) (p : Option (Nat × Nat)) : L.upd i p i = p := by simp [Loc.upd]
theorem Loc.upd_ne (L : Loc) {i j : Nat} (p : Option (Nat × Nat)) (h : j ≠ i) : L.upd i p j = L j := by simp [Loc.upd, h]
theorem get_push {M : List Blk} {blk b : Blk} {i : Nat} (h : (M ++ [blk])[i]? = some b) : M[i]? = some b ∧ i < M.length ∨ i = M.length ∧ b = blk := by
  rcases Nat.lt_or_ge i M.length with hi | hi
  · rw [List.getElem?_append_left hi] at h; exact .inl ⟨h, hi⟩
  · rw [List.getElem?_append_right hi] at h
    have : i - M.length = 0 := by
      rcases Nat.eq_zero_or_pos (i - M.length) with h0 | h0
      · exact h0
      · rw [List.getElem?_eq_none (by simp; omega)] at h; cases h
    rw [this] at h
    exact .inr ⟨by omega, by simpa using h.symm⟩
/-- A new block. p: where it lies: at the heap's end, or nowhere. -/
theorem push (S : Sim R M L w) (blk : Blk) (o : Option Obj) (hw : Same w w')
    (hh : w'.heap = match o with | some o => w.heap.push o | none => w.heap)
    (hb : ∀ M' L', M' = M ++ [blk] → L' = L.upd M.length (o.map fun _ => (w.heap.size, 0)) → Evo M L w M' L' w' → BRel R M' L' w' M.length blk) :
    Evo M L w (M ++ [blk]) (L.upd M.length (o.map fun _ => (w.heap.size, 0))) w' ∧ Sim R (M ++ [blk]) (L.upd M.length (o.map fun _ => (w.heap.size, 0))) w' := by
  have old : ∀ b, b < w.heap.size → w'.heap[b]? = w.heap[b]? := by
    intro b hlt
    rw [hh]
    cases o with
    | none => rfl
    | some o => simp only; rw [Array.getElem?_push_lt hlt]; exact (Array.getElem?_eq_getElem hlt).symm
  have size : w.heap.size ≤ w'.heap.size := by
    rw [hh]; cases o with
    | none => exact Nat.le_refl _
    | some o => simp
  have E : Evo M L w (M ++ [blk]) (L.upd M.length (o.map fun _ => (w.heap.size, 0))) w' := by
    refine ⟨hw.os, hw.tape, hw.output, size, fun b hlt hno => ⟨old b hlt, ?_⟩, fun i b hi => ?_⟩
    · rintro ⟨i, bl, p, h1, h2, h3, h4⟩
      rcases get_push h1 with ⟨h1, hi⟩ | ⟨rfl, rfl⟩
      · rw [Loc.upd_ne _ _ (by omega)] at h3
        exact hno ⟨i, bl, p, h1, h2, h3, h4⟩
      · rw [Loc.upd_self] at h3
        cases o with
        | none => simp at h3
        | some o => simp at h3; subst h3; simp at h4; omega
    · have hi' : i < M.length := (List.getElem?_eq_some_iff.1 hi).1
      refine ⟨b, by rw [List.getElem?_append_left hi']; exact hi, ?_⟩
      have hL : (L.upd M.length (o.map fun _ => (w.heap.size, 0))) i = L i := Loc.upd_ne _ _ (by omega)
      cases b with
      | row => exact ⟨Nat.le_refl _, fun _ => ⟨rfl, rfl, hL, fun bb oo c el g1 g2 => ⟨c, by rw [old bb (Array.getElem?_eq_some_iff.1 g2).1]; exact g2, rfl⟩⟩⟩
      | map => exact hL
      | loop => exact ⟨hL, rfl, rfl, rfl, rfl⟩
      | siter => exact hL
  refine ⟨E, ⟨fun i b hi => ?_, fun i j bi bj p q hi hj hl hne hp hq => ?_⟩⟩
  · rcases get_push hi with ⟨hi, hlt⟩ | ⟨rfl, rfl⟩
    · exact (S.mem i b hi).evo E (Loc.upd_ne _ _ (by omega)) fun p hp => old _ ((S.mem i b hi).lt hp)
    · exact hb _ _ rfl rfl E
  · rcases get_push hi with ⟨hi', hil⟩ | ⟨ei, eb⟩ <;> rcases get_push hj with ⟨hj', hjl⟩ | ⟨ej, ec⟩
    · rw [Loc.upd_ne _ _ (by omega)] at hp hq
      exact S.inj i j bi bj p q hi' hj' hl hne hp hq
    · subst ej
      rw [Loc.upd_ne _ _ (by omega)] at hp
      rw [Loc.upd_self] at hq
      have := (S.mem i bi hi').lt hp
      cases o with
      | none => simp at hq
      | some o => simp at hq; subst hq; simp; omega
    · subst ei
      rw [Loc.upd_self] at hp
      rw [Loc.upd_ne _ _ (by omega)] at hq
      have := (S.mem j bj hj').lt hq
      cases o with
      | none => simp at hp
      | some o => simp at hp; subst hp; simp; omega
    · exact absurd (ei.trans ej.symm) hne
theorem get_set {M : List Blk} {i j : Nat} {b c : Blk} (hi : i < M.length) (h : (M.set i b)[j]? = some c) : j = i ∧ c = b ∨ j ≠ i ∧ M[j]? = some c := by
  by_cases e : j = i
  · subst e; rw [List.getElem?_set_self hi] at h; exact .inl ⟨rfl, by simpa using h.symm⟩
  · rw [List.getElem?_set_ne (fun h => e h.symm)] at h; exact .inr ⟨e, h⟩
/-- A block is changed, alone: where it lies now is where it lay, or new. -/
theorem change (S : Sim R M L w) {i : Nat} {blk blk' : Blk} (hi : M[i]? = some blk) (L' : Loc) (hL : ∀ j, j ≠ i → L' j = L j) (hw : Same w w')
    (hlive : blk.live = true ∨ blk'.live = false)
    (hsize : w.heap.size ≤ w'.heap.size)
    (hheap : ∀ b, b < w.heap.size → (∀ p, blk.live = true → L i = some p → p.1 ≠ b) → w'.heap[b]? = w.heap[b]?)
    (hplace : ∀ p, L' i = some p → (∃ q, L i = some q ∧ q.1 = p.1) ∨ w.heap.size ≤ p.1)
    (hB : BEvo L L' w w' i blk blk')
    (hb : Evo M L w (M.set i blk') L' w' → BRel R (M.set i blk') L' w' i blk') :
    Evo M L w (M.set i blk') L' w' ∧ Sim R (M.set i blk') L' w' := by
  have hlt : i < M.length := (List.getElem?_eq_some_iff.1 hi).1
  have keep : ∀ j b p, j ≠ i → M[j]? = some b → L j = some p → w'.heap[p.1]? = w.heap[p.1]? := by
    intro j b p hj hb hp
    refine hheap _ ((S.mem j b hb).lt hp) fun q hl hq => ?_
    exact S.inj i j blk b q p hi hb hl (fun h => hj h.symm) hq hp
  have E : Evo M L w (M.set i blk') L' w' := by
    refine ⟨hw.os, hw.tape, hw.output, hsize, fun b hb hno => ⟨hheap b hb fun p hl hp e => hno ⟨i, blk, p, hi, hl, hp, e⟩, ?_⟩, fun j b hj => ?_⟩
    · rintro ⟨j, bl, p, h1, h2, h3, h4⟩
      rcases get_set hlt h1 with ⟨rfl, rfl⟩ | ⟨hne, h1⟩
      · rcases hplace p h3 with ⟨q, hq, e⟩ | hp
        · rcases hlive with hl | hl
          · exact hno ⟨j, blk, q, hi, hl, hq, e.trans h4⟩
          · rw [hl] at h2; cases h2
        · omega
      · rw [hL j hne] at h3; exact hno ⟨j, bl, p, h1, h2, h3, h4⟩
    · by_cases e : j = i
      · subst e
        rw [hi] at hj; cases hj
        exact ⟨blk', List.getElem?_set_self hlt, hB⟩
      · refine ⟨b, by rw [List.getElem?_set_ne (fun h => e h.symm)]; exact hj, ?_⟩
        cases b with
        | row wr k ver xs => exact ⟨Nat.le_refl _, fun _ => ⟨rfl, rfl, hL j e, fun bb oo c el g1 g2 => ⟨c, by rw [keep j _ _ e hj g1]; exact g2, rfl⟩⟩⟩
        | map => exact hL j e
        | loop => exact ⟨hL j e, rfl, rfl, rfl, rfl⟩
        | siter => exact hL j e
  refine ⟨E, ⟨fun j b hj => ?_, fun j l bj bl p q hj hl hlv hne hp hq => ?_⟩⟩
  · rcases get_set hlt hj with ⟨rfl, rfl⟩ | ⟨hne, hj⟩
    · exact hb E
    · exact (S.mem j b hj).evo E (hL j hne) fun p hp => keep j b p hne hj hp
  · rcases get_set hlt hj with ⟨ej, eb⟩ | ⟨hnj, hj'⟩ <;> rcases get_set hlt hl with ⟨el, ec⟩ | ⟨hnl, hl'⟩
    · exact absurd (ej.trans el.symm) hne
    · subst ej; subst eb
      rw [hL l hnl] at hq
      rcases hplace p hp with ⟨p', hp', e⟩ | hp'
      · rw [← e]
        rcases hlive with hv | hv
        · exact S.inj j l blk bl p' q hi hl' hv hne hp' hq
        · rw [hv] at hlv; cases hlv
      · have := (S.mem l bl hl').lt hq; omega
    · subst el; subst ec
      rw [hL j hnj] at hp
      rcases hplace q hq with ⟨q', hq', e⟩ | hq'
      · rw [← e]; exact S.inj j l bj blk p q' hj' hi hlv hne hp hq'
      · have := (S.mem j bj hj').lt hp; omega
    · rw [hL j hnj] at hp; rw [hL l hnl] at hq
      exact S.inj j l bj bl p q hj' hl' hlv hne hp hq
end
end Go.Nac

