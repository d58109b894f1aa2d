import Derived.Test.YtdlngmbgalmdeaaK5e
set_option linter.unusedVariables false
set_option linter.unusedSectionVars false
set_option linter.unusedSimpArgs false
namespace Go.Nac
section
variable {R : CCode → Code → Prop} {P : Program} {M : List Blk} {L : Loc} {w w' : World} {ρ : CX → PV} {σ : Operand → Value}
/-- New memory that the plain reading does not keep. -/
theorem grow (S : Sim R M L w) (o : Obj) (hw : Same w w') (hh : w'.heap = w.heap.push o) : Evo M L w M L w' ∧ Sim R M L w' := by
  have old : ∀ b, b < w.heap.size → w'.heap[b]? = w.heap[b]? := by
    intro b hlt
    rw [hh, Array.getElem?_push_lt hlt]; exact (Array.getElem?_eq_getElem hlt).symm
  have E : Evo M L w M L w' := ⟨hw.os, hw.tape, hw.output, by rw [hh]; simp, fun b hlt hno => ⟨old b hlt, hno⟩, fun i b hi => ⟨b, hi, by
    cases b with
    | row => exact ⟨Nat.le_refl _, fun _ => ⟨rfl, rfl, rfl, fun bb oo c el g1 g2 => ⟨c, by rw [old bb (Array.getElem?_eq_some_iff.1 g2).1]; exact g2, rfl⟩⟩⟩
    | map => exact rfl
    | loop => exact ⟨rfl, rfl, rfl, rfl, rfl⟩⟩⟩
  exact ⟨E, fun i b hi => (S.mem i b hi).evo E rfl fun p hp => old _ ((S.mem i b hi).lt hp), S.inj⟩
theorem cell_push {c : Array Value} {el : TypeId} {m : Nat} {v : Value} (hh : w'.heap = w.heap.push (.cells c el)) (h : c[m]? = some v) : w'.cell? ⟨w.heap.size, m, none⟩ = some v := by
  simp [World.cell?, hh, h]
theorem notOwned_new (S : Sim R M L w) : ¬ Owned M L w.heap.size := fun h => by have := h.lt S; omega
theorem view1_rel (S : Sim R M L w) {p : PV} {c : Value} (h : VRel M L w p c) : VRel M L w (view1 M p) c := by
  unfold view1
  split
  · rename_i i ver off len
    split
    · rename_i k v xs hi
      split
      · rename_i hc
        obtain ⟨rfl, hle⟩ := hc
        obtain ⟨a, cap, rfl, _, hcap, hm⟩ := h.os_live hi
        obtain ⟨hk, h2, h3⟩ := S.mem i _ hi
        have hlen : ((xs.drop off).take len).length = len := by simp; omega
        by_cases hcap0 : cap = 0
        · have : len = 0 := by omega
          subst this
          exact .fs _ _ _ _ k [] (by simp) (by simp) (by simp) (by simp; exact .nil) (by simp)
        · obtain ⟨B, q, cc, el', hL, rfl, hb, hsz⟩ := hm hcap0
          obtain ⟨cc', el'', vs, g1, g2, g3⟩ := h2 B q hL
          rw [hb] at g1; cases g1
          have hr := (g2.drop (off * k)).take (len * k)
          rw [flat_drop hk, flat_take (fun x hx => hk x (List.mem_of_mem_drop hx))] at hr
          refine .fs _ _ _ _ k _ hlen.symm (by rw [hlen]; exact hcap) (fun x hx => hk x (List.mem_of_mem_drop (List.mem_of_mem_take hx))) hr fun hne => ?_
          refine ⟨B, q + off * k, rfl, (Array.getElem?_eq_some_iff.1 hb).1, ?_, fun m u hu => ?_⟩
          · rintro ⟨j, bl, p, h1, h4, h5, h6⟩
            by_cases e : j = i
            · subst e; rw [hi] at h1; cases h1; simp [Blk.live] at h4
            · exact S.inj j i bl _ p (B, q) h1 hi h4 e h5 hL h6
          · rw [List.getElem?_take] at hu
            split at hu
            · rw [List.getElem?_drop] at hu
              have := g3 _ _ hu
              rw [show q + off * k + m = q + (off * k + m) from by omega]
              simp [World.cell?, hb, this]
            · cases hu
      · exact h
    · exact h
  · have := h.s_inv; subst this
    exact .fs [] none 0 0 0 [] rfl (Nat.le_refl _) (by simp) .nil (by simp)
  · exact h
theorem LRel.map_view (S : Sim R M L w) {xs : List PV} {vs : List Value} (h : LRel M L w xs vs) : LRel M L w (xs.map (view1 M)) vs := by
  induction xs generalizing vs with
  | nil => cases h; exact .nil
  | cons x xs ih => cases h with | cons _ v _ vs h hs => exact .cons _ _ _ _ (view1_rel S h) (ih hs)
theorem view_rel (S : Sim R M L w) {p : PV} {c : Value} (h : VRel M L w p c) : VRel M L w (view M p) c := by
  cases p with
  | agg cs =>
    cases h with
    | agg _ vs h => exact .agg _ _ (LRel.map_view S h)
  | _ => exact view1_rel S h
theorem view1_cells {p : PV} (h : ∀ cs, p ≠ .agg cs) : (view1 M p).cells.length = p.cells.length := by
  unfold view1
  split
  · split
    · split <;> rfl
    · rfl
  · rfl
  · rfl
theorem view_eq {p : PV} (h : ∀ cs, p ≠ .agg cs) : view M p = view1 M p := by
  cases p <;> first | rfl | exact absurd rfl (h _)
theorem view_cells {p : PV} : (view M p).cells.length = p.cells.length := by
  by_cases h : ∃ cs, p = .agg cs
  · obtain ⟨cs, rfl⟩ := h; simp [view, PV.cells]
  · have h' : ∀ cs, p ≠ .agg cs := fun cs e => h ⟨cs, e⟩
    rw [view_eq h', view1_cells h']
theorem run_zero {t : TypeId} {v : Value} (h : (P.info? t).bind (·.zero) = some v) : (zeroValue t).run P w = .ok v w := by
  cases hi : P.info? t with
  | none => rw [hi] at h; cases h
  | some i => rw [hi] at h; simp only [Option.bind_some] at h; simp [zeroValue, typeInfo, hi, h]
theorem okZ_spec {t : TypeId} {g : Option Nat} {z : List Value} (h : okZ P t g z = true) : ∃ v, (P.info? t).bind (·.zero) = some v ∧ v.cells.toList = z ∧ (∀ u ∈ z, aggV u = false) ∧
    (∀ k, g = some k → z.length = k) ∧ (g = none → z.length = 1) := by
  unfold okZ at h
  cases hz : (P.info? t).bind (·.zero) with
  | none => rw [hz] at h; cases h
  | some v =>
    rw [hz] at h
    cases g with
    | none =>
      obtain ⟨h1, h2⟩ := okVs_eq h
      subst h1
      refine ⟨v, rfl, ?_, h2, (fun k' hk' => by cases hk'), fun _ => rfl⟩
      have := h2 v (by simp)
      cases v <;> first | rfl | (simp [aggV] at this)
    | some k =>
      cases v <;> first
        | (cases h; done)
        | (simp only [Bool.and_eq_true, beq_iff_eq] at h
           obtain ⟨h1, h2⟩ := okVs_eq h.1
           exact ⟨_, rfl, h1.symm, h2, (fun k' hk' => by cases hk'; exact h.2), (fun hk' => by cases hk')⟩)
theorem mkPV_cells {g : Option Nat} {cs : List PV} {p : PV} (h : mkPV g cs = some p) (hs : ∀ c ∈ cs, ∃ v, c = .s v) : p.cells = cs := by
  cases g with
  | none =>
    match cs, h with
    | [c], h =>
      obtain rfl := Option.some.inj h
      obtain ⟨v, hv⟩ := hs c (by simp)
      subst hv; rfl
  | some k =>
    simp only [mkPV] at h
    split at h
    · obtain rfl := Option.some.inj h; rfl
    · cases h
theorem g_alloc (S : Sim R M L w) {o : Oper} {g : Option Nat} {z : List Value} {t : TypeId} (ho : o.op = .alloc t) (hz : okZ P t g z = true)
    {v : PV} {M' : List Blk} (h : res M ρ (.alloc g z) = some (v, M')) : Good R P (execOp σ o) M L w v M' := by
  obtain ⟨zv, h1, h2, h3, h4, h5⟩ := okZ_spec hz
  simp only [res] at h
  cases hm : mkPV g (z.map .s) with
  | none => rw [hm] at h; cases h
  | some e =>
    rw [hm] at h
    simp only [Option.map_some, Option.some.injEq, Prod.mk.injEq] at h
    obtain ⟨rfl, rfl⟩ := h
    have hc : e.cells = z.map .s := mkPV_cells hm (by simp)
    have hrun : (execOp σ o).run P w = .ok (.value (.pointer (some ⟨w.heap.size, 0, none⟩))) { w with heap := w.heap.push (.cells zv.cells t) } := by
      simp [execOp, ho, Instr.alloc, run_zero h1, newVar, newRow]
      try rfl
    obtain ⟨E, S'⟩ := push S (.row true z.length 0 [e]) (some (.cells zv.cells t)) (w' := { w with heap := w.heap.push (.cells zv.cells t) }) ⟨rfl, rfl, rfl⟩ rfl (by
      rintro _ _ rfl rfl E
      refine ⟨by simp [hc], fun b q hL => ?_, fun hL => by simp [Loc.upd_self] at hL⟩
      simp only [Loc.upd_self, Option.map_some, Option.some.injEq, Prod.mk.injEq] at hL
      obtain ⟨rfl, rfl⟩ := hL
      refine ⟨zv.cells, t, z, by simp, ?_, fun m u hu => by rw [Nat.zero_add]; rw [← h2] at hu; simpa using hu⟩
      simp only [List.flatMap_cons, List.flatMap_nil, List.append_nil, hc]
      exact LRel.map_s z h3)
    refine ⟨_, _, _, .inl hrun, E, S', ?_⟩
    have := VRel.op (M := M ++ [.row true z.length 0 [e]]) (L := L.upd M.length (some (w.heap.size, 0))) (w := { w with heap := w.heap.push (.cells zv.cells t) }) M.length 0 0 0 true z.length [e] w.heap.size 0 (by simp) (by simp) (by simp [Loc.upd_self])
    simpa using this
theorem g_onil (S : Sim R M L w) {o : Oper} {k : Nat} {y : Operand} (ho : o.op = .move y ∨ o.op = .assign y) (hy : y = .const (.slice none 0 0)) (hσ : ∀ v, σ (.const v) = v)
    {v : PV} {M' : List Blk} (h : res M ρ (.onil k) = some (v, M')) : Good R P (execOp σ o) M L w v M' := by
  simp only [res, Option.some.injEq, Prod.mk.injEq] at h
  obtain ⟨rfl, rfl⟩ := h
  obtain ⟨E, S'⟩ := push S (.row true k 0 []) none (w' := w) ⟨rfl, rfl, rfl⟩ rfl (by
    rintro _ _ rfl rfl E
    exact ⟨by simp, fun b q hL => by simp [Loc.upd_self] at hL, fun _ => rfl⟩)
  subst hy
  refine ⟨.slice none 0 0, w, _, .inl ?_, E, S', ?_⟩
  · rcases ho with ho | ho <;> simp [execOp, ho, hσ]
  · exact .os M.length 0 0 0 true k [] none 0 (by simp) (by simp) (Nat.le_refl _) (by simp)
theorem foldl_set (off : Nat) : ∀ (l : List Value) (n : Nat) (cells : Array Value), off + n + l.length ≤ cells.size →
    ((l.zipIdx n).foldl (fun cs (x : Value × Nat) => cs.setIfInBounds (off + x.2) x.1) cells).toList = cells.toList.take (off + n) ++ l ++ cells.toList.drop (off + n + l.length)
  | [], n, cells, _ => by simp
  | v :: l, n, cells, h => by
    simp only [List.length_cons] at h
    rw [List.zipIdx_cons, List.foldl_cons, foldl_set off l (n + 1) _ (by simp; omega)]
    simp only [Array.toList_setIfInBounds, List.length_cons]
    have hlt : off + n < cells.toList.length := by simp; omega
    generalize cells.toList = C at hlt
    have h1 : (C.set (off + n) v).take (off + (n + 1)) = C.take (off + n) ++ [v] := by
      rw [show off + (n + 1) = off + n + 1 from by omega, List.take_succ_eq_append_getElem (by simpa using hlt), List.take_set, List.set_eq_of_length_le (by simp; omega)]
      simp
    have h2 : (C.set (off + n) v).drop (off + (n + 1) + l.length) = C.drop (off + n + (l.length + 1)) := by
      rw [List.drop_set_of_lt (by omega)]
      congr 1; omega
    rw [h1, h2]
    simp
def setRangeV (cs : List Value) (off : Nat) (vs : List Value) : List Value := cs.take off ++ vs ++ cs.drop (off + vs.length)
theorem LRel.setRange {cs vs : List PV} {C V : List Value} (h : LRel M L w cs C) (k : LRel M L w vs V) (off : Nat) : LRel M L w (setRange cs off vs) (setRangeV C off V) := by
  unfold Nac.setRange setRangeV
  rw [k.length]
  exact ((h.take off).append k).append (h.drop _)
theorem fill_rel {place : Nat → Option (Nat × Nat)} : ∀ {ap : List (Nat × Nat × PV)} {cp : List (Nat × Value)} {cs cs' : List PV} {C : Array Value}, fillParts cs ap = some cs' → LRel M L w cs C.toList →
    ap.length = cp.length → (∀ (j : Nat) a c, ap[j]? = some a → cp[j]? = some c → place c.1 = some (a.1, a.2.1) ∧ VRel M L w a.2.2 c.2) → ∃ C', Instr.fill place C cp = some C' ∧ LRel M L w cs' C'.toList
  | [], [], cs, cs', C, h, hr, _, _ => by
    simp only [fillParts, Option.some.injEq] at h
    subst h
    exact ⟨C, rfl, hr⟩
  | (off, size, p) :: ap, (i, v) :: cp, cs, cs', C, h, hr, hl, hp => by
    simp only [fillParts] at h
    split at h
    · rename_i hc
      obtain ⟨h1, h2, h3⟩ := hc
      obtain ⟨g1, g2⟩ := hp 0 _ _ rfl rfl
      have hv := g2.cells (by intro e; rw [e] at h1; simp at h1; omega)
      have hvs : v.cells.size = size := by have := hv.length; simp at this; omega
      have hcl : cs.length = C.size := by have := hr.length; simpa using this
      have hset := foldl_set off v.cells.toList 0 C (by simp; omega)
      have hC : LRel M L w (setRange cs off p.cells) ((v.cells.toList.zipIdx 0).foldl (fun cs (x : Value × Nat) => cs.setIfInBounds (off + x.2) x.1) C).toList := by
        rw [hset]
        exact hr.setRange hv off
      obtain ⟨C', k1, k2⟩ := fill_rel h hC (by simpa using hl) fun j a c ha hc => hp (j + 1) a c (by simpa using ha) (by simpa using hc)
      refine ⟨C', ?_, k2⟩
      simp only [Instr.fill]
      simp only at g1
      rw [g1]
      simp only []
      rw [if_neg (by simp [hvs]; omega), ← k1]
      congr 1
      rw [← Array.foldl_toList, Array.toList_zipIdx]
    · cases h
  | [], _ :: _, _, _, _, _, _, hl, _ => by simp at hl
  | _ :: _, [], _, _, _, _, _, hl, _ => by simp at hl
end
end Go.Nac

