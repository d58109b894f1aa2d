import Derived.Test.YtdlngmbgalmdeaaK5c
import Derived.Laws.Rows
set_option linter.unusedVariables false
set_option linter.unusedSectionVars false
set_option linter.unusedSimpArgs false
namespace Go.Nac
theorem flat_drop {k : Nat} {xs : List PV} (hk : ∀ x ∈ xs, x.cells.length = k) (e : Nat) : (xs.flatMap PV.cells).drop (e * k) = (xs.drop e).flatMap PV.cells := by
  induction e generalizing xs with
  | zero => simp
  | succ e ih =>
    cases xs with
    | nil => simp
    | cons x xs =>
      have h1 : x.cells.length = k := hk x (by simp)
      rw [List.flatMap_cons, Nat.add_mul, Nat.one_mul, Nat.add_comm (e * k) k, ← h1, ← List.drop_drop, List.drop_left, h1]
      exact ih fun y hy => hk y (by simp [hy])
theorem flat_length {k : Nat} {xs : List PV} (hk : ∀ x ∈ xs, x.cells.length = k) : (xs.flatMap PV.cells).length = xs.length * k := by
  induction xs with
  | nil => simp
  | cons x xs ih =>
    rw [List.flatMap_cons, List.length_append, hk x (by simp), ih fun y hy => hk y (by simp [hy]), List.length_cons, Nat.add_mul]
    omega
theorem flat_take {k : Nat} {xs : List PV} (hk : ∀ x ∈ xs, x.cells.length = k) (e : Nat) : (xs.flatMap PV.cells).take (e * k) = (xs.take e).flatMap PV.cells := by
  induction e generalizing xs with
  | zero => simp
  | succ e ih =>
    cases xs with
    | nil => simp
    | cons x xs =>
      have h1 : x.cells.length = k := hk x (by simp)
      rw [List.flatMap_cons, Nat.add_mul, Nat.one_mul, Nat.add_comm (e * k) k, ← h1, List.take_length_add_append, h1, ih fun y hy => hk y (by simp [hy])]
      rfl
theorem add_none (b o j : Nat) : (⟨b, o, none⟩ : Addr).add j = ⟨b, o + j, none⟩ := by unfold Addr.add; split <;> simp_all
section
variable {R : CCode → Code → Prop} {P : Program} {M : List Blk} {L : Loc} {w : World} {ρ : CX → PV} {σ : Operand → Value}
theorem run_loadVar' {t : TypeId} {b : Bool} {B o : Nat} {vs : List Value} (ha : aggT P t = some b) (hs : tySize P t = some vs.length) (h1 : b = false → vs.length = 1)
    (hc : ∀ m v, vs[m]? = some v → w.cell? ⟨B, o + m, none⟩ = some v) : (loadVar t ⟨B, o, none⟩).run P w = .ok (valOf b vs) w := by
  cases b with
  | true =>
    have hl := run_loadCells_list (P := P) w ⟨B, o, none⟩ vs (fun j v hv => by rw [add_none]; exact hc j v hv)
    simp only [loadVar, Sem.run_bind, run_isAgg ha, Result.andThen_ok, if_true, run_sizeOf' hs, hl, Sem.run_pure, valOf]
  | false =>
    have hl := h1 rfl
    match vs, hl with
    | [v], _ =>
      have := hc 0 v rfl
      simp only [Nat.add_zero] at this
      simp only [loadVar, Sem.run_bind, run_isAgg ha, Result.andThen_ok, Bool.false_eq_true, if_false, valOf, List.headD_cons]
      rw [run_load]
      simp [this]
/-- The cells of a row, as they lie. -/
theorem row_cells (S : Sim R M L w) {i k ver b o : Nat} {wr : Bool} {xs : List PV} (hi : M[i]? = some (.row wr k ver xs)) (hL : L i = some (b, o)) :
    (∀ x ∈ xs, x.cells.length = k) ∧ ∃ c el vs, w.heap[b]? = some (.cells c el (0, 0)) ∧ LRel M L w (xs.flatMap PV.cells) vs ∧ (∀ m v, vs[m]? = some v → c[o + m]? = some v) ∧
      ∀ m v, vs[m]? = some v → w.cell? ⟨b, o + m, none⟩ = some v := by
  obtain ⟨h1, h2, _⟩ := S.mem i _ hi
  obtain ⟨c, el, vs, g1, g2, g3⟩ := h2 b o hL
  exact ⟨h1, c, el, vs, g1, g2, g3, fun m v hv => by simp [World.cell?, g1, g3 m v hv]⟩
theorem cellsAt_spec {i ver e j n : Nat} {cs : List PV} (h : cellsAt M i ver e j n = some cs) : ∃ wr k xs, M[i]? = some (.row wr k ver xs) ∧ e < xs.length ∧
    cs = (((xs.drop e).flatMap PV.cells).drop j).take n ∧ j + n ≤ ((xs.drop e).flatMap PV.cells).length := by
  unfold cellsAt at h
  split at h
  · rename_i wr k v xs hi
    split at h
    · rename_i hv; subst hv
      split at h
      · rename_i x hx
        obtain ⟨he, hx'⟩ := List.getElem?_eq_some_iff.1 hx
        have hd : (xs.drop e).flatMap PV.cells = x.cells ++ (xs.drop (e + 1)).flatMap PV.cells := by
          rw [List.drop_eq_getElem_cons he, List.flatMap_cons, hx']
        refine ⟨wr, k, xs, hi, he, ?_⟩
        split at h
        · rename_i hle
          obtain rfl := Option.some.inj h
          refine ⟨?_, by rw [hd, List.length_append]; omega⟩
          rw [hd, List.drop_append_of_le_length (by omega), List.take_append_of_le_length (by simp; omega)]
        · split at h
          · rename_i hle
            exact ⟨(Option.some.inj h).symm, hle⟩
          · cases h
      · cases h
    · cases h
  · cases h
theorem VRel.os_live {i ver off len : Nat} {c : Value} (h : VRel M L w (.os i ver off len) c) {wr : Bool} {k : Nat} {xs : List PV} (hi : M[i]? = some (.row wr k ver xs)) :
    ∃ a cap, c = .slice a len cap ∧ off + len ≤ xs.length ∧ len ≤ cap ∧ (cap ≠ 0 → ∃ b o c el, L i = some (b, o) ∧ a = some ⟨b, o + off * k, none⟩ ∧ w.heap[b]? = some (.cells c el (0, 0)) ∧ o + (off + cap) * k ≤ c.size) := by
  cases h with
  | os _ _ _ _ wr' k' xs' a cap hi' hx hc hm =>
    rw [hi] at hi'; cases hi'
    exact ⟨a, cap, rfl, hx, hc, hm⟩
  | os' _ _ _ _ wr' k' v' xs' a cap hi' hv => rw [hi] at hi'; cases hi'; omega
theorem VRel.op_live {i ver e j : Nat} {c : Value} (h : VRel M L w (.op i ver e j) c) {wr : Bool} {k : Nat} {xs : List PV} (hi : M[i]? = some (.row wr k ver xs)) :
    ∃ b o, L i = some (b, o) ∧ e < xs.length ∧ c = .pointer (some ⟨b, o + e * k + j, none⟩) := by
  cases h with
  | op _ _ _ _ wr' k' xs' b o hi' he hL => rw [hi] at hi'; cases hi'; exact ⟨b, o, hL, he, rfl⟩
  | op' _ _ _ _ wr' k' v' xs' a hi' hv => rw [hi] at hi'; cases hi'; omega
/-- What a pointer leads to. -/
theorem load_rel (S : Sim R M L w) {t : TypeId} {g : Option Nat} {p v : PV} {c : Value} (hp : VRel M L w p c) (ht : okG P t g = true)
    (h : loadPV M g p = some v) : ∃ cv, (Instr.loadAt t c).run P w = .ok cv w ∧ VRel M L w v cv := by
  obtain ⟨b, ha, hs, hb, hb1⟩ := okG_spec ht
  have one : b = false → g.getD 1 = 1 := fun h => by rw [hb1 h]; rfl
  cases p with
  | fp cs =>
    simp only [loadPV] at h
    cases hp with
    | fp _ B o vs hr hlt hno hc =>
      have hr' := hr.take (g.getD 1)
      have hl : (vs.take (g.getD 1)).length = g.getD 1 := by rw [← hr'.length]; exact mkPV_length h
      refine ⟨valOf b (vs.take (g.getD 1)), ?_, mkPV_rel h hb hr'⟩
      simp only [Instr.loadAt, Instr.sureAddr, Sem.run_bind, Sem.run_pure, Result.andThen_ok]
      refine run_loadVar' ha (by rw [hl]; exact hs) (fun h => by rw [hl]; exact one h) fun m u hu => hc m u ?_
      rw [List.getElem?_take] at hu
      split at hu
      · exact hu
      · cases hu
  | op i ver e j =>
    simp only [loadPV] at h
    cases hc : cellsAt M i ver e j (g.getD 1) with
    | none => rw [hc] at h; cases h
    | some cs =>
      rw [hc] at h
      simp only [Option.bind_some] at h
      obtain ⟨wr, k, xs, hi, he, hcs, hle⟩ := cellsAt_spec hc
      obtain ⟨B, o, hL, _, rfl⟩ := hp.op_live hi
      obtain ⟨hk, ca, el, vs, g1, g2, g3, g4⟩ := row_cells S hi hL
      have hr : LRel M L w cs ((vs.drop (e * k + j)).take (g.getD 1)) := by
        have := (g2.drop (e * k + j)).take (g.getD 1)
        rw [← List.drop_drop, flat_drop hk, ← hcs] at this
        exact this
      have hl : ((vs.drop (e * k + j)).take (g.getD 1)).length = g.getD 1 := by rw [← hr.length]; exact mkPV_length h
      refine ⟨valOf b ((vs.drop (e * k + j)).take (g.getD 1)), ?_, mkPV_rel h hb hr⟩
      simp only [Instr.loadAt, Instr.sureAddr, Sem.run_bind, Sem.run_pure, Result.andThen_ok]
      refine run_loadVar' ha (by rw [hl]; exact hs) (fun h => by rw [hl]; exact one h) fun m u hu => ?_
      rw [List.getElem?_take] at hu
      split at hu
      · rw [List.getElem?_drop] at hu
        have := g4 _ _ hu
        rw [show o + e * k + j + m = o + (e * k + j + m) from by omega]
        exact this
      · cases hu
  | _ => simp [loadPV] at h
theorem g_load (S : Sim R M L w) (H : Fit M L w ρ σ) {o : Oper} {g : Option Nat} {t : TypeId} {x : CX} {x' : Operand} (ho : o.op = .load t x') (hx : okX x x' = true) (ht : okG P t g = true)
    {v : PV} {M' : List Blk} (h : res M ρ (.load g x) = some (v, M')) : Good R P (execOp σ o) M L w v M' := by
  simp only [res] at h
  cases hq : loadPV M g (ρ x) with
  | none => rw [hq] at h; cases h
  | some q =>
    rw [hq] at h
    simp only [Option.map_some, Option.some.injEq, Prod.mk.injEq] at h
    obtain ⟨rfl, rfl⟩ := h
    obtain ⟨cv, h1, h2⟩ := load_rel S (H x x' hx) ht hq
    exact good_pure S (by simp [execOp, ho, h1]) h2
theorem liveRow_spec {i ver : Nat} (h : liveRow M i ver = true) : ∃ wr k xs, M[i]? = some (.row wr k ver xs) := by
  unfold liveRow at h
  split at h
  · rename_i wr k v xs hi
    simp only [beq_iff_eq] at h
    subst h
    exact ⟨wr, k, xs, hi⟩
  · cases h
theorem g_nilc (S : Sim R M L w) (H : Fit M L w ρ σ) {o : Oper} {x : CX} {x' : Operand} (ho : o.op = .nilCheck x') (hx : okX x x' = true)
    {v : PV} {M' : List Blk} (h : res M ρ (.nilc x) = some (v, M')) : Good R P (execOp σ o) M L w v M' := by
  have k1 := H x x' hx
  simp only [res] at h
  split at h
  · rename_i cs e1
    simp only [Option.some.injEq, Prod.mk.injEq] at h
    obtain ⟨rfl, rfl⟩ := h
    rw [e1] at k1
    generalize hc : σ x' = c at k1
    have k2 := k1
    cases k1 with
    | fp => exact good_pure S (by simp [execOp, ho, hc]) k2
  · rename_i i ver e j e1
    split at h
    · rename_i hl
      obtain ⟨wr, k, xs, hi⟩ := liveRow_spec hl
      simp only [Option.some.injEq, Prod.mk.injEq] at h
      obtain ⟨rfl, rfl⟩ := h
      rw [e1] at k1
      generalize hc : σ x' = c at k1
      have k2 := k1
      obtain ⟨b, q, _, _, rfl⟩ := k1.op_live hi
      exact good_pure S (by simp [execOp, ho, hc]) k2
    · cases h
  · rename_i f a b e1
    simp only [Option.some.injEq, Prod.mk.injEq] at h
    obtain ⟨rfl, rfl⟩ := h
    rw [e1] at k1
    generalize hc : σ x' = c at k1
    have k2 := k1
    cases k1 with
    | fn => exact good_pure S (by simp [execOp, ho, hc]) k2
  · cases h
theorem g_faddr (S : Sim R M L w) (H : Fit M L w ρ σ) {o : Oper} {off f : Nat} {s : TypeId} {x : CX} {x' : Operand} (ho : o.op = .fieldAddr s x' f) (hx : okX x x' = true)
    {fs : Array Field} {fd : Field} {n : Nat} (hs : P.underlying s = some (.struct fs)) (hf : fs[f]? = some fd) (hoff : fd.offset = off) (hn : tySize P fd.type = some n) (hn0 : n ≠ 0)
    {v : PV} {M' : List Blk} (h : res M ρ (.faddr off x) = some (v, M')) : Good R P (execOp σ o) M L w v M' := by
  have k1 := H x x' hx
  have run : ∀ B q, (Instr.fieldAt s (.pointer (some ⟨B, q, none⟩)) f).run P w = .ok (.pointer (some ⟨B, q + off, none⟩)) w := by
    intro B q
    simp [Instr.fieldAt, run_underlying hs, hf, Instr.sureAddr, fieldPlace, run_sizeOf' hn, hn0, hoff, add_none]
  simp only [res] at h
  split at h
  · rename_i cs e1
    split at h
    · rename_i hle
      simp only [Option.some.injEq, Prod.mk.injEq] at h
      obtain ⟨rfl, rfl⟩ := h
      rw [e1] at k1
      generalize hc : σ x' = c at k1
      cases k1 with
      | fp _ B q vs hr hlt hno hm =>
        refine good_pure S (cv := .pointer (some ⟨B, q + off, none⟩)) (by simp [execOp, ho, hc, run]) (.fp _ B (q + off) (vs.drop off) (hr.drop off) hlt hno fun m u hu => ?_)
        rw [List.getElem?_drop] at hu
        rw [show q + off + m = q + (off + m) from by omega]
        exact hm _ _ hu
    · cases h
  · rename_i i ver e j e1
    split at h
    · rename_i hl
      obtain ⟨wr, k, xs, hi⟩ := liveRow_spec hl
      simp only [Option.some.injEq, Prod.mk.injEq] at h
      obtain ⟨rfl, rfl⟩ := h
      rw [e1] at k1
      obtain ⟨B, q, hL, he, hc⟩ := k1.op_live hi
      refine good_pure S (cv := .pointer (some ⟨B, q + e * k + j + off, none⟩)) (by simp [execOp, ho, hc, run]) ?_
      rw [Nat.add_assoc]
      exact .op i ver e (j + off) wr k xs B q hi he hL
    · cases h
  · cases h
end
end Go.Nac

