import Derived.Test.YtdlngmbgalmdeaaK5d
set_option linter.unusedVariables false
set_option linter.unusedSectionVars false
set_option linter.unusedSimpArgs false
namespace Go.Nac
section
variable {R : CCode → Code → Prop} {P : Program} {M : List Blk} {L : Loc} {w : World} {ρ : CX → PV} {σ : Operand → Value}
theorem asNat_inv {p : PV} {c : Value} {n : Nat} (h : asNat p = some n) (hr : VRel M L w p c) : ∃ k, c = .int k (n : Int) := by
  unfold asNat at h
  split at h
  · rename_i k m
    split at h
    · rename_i h0
      obtain rfl := Option.some.inj h
      exact ⟨k, by rw [hr.s_inv, Int.toNat_of_nonneg h0]⟩
    · cases h
  · cases h
theorem g_field (S : Sim R M L w) (H : Fit M L w ρ σ) {o : Oper} {off f : Nat} {g : Option Nat} {s : TypeId} {x : CX} {x' : Operand} (ho : o.op = .field s x' f) (hx : okX x x' = true)
    {fs : Array Field} {fd : Field} (hs : P.underlying s = some (.struct fs)) (hf : fs[f]? = some fd) (hoff : fd.offset = off) (hg : okG P fd.type g = true)
    {v : PV} {M' : List Blk} (h : res M ρ (.field off g x) = some (v, M')) : Good R P (execOp σ o) M L w v M' := by
  have k1 := H x x' hx
  obtain ⟨b, ha, hz, hb, hb1⟩ := okG_spec hg
  simp only [res] at h
  split at h
  · rename_i cs e1
    rw [e1] at k1
    generalize hc : σ x' = c at k1
    cases k1 with
    | agg _ vs hr =>
      cases hm : mkPV g ((cs.drop off).take (g.getD 1)) with
      | none => rw [hm] at h; cases h
      | some q =>
        rw [hm] at h
        simp only [Option.map_some, Option.some.injEq, Prod.mk.injEq] at h
        obtain ⟨rfl, rfl⟩ := h
        have hl := mkPV_length hm
        have hr' := (hr.drop off).take (g.getD 1)
        have hp : b = false → 0 < g.getD 1 := fun h => by rw [hb1 h]; decide
        refine good_pure S (cv := valOf b ((vs.toList.drop off).take (g.getD 1))) ?_ (mkPV_rel hm hb hr')
        by_cases h0 : g.getD 1 = 0
        · have hbt : b = true := by cases b <;> simp_all
          subst hbt
          rw [h0] at hz
          simp [execOp, ho, hc, Instr.field, run_underlying hs, hf, hoff, asAgg, part, run_isAgg ha, run_sizeOf' hz, h0, valOf]
          omega
        · have hsz : off + g.getD 1 ≤ vs.size := by
            have h1 := hr.length
            simp only [List.length_take, List.length_drop, Array.length_toList] at hl h1
            omega
          simp [execOp, ho, hc, Instr.field, run_underlying hs, hf, hoff, asAgg, run_part' ha hz hp hsz]
  · cases h
theorem get_flat {k e : Nat} {xs : List PV} {y : PV} (hk : ∀ x ∈ xs, x.cells.length = k) (h : xs[e]? = some y) : ((xs.flatMap PV.cells).drop (e * k)).take k = y.cells := by
  obtain ⟨he, hy⟩ := List.getElem?_eq_some_iff.1 h
  rw [flat_drop hk, List.drop_eq_getElem_cons he, List.flatMap_cons, hy, ← hk y (List.mem_of_getElem? h), List.take_left]
theorem g_iaddr (S : Sim R M L w) (H : Fit M L w ρ σ) {o : Oper} {k : Nat} {t el : TypeId} {x i : CX} {x' i' : Operand} (ho : o.op = .indexAddr t x' i') (hx : okX x x' = true) (hi : okX i i' = true)
    (ht : P.underlying t = some (.slice el)) (hz : tySize P el = some k)
    {v : PV} {M' : List Blk} (h : res M ρ (.iaddr k x i) = some (v, M')) : Good R P (execOp σ o) M L w v M' := by
  have k1 := H x x' hx; have k2 := H i i' hi
  have run : ∀ {kk : IntKind} {n len cap B q : Nat}, n < len → (Instr.indexAt t (.slice (some ⟨B, q, none⟩) len cap) (.int kk (n : Int))).run P w = .ok (.pointer (some ⟨B, q + n * k, none⟩)) w := by
    intro kk n len cap B q hlt
    have h1 : (0 : Int) ≤ n ∧ (n : Int) < len := ⟨by omega, by omega⟩
    simp [Instr.indexAt, asIntOf, run_underlying ht, h1, run_sizeOf' hz, add_none, hlt]
  simp only [res] at h
  split at h
  · rename_i xs n e1 e2
    rw [e1] at k1
    obtain ⟨kk, hc2⟩ := asNat_inv e2 k2
    split at h
    · rename_i y hy
      split at h
      · rename_i hyk
        simp only [Option.some.injEq, Prod.mk.injEq] at h
        obtain ⟨rfl, rfl⟩ := h
        generalize hc : σ x' = c at k1
        cases k1 with
        | fs _ a n' cap k' vs hn hcap hk hr hm =>
          subst hn
          have hmem := List.mem_of_getElem? hy
          have hkk : k' = k := (hk y hmem).symm.trans hyk
          subst hkk
          have hne : xs ≠ [] := fun h => by subst h; simp at hy
          obtain ⟨B, q, rfl, hlt, hno, hcell⟩ := hm hne
          have hlen : n < xs.length := (List.getElem?_eq_some_iff.1 hy).1
          refine good_pure S (cv := .pointer (some ⟨B, q + n * k', none⟩)) (by simp [execOp, ho, hc, hc2, run hlen]) ?_
          refine .fp _ B (q + n * k') ((vs.drop (n * k')).take k') ?_ hlt hno fun m u hu => ?_
          · have := (hr.drop (n * k')).take k'
            rw [get_flat hk hy] at this
            exact this
          · rw [List.getElem?_take] at hu
            split at hu
            · rw [List.getElem?_drop] at hu
              rw [show q + n * k' + m = q + (n * k' + m) from by omega]
              exact hcell _ _ hu
            · cases hu
      · cases h
    · cases h
  · rename_i a ver off len n e1 e2
    rw [e1] at k1
    obtain ⟨kk, hc2⟩ := asNat_inv e2 k2
    split at h
    · rename_i hlt
      split at h
      · rename_i wr k' v' xs hrow
        split at h
        · rename_i hcond
          obtain ⟨rfl, rfl, hle⟩ := hcond
          simp only [Option.some.injEq, Prod.mk.injEq] at h
          obtain ⟨rfl, rfl⟩ := h
          obtain ⟨aa, cap, hc, hx', hcap, hm⟩ := k1.os_live hrow
          obtain ⟨B, q, cc, el', hL, rfl, hb, hsz⟩ := hm (by omega)
          refine good_pure S (cv := .pointer (some ⟨B, q + off * k' + n * k', none⟩)) (by simp [execOp, ho, hc, hc2, run hlt]) ?_
          have : q + off * k' + n * k' = q + (off + n) * k' + 0 := by rw [Nat.add_mul]; omega
          rw [this]
          exact .op a v' (off + n) 0 wr k' xs B q hrow (by omega) hL
        · cases h
      · cases h
    · cases h
  · cases h
theorem g_iaddra (S : Sim R M L w) (H : Fit M L w ρ σ) {o : Oper} {n k : Nat} {t el : TypeId} {x i : CX} {x' i' : Operand} (ho : o.op = .indexAddr t x' i') (hx : okX x x' = true) (hi : okX i i' = true)
    (ht : P.underlying t = some (.array n el)) (hz : tySize P el = some k)
    {v : PV} {M' : List Blk} (h : res M ρ (.iaddra n k x i) = some (v, M')) : Good R P (execOp σ o) M L w v M' := by
  have k1 := H x x' hx; have k2 := H i i' hi
  have run : ∀ {kk : IntKind} {m B q : Nat}, m < n → (Instr.indexAt t (.pointer (some ⟨B, q, none⟩)) (.int kk (m : Int))).run P w = .ok (.pointer (some ⟨B, q + m * k, none⟩)) w := by
    intro kk m B q hlt
    have h1 : (0 : Int) ≤ m ∧ (m : Int) < n := ⟨by omega, by omega⟩
    simp [Instr.indexAt, asIntOf, run_underlying ht, h1, run_sizeOf' hz, add_none, Instr.sureAddr, hlt]
  simp only [res] at h
  split at h
  · rename_i cs m e1 e2
    rw [e1] at k1
    obtain ⟨kk, hc2⟩ := asNat_inv e2 k2
    split at h
    · rename_i hcond
      simp only [Option.some.injEq, Prod.mk.injEq] at h
      obtain ⟨rfl, rfl⟩ := h
      generalize hc : σ x' = c at k1
      cases k1 with
      | fp _ B q vs hr hlt hno hm =>
        refine good_pure S (cv := .pointer (some ⟨B, q + m * k, none⟩)) (by simp [execOp, ho, hc, hc2, run hcond.1]) ?_
        refine .fp _ B (q + m * k) ((vs.drop (m * k)).take k) ((hr.drop _).take _) hlt hno fun j u hu => ?_
        rw [List.getElem?_take] at hu
        split at hu
        · rw [List.getElem?_drop] at hu
          rw [show q + m * k + j = q + (m * k + j) from by omega]
          exact hm _ _ hu
        · cases hu
    · cases h
  · rename_i a ver e j m e1 e2
    rw [e1] at k1
    obtain ⟨kk, hc2⟩ := asNat_inv e2 k2
    split at h
    · rename_i hcond
      obtain ⟨hlt, hl⟩ := hcond
      obtain ⟨wr, k', xs, hrow⟩ := liveRow_spec hl
      simp only [Option.some.injEq, Prod.mk.injEq] at h
      obtain ⟨rfl, rfl⟩ := h
      obtain ⟨B, q, hL, he, hc⟩ := k1.op_live hrow
      refine good_pure S (cv := .pointer (some ⟨B, q + e * k' + j + m * k, none⟩)) (by simp [execOp, ho, hc, hc2, run hlt]) ?_
      rw [Nat.add_assoc]
      exact .op a ver e (j + m * k) wr k' xs B q hrow he hL
    · cases h
  · cases h
theorem g_idxs (S : Sim R M L w) (H : Fit M L w ρ σ) {o : Oper} {t : TypeId} {x i : CX} {x' i' : Operand} (ho : o.op = .index t x' i') (hx : okX x x' = true) (hi : okX i i' = true)
    (ht : P.underlying t = some .string) {v : PV} {M' : List Blk} (h : res M ρ (.idxs x i) = some (v, M')) : Good R P (execOp σ o) M L w v M' := by
  have k1 := H x x' hx; have k2 := H i i' hi
  simp only [res] at h
  split at h
  · rename_i b n e1 e2
    rw [e1] at k1
    have hc := k1.s_inv
    obtain ⟨kk, hc2⟩ := asNat_inv e2 k2
    cases hb : b[n]? with
    | none => rw [hb] at h; cases h
    | some u =>
      rw [hb] at h
      simp only [Option.map_some, Option.some.injEq, Prod.mk.injEq] at h
      obtain ⟨rfl, rfl⟩ := h
      have h1 : (0 : Int) ≤ n := by omega
      exact good_pure S (cv := .int .u8 u.toNat) (by simp [execOp, ho, hc, hc2, Instr.index, asIntOf, run_underlying ht, h1, hb]) (.s _ rfl)
  · cases h
theorem g_idxa (S : Sim R M L w) (H : Fit M L w ρ σ) {o : Oper} {n k : Nat} {g : Option Nat} {t el : TypeId} {x i : CX} {x' i' : Operand} (ho : o.op = .index t x' i') (hx : okX x x' = true) (hi : okX i i' = true)
    (ht : P.underlying t = some (.array n el)) (hz : tySize P el = some k) (hg : okG P el g = true) {v : PV} {M' : List Blk} (h : res M ρ (.idxa n k g x i) = some (v, M')) : Good R P (execOp σ o) M L w v M' := by
  have k1 := H x x' hx; have k2 := H i i' hi
  obtain ⟨b, ha, hz', hb, hb1⟩ := okG_spec hg
  have hkg : k = g.getD 1 := by rw [hz] at hz'; exact Option.some.inj hz'
  subst hkg
  simp only [res] at h
  split at h
  · rename_i cs m e1 e2
    rw [e1] at k1
    obtain ⟨kk, hc2⟩ := asNat_inv e2 k2
    split at h
    · rename_i hlt
      generalize hc : σ x' = c at k1
      cases k1 with
      | agg _ vs hr =>
        cases hm : mkPV g ((cs.drop (m * g.getD 1)).take (g.getD 1)) with
        | none => rw [hm] at h; cases h
        | some q =>
          rw [hm] at h
          simp only [Option.map_some, Option.some.injEq, Prod.mk.injEq] at h
          obtain ⟨rfl, rfl⟩ := h
          have hl := mkPV_length hm
          have hr' := (hr.drop (m * g.getD 1)).take (g.getD 1)
          have hp : b = false → 0 < g.getD 1 := fun h => by rw [hb1 h]; decide
          have h1 : (0 : Int) ≤ m ∧ (m : Int) < n := ⟨by omega, by omega⟩
          refine good_pure S (cv := valOf b ((vs.toList.drop (m * g.getD 1)).take (g.getD 1))) ?_ (mkPV_rel hm hb hr')
          by_cases h0 : g.getD 1 = 0
          · have hbt : b = true := by cases b <;> simp_all
            subst hbt
            rw [h0] at hz
            simp [execOp, ho, hc, hc2, Instr.index, asIntOf, run_underlying ht, h1, hlt, part, run_isAgg ha, run_sizeOf' hz, h0, valOf]
          · have hsz : m * g.getD 1 + g.getD 1 ≤ vs.size := by
              have h1 := hr.length
              simp only [List.length_take, List.length_drop, Array.length_toList] at hl h1
              omega
            simp [execOp, ho, hc, hc2, Instr.index, asIntOf, run_underlying ht, h1, hlt, run_sizeOf' hz, run_part' ha hz hp hsz]
    · cases h
  · cases h
theorem g_len (S : Sim R M L w) (H : Fit M L w ρ σ) {o : Oper} {t el : TypeId} {x : CX} {x' : Operand} {ts : Array TypeId} (ho : o.op = .call { callee := .builtin .len, args := #[x'], argTypes := ts }) (hx : okX x x' = true)
    (hts : ts[0]? = some t) (ht : P.underlying t = some (.slice el)) {v : PV} {M' : List Blk} (h : res M ρ (.len x) = some (v, M')) : Good R P (execOp σ o) M L w v M' := by
  have k1 := H x x' hx
  simp only [res] at h
  cases hl : lenOf (ρ x) with
  | none => rw [hl] at h; cases h
  | some n =>
    rw [hl] at h
    simp only [Option.map_some, Option.some.injEq, Prod.mk.injEq] at h
    obtain ⟨rfl, rfl⟩ := h
    obtain ⟨a, c, hc⟩ := lenOf_run k1 hl
    exact good_pure S (cv := .int .i64 n) (by simp [execOp, ho, hc, resolve, invoke, builtin, Builtin.len_, hts, run_underlying ht, goInt]) (.s _ rfl)
theorem g_lens (S : Sim R M L w) (H : Fit M L w ρ σ) {o : Oper} {t : TypeId} {x : CX} {x' : Operand} {ts : Array TypeId} (ho : o.op = .call { callee := .builtin .len, args := #[x'], argTypes := ts }) (hx : okX x x' = true)
    (hts : ts[0]? = some t) (ht : P.underlying t = some .string) {v : PV} {M' : List Blk} (h : res M ρ (.lens x) = some (v, M')) : Good R P (execOp σ o) M L w v M' := by
  have k1 := H x x' hx
  simp only [res] at h
  split at h
  · rename_i b e1
    rw [e1] at k1
    have hc := k1.s_inv
    simp only [Option.some.injEq, Prod.mk.injEq] at h
    obtain ⟨rfl, rfl⟩ := h
    exact good_pure S (cv := .int .i64 b.size) (by simp [execOp, ho, hc, resolve, invoke, builtin, Builtin.len_, hts, run_underlying ht, goInt]) (.s _ rfl)
  · cases h
def ORel (M : List Blk) (L : Loc) (w : World) : Option PV → Option Value → Prop
  | none, none => True
  | some p, some c => VRel M L w p c
  | _, _ => False
theorem bounds_inv {n l h : Nat} {lo hi : Option PV} {clo chi : Option Value} (hb : bounds n lo hi = some (l, h))
    (hlo : ORel M L w lo clo) (hhi : ORel M L w hi chi) (isS : Bool) (cap : Nat) (hcap : n ≤ cap) :
    (Instr.sliceBounds isS n cap clo chi none).run P w = .ok (l, h, cap) w ∧ l ≤ h ∧ h ≤ n := by
  have key : ∀ {p : PV} {c : Value} {m y : Nat} {code : BoundsCode}, VRel M L w p c → asNat p = some m → m ≤ y → (Instr.sliceBound c y code).run P w = .ok m w := by
    intro p c m y code hr hm hle
    obtain ⟨k, rfl⟩ := asNat_inv hm hr
    have h1 : (0 : Int) ≤ m ∧ (m : Int) ≤ y := ⟨by omega, by omega⟩
    simp only [Instr.sliceBound, asIntOf, Sem.run_bind, Sem.run_pure, Result.andThen_ok, if_pos h1, Int.toNat_natCast]
  unfold bounds at hb
  cases hh' : hiN n hi with
  | none => rw [hh'] at hb; cases hb
  | some h' =>
    rw [hh'] at hb
    cases hl' : loN lo with
    | none => rw [hl'] at hb; cases hb
    | some l' =>
      rw [hl'] at hb
      simp only [Option.bind_some] at hb
      split at hb
      · rename_i hc
        simp only [Option.some.injEq, Prod.mk.injEq] at hb
        obtain ⟨rfl, rfl⟩ := hb
        refine ⟨?_, hc⟩
        unfold Instr.sliceBounds
        cases hi with
        | none =>
          cases chi with
          | some _ => exact hhi.elim
          | none =>
            simp only [hiN, Option.some.injEq] at hh'
            subst hh'
            cases lo with
            | none =>
              cases clo with
              | some _ => exact hlo.elim
              | none => simp only [loN, Option.some.injEq] at hl'; subst hl'; simp
            | some p =>
              cases clo with
              | none => exact hlo.elim
              | some c => simp [key hlo hl' hc.1]
        | some q =>
          cases chi with
          | none => exact hhi.elim
          | some d =>
            cases lo with
            | none =>
              cases clo with
              | some _ => exact hlo.elim
              | none => simp only [loN, Option.some.injEq] at hl'; subst hl'; simp [key hhi hh' (Nat.le_trans hc.2 hcap)]
            | some p =>
              cases clo with
              | none => exact hlo.elim
              | some c => simp [key hlo hl' hc.1, key hhi hh' (Nat.le_trans hc.2 hcap)]
      · cases hb
theorem fit_opt (H : Fit M L w ρ σ) {x : Option CX} {y : Option Operand} (h : okXo x y = true) : ORel M L w (x.map ρ) (y.map σ) := by
  cases x with
  | none => cases y with | none => trivial | some _ => simp [okXo] at h
  | some x => cases y with | none => simp [okXo] at h | some y => exact H x y h
theorem sized_spec {k : Nat} {xs : List PV} (h : sized k xs = true) : ∀ x ∈ xs, x.cells.length = k := by
  simpa [sized] using h
theorem g_slice (S : Sim R M L w) (H : Fit M L w ρ σ) {o : Oper} {k : Nat} {t el : TypeId} {x : CX} {x' : Operand} {lo hi : Option CX} {lo' hi' : Option Operand} (ho : o.op = .slice t x' lo' hi' none) (hx : okX x x' = true)
    (hlo : okXo lo lo' = true) (hhi : okXo hi hi' = true) (ht : P.underlying t = some (.slice el)) (hz : tySize P el = some k)
    {v : PV} {M' : List Blk} (h : res M ρ (.slice k x lo hi) = some (v, M')) : Good R P (execOp σ o) M L w v M' := by
  have k1 := H x x' hx
  have run : ∀ {a : Option Addr} {len cap l h : Nat}, (Instr.sliceBounds true len cap (lo'.map σ) (hi'.map σ) none).run P w = .ok (l, h, cap) w →
      (Instr.sliceAt t (.slice a len cap) (lo'.map σ) (hi'.map σ) none).run P w = .ok (.slice (if cap = l then a else a.map (·.add (l * k))) (h - l) (cap - l)) w := by
    intro a len cap l h hr
    simp [Instr.sliceAt, Instr.slice, run_underlying ht, hr, run_sizeOf' hz]
  have flo := fit_opt H hlo; have fhi := fit_opt H hhi
  simp only [res] at h
  split at h
  · rename_i xs e1
    rw [e1] at k1
    split at h
    case isFalse => cases h
    rename_i hsized
    cases hb : bounds xs.length (lo.map ρ) (hi.map ρ) with
    | none => rw [hb] at h; cases h
    | some p =>
      obtain ⟨l, hh⟩ := p
      rw [hb] at h
      simp only [Option.map_some, Option.some.injEq, Prod.mk.injEq] at h
      obtain ⟨rfl, rfl⟩ := h
      generalize hc : σ x' = c at k1
      cases k1 with
      | fs _ a n cap k' vs hn hcap hk hr hm =>
        subst hn
        obtain ⟨hr', h1, h2⟩ := bounds_inv (P := P) hb flo fhi true cap hcap
        have hrun := run (a := a) hr'
        refine good_pure S (by simp [execOp, ho, hc, hrun]; rfl) ?_
        have hlen : ((xs.drop l).take (hh - l)).length = hh - l := by simp; omega
        by_cases hkk : xs = []
        · subst hkk
          have : hh - l = 0 := by simp at h2; omega
          rw [this]
          refine .fs [] _ 0 _ 0 [] rfl (Nat.zero_le _) (by simp) .nil (by simp)
        · obtain ⟨B, q, rfl, hlt, hno, hcell⟩ := hm hkk
          have hrr := (hr.drop (l * k')).take ((hh - l) * k')
          rw [flat_drop hk, flat_take (fun x hx => hk x (List.mem_of_mem_drop hx))] at hrr
          refine .fs _ _ _ _ k' _ hlen.symm (by rw [hlen]; omega) (fun x hx => hk x (List.mem_of_mem_drop (List.mem_of_mem_take hx))) hrr fun hne => ?_
          have hpos : 0 < hh - l := by
            rcases Nat.eq_zero_or_pos (hh - l) with h0 | h0
            · rw [h0] at hne; simp at hne
            · exact h0
          have hk'' : k' = k := by
            cases xs with
            | nil => exact absurd rfl hkk
            | cons x xs => exact (hk x (by simp)).symm.trans (sized_spec hsized x (by simp))
          subst hk''
          refine ⟨B, q + l * k', ?_, hlt, hno, fun m u hu => ?_⟩
          · rw [if_neg (by omega)]; simp [add_none]
          · rw [List.getElem?_take] at hu
            split at hu
            · rw [List.getElem?_drop] at hu
              rw [show q + l * k' + m = q + (l * k' + m) from by omega]
              exact hcell _ _ hu
            · cases hu
  · rename_i e1
    rw [e1] at k1
    have hc := k1.s_inv
    cases hb : bounds 0 (lo.map ρ) (hi.map ρ) with
    | none => rw [hb] at h; cases h
    | some p =>
      obtain ⟨l, hh⟩ := p
      rw [hb] at h
      simp only [Option.map_some, Option.some.injEq, Prod.mk.injEq] at h
      obtain ⟨rfl, rfl⟩ := h
      obtain ⟨hr', h1, h2⟩ := bounds_inv (P := P) hb flo fhi true 0 (Nat.le_refl _)
      have h3 : hh = 0 := by omega
      have h4 : l = 0 := by omega
      subst h3; subst h4
      have hrun := run (a := none) hr'
      exact good_pure S (cv := .slice none 0 0) (by simp [execOp, ho, hc, hrun]) (.s _ rfl)
  · rename_i i ver off len e1
    rw [e1] at k1
    split at h
    · rename_i hl
      obtain ⟨hl, hrk⟩ := hl
      obtain ⟨wr, k', xs, hrow⟩ := liveRow_spec hl
      cases hb : bounds len (lo.map ρ) (hi.map ρ) with
      | none => rw [hb] at h; cases h
      | some p =>
        obtain ⟨l, hh⟩ := p
        rw [hb] at h
        simp only [Option.map_some, Option.some.injEq, Prod.mk.injEq] at h
        obtain ⟨rfl, rfl⟩ := h
        obtain ⟨a, cap, hc, hx', hcap, hm⟩ := k1.os_live hrow
        obtain ⟨hr', h1, h2⟩ := bounds_inv (P := P) hb flo fhi true cap hcap
        have hrun := run (a := a) hr'
        refine good_pure S (by simp [execOp, ho, hc, hrun]; rfl) ?_
        refine .os i ver (off + l) (hh - l) wr k' xs _ (cap - l) hrow (by omega) (by omega) fun hne => ?_
        obtain ⟨B, q, cc, el', hL, rfl, hbk, hsz⟩ := hm (by omega)
        have hk'' : k' = k := by rw [← hrk]; simp [rowK, hrow]
        subst hk''
        refine ⟨B, q, cc, el', hL, ?_, hbk, ?_⟩
        · rw [if_neg (by omega)]
          simp only [Option.map_some, add_none, Option.some.injEq, Addr.mk.injEq, true_and, and_true]
          rw [Nat.add_mul]; omega
        · have : off + l + (cap - l) = off + cap := by omega
          rw [this]; exact hsz
    · cases h
  · cases h
theorem g_slstr (S : Sim R M L w) (H : Fit M L w ρ σ) {o : Oper} {t : TypeId} {x : CX} {x' : Operand} {lo hi : Option CX} {lo' hi' : Option Operand} (ho : o.op = .slice t x' lo' hi' none) (hx : okX x x' = true)
    (hlo : okXo lo lo' = true) (hhi : okXo hi hi' = true) (ht : P.underlying t = some .string)
    {v : PV} {M' : List Blk} (h : res M ρ (.slstr x lo hi) = some (v, M')) : Good R P (execOp σ o) M L w v M' := by
  have k1 := H x x' hx
  have flo := fit_opt H hlo; have fhi := fit_opt H hhi
  simp only [res] at h
  split at h
  · rename_i b e1
    rw [e1] at k1
    have hc := k1.s_inv
    cases hb : bounds b.size (lo.map ρ) (hi.map ρ) with
    | none => rw [hb] at h; cases h
    | some p =>
      obtain ⟨l, hh⟩ := p
      rw [hb] at h
      simp only [Option.map_some, Option.some.injEq, Prod.mk.injEq] at h
      obtain ⟨rfl, rfl⟩ := h
      obtain ⟨hr', h1, h2⟩ := bounds_inv (P := P) hb flo fhi false b.size (Nat.le_refl _)
      exact good_pure S (cv := .string (b.extract l hh)) (by simp [execOp, ho, hc, Instr.sliceAt, Instr.slice, run_underlying ht, hr']) (.s _ rfl)
  · cases h
end
end Go.Nac

