import Derived.Test.YtbmicihfhfcpkaaK5
import Derived.IntWalk
set_option linter.unusedVariables false
set_option linter.unusedSectionVars false
set_option linter.unusedSimpArgs false
namespace Go.Nac
section
variable {R : CCode → Code → Prop} {P : Program} {M : List Blk} {L : Loc} {w : World} {ρ : CX → PV} {σ : Operand → Value}
theorem asNat_inv {p : PV} {c : Value} {n : Nat} (h : asNat p = some n) (hr : VRel M L w p c) : ∃ k, c = .int k (n : Int) := by
  unfold asNat at h
  split at h
  · rename_i k m
    split at h
    · rename_i h0
      obtain rfl := Option.some.inj h
      exact ⟨k, by rw [hr.s_inv, Int.toNat_of_nonneg h0]⟩
    · cases h
  · cases h
theorem g_field (S : Sim R M L w) (H : Fit M L w ρ σ) {o : Oper} {off f : Nat} {g : Option Nat} {s : TypeId} {x : CX} {x' : Operand} (ho : o.op = .field s x' f) (hx : okX x x' = true)
    {fs : Array Field} {fd : Field} (hs : P.underlying s = some (.struct fs)) (hf : fs[f]? = some fd) (hoff : fd.offset = off) (hg : okG P fd.type g = true)
    {v : PV} {M' : List Blk} (h : res M ρ (.field off g x) = some (v, M')) : Good R P (execOp σ o) M L w v M' := by
  have k1 := H x x' hx
  obtain ⟨b, ha, hz, hb, hb1⟩ := okG_spec hg
  simp only [res] at h
  split at h
  · rename_i cs e1
    rw [e1] at k1
    generalize hc : σ x' = c at k1
    cases k1 with
    | agg _ vs hr =>
      cases hm : mkPV g ((cs.drop off).take (g.getD 1)) with
      | none => rw [hm] at h; cases h
      | some q =>
        rw [hm] at h
        simp only [Option.map_some, Option.some.injEq, Prod.mk.injEq] at h
        obtain ⟨rfl, rfl⟩ := h
        have hl := mkPV_length hm
        have hr' := (hr.drop off).take (g.getD 1)
        have hp : b = false → 0 < g.getD 1 := fun h => by rw [hb1 h]; decide
        refine good_pure S (cv := valOf b ((vs.toList.drop off).take (g.getD 1))) ?_ (mkPV_rel hm hb hr')
        by_cases h0 : g.getD 1 = 0
        · have hbt : b = true := by cases b <;> simp_all
          subst hbt
          rw [h0] at hz
          simp [execOp, ho, hc, Instr.field, run_underlying hs, hf, hoff, asAgg, part, run_isAgg ha, run_sizeOf' hz, h0, valOf]
          omega
        · have hsz : off + g.getD 1 ≤ vs.size := by
            have h1 := hr.length
            simp only [List.length_take, List.length_drop, Array.length_toList] at hl h1
            omega
          simp [execOp, ho, hc, Instr.field, run_underlying hs, hf, hoff, asAgg, run_part' ha hz hp hsz]
  · cases h
theorem get_flat {k e : Nat} {xs : List PV} {y : PV} (hk : ∀ x ∈ xs, x.cells.length = k) (h : xs[e]? = some y) : ((xs.flatMap PV.cells).drop (e * k)).take k = y.cells := by
  obtain ⟨he, hy⟩ := List.getElem?_eq_some_iff.1 h
  rw [flat_drop hk, List.drop_eq_getElem_cons he, List.flatMap_cons, hy, ← hk y (List.mem_of_getElem? h), List.take_left]
theorem g_iaddr (S : Sim R M L w) (H : Fit M L w ρ σ) {o : Oper} {k : Nat} {t el : TypeId} {x i : CX} {x' i' : Operand} (ho : o.op = .indexAddr t x' i') (hx : okX x x' = true) (hi : okX i i' = true)
    (ht : P.underlying t = some (.slice el)) (hz : tySize P el = some k)
    {v : PV} {M' : List Blk} (h : res M ρ (.iaddr k x i) = some (v, M')) : Good R P (execOp σ o) M L w v M' := by
  have k1 := H x x' hx; have k2 := H i i' hi
  have run : ∀ {kk : IntKind} {n len cap B q : Nat}, n < len → (Instr.indexAt t (.slice (some ⟨B, q, none⟩) len cap) (.int kk (n : Int))).run P w = .ok (.pointer (some ⟨B, q + n * k, none⟩)) w := by
    intro kk n len cap B q hlt
    have h1 : (0 : Int) ≤ n ∧ (n : Int) < len := ⟨by omega, by omega⟩
    simp [Instr.indexAt, asIntOf, run_underlying ht, h1, run_sizeOf' hz, add_none, hlt]
  simp only [res] at h
  split at h
  · rename_i xs n e1 e2
    rw [e1] at k1
    obtain ⟨kk, hc2⟩ := asNat_inv e2 k2
    split at h
    · rename_i y hy
      split at h
      · rename_i hyk
        simp only [Option.some.injEq, Prod.mk.injEq] at h
        obtain ⟨rfl, rfl⟩ := h
        generalize hc : σ x' = c at k1
        cases k1 with
        | fs _ a n' cap k' vs hn hcap hk hr hm =>
          subst hn
          have hmem := List.mem_of_getElem? hy
          have hkk : k' = k := (hk y hmem).symm.trans hyk
          subst hkk
          have hne : xs ≠ [] := fun h => by subst h; simp at hy
          obtain ⟨B, q, rfl, hlt, hno, hcell⟩ := hm hne
          have hlen : n < xs.length := (List.getElem?_eq_some_iff.1 hy).1
          refine good_pure S (cv := .pointer (some ⟨B, q + n * k', none⟩)) (by simp [execOp, ho, hc, hc2, run hlen]) ?_
          refine .fp _ B (q + n * k') ((vs.drop (n * k')).take k') ?_ hlt hno fun m u hu => ?_
          · have := (hr.drop (n * k')).take k'
            rw [get_flat hk hy] at this
            exact this
          · rw [List.getElem?_take] at hu
            split at hu
            · rw [List.getElem?_drop] at hu
              rw [show q + n * k' + m = q + (n * k' + m) from by omega]
              exact hcell _ _ hu
            · cases hu
      · cases h
    · cases h
  · rename_i a ver off len n e1 e2
    rw [e1] at k1
    obtain ⟨kk, hc2⟩ := asNat_inv e2 k2
    split at h
    · rename_i hlt
      split at h
      · rename_i wr k' v' xs hrow
        split at h
        · rename_i hcond
          obtain ⟨rfl, rfl, hle⟩ := hcond
          simp only [Option.some.injEq, Prod.mk.injEq] at h
          obtain ⟨rfl, rfl⟩ := h
          obtain ⟨aa, cap, hc, hx', hcap, hm⟩ := k1.os_live hrow
          obtain ⟨B, q, cc, el', hL, rfl, hb, hsz⟩ := hm (by omega)
          refine good_pure S (cv := .pointer (some ⟨B, q + off * k' + n * k', none⟩)) (by simp [execOp, ho, hc, hc2, run hlt]) ?_
          have : q + off * k' + n * k' = q + (off + n) * k' + 0 := by rw [Nat.add_mul]; omega
          rw [this]
          exact .op a v' (off + n) 0 wr k' xs B q hrow (by omega) hL
        · cases h
      · cases h
    · cases h
  · cases h
theorem g_iaddra (S : Sim R M L w) (H : Fit M L w ρ σ) {o : Oper} {n k : Nat} {t el : TypeId} {x i : CX} {x' i' : Operand} (ho : o.op = .indexAddr t x' i') (hx : okX x x' = true) (hi : okX i i' = true)
    (ht : P.underlying t = some (.array n el)) (hz : tySize P el = some k)
    {v : PV} {M' : List Blk} (h : res M ρ (.iaddra n k x i) = some (v, M')) : Good R P (execOp σ o) M L w v M' := by
  have k1 := H x x' hx; have k2 := H i i' hi
  have run : ∀ {kk : IntKind} {m B q : Nat}, m < n → (Instr.indexAt t (.pointer (some ⟨B, q, none⟩)) (.int kk (m : Int))).run P w = .ok (.pointer (some ⟨B, q + m * k, none⟩)) w := by
    intro kk m B q hlt
    have h1 : (0 : Int) ≤ m ∧ (m : Int) < n := ⟨by omega, by omega⟩
    simp [Instr.indexAt, asIntOf, run_underlying ht, h1, run_sizeOf' hz, add_none, Instr.sureAddr, hlt]
  simp only [res] at h
  split at h
  · rename_i cs m e1 e2
    rw [e1] at k1
    obtain ⟨kk, hc2⟩ := asNat_inv e2 k2
    split at h
    · rename_i hcond
      simp only [Option.some.injEq, Prod.mk.injEq] at h
      obtain ⟨rfl, rfl⟩ := h
      generalize hc : σ x' = c at k1
      cases k1 with
      | fp _ B q vs hr hlt hno hm =>
        refine good_pure S (cv := .pointer (some ⟨B, q + m * k, none⟩)) (by simp [execOp, ho, hc, hc2, run hcond.1]) ?_
        refine .fp _ B (q + m * k) ((vs.drop (m * k)).take k) ((hr.drop _).take _) hlt hno fun j u hu => ?_
        rw [List.getElem?_take] at hu
        split at hu
        · rw [List.getElem?_drop] at hu
          rw [show q + m * k + j = q + (m * k + j) from by omega]
          exact hm _ _ hu
        · cases hu
    · cases h
  · rename_i a ver e j m e1 e2
    rw [e1] at k1
    obtain ⟨kk, hc2⟩ := asNat_inv e2 k2
    split at h
    · rename_i hcond
      obtain ⟨hlt, hl⟩ := hcond
      obtain ⟨wr, k', xs, hrow⟩ := liveRow_spec hl
      simp only [Option.some.injEq, Prod.mk.injEq] at h
      obtain ⟨rfl, rfl⟩ := h
      obtain ⟨B, q, hL, he, hc⟩ := k1.op_live hrow
      refine good_pure S (cv := .pointer (some ⟨B, q + e * k' + j + m * k, none⟩)) (by simp [execOp, ho, hc, hc2, run hlt]) ?_
      rw [Nat.add_assoc]
      exact .op a ver e (j + m * k) wr k' xs B q hrow he hL
    · cases h
  · cases h
theorem g_idxs (S : Sim R M L w) (H : Fit M L w ρ σ) {o : Oper} {t : TypeId} {x i : CX} {x' i' : Operand} (ho : o.op = .index t x' i') (hx : okX x x' = true) (hi : okX i i' = true)
    (ht : P.underlying t = some .string) {v : PV} {M' : List Blk} (h : res M ρ (.idxs x i) = some (v, M')) : Good R P (execOp σ o) M L w v M' := by
  have k1 := H x x' hx; have k2 := H i i' hi
  simp only [res] at h
  split at h
  · rename_i b n e1 e2
    rw [e1] at k1
    have hc := k1.s_inv
    obtain ⟨kk, hc2⟩ := asNat_inv e2 k2
    cases hb : b[n]? with
    | none => rw [hb] at h; cases h
    | some u =>
      rw [hb] at h
      simp only [Option.map_some, Option.some.injEq, Prod.mk.injEq] at h
      obtain ⟨rfl, rfl⟩ := h
      have h1 : (0 : Int) ≤ n := by omega
      exact good_pure S (cv := .int .u8 u.toNat) (by simp [execOp, ho, hc, hc2, Instr.index, asIntOf, run_underlying ht, h1, hb]) (.s _ rfl)
  · cases h
theorem g_idxa (S : Sim R M L w) (H : Fit M L w ρ σ) {o : Oper} {n k : Nat} {g : Option Nat} {t el : TypeId} {x i : CX} {x' i' : Operand} (ho : o.op = .index t x' i') (hx : okX x x' = true) (hi : okX i i' = true)
    (ht : P.underlying t = some (.array n el)) (hz : tySize P el = some k) (hg : okG P el g = true) {v : PV} {M' : List Blk} (h : res M ρ (.idxa n k g x i) = some (v, M')) : Good R P (execOp σ o) M L w v M' := by
  have k1 := H x x' hx; have k2 := H i i' hi
  obtain ⟨b, ha, hz', hb, hb1⟩ := okG_spec hg
  have hkg : k = g.getD 1 := by rw [hz] at hz'; exact Option.some.inj hz'
  subst hkg
  simp only [res] at h
  split at h
  · rename_i cs m e1 e2
    rw [e1] at k1
    obtain ⟨kk, hc2⟩ := asNat_inv e2 k2
    split at h
    · rename_i hlt
      generalize hc : σ x' = c at k1
      cases k1 with
      | agg _ vs hr =>
        cases hm : mkPV g ((cs.drop (m * g.getD 1)).take (g.getD 1)) with
        | none => rw [hm] at h; cases h
        | some q =>
          rw [hm] at h
          simp only [Option.map_some, Option.some.injEq, Prod.mk.injEq] at h
          obtain ⟨rfl, rfl⟩ := h
          have hl := mkPV_length hm
          have hr' := (hr.drop (m * g.getD 1)).take (g.getD 1)
          have hp : b = false → 0 < g.getD 1 := fun h => by rw [hb1 h]; decide
          have h1 : (0 : Int) ≤ m ∧ (m : Int) < n := ⟨by omega, by omega⟩
          refine good_pure S (cv := valOf b ((vs.toList.drop (m * g.getD 1)).take (g.getD 1))) ?_ (mkPV_rel hm hb hr')
          by_cases h0 : g.getD 1 = 0
          · have hbt : b = true := by cases b <;> simp_all
            subst hbt
            rw [h0] at hz
            simp [execOp, ho, hc, hc2, Instr.index, asIntOf, run_underlying ht, h1, hlt, part, run_isAgg ha, run_sizeOf' hz, h0, valOf]
          · have hsz : m * g.getD 1 + g.getD 1 ≤ vs.size := by
              have h1 := hr.length
              simp only [List.length_take, List.length_drop, Array.length_toList] at hl h1
              omega
            simp [execOp, ho, hc, hc2, Instr.index, asIntOf, run_underlying ht, h1, hlt, run_sizeOf' hz, run_part' ha hz hp hsz]
    · cases h
  · cases h
theorem g_len (S : Sim R M L w) (H : Fit M L w ρ σ) {o : Oper} {t el : TypeId} {x : CX} {x' : Operand} {ts : Array TypeId} (ho : o.op = .call { callee := .builtin .len, args := #[x'], argTypes := ts }) (hx : okX x x' = true)
    (hts : ts[0]? = some t) (ht : P.underlying t = some (.slice el)) {v : PV} {M' : List Blk} (h : res M ρ (.len x) = some (v, M')) : Good R P (execOp σ o) M L w v M' := by
  have k1 := H x x' hx
  simp only [res] at h
  cases hl : lenOf (ρ x) with
  | none => rw [hl] at h; cases h
  | some n =>
    rw [hl] at h
    simp only [Option.map_some, Option.some.injEq, Prod.mk.injEq] at h
    obtain ⟨rfl, rfl⟩ := h
    obtain ⟨a, c, hc⟩ := lenOf_run k1 hl
    exact good_pure S (cv := .int .i64 n) (by simp [execOp, ho, hc, resolve, invoke, builtin, Builtin.len_, hts, run_underlying ht, goInt]) (.s _ rfl)
theorem g_lens (S : Sim R M L w) (H : Fit M L w ρ σ) {o : Oper} {t : TypeId} {x : CX} {x' : Operand} {ts : Array TypeId} (ho : o.op = .call { callee := .builtin .len, args := #[x'], argTypes := ts }) (hx : okX x x' = true)
    (hts : ts[0]? = some t) (ht : P.underlying t = some .string) {v : PV} {M' : List Blk} (h : res M ρ (.lens x) = some (v, M')) : Good R P (execOp σ o) M L w v M' := by
  have k1 := H x x' hx
  simp only [res] at h
  split at h
  · rename_i b e1
    rw [e1] at k1
    have hc := k1.s_inv
    simp only [Option.some.injEq, Prod.mk.injEq] at h
    obtain ⟨rfl, rfl⟩ := h
    exact good_pure S (cv := .int .i64 b.size) (by simp [execOp, ho, hc, resolve, invoke, builtin, Builtin.len_, hts, run_underlying ht, goInt]) (.s _ rfl)
  · cases h
def ORel (M : List Blk) (L : Loc) (w : World) : Option PV → Option Value → Prop
  | none, none => True
  | some p, some c => VRel M L w p c
  | _, _ => False
theorem bounds_inv {n l h : Nat} {lo hi : Option PV} {clo chi : Option Value} (hb : bounds n lo hi = some (l, h))
    (hlo : ORel M L w lo clo) (hhi : ORel M L w hi chi) (isS : Bool) (cap : Nat) (hcap : n ≤ cap) :
    (Instr.sliceBounds isS n cap clo chi none).run P w = .ok (l, h, cap) w ∧ l ≤ h ∧ h ≤ n := by
  have key : ∀ {p : PV} {c : Value} {m y : Nat} {code : BoundsCode}, VRel M L w p c → asNat p = some m → m ≤ y → (Instr.sliceBound c y code).run P w = .ok m w := by
    intro p c m y code hr hm hle
    obtain ⟨k, rfl⟩ := asNat_inv hm hr
    have h1 : (0 : Int) ≤ m ∧ (m : Int) ≤ y := ⟨by omega, by omega⟩
    simp only [Instr.sliceBound, asIntOf, Sem.run_bind, Sem.run_pure, Result.andThen_ok, if_pos h1, Int.toNat_natCast]
  unfold bounds at hb
  cases hh' : hiN n hi with
  | none => rw [hh'] at hb; cases hb
  | some h' =>
    rw [hh'] at hb
    cases hl' : loN lo with
    | none => rw [hl'] at hb; cases hb
    | some l' =>
      rw [hl'] at hb
      simp only [Option.bind_some] at hb
      split at hb
      · rename_i hc
        simp only [Option.some.injEq, Prod.mk.injEq] at hb
        obtain ⟨rfl, rfl⟩ := hb
        refine ⟨?_, hc⟩
        unfold Instr.sliceBounds
        cases hi with
        | none =>
          cases chi with
          | some _ => exact hhi.elim
          | none =>
            simp only [hiN, Option.some.injEq] at hh'
            subst hh'
            cases lo with
            | none =>
              cases clo with
              | some _ => exact hlo.elim
              | none => simp only [loN, Option.some.injEq] at hl'; subst hl'; simp
            | some p =>
              cases clo with
              | none => exact hlo.elim
              | some c => simp [key hlo hl' hc.1]
        | some q =>
          cases chi with
          | none => exact hhi.elim
          | some d =>
            cases lo with
            | none =>
              cases clo with
              | some _ => exact hlo.elim
              | none => simp only [loN, Option.some.injEq] at hl'; subst hl'; simp [key hhi hh' (Nat.le_trans hc.2 hcap)]
            | some p =>
              cases clo with
              | none => exact hlo.elim
              | some c => simp [key hlo hl' hc.1, key hhi hh' (Nat.le_trans hc.2 hcap)]
      · cases hb
theorem fit_opt (H : Fit M L w ρ σ) {x : Option CX} {y : Option Operand} (h : okXo x y = true) : ORel M L w (x.map ρ) (y.map σ) := by
  cases x with
  | none => cases y with | none => trivial | some _ => simp [okXo] at h
  | some x => cases y with | none => simp [okXo] at h | some y => exact H x y h
theorem sized_spec {k : Nat} {xs : List PV} (h : sized k xs = true) : ∀ x ∈ xs, x.cells.length = k := by
  simpa [sized] using h
theorem g_slice (S : Sim R M L w) (H : Fit M L w ρ σ) {o : Oper} {k : Nat} {t el : TypeId} {x : CX} {x' : Operand} {lo hi : Option CX} {lo' hi' : Option Operand} (ho : o.op = .slice t x' lo' hi' none) (hx : okX x x' = true)
    (hlo : okXo lo lo' = true) (hhi : okXo hi hi' = true) (ht : P.underlying t = some (.slice el)) (hz : tySize P el = some k)
    {v : PV} {M' : List Blk} (h : res M ρ (.slice k x lo hi) = some (v, M')) : Good R P (execOp σ o) M L w v M' := by
  have k1 := H x x' hx
  have run : ∀ {a : Option Addr} {len cap l h : Nat}, (Instr.sliceBounds true len cap (lo'.map σ) (hi'.map σ) none).run P w = .ok (l, h, cap) w →
      (Instr.sliceAt t (.slice a len cap) (lo'.map σ) (hi'.map σ) none).run P w = .ok (.slice (if cap = l then a else a.map (·.add (l * k))) (h - l) (cap - l)) w := by
    intro a len cap l h hr
    simp [Instr.sliceAt, Instr.slice, run_underlying ht, hr, run_sizeOf' hz]
  have flo := fit_opt H hlo; have fhi := fit_opt H hhi
  simp only [res] at h
  split at h
  · rename_i xs e1
    rw [e1] at k1
    split at h
    case isFalse => cases h
    rename_i hsized
    cases hb : bounds xs.length (lo.map ρ) (hi.map ρ) with
    | none => rw [hb] at h; cases h
    | some p =>
      obtain ⟨l, hh⟩ := p
      rw [hb] at h
      simp only [Option.map_some, Option.some.injEq, Prod.mk.injEq] at h
      obtain ⟨rfl, rfl⟩ := h
      generalize hc : σ x' = c at k1
      cases k1 with
      | fs _ a n cap k' vs hn hcap hk hr hm =>
        subst hn
        obtain ⟨hr', h1, h2⟩ := bounds_inv (P := P) hb flo fhi true cap hcap
        have hrun := run (a := a) hr'
        refine good_pure S (by simp [execOp, ho, hc, hrun]; rfl) ?_
        have hlen : ((xs.drop l).take (hh - l)).length = hh - l := by simp; omega
        by_cases hkk : xs = []
        · subst hkk
          have : hh - l = 0 := by simp at h2; omega
          rw [this]
          refine .fs [] _ 0 _ 0 [] rfl (Nat.zero_le _) (by simp) .nil (by simp)
        · obtain ⟨B, q, rfl, hlt, hno, hcell⟩ := hm hkk
          have hrr := (hr.drop (l * k')).take ((hh - l) * k')
          rw [flat_drop hk, flat_take (fun x hx => hk x (List.mem_of_mem_drop hx))] at hrr
          refine .fs _ _ _ _ k' _ hlen.symm (by rw [hlen]; omega) (fun x hx => hk x (List.mem_of_mem_drop (List.mem_of_mem_take hx))) hrr fun hne => ?_
          have hpos : 0 < hh - l := by
            rcases Nat.eq_zero_or_pos (hh - l) with h0 | h0
            · rw [h0] at hne; simp at hne
            · exact h0
          have hk'' : k' = k := by
            cases xs with
            | nil => exact absurd rfl hkk
            | cons x xs => exact (hk x (by simp)).symm.trans (sized_spec hsized x (by simp))
          subst hk''
          refine ⟨B, q + l * k', ?_, hlt, hno, fun m u hu => ?_⟩
          · rw [if_neg (by omega)]; simp [add_none]
          · rw [List.getElem?_take] at hu
            split at hu
            · rw [List.getElem?_drop] at hu
              rw [show q + l * k' + m = q + (l * k' + m) from by omega]
              exact hcell _ _ hu
            · cases hu
  · rename_i e1
    rw [e1] at k1
    have hc := k1.s_inv
    cases hb : bounds 0 (lo.map ρ) (hi.map ρ) with
    | none => rw [hb] at h; cases h
    | some p =>
      obtain ⟨l, hh⟩ := p
      rw [hb] at h
      simp only [Option.map_some, Option.some.injEq, Prod.mk.injEq] at h
      obtain ⟨rfl, rfl⟩ := h
      obtain ⟨hr', h1, h2⟩ := bounds_inv (P := P) hb flo fhi true 0 (Nat.le_refl _)
      have h3 : hh = 0 := by omega
      have h4 : l = 0 := by omega
      subst h3; subst h4
      have hrun := run (a := none) hr'
      exact good_pure S (cv := .slice none 0 0) (by simp [execOp, ho, hc, hrun]) (.s _ rfl)
  · rename_i i ver off len e1
    rw [e1] at k1
    split at h
    · rename_i hl
      obtain ⟨hl, hrk⟩ := hl
      obtain ⟨wr, k', xs, hrow⟩ := liveRow_spec hl
      cases hb : bounds len (lo.map ρ) (hi.map ρ) with
      | none => rw [hb] at h; cases h
      | some p =>
        obtain ⟨l, hh⟩ := p
        rw [hb] at h
        simp only [Option.map_some, Option.some.injEq, Prod.mk.injEq] at h
        obtain ⟨rfl, rfl⟩ := h
        obtain ⟨a, cap, hc, hx', hcap, hm⟩ := k1.os_live hrow
        obtain ⟨hr', h1, h2⟩ := bounds_inv (P := P) hb flo fhi true cap hcap
        have hrun := run (a := a) hr'
        refine good_pure S (by simp [execOp, ho, hc, hrun]; rfl) ?_
        refine .os i ver (off + l) (hh - l) wr k' xs _ (cap - l) hrow (by omega) (by omega) fun hne => ?_
        obtain ⟨B, q, cc, el', hL, rfl, hbk, hsz⟩ := hm (by omega)
        have hk'' : k' = k := by rw [← hrk]; simp [rowK, hrow]
        subst hk''
        refine ⟨B, q, cc, el', hL, ?_, hbk, ?_⟩
        · rw [if_neg (by omega)]
          simp only [Option.map_some, add_none, Option.some.injEq, Addr.mk.injEq, true_and, and_true]
          rw [Nat.add_mul]; omega
        · have : off + l + (cap - l) = off + cap := by omega
          rw [this]; exact hsz
    · cases h
  · cases h
theorem g_slstr (S : Sim R M L w) (H : Fit M L w ρ σ) {o : Oper} {t : TypeId} {x : CX} {x' : Operand} {lo hi : Option CX} {lo' hi' : Option Operand} (ho : o.op = .slice t x' lo' hi' none) (hx : okX x x' = true)
    (hlo : okXo lo lo' = true) (hhi : okXo hi hi' = true) (ht : P.underlying t = some .string)
    {v : PV} {M' : List Blk} (h : res M ρ (.slstr x lo hi) = some (v, M')) : Good R P (execOp σ o) M L w v M' := by
  have k1 := H x x' hx
  have flo := fit_opt H hlo; have fhi := fit_opt H hhi
  simp only [res] at h
  split at h
  · rename_i b e1
    rw [e1] at k1
    have hc := k1.s_inv
    cases hb : bounds b.size (lo.map ρ) (hi.map ρ) with
    | none => rw [hb] at h; cases h
    | some p =>
      obtain ⟨l, hh⟩ := p
      rw [hb] at h
      simp only [Option.map_some, Option.some.injEq, Prod.mk.injEq] at h
      obtain ⟨rfl, rfl⟩ := h
      obtain ⟨hr', h1, h2⟩ := bounds_inv (P := P) hb flo fhi false b.size (Nat.le_refl _)
      exact good_pure S (cv := .string (b.extract l hh)) (by simp [execOp, ho, hc, Instr.sliceAt, Instr.slice, run_underlying ht, hr']) (.s _ rfl)
  · cases h
end
end Go.Nac
set_option linter.unusedVariables false
set_option linter.unusedSectionVars false
set_option linter.unusedSimpArgs false
namespace Go.Nac
section
variable {R : CCode → Code → Prop} {P : Program} {M : List Blk} {L : Loc} {w w' : World} {ρ : CX → PV} {σ : Operand → Value}
/-- New memory that the plain reading does not keep. -/
theorem grow (S : Sim R M L w) (o : Obj) (hw : Same w w') (hh : w'.heap = w.heap.push o) : Evo M L w M L w' ∧ Sim R M L w' := by
  have old : ∀ b, b < w.heap.size → w'.heap[b]? = w.heap[b]? := by
    intro b hlt
    rw [hh, Array.getElem?_push_lt hlt]; exact (Array.getElem?_eq_getElem hlt).symm
  have E : Evo M L w M L w' := ⟨hw.os, hw.tape, hw.output, by rw [hh]; simp, fun b hlt hno => ⟨old b hlt, hno⟩, fun i b hi => ⟨b, hi, by
    cases b with
    | row => exact ⟨Nat.le_refl _, fun _ => ⟨rfl, rfl, rfl, fun bb oo c el g1 g2 => ⟨c, by rw [old bb (Array.getElem?_eq_some_iff.1 g2).1]; exact g2, rfl⟩⟩⟩
    | map => exact rfl
    | loop => exact ⟨rfl, rfl, rfl, rfl, rfl⟩
    | siter => exact rfl⟩⟩
  exact ⟨E, fun i b hi => (S.mem i b hi).evo E rfl fun p hp => old _ ((S.mem i b hi).lt hp), S.inj⟩
theorem cell_push {c : Array Value} {el : TypeId} {m : Nat} {v : Value} (hh : w'.heap = w.heap.push (.cells c el)) (h : c[m]? = some v) : w'.cell? ⟨w.heap.size, m, none⟩ = some v := by
  simp [World.cell?, hh, h]
theorem notOwned_new (S : Sim R M L w) : ¬ Owned M L w.heap.size := fun h => by have := h.lt S; omega
theorem view1_rel (S : Sim R M L w) {p : PV} {c : Value} (h : VRel M L w p c) : VRel M L w (view1 M p) c := by
  unfold view1
  split
  · rename_i i ver off len
    split
    · rename_i k v xs hi
      split
      · rename_i hc
        obtain ⟨rfl, hle⟩ := hc
        obtain ⟨a, cap, rfl, _, hcap, hm⟩ := h.os_live hi
        obtain ⟨hk, h2, h3⟩ := S.mem i _ hi
        have hlen : ((xs.drop off).take len).length = len := by simp; omega
        by_cases hcap0 : cap = 0
        · have : len = 0 := by omega
          subst this
          exact .fs _ _ _ _ k [] (by simp) (by simp) (by simp) (by simp; exact .nil) (by simp)
        · obtain ⟨B, q, cc, el', hL, rfl, hb, hsz⟩ := hm hcap0
          obtain ⟨cc', el'', vs, g1, g2, g3⟩ := h2 B q hL
          rw [hb] at g1; cases g1
          have hr := (g2.drop (off * k)).take (len * k)
          rw [flat_drop hk, flat_take (fun x hx => hk x (List.mem_of_mem_drop hx))] at hr
          refine .fs _ _ _ _ k _ hlen.symm (by rw [hlen]; exact hcap) (fun x hx => hk x (List.mem_of_mem_drop (List.mem_of_mem_take hx))) hr fun hne => ?_
          refine ⟨B, q + off * k, rfl, (Array.getElem?_eq_some_iff.1 hb).1, ?_, fun m u hu => ?_⟩
          · rintro ⟨j, bl, p, h1, h4, h5, h6⟩
            by_cases e : j = i
            · subst e; rw [hi] at h1; cases h1; simp [Blk.live] at h4
            · exact S.inj j i bl _ p (B, q) h1 hi h4 e h5 hL h6
          · rw [List.getElem?_take] at hu
            split at hu
            · rw [List.getElem?_drop] at hu
              have := g3 _ _ hu
              rw [show q + off * k + m = q + (off * k + m) from by omega]
              simp [World.cell?, hb, this]
            · cases hu
      · exact h
    · exact h
  · have := h.s_inv; subst this
    exact .fs [] none 0 0 0 [] rfl (Nat.le_refl _) (by simp) .nil (by simp)
  · exact h
theorem LRel.map_view (S : Sim R M L w) {xs : List PV} {vs : List Value} (h : LRel M L w xs vs) : LRel M L w (xs.map (view1 M)) vs := by
  induction xs generalizing vs with
  | nil => cases h; exact .nil
  | cons x xs ih => cases h with | cons _ v _ vs h hs => exact .cons _ _ _ _ (view1_rel S h) (ih hs)
theorem view_rel (S : Sim R M L w) {p : PV} {c : Value} (h : VRel M L w p c) : VRel M L w (view M p) c := by
  cases p with
  | agg cs =>
    cases h with
    | agg _ vs h => exact .agg _ _ (LRel.map_view S h)
  | _ => exact view1_rel S h
theorem view1_cells {p : PV} (h : ∀ cs, p ≠ .agg cs) : (view1 M p).cells.length = p.cells.length := by
  unfold view1
  split
  · split
    · split <;> rfl
    · rfl
  · rfl
  · rfl
theorem view_eq {p : PV} (h : ∀ cs, p ≠ .agg cs) : view M p = view1 M p := by
  cases p <;> first | rfl | exact absurd rfl (h _)
theorem view_cells {p : PV} : (view M p).cells.length = p.cells.length := by
  by_cases h : ∃ cs, p = .agg cs
  · obtain ⟨cs, rfl⟩ := h; simp [view, PV.cells]
  · have h' : ∀ cs, p ≠ .agg cs := fun cs e => h ⟨cs, e⟩
    rw [view_eq h', view1_cells h']
theorem run_zero {t : TypeId} {v : Value} (h : (P.info? t).bind (·.zero) = some v) : (zeroValue t).run P w = .ok v w := by
  cases hi : P.info? t with
  | none => rw [hi] at h; cases h
  | some i => rw [hi] at h; simp only [Option.bind_some] at h; simp [zeroValue, typeInfo, hi, h]
theorem okZ_spec {t : TypeId} {g : Option Nat} {z : List Value} (h : okZ P t g z = true) : ∃ v, (P.info? t).bind (·.zero) = some v ∧ v.cells.toList = z ∧ (∀ u ∈ z, aggV u = false) ∧
    (∀ k, g = some k → z.length = k) ∧ (g = none → z.length = 1) := by
  unfold okZ at h
  cases hz : (P.info? t).bind (·.zero) with
  | none => rw [hz] at h; cases h
  | some v =>
    rw [hz] at h
    cases g with
    | none =>
      obtain ⟨h1, h2⟩ := okVs_eq h
      subst h1
      refine ⟨v, rfl, ?_, h2, (fun k' hk' => by cases hk'), fun _ => rfl⟩
      have := h2 v (by simp)
      cases v <;> first | rfl | (simp [aggV] at this)
    | some k =>
      cases v <;> first
        | (cases h; done)
        | (simp only [Bool.and_eq_true, beq_iff_eq] at h
           obtain ⟨h1, h2⟩ := okVs_eq h.1
           exact ⟨_, rfl, h1.symm, h2, (fun k' hk' => by cases hk'; exact h.2), (fun hk' => by cases hk')⟩)
theorem mkPV_cells {g : Option Nat} {cs : List PV} {p : PV} (h : mkPV g cs = some p) (hs : ∀ c ∈ cs, ∃ v, c = .s v) : p.cells = cs := by
  cases g with
  | none =>
    match cs, h with
    | [c], h =>
      obtain rfl := Option.some.inj h
      obtain ⟨v, hv⟩ := hs c (by simp)
      subst hv; rfl
  | some k =>
    simp only [mkPV] at h
    split at h
    · obtain rfl := Option.some.inj h; rfl
    · cases h
theorem g_alloc (S : Sim R M L w) {o : Oper} {g : Option Nat} {z : List Value} {t : TypeId} (ho : o.op = .alloc t) (hz : okZ P t g z = true)
    {v : PV} {M' : List Blk} (h : res M ρ (.alloc g z) = some (v, M')) : Good R P (execOp σ o) M L w v M' := by
  obtain ⟨zv, h1, h2, h3, h4, h5⟩ := okZ_spec hz
  simp only [res] at h
  cases hm : mkPV g (z.map .s) with
  | none => rw [hm] at h; cases h
  | some e =>
    rw [hm] at h
    simp only [Option.map_some, Option.some.injEq, Prod.mk.injEq] at h
    obtain ⟨rfl, rfl⟩ := h
    have hc : e.cells = z.map .s := mkPV_cells hm (by simp)
    have hrun : (execOp σ o).run P w = .ok (.value (.pointer (some ⟨w.heap.size, 0, none⟩))) { w with heap := w.heap.push (.cells zv.cells t) } := by
      simp [execOp, ho, Instr.alloc, run_zero h1, newVar, newRow]
      try rfl
    obtain ⟨E, S'⟩ := push S (.row true z.length 0 [e]) (some (.cells zv.cells t)) (w' := { w with heap := w.heap.push (.cells zv.cells t) }) ⟨rfl, rfl, rfl⟩ rfl (by
      rintro _ _ rfl rfl E
      refine ⟨by simp [hc], fun b q hL => ?_, fun hL => by simp [Loc.upd_self] at hL⟩
      simp only [Loc.upd_self, Option.map_some, Option.some.injEq, Prod.mk.injEq] at hL
      obtain ⟨rfl, rfl⟩ := hL
      refine ⟨zv.cells, t, z, by simp, ?_, fun m u hu => by rw [Nat.zero_add]; rw [← h2] at hu; simpa using hu⟩
      simp only [List.flatMap_cons, List.flatMap_nil, List.append_nil, hc]
      exact LRel.map_s z h3)
    refine ⟨_, _, _, .inl hrun, E, S', ?_⟩
    have := VRel.op (M := M ++ [.row true z.length 0 [e]]) (L := L.upd M.length (some (w.heap.size, 0))) (w := { w with heap := w.heap.push (.cells zv.cells t) }) M.length 0 0 0 true z.length [e] w.heap.size 0 (by simp) (by simp) (by simp [Loc.upd_self])
    simpa using this
theorem g_onil (S : Sim R M L w) {o : Oper} {k : Nat} {y : Operand} (ho : o.op = .move y ∨ o.op = .assign y) (hy : y = .const (.slice none 0 0)) (hσ : ∀ v, σ (.const v) = v)
    {v : PV} {M' : List Blk} (h : res M ρ (.onil k) = some (v, M')) : Good R P (execOp σ o) M L w v M' := by
  simp only [res, Option.some.injEq, Prod.mk.injEq] at h
  obtain ⟨rfl, rfl⟩ := h
  obtain ⟨E, S'⟩ := push S (.row true k 0 []) none (w' := w) ⟨rfl, rfl, rfl⟩ rfl (by
    rintro _ _ rfl rfl E
    exact ⟨by simp, fun b q hL => by simp [Loc.upd_self] at hL, fun _ => rfl⟩)
  subst hy
  refine ⟨.slice none 0 0, w, _, .inl ?_, E, S', ?_⟩
  · rcases ho with ho | ho <;> simp [execOp, ho, hσ]
  · exact .os M.length 0 0 0 true k [] none 0 (by simp) (by simp) (Nat.le_refl _) (by simp)
theorem foldl_set (off : Nat) : ∀ (l : List Value) (n : Nat) (cells : Array Value), off + n + l.length ≤ cells.size →
    ((l.zipIdx n).foldl (fun cs (x : Value × Nat) => cs.setIfInBounds (off + x.2) x.1) cells).toList = cells.toList.take (off + n) ++ l ++ cells.toList.drop (off + n + l.length)
  | [], n, cells, _ => by simp
  | v :: l, n, cells, h => by
    simp only [List.length_cons] at h
    rw [List.zipIdx_cons, List.foldl_cons, foldl_set off l (n + 1) _ (by simp; omega)]
    simp only [Array.toList_setIfInBounds, List.length_cons]
    have hlt : off + n < cells.toList.length := by simp; omega
    generalize cells.toList = C at hlt
    have h1 : (C.set (off + n) v).take (off + (n + 1)) = C.take (off + n) ++ [v] := by
      rw [show off + (n + 1) = off + n + 1 from by omega, List.take_succ_eq_append_getElem (by simpa using hlt), List.take_set, List.set_eq_of_length_le (by simp; omega)]
      simp
    have h2 : (C.set (off + n) v).drop (off + (n + 1) + l.length) = C.drop (off + n + (l.length + 1)) := by
      rw [List.drop_set_of_lt (by omega)]
      congr 1; omega
    rw [h1, h2]
    simp
def setRangeV (cs : List Value) (off : Nat) (vs : List Value) : List Value := cs.take off ++ vs ++ cs.drop (off + vs.length)
theorem LRel.setRange {cs vs : List PV} {C V : List Value} (h : LRel M L w cs C) (k : LRel M L w vs V) (off : Nat) : LRel M L w (setRange cs off vs) (setRangeV C off V) := by
  unfold Nac.setRange setRangeV
  rw [k.length]
  exact ((h.take off).append k).append (h.drop _)
theorem fill_rel {place : Nat → Option (Nat × Nat)} : ∀ {ap : List (Nat × Nat × PV)} {cp : List (Nat × Value)} {cs cs' : List PV} {C : Array Value}, fillParts cs ap = some cs' → LRel M L w cs C.toList →
    ap.length = cp.length → (∀ (j : Nat) a c, ap[j]? = some a → cp[j]? = some c → place c.1 = some (a.1, a.2.1) ∧ VRel M L w a.2.2 c.2) → ∃ C', Instr.fill place C cp = some C' ∧ LRel M L w cs' C'.toList
  | [], [], cs, cs', C, h, hr, _, _ => by
    simp only [fillParts, Option.some.injEq] at h
    subst h
    exact ⟨C, rfl, hr⟩
  | (off, size, p) :: ap, (i, v) :: cp, cs, cs', C, h, hr, hl, hp => by
    simp only [fillParts] at h
    split at h
    · rename_i hc
      obtain ⟨h1, h2, h3⟩ := hc
      obtain ⟨g1, g2⟩ := hp 0 _ _ rfl rfl
      have hv := g2.cells (by intro e; rw [e] at h1; simp at h1; omega)
      have hvs : v.cells.size = size := by have := hv.length; simp at this; omega
      have hcl : cs.length = C.size := by have := hr.length; simpa using this
      have hset := foldl_set off v.cells.toList 0 C (by simp; omega)
      have hC : LRel M L w (setRange cs off p.cells) ((v.cells.toList.zipIdx 0).foldl (fun cs (x : Value × Nat) => cs.setIfInBounds (off + x.2) x.1) C).toList := by
        rw [hset]
        exact hr.setRange hv off
      obtain ⟨C', k1, k2⟩ := fill_rel h hC (by simpa using hl) fun j a c ha hc => hp (j + 1) a c (by simpa using ha) (by simpa using hc)
      refine ⟨C', ?_, k2⟩
      simp only [Instr.fill]
      simp only at g1
      rw [g1]
      simp only []
      rw [if_neg (by simp [hvs]; omega), ← k1]
      congr 1
      rw [← Array.foldl_toList, Array.toList_zipIdx]
    · cases h
  | [], _ :: _, _, _, _, _, _, hl, _ => by simp at hl
  | _ :: _, [], _, _, _, _, _, hl, _ => by simp at hl
end
end Go.Nac
set_option linter.unusedVariables false
set_option linter.unusedSectionVars false
set_option linter.unusedSimpArgs false
namespace Go.Nac
section
variable {R : CCode → Code → Prop} {P : Program} {M : List Blk} {L : Loc} {w w' : World} {ρ : CX → PV} {σ : Operand → Value}
/-- The parts of a literal, and where they lie. -/
def okParts (place : Nat → Option (Nat × Nat)) : List (Nat × Nat × CX) → List (Nat × Operand) → Bool
  | [], [] => true
  | (off, size, x) :: a, (i, y) :: b => place i == some (off, size) && okX x y && okParts place a b
  | _, _ => false
theorem okParts_spec (H : Fit M L w ρ σ) {place : Nat → Option (Nat × Nat)} : ∀ {a : List (Nat × Nat × CX)} {b : List (Nat × Operand)}, okParts place a b = true →
    (a.map fun p => (p.1, p.2.1, ρ p.2.2)).length = (b.map fun p => (p.1, σ p.2)).length ∧
    ∀ (j : Nat) x c, (a.map fun p => (p.1, p.2.1, ρ p.2.2))[j]? = some x → (b.map fun p => (p.1, σ p.2))[j]? = some c → place c.1 = some (x.1, x.2.1) ∧ VRel M L w x.2.2 c.2
  | [], [], _ => ⟨rfl, fun j x c h => by simp at h⟩
  | (off, size, x) :: a, (i, y) :: b, h => by
    simp only [okParts, Bool.and_eq_true, beq_iff_eq] at h
    obtain ⟨h1, h2⟩ := okParts_spec H h.2
    refine ⟨by simpa using h1, fun j x' c hx hc => ?_⟩
    cases j with
    | zero =>
      simp only [List.map_cons, List.getElem?_cons_zero, Option.some.injEq] at hx hc
      subst hx; subst hc
      exact ⟨h.1.1, H x y h.1.2⟩
    | succ j => exact h2 j x' c (by simpa using hx) (by simpa using hc)
  | [], _ :: _, h => by simp [okParts] at h
  | _ :: _, [], h => by simp [okParts] at h
def fieldPlaces (P : Program) (fs : List Field) : Option (List (Nat × Nat)) := fs.mapM fun f => (tySize P f.type).map fun n => (f.offset, n)
theorem run_places : ∀ {fs : List Field} {ps : List (Nat × Nat)}, fieldPlaces P fs = some ps →
    (fs.mapM (m := Sem) fun f => do pure (f.offset, ← sizeOf f.type)).run P w = .ok ps w
  | [], ps, h => by simp [fieldPlaces] at h; subst h; rfl
  | f :: fs, ps, h => by
    simp only [fieldPlaces, List.mapM_cons] at h
    cases hs : tySize P f.type with
    | none => rw [hs] at h; cases h
    | some n =>
      rw [hs] at h
      simp only [Option.map_some, Option.bind_eq_bind, Option.bind_some] at h
      cases hr : fieldPlaces P fs with
      | none =>
        have : (List.mapM (fun f => Option.map (fun n => (f.offset, n)) (tySize P f.type)) fs) = none := hr
        rw [this] at h; cases h
      | some qs =>
        have : (List.mapM (fun f => Option.map (fun n => (f.offset, n)) (tySize P f.type)) fs) = some qs := hr
        rw [this] at h
        simp only [Option.bind_some, Option.pure_def, Option.some.injEq] at h
        subst h
        rw [List.mapM_cons]
        simp only [Sem.run_bind, run_sizeOf' hs, Result.andThen_ok, Sem.run_pure]
        rw [run_places hr]
        rfl
theorem g_build_struct (S : Sim R M L w) (H : Fit M L w ρ σ) {o : Oper} {t : TypeId} {z : List Value} {fs : Array Field} {places : List (Nat × Nat)} {parts : List (Nat × Nat × CX)} {parts' : Array (Nat × Operand)} (ho : o.op = .build t parts')
    (hu : P.underlying t = some (.struct fs)) (hz : okZ P t (some z.length) z = true) (hpl : fieldPlaces P fs.toList = some places) (hp : okParts (fun (i : Nat) => places[i]?) parts parts'.toList = true)
    {v : PV} {M' : List Blk} (h : res M ρ (.build z parts) = some (v, M')) : Good R P (execOp σ o) M L w v M' := by
  obtain ⟨zv, h1, h2, h3, h4, h5⟩ := okZ_spec hz
  simp only [res] at h
  cases hf : fillParts (z.map .s) (parts.map fun p => (p.1, p.2.1, ρ p.2.2)) with
  | none => rw [hf] at h; cases h
  | some cs =>
    rw [hf] at h
    simp only [Option.map_some, Option.some.injEq, Prod.mk.injEq] at h
    obtain ⟨rfl, rfl⟩ := h
    obtain ⟨hl, hall⟩ := okParts_spec H hp
    obtain ⟨C', k1, k2⟩ := fill_rel (w := w) (place := fun (i : Nat) => places[i]?) hf (C := zv.cells) (by rw [h2]; exact LRel.map_s z h3) hl hall
    refine good_pure S (cv := .agg C') ?_ (.agg _ _ k2)
    have hm : (parts'.map fun x => (x.1, σ x.2)).toList = parts'.toList.map fun x => (x.1, σ x.2) := by simp
    have hpl' : ((fs.mapM (m := Sem) fun f => do pure (f.offset, ← sizeOf f.type)).run P w) = .ok places.toArray w := by
      rw [Array.mapM_eq_mapM_toList]
      show ((List.toArray <$> _ : Sem _)).run P w = _
      rw [map_eq_pure_bind]
      simp only [Sem.run_bind, run_places hpl, Result.andThen_ok, Sem.run_pure]
    have hfun : (fun (i : Nat) => places.toArray[i]?) = fun (i : Nat) => places[i]? := by funext i; simp
    simp only [execOp, ho, Sem.run_bind, Instr.build, run_zero h1, Result.andThen_ok, run_underlying hu, hpl', hm, hfun]
    rw [k1]
    rfl
theorem g_build_array (S : Sim R M L w) (H : Fit M L w ρ σ) {o : Oper} {t el : TypeId} {n k : Nat} {z : List Value} {parts : List (Nat × Nat × CX)} {parts' : Array (Nat × Operand)} (ho : o.op = .build t parts')
    (hu : P.underlying t = some (.array n el)) (hk : tySize P el = some k) (hz : okZ P t (some z.length) z = true) (hp : okParts (fun i => some (i * k, k)) parts parts'.toList = true)
    {v : PV} {M' : List Blk} (h : res M ρ (.build z parts) = some (v, M')) : Good R P (execOp σ o) M L w v M' := by
  obtain ⟨zv, h1, h2, h3, h4, h5⟩ := okZ_spec hz
  simp only [res] at h
  cases hf : fillParts (z.map .s) (parts.map fun p => (p.1, p.2.1, ρ p.2.2)) with
  | none => rw [hf] at h; cases h
  | some cs =>
    rw [hf] at h
    simp only [Option.map_some, Option.some.injEq, Prod.mk.injEq] at h
    obtain ⟨rfl, rfl⟩ := h
    obtain ⟨hl, hall⟩ := okParts_spec H hp
    obtain ⟨C', k1, k2⟩ := fill_rel (w := w) (place := fun i => some (i * k, k)) hf (C := zv.cells) (by rw [h2]; exact LRel.map_s z h3) hl hall
    refine good_pure S (cv := .agg C') ?_ (.agg _ _ k2)
    have hm : (parts'.map fun x => (x.1, σ x.2)).toList = parts'.toList.map fun x => (x.1, σ x.2) := by simp
    simp only [execOp, ho, Sem.run_bind, Instr.build, run_zero h1, Result.andThen_ok, run_underlying hu, run_sizeOf' hk, hm]
    rw [k1]
    rfl
/-- Elements one behind the other. -/
theorem seqFill {k : Nat} (hk0 : k ≠ 0) : ∀ (xs : List PV) (i : Nat) (A : List PV), A.length = i * k → (∀ x ∈ xs, x.cells.length = k) →
    fillParts (A ++ List.replicate (xs.length * k) .top) ((xs.zipIdx i).map fun p => (p.2 * k, k, p.1)) = some (A ++ xs.flatMap PV.cells)
  | [], i, A, _, _ => by simp [fillParts]
  | x :: xs, i, A, hA, hx => by
    have h1 : x.cells.length = k := hx x (by simp)
    simp only [List.zipIdx_cons, List.map_cons, fillParts]
    rw [if_pos ⟨h1, hk0, by simp [hA, Nat.add_mul]⟩]
    have hs : setRange (A ++ List.replicate ((x :: xs).length * k) .top) (i * k) x.cells = (A ++ x.cells) ++ List.replicate (xs.length * k) .top := by
      unfold Nac.setRange
      rw [← hA, List.take_left, List.length_cons, Nat.add_mul, Nat.one_mul, Nat.add_comm (xs.length * k) k, ← List.replicate_append_replicate, ← List.append_assoc A, h1]
      have : A.length + k = (A ++ List.replicate k PV.top).length := by simp
      rw [this, List.drop_left]
    rw [hs, seqFill hk0 xs (i + 1) (A ++ x.cells) (by simp [hA, h1, Nat.add_mul]) fun y hy => hx y (by simp [hy])]
    simp
def okSeq : Nat → List CX → List (Nat × Operand) → Bool
  | _, [], [] => true
  | i, x :: xs, (j, y) :: ys => i == j && okX x y && okSeq (i + 1) xs ys
  | _, _, _ => false
theorem okSeq_spec (H : Fit M L w ρ σ) {k : Nat} : ∀ {i : Nat} {a : List CX} {b : List (Nat × Operand)}, okSeq i a b = true →
    (((a.map ρ).zipIdx i).map fun p => (p.2 * k, k, p.1)).length = (b.map fun p => (p.1, σ p.2)).length ∧
    ∀ (j : Nat) x c, (((a.map ρ).zipIdx i).map fun p => (p.2 * k, k, p.1))[j]? = some x → (b.map fun p => (p.1, σ p.2))[j]? = some c → some (c.1 * k, k) = some (x.1, x.2.1) ∧ VRel M L w x.2.2 c.2
  | _, [], [], _ => ⟨rfl, fun j x c h => by simp at h⟩
  | i, x :: a, (j', y) :: b, h => by
    simp only [okSeq, Bool.and_eq_true, beq_iff_eq] at h
    obtain ⟨⟨h0, hxy⟩, h⟩ := h
    subst h0
    obtain ⟨h1, h2⟩ := okSeq_spec H h
    refine ⟨by simpa using h1, fun j x' c hx hc => ?_⟩
    cases j with
    | zero =>
      simp only [List.map_cons, List.zipIdx_cons, List.getElem?_cons_zero, Option.some.injEq] at hx hc
      subst hx; subst hc
      exact ⟨rfl, H x y hxy⟩
    | succ j => exact h2 j x' c (by simpa using hx) (by simpa using hc)
  | _, [], _ :: _, h => by simp [okSeq] at h
  | _, _ :: _, [], h => by simp [okSeq] at h
/-- A row of new cells, kept or not. -/
theorem new_row (S : Sim R M L w) {xs : List PV} {C : Array Value} {k : Nat} {el : TypeId} (hk : ∀ x ∈ xs, x.cells.length = k) (hr : LRel M L w (xs.flatMap PV.cells) (C.toList.take (xs.length * k)))
    (hw : Same w w') (hh : w'.heap = w.heap.push (.cells C el)) (cap : Nat) (hcap : xs.length ≤ cap) (hsz : cap * k ≤ C.size) (ver : Nat) :
    Evo M L w (M ++ [.row true k ver xs]) (L.upd M.length (some (w.heap.size, 0))) w' ∧ Sim R (M ++ [.row true k ver xs]) (L.upd M.length (some (w.heap.size, 0))) w' ∧
      VRel (M ++ [.row true k ver xs]) (L.upd M.length (some (w.heap.size, 0))) w' (.os M.length ver 0 xs.length) (.slice (some ⟨w.heap.size, 0, none⟩) xs.length cap) := by
  obtain ⟨E, S'⟩ := push S (.row true k ver xs) (some (.cells C el)) hw hh (by
    rintro _ _ rfl rfl E
    refine ⟨hk, fun b q hL => ?_, fun hL => by simp [Loc.upd_self] at hL⟩
    simp only [Loc.upd_self, Option.map_some, Option.some.injEq, Prod.mk.injEq] at hL
    obtain ⟨rfl, rfl⟩ := hL
    refine ⟨C, el, C.toList.take (xs.length * k), by rw [hh]; simp, LRel.evo E hr, fun m u hu => ?_⟩
    rw [List.getElem?_take] at hu
    split at hu
    · rw [Nat.zero_add]; simpa using hu
    · cases hu)
  refine ⟨E, S', ?_⟩
  refine .os M.length ver 0 xs.length true k xs _ cap (by simp) (by omega) hcap fun _ => ?_
  exact ⟨w.heap.size, 0, C, el, by simp [Loc.upd_self], by simp, by rw [hh]; simp, by simpa using hsz⟩
theorem fresh_row (S : Sim R M L w) {xs : List PV} {C : Array Value} {k : Nat} {el : TypeId} (hk : ∀ x ∈ xs, x.cells.length = k) (hr : LRel M L w (xs.flatMap PV.cells) (C.toList.take (xs.length * k)))
    (hw : Same w w') (hh : w'.heap = w.heap.push (.cells C el)) (cap : Nat) (hcap : xs.length ≤ cap) :
    Evo M L w M L w' ∧ Sim R M L w' ∧ VRel M L w' (.fs xs) (.slice (some ⟨w.heap.size, 0, none⟩) xs.length cap) := by
  obtain ⟨E, S'⟩ := grow S (.cells C el) hw hh
  refine ⟨E, S', .fs xs _ _ cap k _ rfl hcap hk (LRel.evo E hr) fun _ => ⟨w.heap.size, 0, rfl, by rw [hh]; simp, notOwned_new S, fun m u hu => ?_⟩⟩
  rw [List.getElem?_take] at hu
  split at hu
  · rw [Nat.zero_add]; exact cell_push hh (by simpa using hu)
  · cases hu
theorem map_view_cells {xs : List PV} {k : Nat} (h : ∀ x ∈ xs, x.cells.length = k) : ∀ x ∈ xs.map (view M), x.cells.length = k := by
  intro x hx
  obtain ⟨y, hy, rfl⟩ := List.mem_map.1 hx
  rw [view_cells]; exact h y hy
theorem view1_one {p : PV} (h : p.cells = [p]) : (view1 M p).cells = [view1 M p] := by
  unfold view1
  split
  · split
    · split <;> rfl
    · rfl
  · rfl
  · exact h
theorem flat_view (S : Sim R M L w) {xs : List PV} : ∀ {vs : List Value}, LRel M L w (xs.flatMap PV.cells) vs → LRel M L w ((xs.map (view M)).flatMap PV.cells) vs := by
  induction xs with
  | nil => exact fun h => h
  | cons x xs ih =>
    intro vs h
    rw [List.flatMap_cons] at h
    obtain ⟨v1, v2, rfl, h1, h2⟩ := h.split
    rw [List.map_cons, List.flatMap_cons]
    refine LRel.append ?_ (ih h2)
    by_cases hx : ∃ cs, x = .agg cs
    · obtain ⟨cs, rfl⟩ := hx
      exact LRel.map_view S h1
    · have hx' : ∀ cs, x ≠ .agg cs := fun cs e => hx ⟨cs, e⟩
      rw [view_eq hx']
      cases x with
      | top => cases h1; exact .nil
      | agg cs => exact absurd rfl (hx' cs)
      | os i ver off len =>
        cases h1 with
        | cons _ c _ _ hv hs =>
          cases hs
          have := view1_rel S hv
          have hc := view1_one (M := M) (p := .os i ver off len) rfl
          rw [hc]; exact .cons _ _ _ _ this .nil
      | s v =>
        cases h1 with
        | cons _ c _ _ hv hs =>
          cases hs
          have := view1_rel S hv
          have hc := view1_one (M := M) (p := .s v) rfl
          rw [hc]; exact .cons _ _ _ _ this .nil
      | _ => exact h1
theorem g_bsl (S : Sim R M L w) (H : Fit M L w ρ σ) {o : Oper} {own : Bool} {t el : TypeId} {k n : Nat} {xs : List CX} {parts : Array (Nat × Operand)} (ho : o.op = .buildSlice t n parts)
    (hu : P.underlying t = some (.slice el)) (hk : tySize P el = some k) (hn : n = xs.length) (hsm : n * k ≤ 2 ^ 24) (hz : ((P.info? el).bind (·.zero)).isSome = true) (hp : okSeq 0 xs parts.toList = true)
    {v : PV} {M' : List Blk} (h : res M ρ (.bsl own k xs) = some (v, M')) : Good R P (execOp σ o) M L w v M' := by
  simp only [res] at h
  split at h
  case isFalse => cases h
  rename_i hc
  obtain ⟨hall, hk0⟩ := hc
  have hall' : ∀ x ∈ xs.map ρ, x.cells.length = k := by simpa using hall
  obtain ⟨zv, hzv⟩ := Option.isSome_iff_exists.1 hz
  obtain ⟨hl, hps⟩ := okSeq_spec H (k := k) hp
  -- the cells
  have hfill : ∀ C : Array Value, C.size = n * k → ∃ C', Instr.fill (fun i => some (i * k, k)) C (parts.toList.map fun p => (p.1, σ p.2)) = some C' ∧ LRel M L w ((xs.map ρ).flatMap PV.cells) C'.toList := by
    intro C hC
    have hseq := seqFill hk0 (xs.map ρ) 0 [] (by simp) hall'
    simp only [List.nil_append] at hseq
    refine fill_rel hseq ?_ hl hps
    have := LRel.tops (M := M) (L := L) (w := w) C.toList
    rw [Array.length_toList, hC, hn] at this
    simpa using this
  have hm : (parts.map fun x => (x.1, σ x.2)).toList = parts.toList.map fun x => (x.1, σ x.2) := by simp
  have hrun : ∃ C', LRel M L w ((xs.map ρ).flatMap PV.cells) C'.toList ∧ (execOp σ o).run P w = .ok (.value (.slice (some ⟨w.heap.size, 0, none⟩) n n)) { w with heap := w.heap.push (.cells C' el) } := by
    by_cases h0 : n * k = 0
    · obtain ⟨C', k1, k2⟩ := hfill ((Array.range (n * k)).map (#[][· % 0]!)) (by simp)
      refine ⟨C', k2, ?_⟩
      have hnot : ¬ (n * k > 2 ^ 24) := by omega
      simp only [execOp, ho, Sem.run_bind, Instr.buildSlice, run_underlying hu, Result.andThen_ok, run_sizeOf' hk, Sem.run_ite, if_neg hnot, if_pos h0, Sem.run_pure, hm]
      simp only [List.size_toArray, List.length_nil] at k1 ⊢
      rw [k1]
      simp [newRow]
      try rfl
    · obtain ⟨C', k1, k2⟩ := hfill ((Array.range (n * k)).map (zv.cells[· % zv.cells.size]!)) (by simp)
      refine ⟨C', k2, ?_⟩
      have hnot : ¬ (n * k > 2 ^ 24) := by omega
      simp only [execOp, ho, Sem.run_bind, Instr.buildSlice, run_underlying hu, Result.andThen_ok, run_sizeOf' hk, Sem.run_ite, if_neg hnot, if_neg h0, Sem.run_pure, hm, run_zero hzv]
      rw [k1]
      simp [newRow]
      try rfl
  obtain ⟨C', hr, hrun⟩ := hrun
  have hlen : (xs.map ρ).length = n := by simp [hn]
  have hsz : C'.size = n * k := by
    have h1 := hr.length
    rw [flat_length hall', hlen] at h1
    simpa using h1.symm
  have hr' : LRel M L w ((xs.map ρ).flatMap PV.cells) (C'.toList.take ((xs.map ρ).length * k)) := by
    rw [List.take_of_length_le (by simp [hsz, hn])]; exact hr
  cases own with
  | true =>
    simp only [if_true, Option.some.injEq, Prod.mk.injEq] at h
    obtain ⟨rfl, rfl⟩ := h
    obtain ⟨E, S', hv⟩ := new_row S hall' hr' (w' := { w with heap := w.heap.push (.cells C' el) }) ⟨rfl, rfl, rfl⟩ rfl n (by omega) (by omega) 0
    rw [hlen] at hv
    rw [← hn]
    exact ⟨_, _, _, .inl hrun, E, S', hv⟩
  | false =>
    simp only [Bool.false_eq_true, if_false, Option.some.injEq, Prod.mk.injEq] at h
    obtain ⟨rfl, rfl⟩ := h
    have e : (xs.map fun x => view M (ρ x)) = (xs.map ρ).map (view M) := by simp
    rw [e]
    have hlen' : ((xs.map ρ).map (view M)).length = n := by simp [hn]
    obtain ⟨E, S', hv⟩ := fresh_row S (map_view_cells (M := M) hall') (by
      have := flat_view S hr'
      rw [List.length_map]; exact this) (w' := { w with heap := w.heap.push (.cells C' el) }) ⟨rfl, rfl, rfl⟩ rfl n (by omega)
    rw [hlen'] at hv
    exact ⟨_, _, _, .inl hrun, E, S', hv⟩
theorem g_box (S : Sim R M L w) (H : Fit M L w ρ σ) {o : Oper} {own : Bool} {t : TypeId} {k : Nat} {x : CX} {x' : Operand} (ho : o.op = .box t x') (hx : okX x x' = true)
    {v : PV} {M' : List Blk} (h : res M ρ (.box own k x) = some (v, M')) : Good R P (execOp σ o) M L w v M' := by
  have k1 := H x x' hx
  simp only [res] at h
  split at h
  case isFalse => cases h
  rename_i hc
  obtain ⟨hk, hk0⟩ := hc
  have hcs := k1.cells (by intro e; rw [e] at hk; simp at hk; omega)
  have hrun : (execOp σ o).run P w = .ok (.value (.pointer (some ⟨w.heap.size, 0, none⟩))) { w with heap := w.heap.push (.cells (σ x').cells t) } := by
    simp [execOp, ho, Instr.box, newVar, newRow]
    try rfl
  have hall : ∀ y ∈ [ρ x], y.cells.length = k := by simpa using hk
  cases own with
  | true =>
    simp only [if_true, Option.some.injEq, Prod.mk.injEq] at h
    obtain ⟨rfl, rfl⟩ := h
    have hsz : (σ x').cells.size = k := by have := hcs.length; rw [hk] at this; simpa using this.symm
    obtain ⟨E, S', hv⟩ := new_row S hall (C := (σ x').cells) (by simp; rw [List.take_of_length_le (by simp [hsz])]; exact hcs) (w' := { w with heap := w.heap.push (.cells (σ x').cells t) }) ⟨rfl, rfl, rfl⟩ rfl 1 (by simp) (by omega) 0
    refine ⟨_, _, _, .inl hrun, E, S', ?_⟩
    have := VRel.op (M := M ++ [.row true k 0 [ρ x]]) (L := L.upd M.length (some (w.heap.size, 0))) (w := { w with heap := w.heap.push (.cells (σ x').cells t) }) M.length 0 0 0 true k [ρ x] w.heap.size 0 (by simp) (by simp) (by simp [Loc.upd_self])
    simpa using this
  | false =>
    simp only [Bool.false_eq_true, if_false, Option.some.injEq, Prod.mk.injEq] at h
    obtain ⟨rfl, rfl⟩ := h
    obtain ⟨E, S'⟩ := grow S (.cells (σ x').cells t) (w' := { w with heap := w.heap.push (.cells (σ x').cells t) }) ⟨rfl, rfl, rfl⟩ rfl
    refine ⟨_, _, _, .inl hrun, E, S', ?_⟩
    have hvc := (view_rel S k1).cells (M := M) (by intro e; have := view_cells (M := M) (p := ρ x); rw [e, hk] at this; simp at this; omega)
    exact .fp _ w.heap.size 0 (σ x').cells.toList (LRel.evo E hvc) (by simp) (notOwned_new S) fun m u hu => by rw [Nat.zero_add]; exact cell_push rfl (by simpa using hu)
theorem g_mkmap (S : Sim R M L w) {o : Oper} {t : TypeId} (ho : o.op = .makeMap t none)
    {v : PV} {M' : List Blk} (h : res M ρ .mkmap = some (v, M')) : Good R P (execOp σ o) M L w v M' := by
  simp only [res, Option.some.injEq, Prod.mk.injEq] at h
  obtain ⟨rfl, rfl⟩ := h
  have hrun : (execOp σ o).run P w = .ok (.value (.map (some w.heap.size))) { w with heap := w.heap.push (.map #[] 0) } := by
    simp [execOp, ho, Instr.makeMap]
    try rfl
  obtain ⟨E, S'⟩ := push S (.map []) (some (.map #[] 0)) (w' := { w with heap := w.heap.push (.map #[] 0) }) ⟨rfl, rfl, rfl⟩ rfl (by
    rintro _ _ rfl rfl E
    exact ⟨w.heap.size, 0, #[], 0, by simp [Loc.upd_self], by simp, rfl, by simp⟩)
  exact ⟨_, _, _, .inl hrun, E, S', .om M.length [] w.heap.size 0 (by simp) (by simp [Loc.upd_self])⟩
end
end Go.Nac
set_option linter.unusedVariables false
set_option linter.unusedSectionVars false
set_option linter.unusedSimpArgs false
namespace Go.Nac
section
variable {R : CCode → Code → Prop} {P : Program} {M : List Blk} {L : Loc} {w w' : World} {ρ : CX → PV} {σ : Operand → Value}
theorem get_replicate {k : Nat} {e : PV} (he : e.cells.length = k) (hk : 0 < k) : ∀ (l i : Nat), i < l * k → ((List.replicate l e).flatMap PV.cells)[i]? = e.cells[i % k]?
  | 0, i, h => by omega
  | l + 1, i, h => by
    rw [List.replicate_succ, List.flatMap_cons]
    rw [Nat.add_mul, Nat.one_mul] at h
    rcases Nat.lt_or_ge i k with hi | hi
    · rw [List.getElem?_append_left (by omega), Nat.mod_eq_of_lt hi]
    · rw [List.getElem?_append_right (by omega), he, get_replicate he hk l (i - k) (by omega)]
      congr 1
      rw [Nat.mod_eq_sub_mod hi]
theorem g_mksl (S : Sim R M L w) (H : Fit M L w ρ σ) {o : Oper} {k bytes : Nat} {g : Option Nat} {z : List Value} {t el : TypeId} {len cap : CX} {len' cap' : Operand} (ho : o.op = .makeSlice t len' cap') (h1 : okX len len' = true) (h2 : okX cap cap' = true)
    (hu : P.underlying t = some (.slice el)) (hk : tySize P el = some k) (hby : (P.info? el).map (·.bytes) = some bytes) (hz : okZ P el g z = true)
    {v : PV} {M' : List Blk} (h : res M ρ (.mksl k g z bytes len cap) = some (v, M')) : Good R P (execOp σ o) M L w v M' := by
  have k1 := H len len' h1; have k2 := H cap cap' h2
  obtain ⟨zv, hzv, hz2, hz3, hz4, hz5⟩ := okZ_spec hz
  simp only [res] at h
  split at h
  · rename_i l c e1 e2
    rw [e1] at k1; rw [e2] at k2
    have c1 := k1.s_inv; have c2 := k2.s_inv
    split at h
    case isFalse => cases h
    rename_i hc
    obtain ⟨h0, rfl, hle, hbl, hzl, hk0⟩ := hc
    cases hm : mkPV g (z.map .s) with
    | none => rw [hm] at h; cases h
    | some e =>
      rw [hm] at h
      simp only [Option.map_some, Option.some.injEq, Prod.mk.injEq] at h
      obtain ⟨rfl, rfl⟩ := h
      have hec : e.cells = z.map .s := mkPV_cells hm (by simp)
      have hel : e.cells.length = k := by rw [hec]; simpa using hzl
      have hw : IntKind.i64.wrap l = l := IntWalk.i64_in l ⟨by omega, by omega⟩
      have hzs : zv.cells.size = k := by have := congrArg List.length hz2; simpa [hzl] using this
      have hinfo : ∃ i, P.info? el = some i ∧ i.bytes = bytes := by
        cases hi : P.info? el with
        | none => rw [hi] at hby; cases hby
        | some i => rw [hi] at hby; exact ⟨i, rfl, by simpa using hby⟩
      obtain ⟨i, hi, hib⟩ := hinfo
      obtain ⟨n, rfl⟩ := Int.eq_ofNat_of_zero_le h0
      have hmul : (bytes : Int) * (n : Int) ≤ 2 ^ 48 := by
        have : bytes * n ≤ 2 ^ 20 * 2 ^ 20 := Nat.mul_le_mul hbl (by omega)
        have h3 : ((bytes * n : Nat) : Int) ≤ ((2 ^ 20 * 2 ^ 20 : Nat) : Int) := by exact_mod_cast this
        simp only [Int.natCast_mul] at h3
        omega
      have hrun : ∃ C : Array Value, C.size = n * k ∧ (∀ j, j < n * k → C[j]? = z[j % k]?) ∧ (execOp σ o).run P w = .ok (.value (.slice (some ⟨w.heap.size, 0, none⟩) n n)) { w with heap := w.heap.push (.cells C el) } := by
        have hnot : ¬ ((n : Int) < 0) := by omega
        have hnot3 : ¬ (281474976710656 < (bytes : Int) * n) := by omega
        by_cases hn0 : n * k = 0
        · refine ⟨#[], by simp [hn0], fun j hj => by omega, ?_⟩
          simp [execOp, ho, c1, c2, Instr.makeSlice, run_underlying hu, asInt, asIntOf, typeInfo, hi, hib, hw, hnot, hnot3, run_sizeOf' hk, hn0, newRow]
          rw [show (Array.map (fun _ => (default : Value)) (Array.range 0)) = #[] from by apply Array.ext'; simp]
          try rfl
        · have hz' := run_zero (P := P) (w := w) hzv
          refine ⟨(Array.range (n * k)).map fun i => zv.cells[i % zv.cells.size]!, by simp, fun j hj => ?_, ?_⟩
          · have hjm : j % k < zv.cells.size := by rw [hzs]; exact Nat.mod_lt _ hk0
            have hjs : j % zv.cells.size < zv.cells.size := by rw [hzs]; rw [hzs] at hjm; exact hjm
            have hr : (Array.range (n * k))[j]? = some j := by simp [hj]
            rw [Array.getElem?_map, hr, Option.map_some, getElem!_pos zv.cells (j % zv.cells.size) hjs]
            rw [← hz2, Array.getElem?_toList, Array.getElem?_eq_getElem hjm]
            congr 2
            rw [hzs]
          · simp [execOp, ho, c1, c2, Instr.makeSlice, run_underlying hu, asInt, asIntOf, typeInfo, hi, hib, hw, hnot, hnot3, run_sizeOf' hk, hn0, newRow, hz']
            try rfl
      obtain ⟨C, hCs, hC, hrun⟩ := hrun
      have hr : LRel M L w ((List.replicate n e).flatMap PV.cells) (C.toList.take ((List.replicate n e).length * k)) := by
        rw [List.take_of_length_le (by simp [hCs])]
        refine LRel.all ?_ fun j x u hx hu => ?_
        · rw [flat_length (k := k) (by intro x hx; rw [List.eq_of_mem_replicate hx]; exact hel)]; simp [hCs]
        · have hj : j < n * k := by
            have := (List.getElem?_eq_some_iff.1 hu).1
            simpa [hCs] using this
          rw [get_replicate hel hk0 n j hj, hec] at hx
          rw [Array.getElem?_toList, hC j hj] at hu
          rw [List.getElem?_map, hu] at hx
          simp only [Option.map_some, Option.some.injEq] at hx
          subst hx
          exact .s u (hz3 u (List.mem_of_getElem? hu))
      obtain ⟨E, S', hv⟩ := new_row S (k := k) (xs := List.replicate n e) (by intro x hx; rw [List.eq_of_mem_replicate hx]; exact hel) hr (w' := { w with heap := w.heap.push (.cells C el) }) ⟨rfl, rfl, rfl⟩ rfl n (by simp) (by simp [hCs]) 0
      refine ⟨_, _, _, .inl hrun, E, S', ?_⟩
      simpa using hv
  · cases h
def kindOf (sk : SK) (d : TypeDesc) : Prop := match sk with | .int => ∃ k, d = .int k | .str => d = .string | .bool => d = .bool
theorem find_now {d : TypeDesc} {sk : SK} {q : Value} (hd : kindOf sk d) (hq : keyOk sk q = true) :
    ∀ (l : List MapEntry) (i : Nat), keysLike q (l.map fun e => (e.key, e.val)) = true →
    ∃ r, Instr.findNow d q l i = some r ∧ r.map (·.2) = find q (l.map fun e => (e.key, e.val)) ∧
      (∀ j v, r = some (j, v) → i ≤ j ∧ ∃ e, l[j - i]? = some e ∧ sameKey q e.key = true ∧ ∀ u, upd q u (l.map fun e => (e.key, e.val)) = (l.map fun e => (e.key, e.val)).set (j - i) (q, u)) ∧
      (r = none → ∀ u, upd q u (l.map fun e => (e.key, e.val)) = (l.map fun e => (e.key, e.val)) ++ [(q, u)])
  | [], i, _ => ⟨none, rfl, rfl, by simp, fun _ u => rfl⟩
  | e :: l, i, h => by
    simp only [List.map_cons, keysLike, List.all_cons, Bool.and_eq_true] at h
    obtain ⟨h1, h2⟩ := h
    obtain ⟨b, hb⟩ := Option.isSome_iff_exists.1 h1
    have hs : Instr.sameNow d q e.key = some b := by
      cases sk with
      | int =>
        obtain ⟨k, rfl⟩ := hd
        cases q <;> simp [keyOk] at hq
        cases hk : e.key <;> rw [hk] at hb <;> simp [eqScalar] at hb
        simp [Instr.sameNow, hb]
      | str =>
        cases hd
        cases q <;> simp [keyOk] at hq
        cases hk : e.key <;> rw [hk] at hb <;> simp [eqScalar] at hb
        simp [Instr.sameNow, hb]
      | bool =>
        cases hd
        cases q <;> simp [keyOk] at hq
        cases hk : e.key <;> rw [hk] at hb <;> simp [eqScalar] at hb
        simp [Instr.sameNow, hb]
    have hsk : sameKey q e.key = b := by simp [sameKey, hb]
    cases b with
    | true =>
      refine ⟨some (i, e.val), by simp [Instr.findNow, hs], by simp [find, hsk], ?_, by simp⟩
      intro j v hj
      simp only [Option.some.injEq, Prod.mk.injEq] at hj
      obtain ⟨rfl, rfl⟩ := hj
      exact ⟨Nat.le_refl _, e, by simp, hsk, fun u => by simp [upd, hsk]⟩
    | false =>
      obtain ⟨r, g1, g2, g3, g4⟩ := find_now hd hq l (i + 1) h2
      refine ⟨r, by simp [Instr.findNow, hs, g1], by simp [find, hsk, g2], ?_, ?_⟩
      · intro j v hj
        obtain ⟨hle, e', h3, h4, h5⟩ := g3 j v hj
        have hji : j - i = (j - (i + 1)) + 1 := by omega
        refine ⟨by omega, e', by rw [hji]; simpa using h3, h4, fun u => ?_⟩
        simp [upd, hsk, hji, h5 u]
      · intro hr u
        simp [upd, hsk, g4 hr u]
def okKey (P : Program) (t : TypeId) (sk : SK) : Bool :=
  match sk, P.underlying t with
  | .int, some (.int _) => true
  | .str, some .string => true
  | .bool, some .bool => true
  | _, _ => false
theorem okKey_spec {t : TypeId} {sk : SK} (h : okKey P t sk = true) : ∃ d, P.underlying t = some d ∧ kindOf sk d := by
  unfold okKey at h
  cases hu : P.underlying t with
  | none => rw [hu] at h; cases sk <;> cases h
  | some d =>
    rw [hu] at h
    cases sk <;> cases d <;> first | (cases h; done) | exact ⟨_, rfl, rfl⟩ | exact ⟨_, rfl, _, rfl⟩
theorem run_checkKey' {t : TypeId} {sk : SK} {q : Value} {b : Bool} (n : Nat) (h : okKey P t sk = true) : (Instr.checkKey b (n + 1) t q).run P w = .ok () w := by
  obtain ⟨d, hu, hd⟩ := okKey_spec h
  cases sk with
  | int => obtain ⟨k, rfl⟩ := hd; simp [Instr.checkKey, run_underlying hu]
  | str => cases hd; simp [Instr.checkKey, run_underlying hu]
  | bool => cases hd; simp [Instr.checkKey, run_underlying hu]
theorem run_checkKey {t : TypeId} {sk : SK} {q : Value} {b : Bool} (h : okKey P t sk = true) : (Instr.checkKey b 10000 t q).run P w = .ok () w := run_checkKey' 9999 h
theorem g_look (S : Sim R M L w) (H : Fit M L w ρ σ) {o : Oper} {sk : SK} {z : Value} {ok : Bool} {t kt et : TypeId} {m key : CX} {m' key' : Operand} (ho : o.op = .lookup t m' key' ok) (h1 : okX m m' = true) (h2 : okX key key' = true)
    (hu : P.underlying t = some (.map kt et)) (hk : okKey P kt sk = true) (hz : okZ P et none [z] = true)
    {v : PV} {M' : List Blk} (h : res M ρ (.look sk z ok m key) = some (v, M')) : Good R P (execOp σ o) M L w v M' := by
  have k1 := H m m' h1; have k2 := H key key' h2
  obtain ⟨zv, hzv, hz2, hz3, _, _⟩ := okZ_spec hz
  have hzz : zv = z ∧ aggV z = false := by
    have := hz3 z (by simp)
    unfold okZ at hz
    rw [hzv] at hz
    simp only at hz
    obtain ⟨h, _⟩ := okVs_eq hz
    simp at h
    exact ⟨h.symm, this⟩
  obtain ⟨rfl, hzagg⟩ := hzz
  simp only [res] at h
  split at h
  · rename_i i q e1 e2
    rw [e1] at k1; rw [e2] at k2
    have c2 := k2.s_inv
    split at h
    · rename_i es hi
      split at h
      case isFalse => cases h
      rename_i hc
      obtain ⟨hq, hkl⟩ := hc
      generalize hcm : σ m' = c at k1
      cases k1 with
      | om _ es' b off hi' hL =>
        rw [hi] at hi'; cases hi'
        obtain ⟨b', o', ents, clock, g1, g2, g3, g4⟩ := S.mem i _ hi
        rw [hL] at g1; cases g1
        obtain ⟨d, hd, hdk⟩ := okKey_spec hk
        obtain ⟨r, f1, f2, _, _⟩ := find_now hdk hq ents.toList 0 (by rw [g3]; exact hkl)
        rw [g3] at f2
        have hfk : (Instr.findKey kt q ents.toList).run P w = .ok r w := by
          simp [Instr.findKey, run_underlying hd, f1]
        have hlook : (Instr.lookup t (.map (some b)) q ok).run P w = .ok (if ok then .tuple #[((find q es).getD zv), .bool (find q es).isSome] else (find q es).getD zv) w := by
          cases r with
          | none =>
            have hf : find q es = none := by simpa using f2.symm
            simp [Instr.lookup, run_underlying hu, getObj, Sem.run, g2, run_checkKey hk, hfk, run_zero hzv, hf]
            try (cases ok <;> rfl)
          | some p =>
            have hf : find q es = some p.2 := by simpa using f2.symm
            simp [Instr.lookup, run_underlying hu, getObj, Sem.run, g2, run_checkKey hk, hfk, hf]
            try (cases ok <;> rfl)
        have hagg : aggV ((find q es).getD zv) = false := by
          have : ∀ (l : List (Value × Value)), (∀ e ∈ l, aggV e.2 = false) → aggV ((find q l).getD zv) = false := by
            intro l hl
            induction l with
            | nil => exact hzagg
            | cons e l ih =>
              unfold find
              split
              · exact hl e (by simp)
              · exact ih fun x hx => hl x (by simp [hx])
          exact this es g4
        have hvv : v = (if ok then .tup [.s ((find q es).getD zv), .B (find q es).isSome] else .s ((find q es).getD zv)) ∧ M' = M := by
          cases hf : find q es with
          | none => rw [hf] at h; simp only [Option.some.injEq, Prod.mk.injEq] at h; exact ⟨h.1.symm.trans (by cases ok <;> rfl), h.2.symm⟩
          | some u => rw [hf] at h; simp only [Option.some.injEq, Prod.mk.injEq] at h; exact ⟨h.1.symm.trans (by cases ok <;> rfl), h.2.symm⟩
        obtain ⟨rfl, rfl⟩ := hvv
        refine good_pure S (by simp only [execOp, ho, hcm, c2, Sem.run_bind, hlook]; rfl) ?_
        cases ok
        · exact .s _ hagg
        · exact .tup _ _ (.cons _ _ _ _ (.s _ hagg) (.cons _ _ _ _ (.s _ rfl) .nil))
    · cases h
  · cases h
end
end Go.Nac

