import Derived.Test.YtdlngmbgalmdeaaK5i
import Derived.Laws.AppendOwn
set_option linter.unusedVariables false
set_option linter.unusedSectionVars false
set_option linter.unusedSimpArgs false
namespace Go.Nac
section
variable {R : CCode → Code → Prop} {P : Program} {M : List Blk} {L : Loc} {w w' : World} {ρ : CX → PV} {σ : Operand → Value}
/-- What a slice holds, as the machine reads it. -/
theorem held_run (S : Sim R M L w) {k : Nat} {p : PV} {c : Value} {ys : List PV} (hp : VRel M L w p c) (h : held M p = some ys) (hk : ∀ y ∈ ys, y.cells.length = k) (hk0 : k ≠ 0) :
    ∃ us, LRel M L w (ys.flatMap PV.cells) us ∧ (Builtin.lenOf c).run P w = .ok ys.length w ∧
      ∀ n w', n ≤ ys.length → w'.heap = w.heap → (Builtin.firstCells k n c).run P w' = .ok (us.take (n * k)).toArray w' := by
  have fin : ∀ {B q n : Nat} {us : List Value} {cap len : Nat} {w' : World}, n * k ≤ us.length → w'.heap = w.heap → (∀ m v, us[m]? = some v → w.cell? ⟨B, q + m, none⟩ = some v) →
      (Builtin.firstCells k n (.slice (some ⟨B, q, none⟩) len cap)).run P w' = .ok (us.take (n * k)).toArray w' := by
    intro B q n us cap len w' hle hh hc
    refine run_firstCells_some (P := P) w' k n ⟨B, q, none⟩ len cap (us.take (n * k)) (by simp; omega) fun j v hv => ?_
    rw [List.getElem?_take] at hv
    split at hv
    · rw [add_none]
      have := hc j v hv
      unfold World.cell? at *
      rw [hh]; exact this
    · cases hv
  unfold held at h
  split at h
  · obtain rfl := Option.some.inj h
    rename_i xs
    cases hp with
    | fs _ a n cap k' vs hn hcap hk' hr hm =>
      subst hn
      refine ⟨vs, hr, by simp [Builtin.lenOf], fun n w' hle hh => ?_⟩
      by_cases hne : xs = []
      · subst hne
        have hn0 : n = 0 := by simpa using hle
        subst hn0
        cases a with
        | none => simp [Builtin.firstCells]
        | some ad => simp [Builtin.firstCells, loadCells, loadCellsFrom]
      · obtain ⟨B, q, rfl, hlt, hno, hcell⟩ := hm hne
        have hvl : vs.length = xs.length * k := by rw [← hr.length]; exact flat_length hk
        exact fin (by rw [hvl]; exact Nat.mul_le_mul_right _ hle) hh hcell
  · obtain rfl := Option.some.inj h
    have := hp.s_inv
    subst this
    refine ⟨[], .nil, by simp [Builtin.lenOf], fun n w' hle hh => ?_⟩
    have hn0 : n = 0 := by simpa using hle
    subst hn0
    simp [Builtin.firstCells]
  · rename_i i ver off len
    split at h
    · rename_i wr k' v xs hi
      split at h
      · rename_i hc
        obtain ⟨rfl, hle⟩ := hc
        obtain rfl := Option.some.inj h
        obtain ⟨a, cap, rfl, hx', hcap, hm⟩ := hp.os_live hi
        have hlen : ((xs.drop off).take len).length = len := by simp; omega
        by_cases h0 : len = 0
        · subst h0
          refine ⟨[], by simp; exact .nil, by simp [Builtin.lenOf], fun n w' hle hh => ?_⟩
          have hn0 : n = 0 := by simpa using hle
          subst hn0
          cases a with
          | none => simp [Builtin.firstCells]
          | some ad => simp [Builtin.firstCells, loadCells, loadCellsFrom]
        · obtain ⟨B, q, cc, el, hL, rfl, hb, hsz⟩ := hm (by omega)
          obtain ⟨hk1, c', el', vs, g1, g2, g3, g4⟩ := row_cells S hi hL
          have hkk : k' = k := by
            have hy : (xs.drop off).take len ≠ [] := by intro h; rw [h] at hlen; simp at hlen; omega
            obtain ⟨y, hy⟩ := List.exists_mem_of_ne_nil _ hy
            exact (hk1 y (List.mem_of_mem_drop (List.mem_of_mem_take hy))).symm.trans (hk y hy)
          subst hkk
          have hr := (g2.drop (off * k')).take (len * k')
          rw [flat_drop hk1, flat_take (fun x hx => hk1 x (List.mem_of_mem_drop hx))] at hr
          have hvl := hr.length
          rw [flat_length (fun x hx => hk1 x (List.mem_of_mem_drop (List.mem_of_mem_take hx))), hlen] at hvl
          refine ⟨_, hr, by simp [Builtin.lenOf]; omega, fun n w' hle hh => ?_⟩
          rw [hlen] at hle
          refine fin (by rw [← hvl]; exact Nat.mul_le_mul_right _ hle) hh fun m v hv => ?_
          rw [List.getElem?_take] at hv
          split at hv
          · rw [List.getElem?_drop] at hv
            rw [show q + off * k' + m = q + (off * k' + m) from by omega]
            exact g4 _ _ hv
          · cases hv
      · cases h
    · cases h
  · cases h
theorem okElem_spec {k : Nat} {ys : List PV} (h : ys.all (okElem k) = true) : (∀ y ∈ ys, y.cells.length = k) ∧ (ys.flatMap PV.cells).all oneB = true := by
  induction ys with
  | nil => simp
  | cons y ys ih =>
    simp only [List.all_cons, Bool.and_eq_true, okElem, beq_iff_eq] at h
    obtain ⟨h1, h2⟩ := ih (by simpa [okElem] using h.2)
    refine ⟨?_, by simp [h.1.2, h2]⟩
    intro z hz
    rcases List.mem_cons.1 hz with rfl | hz
    · exact h.1.1
    · exact h1 z hz
theorem run_append' {t el : TypeId} {i : TypeInfo} {z : Value} {ts : Array TypeId} {ty : TypeId} {base : Option Addr} {sLen sCap n k : Nat} {x : Value} {olds news : List Value} (ht : P.underlying t = some (.slice el)) (hi : P.info? el = some i) (hz : i.zero = some z) (hk : i.size = k)
    (hts : ts[0]? = some t) (hts1 : ∃ t1, ts[1]? = some t1 ∧ ∃ d, P.underlying t1 = some d ∧ ∀ kk, d ≠ .int kk)
    (hn : (Builtin.lenOf x).run P w = .ok n w) (hnew : ∀ w', w'.heap = w.heap → (Builtin.firstCells k n x).run P w' = .ok news.toArray w')
    (hold : ∀ w', w'.heap = w.heap → (Builtin.firstCells k sLen (.slice base sLen sCap)).run P w' = .ok olds.toArray w')
    (hsmall : sLen + n ≤ 2 ^ 20) (hb : i.bytes ≤ 2 ^ 20) :
    (sLen + n ≤ sCap → ∀ w2, (match base with | some a => (storeCells (a.add (sLen * k)) news).run P w = .ok () w2 | none => w2 = w) →
      (Builtin.append_ ts ty #[.slice base sLen sCap, x]).run P w = .ok (.slice base (sLen + n) sCap) w2) ∧
    (¬ sLen + n ≤ sCap → ∃ w2 cap C, Same w w2 ∧ sLen + n ≤ cap ∧ C.size = sLen * 0 + (olds ++ news).length + (cap - (sLen + n)) * z.cells.size ∧ C.toList.take (olds ++ news).length = olds ++ news ∧
      w2.heap = w.heap.push (.cells C el) ∧ (Builtin.append_ ts ty #[.slice base sLen sCap, x]).run P w = .ok (.slice (some ⟨w.heap.size, 0, none⟩) (sLen + n) cap) w2) := by
  obtain ⟨t1, hts1, d, hd, hdi⟩ := hts1
  have hzeros : (match d with | .int _ => true | _ => false) = false := by cases d <;> first | rfl | exact absurd rfl (hdi _)
  constructor
  · intro hroom w2 hst
    have hnew' := hnew w rfl
    cases base with
    | none =>
      simp only at hst
      subst hst
      simp [Builtin.append_, hts, hts1, run_underlying ht, run_underlying hd, hzeros, sizeOf, typeInfo, hi, hk, hn, hroom, hnew']
    | some a =>
      simp only at hst
      simp [Builtin.append_, hts, hts1, run_underlying ht, run_underlying hd, hzeros, sizeOf, typeInfo, hi, hk, hn, hroom, hnew', hst]
  · intro hroom
    have hfit : ¬ (Builtin.nextslicecap (sLen + n) sCap * i.bytes > 2 ^ 48) := by
      have h1 : (sLen + n) * i.bytes ≤ 2 ^ 20 * 2 ^ 20 := Nat.mul_le_mul hsmall hb
      have := growslice_fits (need := sLen + n) (old := sCap) (bytes := i.bytes) (by omega) (by omega)
      omega
    have h63 : ¬ (((sLen + n : Nat) : Int) > 9223372036854775807) := by omega
    have h63' : ¬ (9223372036854775807 < (sLen : Int) + (n : Int)) := by omega
    have hfit' : ¬ (281474976710656 < Builtin.nextslicecap (sLen + n) sCap * i.bytes) := by omega
    have hnew' := hnew w.drew rfl
    have hold' := hold w.drew rfl
    refine ⟨w.drew.alloc (.cells (olds.toArray ++ news.toArray ++ Builtin.zeroCells z.cells (grownCap w (sLen + n) sCap el - (sLen + n))) el), grownCap w (sLen + n) sCap el,
      olds.toArray ++ news.toArray ++ Builtin.zeroCells z.cells (grownCap w (sLen + n) sCap el - (sLen + n)), ⟨rfl, rfl, rfl⟩, grownCap_ge w _ _ _, ?_, ?_, rfl, ?_⟩
    · simp [size_zeroCells]
    · simp only [Array.toList_append]
      rw [List.take_left' (by simp)]
    · simp [Builtin.append_, hts, hts1, run_underlying ht, run_underlying hd, hzeros, sizeOf, typeInfo, zeroValue, hi, hk, hz, hn, hroom, h63', hfit', Question.forced, hnew', hold', newRow, grownCap]
      congr 2
      apply Array.ext'
      simp
theorem g_append (S : Sim R M L w) (H : Fit M L w ρ σ) {o : Oper} {k bytes : Nat} {t t1 el : TypeId} {x y : CX} {x' y' : Operand} {ts : Array TypeId} {d : TypeDesc} (ho : o.op = .call { callee := .builtin .append, args := #[x', y'], argTypes := ts })
    (hx : okX x x' = true) (hy : okX y y' = true) (hts : ts[0]? = some t) (hts1 : ts[1]? = some t1) (ht : P.underlying t = some (.slice el)) (hd : P.underlying t1 = some d) (hdi : ∀ kk, d ≠ .int kk)
    (hk : tySize P el = some k) (hby : (P.info? el).map (·.bytes) = some bytes) {g : Option Nat} {zz : List Value} (hz : okZ P el g zz = true) (hzk : zz.length = k)
    {v : PV} {M' : List Blk} (h : res M ρ (.append k bytes x y) = some (v, M')) : Good R P (execOp σ o) M L w v M' := by
  have k1 := H x x' hx; have k2 := H y y' hy
  obtain ⟨zv, hzv, hz2, hz3, _, _⟩ := okZ_spec hz
  have hinfo : ∃ i, P.info? el = some i ∧ i.bytes = bytes ∧ i.size = k ∧ i.zero = some zv := by
    cases hi : P.info? el with
    | none => rw [hi] at hby; cases hby
    | some i =>
      rw [hi] at hby hzv
      unfold tySize at hk
      rw [hi] at hk
      exact ⟨i, rfl, by simpa using hby, by simpa using hk, by simpa using hzv⟩
  obtain ⟨i, hi, hib, hik, hiz⟩ := hinfo
  have hzs : zv.cells.size = k := by have := congrArg List.length hz2; simpa [hzk] using this
  have htt : ∃ t1, ts[1]? = some t1 ∧ ∃ d, P.underlying t1 = some d ∧ ∀ kk, d ≠ .int kk := ⟨t1, hts1, d, hd, hdi⟩
  simp only [res] at h
  cases hh : held M (ρ y) with
  | none => rw [hh] at h; cases h
  | some ys =>
    rw [hh] at h
    simp only at h
    split at h
    case isFalse => cases h
    rename_i hc
    obtain ⟨hall, hk0, hb20⟩ := hc
    obtain ⟨hyk, hyone⟩ := okElem_spec hall
    obtain ⟨us, hyr, hyn, hyf⟩ := held_run (P := P) S k2 hh hyk hk0
    have husl : us.length = ys.length * k := by rw [← hyr.length]; exact flat_length hyk
    have hnew : ∀ w', w'.heap = w.heap → (Builtin.firstCells k ys.length (σ y')).run P w' = .ok us.toArray w' := fun w' hw' => by
      rw [hyf ys.length w' (Nat.le_refl _) hw', List.take_of_length_le (by omega)]
    have hex : ∀ r w2, (Builtin.append_ ts o.type #[σ x', σ y']).run P w = .ok r w2 → (execOp σ o).run P w = .ok (.value r) w2 := fun r w2 h => by
      simp [execOp, ho, resolve, invoke, builtin, h]
    split at h
    · rename_i e1
      rw [e1] at k1
      have c1 := k1.s_inv
      split at h
      case isFalse => cases h
      rename_i hsm
      simp only [Option.some.injEq, Prod.mk.injEq] at h
      obtain ⟨rfl, rfl⟩ := h
      obtain ⟨r1, r2⟩ := run_append' (P := P) (w := w) (t := t) (el := el) (i := i) (z := zv) (ts := ts) (ty := o.type) (base := none) (sLen := 0) (sCap := 0) (n := ys.length) (k := k) (x := σ y') (olds := []) (news := us) ht hi hiz hik hts htt hyn hnew
        (fun w' _ => by simp [Builtin.firstCells]) (by omega) (by omega)
      by_cases h0 : ys.length = 0
      · have hys : ys = [] := List.eq_nil_of_length_eq_zero h0
        subst hys
        have := r1 (by simp) w rfl
        obtain ⟨E, S'⟩ := push S (.row true k 0 []) none (w' := w) ⟨rfl, rfl, rfl⟩ rfl (by
          rintro _ _ rfl rfl E
          exact ⟨by simp, fun b q hL => by simp [Loc.upd_self] at hL, fun _ => rfl⟩)
        refine ⟨.slice none 0 0, w, _, .inl (hex _ _ (by rw [c1]; simpa using this)), E, S', ?_⟩
        exact .os M.length 0 0 0 true k [] none 0 (by simp) (by simp) (Nat.le_refl _) (by simp)
      · obtain ⟨w2, cap, C, hw2, hcap, hCs, hCt, hheap, hrun⟩ := r2 (by omega)
        simp only [Nat.zero_add, List.nil_append, Nat.zero_mul] at hcap hCs hCt hrun
        obtain ⟨E, S', hv⟩ := new_row S (w' := w2) (k := k) (xs := ys) (C := C) hyk (by rw [← husl, hCt]; exact hyr) hw2 hheap cap hcap (by
          rw [hCs, husl, hzs, ← Nat.add_mul]
          exact Nat.mul_le_mul_right _ (by omega)) 0
        exact ⟨_, _, _, .inl (hex _ _ (by rw [c1]; exact hrun)), E, S', hv⟩
    · rename_i a ver off len e1
      rw [e1] at k1
      split at h
      · rename_i k' vv xs hrow
        split at h
        case isFalse => cases h
        rename_i hcond
        obtain ⟨rfl, rfl, hle, hsm⟩ := hcond
        simp only [Option.some.injEq, Prod.mk.injEq] at h
        obtain ⟨rfl, rfl⟩ := h
        obtain ⟨base, cap, c1, hx', hcap, hm⟩ := k1.os_live hrow
        have hold0 : held M (.os a vv off len) = some ((xs.drop off).take len) := by
          simp [held, hrow, hle]
        have hxk := (S.mem a _ hrow).1
        have hxk' : ∀ y ∈ (xs.drop off).take len, y.cells.length = k' := fun y hy => hxk y (List.mem_of_mem_drop (List.mem_of_mem_take hy))
        have hlen : ((xs.drop off).take len).length = len := by simp; omega
        have k1' := k1
        rw [c1] at k1'
        obtain ⟨os_, hor, hon, hof⟩ := held_run (P := P) S k1' hold0 hxk' hk0
        have hosl : os_.length = len * k' := by rw [← hor.length, flat_length hxk', hlen]
        obtain ⟨r1, r2⟩ := run_append' (P := P) (w := w) (t := t) (el := el) (i := i) (z := zv) (ts := ts) (ty := o.type) (base := base) (sLen := len) (sCap := cap) (n := ys.length) (k := k') (x := σ y') (olds := os_) (news := us) ht hi hiz hik hts htt hyn hnew
          (fun w' hw' => by rw [hof len w' (by omega) hw', List.take_of_length_le (by omega)]) hsm (by omega)
        have hnk : ∀ x ∈ (xs.drop off).take len ++ ys, x.cells.length = k' := fun x hx => (List.mem_append.1 hx).elim (hxk' x) (hyk x)
        have hnr : LRel M L w (((xs.drop off).take len ++ ys).flatMap PV.cells) (os_ ++ us) := by rw [List.flatMap_append]; exact hor.append hyr
        have hnl : ((xs.drop off).take len ++ ys).length = len + ys.length := by rw [List.length_append, hlen]
        have hai : a < M.length := (List.getElem?_eq_some_iff.1 hrow).1
        by_cases hroom : len + ys.length ≤ cap
        · by_cases hcap0 : cap = 0
          · -- nothing at all
            have hl0 : len = 0 := by omega
            have hy0 : ys = [] := List.eq_nil_of_length_eq_zero (by omega)
            subst hl0; subst hy0; subst hcap0
            have hus0 : us = [] := List.eq_nil_of_length_eq_zero (by simpa using husl)
            subst hus0
            have hrun := r1 hroom w (by cases base <;> rfl)
            obtain ⟨E, S'⟩ := change S hrow (blk' := .row true k' (vv + 1) []) (L.upd a none) (fun j hj => Loc.upd_ne _ _ hj) (w' := w) ⟨rfl, rfl, rfl⟩ (.inl rfl) (Nat.le_refl _) (fun _ _ _ => rfl)
              (fun p hp => by rw [Loc.upd_self] at hp; cases hp) ⟨by omega, fun e => by omega⟩ (fun E => ⟨by simp, (fun b q hL => by rw [Loc.upd_self] at hL; cases hL), fun _ => rfl⟩)
            have hxs0 : (xs.drop off).take 0 ++ ([] : List PV) = [] := by simp
            rw [hxs0]
            refine ⟨.slice base 0 0, w, L.upd a none, .inl (hex _ _ (by rw [c1]; simpa using hrun)), E, S', ?_⟩
            · refine .os a (vv + 1) 0 0 true k' [] base 0 (by simp [hai]) (by simp) (Nat.le_refl _) (by simp)
          · obtain ⟨b, q, cc, el', hL, rfl, hb, hsz⟩ := hm hcap0
            have hone := hyr.one hyone
            have hroomk : (len + ys.length) * k' ≤ cap * k' := Nat.mul_le_mul_right _ hroom
            rw [Nat.add_mul] at hroomk
            have hszk : q + off * k' + cap * k' ≤ cc.size := by rw [Nat.add_assoc, ← Nat.add_mul]; exact hsz
            have hst := run_storeCells_at P b (q + off * k' + len * k') el' us 0 cc w hb (by omega) hone
            simp only [Nat.add_zero] at hst
            have hrun := r1 hroom _ (by simp only [add_none]; exact hst)
            obtain ⟨hk1, c', el'', vs, g1, g2, g3, g4⟩ := row_cells S hrow hL
            rw [hb] at g1; cases g1
            have hvl : vs.length = xs.length * k' := by rw [← g2.length]; exact flat_length hk1
            have hoffk : (off + len) * k' ≤ xs.length * k' := Nat.mul_le_mul_right _ hle
            rw [Nat.add_mul] at hoffk
            obtain ⟨E, S'⟩ := write_row S (ver' := vv + 1) (o' := q + off * k') (xs' := (xs.drop off).take len ++ ys) hrow hL hb (w' := w.setRow b (cc.toList.take (q + off * k' + len * k') ++ us ++ cc.toList.drop (q + off * k' + len * k' + us.length)).toArray)
              ⟨rfl, rfl, rfl⟩ (setRow_heap _ _ _ _ _ _ hb) (fun b' hb' => setRow_other _ _ _ _ hb') (setRow_size _ _ _) (by simp; omega) (.inl (by omega)) hnk
              (vs := (vs.drop (off * k')).take (len * k') ++ us) (by
                rw [List.flatMap_append]
                refine LRel.append ?_ hyr
                have := (g2.drop (off * k')).take (len * k')
                rw [flat_drop hk1, flat_take (fun x hx => hk1 x (List.mem_of_mem_drop hx))] at this
                exact this) (fun m u hu => by
                have e : ((cc.toList.take (q + off * k' + len * k') ++ us ++ cc.toList.drop (q + off * k' + len * k' + us.length)).toArray)[q + off * k' + m]? = (setRangeV cc.toList (q + off * k' + len * k') us)[q + off * k' + m]? := by simp [setRangeV]
                rw [e, setRangeV_get _ _ _ (by simp; omega)]
                have hl1 : ((vs.drop (off * k')).take (len * k')).length = len * k' := by simp; omega
                rw [List.getElem?_append, hl1] at hu
                split at hu
                · rename_i hlt
                  rw [if_pos (by omega)]
                  rw [List.getElem?_take, if_pos hlt, List.getElem?_drop] at hu
                  have := g3 _ _ hu
                  rw [show q + off * k' + m = q + (off * k' + m) from by omega]
                  simpa using this
                · rename_i hge
                  have hm2 : m - len * k' < us.length := (List.getElem?_eq_some_iff.1 hu).1
                  rw [if_neg (by omega), if_pos (by omega), show q + off * k' + m - (q + off * k' + len * k') = m - len * k' from by omega]
                  exact hu)
            refine ⟨_, _, _, .inl (hex _ _ (by rw [c1]; exact hrun)), E, S', ?_⟩
            refine .os a (vv + 1) 0 (len + ys.length) true k' _ _ cap (by simp [hai]; rfl) (by rw [hnl]; omega) hroom fun _ => ?_
            refine ⟨b, q + off * k', _, el', by simp [Loc.upd_self], by simp, setRow_heap _ _ _ _ _ _ hb, ?_⟩
            simp only [Nat.zero_add, List.size_toArray, List.length_append, List.length_take, List.length_drop, Array.length_toList]
            omega
        · obtain ⟨w2, cap', C, hw2, hcap', hCs, hCt, hheap, hrun⟩ := r2 hroom
          have hnew2 : w2.heap[w.heap.size]? = some (.cells C el (0, 0)) := by rw [hheap]; simp
          have old : ∀ b, b < w.heap.size → w2.heap[b]? = w.heap[b]? := by
            intro b hlt
            rw [hheap, Array.getElem?_push_lt hlt]; exact (Array.getElem?_eq_getElem hlt).symm
          obtain ⟨E, S'⟩ := change S hrow (blk' := .row true k' (vv + 1) ((xs.drop off).take len ++ ys)) (L.upd a (some (w.heap.size, 0))) (fun j hj => Loc.upd_ne _ _ hj) (w' := w2) hw2 (.inl rfl) (by rw [hheap]; simp) (fun b hb _ => old b hb)
            (fun p hp => by rw [Loc.upd_self] at hp; cases hp; exact .inr (Nat.le_refl _)) ⟨by omega, fun e => by omega⟩ (fun E => by
              refine ⟨hnk, fun b q hL => ?_, fun hL => by rw [Loc.upd_self] at hL; cases hL⟩
              rw [Loc.upd_self] at hL; cases hL
              refine ⟨C, el, os_ ++ us, hnew2, LRel.evo E hnr, fun m u hu => ?_⟩
              rw [Nat.zero_add, ← Array.getElem?_toList]
              have hm' : m < (os_ ++ us).length := (List.getElem?_eq_some_iff.1 hu).1
              rw [← hCt, List.getElem?_take, if_pos hm'] at hu
              exact hu)
          refine ⟨_, _, _, .inl (hex _ _ (by rw [c1]; exact hrun)), E, S', ?_⟩
          refine .os a (vv + 1) 0 (len + ys.length) true k' _ _ cap' (by simp [hai]; rfl) (by rw [hnl]; omega) hcap' fun _ => ?_
          refine ⟨w.heap.size, 0, C, el, by simp [Loc.upd_self], by simp, hnew2, ?_⟩
          rw [hCs, List.length_append, hosl, husl, hzs, ← Nat.add_mul, Nat.zero_add, Nat.zero_add, Nat.mul_zero, Nat.zero_add, ← Nat.add_mul]
          exact Nat.mul_le_mul_right _ (by omega)
      · cases h
    · cases h
theorem flat_setRange {k : Nat} {xs ys : List PV} {off : Nat} (hx : ∀ x ∈ xs, x.cells.length = k) (hy : ∀ y ∈ ys, y.cells.length = k) :
    (setRange xs off ys).flatMap PV.cells = setRange (xs.flatMap PV.cells) (off * k) (ys.flatMap PV.cells) := by
  unfold Nac.setRange
  rw [List.flatMap_append, List.flatMap_append, flat_take hx, flat_length hy, ← Nat.add_mul, flat_drop hx]
theorem g_copy (S : Sim R M L w) (H : Fit M L w ρ σ) {o : Oper} {k : Nat} {t el : TypeId} {x y : CX} {x' y' : Operand} {ts : Array TypeId} (ho : o.op = .call { callee := .builtin .copy, args := #[x', y'], argTypes := ts })
    (hx : okX x x' = true) (hy : okX y y' = true) (hts : ts[0]? = some t) (ht : P.underlying t = some (.slice el)) (hk : tySize P el = some k)
    {v : PV} {M' : List Blk} (h : res M ρ (.copy k x y) = some (v, M')) : Good R P (execOp σ o) M L w v M' := by
  have k1 := H x x' hx; have k2 := H y y' hy
  simp only [res] at h
  split at h
  · rename_i i ver off len ys e1 e2
    rw [e1] at k1
    split at h
    · rename_i k' vv xs hrow
      split at h
      case isFalse => cases h
      rename_i hcond
      obtain ⟨rfl, rfl, hle, hall, hk0⟩ := hcond
      simp only [Option.some.injEq, Prod.mk.injEq] at h
      obtain ⟨rfl, rfl⟩ := h
      obtain ⟨hyk, hyone⟩ := okElem_spec hall
      obtain ⟨us, hyr, hyn, hyf⟩ := held_run (P := P) S k2 e2 hyk hk0
      obtain ⟨base, cap, c1, hx', hcap, hm⟩ := k1.os_live hrow
      have hfc := hyf (Nat.min ys.length len) w (Nat.min_le_left _ _) rfl
      have husl : us.length = ys.length * k' := by rw [← hyr.length]; exact flat_length hyk
      have hyk' : ∀ y ∈ ys.take len, y.cells.length = k' := fun y hy => hyk y (List.mem_of_mem_take hy)
      have hex : ∀ w2, (match base with | some a => (storeCells a (us.take (Nat.min ys.length len * k'))).run P w = .ok () w2 | none => w2 = w) → (execOp σ o).run P w = .ok (.value (.int .i64 ((Nat.min ys.length len : Nat) : Int))) w2 := fun w2 h => by
        cases base with
        | none => subst h; simp [execOp, ho, resolve, invoke, builtin, Builtin.copy_, hts, run_underlying ht, run_sizeOf' hk, c1, hyn, hfc, goInt]
        | some a => simp only at h; simp [execOp, ho, resolve, invoke, builtin, Builtin.copy_, hts, run_underlying ht, run_sizeOf' hk, c1, hyn, hfc, goInt, h]
      by_cases h0 : Nat.min ys.length len = 0
      · -- nothing
        have hempty : ys.take len = [] := by
          apply List.eq_nil_of_length_eq_zero
          rw [List.length_take]
          have h0' : min ys.length len = 0 := h0
          omega
        have hM : M.set i (.row true k' vv (setRange xs off (ys.take len))) = M := by
          rw [hempty]
          have : setRange xs off [] = xs := by unfold Nac.setRange; simp
          rw [this]
          obtain ⟨hlt, hget⟩ := List.getElem?_eq_some_iff.1 hrow
          rw [← hget]; exact List.set_getElem_self hlt
        rw [hM]
        refine good_pure S (hex w ?_) (.s _ rfl)
        rw [h0]
        cases base <;> simp [storeCells]
      · have hcap0 : cap ≠ 0 := by
          have : Nat.min ys.length len ≤ len := Nat.min_le_right _ _
          omega
        obtain ⟨b, q, cc, el', hL, rfl, hb, hsz⟩ := hm hcap0
        obtain ⟨hk1, c', el'', vs, g1, g2, g3, g4⟩ := row_cells S hrow hL
        have hmin : us.take (Nat.min ys.length len * k') = us.take (len * k') := by
          rcases Nat.le_total ys.length len with h1 | h1
          · rw [show Nat.min ys.length len = ys.length from Nat.min_eq_left h1, List.take_of_length_le (by omega), List.take_of_length_le (by rw [husl]; exact Nat.mul_le_mul_right _ h1)]
          · rw [show Nat.min ys.length len = len from Nat.min_eq_right h1]
        have hyr' : LRel M L w ((ys.take len).flatMap PV.cells) (us.take (len * k')) := by rw [← flat_take hyk]; exact hyr.take _
        have hone : ∀ u ∈ us.take (len * k'), u.oneCell' = true := fun u hu => hyr.one hyone u (List.mem_of_mem_take hu)
        have hut : (us.take (len * k')).length ≤ len * k' := by simp; omega
        have hoffk : (off + len) * k' ≤ xs.length * k' := Nat.mul_le_mul_right _ hle
        rw [Nat.add_mul] at hoffk
        have hne : us.take (len * k') ≠ [] := fun h => by
          rw [← hmin] at h
          have := congrArg List.length h
          simp only [List.length_take, List.length_nil, husl] at this
          have h2 : 0 < Nat.min ys.length len * k' := Nat.mul_pos (Nat.pos_of_ne_zero h0) (Nat.pos_of_ne_zero hk0)
          have h3 : Nat.min ys.length len * k' ≤ ys.length * k' := Nat.mul_le_mul_right _ (Nat.min_le_left _ _)
          clear hm
          omega
        have hple : off * k' + (us.take (len * k')).length ≤ xs.length * k' := by clear hm; omega
        have hsl : (setRange xs off (ys.take len)).length = xs.length := setRange_length (by clear hm; have := List.length_take_le len ys; omega)
        obtain ⟨w', h1, E, S'⟩ := store_row S hrow hL (P := P) (xs' := setRange xs off (ys.take len)) hsl (fun z hz => by
            unfold Nac.setRange at hz
            rcases List.mem_append.1 hz with hz | hz
            · rcases List.mem_append.1 hz with hz | hz
              · exact hk1 z (List.mem_of_mem_take hz)
              · exact hyk' z hz
            · exact hk1 z (List.mem_of_mem_drop hz)) hone hne (p := off * k') hple hyr' (flat_setRange hk1 hyk')
        exact ⟨_, w', _, .inl (hex w' (by simp only; rw [hmin]; exact h1)), E, S', .s _ rfl⟩
    · cases h
  · cases h
theorem fold_max {n : Nat} : ∀ {ys : List PV} {cs : List Value} {p q : PV} {c : Value}, foldO maxI p ys = some q → VRel M L w p c → LRel M L w ys cs → ∃ d, (cs.foldlM Builtin.max2 c).run P w = .ok d w ∧ VRel M L w q d
  | [], [], p, q, c, h, hp, _ => by
    simp only [foldO, Option.some.injEq] at h
    subst h
    exact ⟨c, rfl, hp⟩
  | y :: ys, d :: cs, p, q, c, h, hp, hr => by
    cases hr with
    | cons _ _ _ _ hy hys =>
      simp only [foldO] at h
      cases hm : maxI p y with
      | none => rw [hm] at h; cases h
      | some z =>
        rw [hm] at h
        simp only [Option.bind_some] at h
        unfold maxI at hm
        split at hm
        · split at hm
          · rename_i e; subst e
            obtain rfl := Option.some.inj hm
            obtain rfl := hp.s_inv
            obtain rfl := hy.s_inv
            obtain ⟨d', h1, h2⟩ := fold_max (n := n) h (.s _ rfl) hys
            refine ⟨d', ?_, h2⟩
            rw [List.foldlM_cons]
            simp only [Sem.run_bind, Builtin.max2, Sem.run_pure, Result.andThen_ok]
            exact h1
          · cases hm
        · cases hm
  | [], _ :: _, _, _, _, _, _, hr => by cases hr
  | _ :: _, [], _, _, _, _, _, hr => by cases hr
theorem fold_min {n : Nat} : ∀ {ys : List PV} {cs : List Value} {p q : PV} {c : Value}, foldO minI p ys = some q → VRel M L w p c → LRel M L w ys cs → ∃ d, (cs.foldlM Builtin.min2 c).run P w = .ok d w ∧ VRel M L w q d
  | [], [], p, q, c, h, hp, _ => by
    simp only [foldO, Option.some.injEq] at h
    subst h
    exact ⟨c, rfl, hp⟩
  | y :: ys, d :: cs, p, q, c, h, hp, hr => by
    cases hr with
    | cons _ _ _ _ hy hys =>
      simp only [foldO] at h
      cases hm : minI p y with
      | none => rw [hm] at h; cases h
      | some z =>
        rw [hm] at h
        simp only [Option.bind_some] at h
        unfold minI at hm
        split at hm
        · split at hm
          · rename_i e; subst e
            obtain rfl := Option.some.inj hm
            obtain rfl := hp.s_inv
            obtain rfl := hy.s_inv
            obtain ⟨d', h1, h2⟩ := fold_min (n := n) h (.s _ rfl) hys
            refine ⟨d', ?_, h2⟩
            rw [List.foldlM_cons]
            simp only [Sem.run_bind, Builtin.min2, Sem.run_pure, Result.andThen_ok]
            exact h1
          · cases hm
        · cases hm
  | [], _ :: _, _, _, _, _, _, hr => by cases hr
  | _ :: _, [], _, _, _, _, _, hr => by cases hr
theorem g_max (S : Sim R M L w) (H : Fit M L w ρ σ) {o : Oper} {x : CX} {xs : List CX} {args : Array Operand} {ts : Array TypeId} (ho : o.op = .call { callee := .builtin .max, args := args, argTypes := ts }) (hx : okXs (x :: xs) args.toList = true)
    {v : PV} {M' : List Blk} (h : res M ρ (.max x xs) = some (v, M')) : Good R P (execOp σ o) M L w v M' := by
  have k := H.list hx
  simp only [res] at h
  cases hf : foldO maxI (ρ x) (xs.map ρ) with
  | none => rw [hf] at h; cases h
  | some q =>
    rw [hf] at h
    simp only [Option.map_some, Option.some.injEq, Prod.mk.injEq] at h
    obtain ⟨rfl, rfl⟩ := h
    have ha : (args.map σ).toList = args.toList.map σ := by simp
    generalize hl : args.toList.map σ = cs at k ha
    cases k with
    | cons _ c _ ds hc hds =>
      obtain ⟨d, h1, h2⟩ := fold_max (P := P) (n := 0) hf hc hds
      refine good_pure S ?_ h2
      simp [execOp, ho, resolve, invoke, builtin, Builtin.max_, hl, h1]
theorem g_min (S : Sim R M L w) (H : Fit M L w ρ σ) {o : Oper} {x : CX} {xs : List CX} {args : Array Operand} {ts : Array TypeId} (ho : o.op = .call { callee := .builtin .min, args := args, argTypes := ts }) (hx : okXs (x :: xs) args.toList = true)
    {v : PV} {M' : List Blk} (h : res M ρ (.min x xs) = some (v, M')) : Good R P (execOp σ o) M L w v M' := by
  have k := H.list hx
  simp only [res] at h
  cases hf : foldO minI (ρ x) (xs.map ρ) with
  | none => rw [hf] at h; cases h
  | some q =>
    rw [hf] at h
    simp only [Option.map_some, Option.some.injEq, Prod.mk.injEq] at h
    obtain ⟨rfl, rfl⟩ := h
    have ha : (args.map σ).toList = args.toList.map σ := by simp
    generalize hl : args.toList.map σ = cs at k ha
    cases k with
    | cons _ c _ ds hc hds =>
      obtain ⟨d, h1, h2⟩ := fold_min (P := P) (n := 0) hf hc hds
      refine good_pure S ?_ h2
      simp [execOp, ho, resolve, invoke, builtin, Builtin.min_, hl, h1]
theorem g_arrp (S : Sim R M L w) (H : Fit M L w ρ σ) {o : Oper} {n : Nat} {t el : TypeId} {x : CX} {x' : Operand} (ho : o.op = .sliceToArrayPointer t x') (hx : okX x x' = true) (ht : P.underlying t = some (.array n el))
    {v : PV} {M' : List Blk} (h : res M ρ (.arrp n x) = some (v, M')) : Good R P (execOp σ o) M L w v M' := by
  have k1 := H x x' hx
  have run : ∀ {a : Option Addr} {len cap : Nat}, n ≤ len → (Instr.arrayAt t (.slice a len cap)).run P w = .ok (.pointer a) w := by
    intro a len cap hle
    have : ¬ (len < n) := by omega
    simp [Instr.arrayAt, run_underlying ht, this]
  simp only [res] at h
  split at h
  · rename_i xs e1
    rw [e1] at k1
    split at h
    case isFalse => cases h
    rename_i hc
    obtain ⟨hle, hn0⟩ := hc
    simp only [Option.some.injEq, Prod.mk.injEq] at h
    obtain ⟨rfl, rfl⟩ := h
    generalize hcx : σ x' = c at k1
    cases k1 with
    | fs _ a m cap k' vs hm' hcap hk hr hm =>
      subst hm'
      obtain ⟨B, q, rfl, hlt, hno, hcell⟩ := hm (fun h => by rw [h] at hle; simp at hle; omega)
      refine good_pure S (cv := .pointer (some ⟨B, q, none⟩)) (by simp [execOp, ho, hcx, run hle]) ?_
      refine .fp _ B q (vs.take (n * k')) ?_ hlt hno fun m u hu => ?_
      · rw [← flat_take hk]; exact hr.take _
      · rw [List.getElem?_take] at hu
        split at hu
        · exact hcell _ _ hu
        · cases hu
  · rename_i i ver off len e1
    rw [e1] at k1
    split at h
    case isFalse => cases h
    rename_i hc
    obtain ⟨hle, hn0⟩ := hc
    cases hh : held M (.os i ver off len) with
    | none => rw [hh] at h; cases h
    | some ys =>
      rw [hh] at h
      simp only [Option.map_some, Option.some.injEq, Prod.mk.injEq] at h
      obtain ⟨rfl, rfl⟩ := h
      simp only [held] at hh
      split at hh
      · rename_i wr k' vv xs hrow
        split at hh
        · rename_i hcc
          obtain ⟨rfl, hl⟩ := hcc
          obtain ⟨base, cap, c1, hx', hcap, hm⟩ := k1.os_live hrow
          obtain ⟨b, q, cc, el', hL, rfl, hb, hsz⟩ := hm (by omega)
          exact good_pure S (cv := .pointer (some ⟨b, q + off * k', none⟩)) (by simp [execOp, ho, c1, run hle]) (.op i vv off 0 wr k' xs b q hrow (by omega) hL)
        · cases hh
      · cases hh
  · cases h
end
end Go.Nac

