import Derived.Test.YtbmicihfhfcpkaaK5e
import Derived.Laws.CopyRow
import Derived.Laws.AppendOwn
import Derived.Laws.FloatArith
set_option linter.unusedVariables false
set_option linter.unusedSectionVars false
set_option linter.unusedSimpArgs false
namespace Go.Nac
section
variable {R : CCode → Code → Prop} {P : Program} {M : List Blk} {L : Loc} {w w' : World} {ρ : CX → PV} {σ : Operand → Value}
/-- The block of an owned row, written. -/
theorem write_row (S : Sim R M L w) {i k ver ver' b o o' : Nat} {xs xs' : List PV} {c c' : Array Value} {el : TypeId} (hi : M[i]? = some (.row true k ver xs)) (hL : L i = some (b, o)) (hb : w.heap[b]? = some (.cells c el (0, 0)))
    (hw : Same w w') (hnew : w'.heap[b]? = some (.cells c' el (0, 0))) (hoth : ∀ b', b' ≠ b → w'.heap[b']? = w.heap[b']?) (hsz : w'.heap.size = w.heap.size) (hcs : c'.size = c.size) (hver : ver < ver' ∨ ver = ver' ∧ o' = o ∧ xs'.length = xs.length)
    (hk : ∀ x ∈ xs', x.cells.length = k) {vs : List Value} (hr : LRel M L w (xs'.flatMap PV.cells) vs) (hc : ∀ m v, vs[m]? = some v → c'[o' + m]? = some v) :
    Evo M L w (M.set i (.row true k ver' xs')) (L.upd i (some (b, o'))) w' ∧ Sim R (M.set i (.row true k ver' xs')) (L.upd i (some (b, o'))) w' := by
  have hbl : b < w.heap.size := (Array.getElem?_eq_some_iff.1 hb).1
  refine change S hi _ (fun j hj => Loc.upd_ne _ _ hj) hw (.inl rfl) (by omega) (fun b' hb' hne => ?_) (fun p hp => ?_) ?_ fun E => ?_
  · exact hoth b' fun e => hne (b, o) rfl hL e.symm
  · rw [Loc.upd_self] at hp
    cases hp
    exact .inl ⟨(b, o), hL, rfl⟩
  · refine ⟨by omega, fun e => ?_⟩
    rcases hver with h | ⟨_, ho, hl⟩
    · omega
    · refine ⟨rfl, hl, by rw [Loc.upd_self, ho, hL], fun bb oo cc ell h1 h2 => ?_⟩
      rw [hL] at h1; cases h1
      rw [hb] at h2; cases h2
      exact ⟨c', hnew, hcs⟩
  · refine ⟨hk, fun bb oo h1 => ?_, fun h1 => by rw [Loc.upd_self] at h1; cases h1⟩
    rw [Loc.upd_self] at h1; cases h1
    exact ⟨c', el, vs, hnew, LRel.evo E hr, hc⟩
theorem setRangeV_get (cs : List Value) (off : Nat) (vs : List Value) (hle : off + vs.length ≤ cs.length) (m : Nat) :
    (setRangeV cs off vs)[m]? = if m < off then cs[m]? else if m < off + vs.length then vs[m - off]? else cs[m]? := by
  unfold setRangeV
  have h1 : (cs.take off).length = off := by simp; omega
  rw [List.append_assoc, List.getElem?_append]
  rw [h1]
  split
  · rw [List.getElem?_take, if_pos ‹_›]
  · rw [List.getElem?_append]
    split
    · rw [if_pos (by omega)]
    · rw [if_neg (by omega), List.getElem?_drop]
      congr 1; omega
theorem setRange_length {cs : List PV} {off : Nat} {vs : List PV} (h : off + vs.length ≤ cs.length) : (setRange cs off vs).length = cs.length := by
  unfold Nac.setRange; simp; omega
/-- Cells of an owned row, stored. -/
theorem store_row (S : Sim R M L w) {i k ver b o p : Nat} {xs xs' : List PV} {us : List Value} (hi : M[i]? = some (.row true k ver xs)) (hL : L i = some (b, o))
    (hlen : xs'.length = xs.length) (hk : ∀ x ∈ xs', x.cells.length = k) (hone : ∀ u ∈ us, u.oneCell' = true) (hne : us ≠ []) (hp : p + us.length ≤ xs.length * k)
    {ys : List PV} (hy : LRel M L w ys us) (hf : xs'.flatMap PV.cells = setRange (xs.flatMap PV.cells) p ys) :
    ∃ w', (storeCells ⟨b, o + p, none⟩ us).run P w = .ok () w' ∧ Evo M L w (M.set i (.row true k ver xs')) (L.upd i (some (b, o))) w' ∧ Sim R (M.set i (.row true k ver xs')) (L.upd i (some (b, o))) w' := by
  obtain ⟨hk0, c, el, vs, g1, g2, g3, g4⟩ := row_cells S hi hL
  have hvl : vs.length = xs.length * k := by rw [← g2.length]; exact flat_length hk0
  have hpos : 0 < us.length := List.length_pos_iff.2 hne
  have hsz : o + xs.length * k ≤ c.size := by
    have h1 : vs.length - 1 < vs.length := by omega
    have := g3 (vs.length - 1) _ (List.getElem?_eq_getElem h1)
    have := (Array.getElem?_eq_some_iff.1 this).1
    omega
  have hst := run_storeCells_at P b (o + p) el us 0 c w g1 (by omega) hone
  simp only [Nat.add_zero] at hst
  refine ⟨_, hst, ?_⟩
  refine write_row S hi hL g1 (c' := (c.toList.take (o + p) ++ us ++ c.toList.drop (o + p + us.length)).toArray) ⟨rfl, rfl, rfl⟩ (setRow_heap _ _ _ _ _ _ g1) (fun b' hb' => setRow_other _ _ _ _ hb') (setRow_size _ _ _) ?_ (.inr ⟨rfl, rfl, hlen⟩) hk (vs := setRangeV vs p us) ?_ ?_
  · simp; omega
  · rw [hf]; exact g2.setRange hy p
  · intro m v hm
    rw [setRangeV_get vs p us (by omega)] at hm
    have e : ((c.toList.take (o + p) ++ us ++ c.toList.drop (o + p + us.length)).toArray)[o + m]? = (setRangeV c.toList (o + p) us)[o + m]? := by simp [setRangeV]
    rw [e, setRangeV_get _ _ _ (by simp; omega)]
    split at hm
    · rw [if_pos (by omega)]; simpa using g3 m v hm
    · split at hm
      · rw [if_neg (by omega), if_pos (by omega)]
        rw [show o + m - (o + p) = m - p from by omega]; exact hm
      · rw [if_neg (by omega), if_neg (by omega)]; simpa using g3 m v hm
theorem flat_set {k e j : Nat} {xs : List PV} {x y : PV} {vs : List PV} (hk : ∀ x ∈ xs, x.cells.length = k) (hx : xs[e]? = some x) (hle : j + vs.length ≤ k) (hy : y.cells = setRange x.cells j vs) :
    (xs.set e y).flatMap PV.cells = setRange (xs.flatMap PV.cells) (e * k + j) vs := by
  induction xs generalizing e with
  | nil => simp at hx
  | cons z xs ih =>
    have hz : z.cells.length = k := hk z (by simp)
    cases e with
    | zero =>
      simp only [List.getElem?_cons_zero, Option.some.injEq] at hx
      subst hx
      simp only [List.set_cons_zero, List.flatMap_cons, hy, Nac.setRange, Nat.zero_mul, Nat.zero_add]
      rw [List.take_append_of_le_length (by omega), List.drop_append_of_le_length (by omega)]
      simp
    | succ e =>
      simp only [List.getElem?_cons_succ] at hx
      simp only [List.set_cons_succ, List.flatMap_cons]
      rw [ih (fun x hx => hk x (by simp [hx])) hx]
      unfold Nac.setRange
      have e1 : (e + 1) * k + j = z.cells.length + (e * k + j) := by rw [Nat.add_mul, hz]; omega
      rw [e1, List.take_length_add_append, Nat.add_assoc z.cells.length, List.drop_length_add_append]
      simp
theorem elemPut_spec {i ver e j : Nat} {vs : List PV} {M' : List Blk} (h : elemPut M i ver e j vs = some M') : ∃ k xs x y, M[i]? = some (.row true k ver xs) ∧ xs[e]? = some x ∧ j + vs.length ≤ x.cells.length ∧
    vs.all oneB = true ∧ M' = M.set i (.row true k ver (xs.set e y)) ∧ (vs ≠ [] → y.cells = setRange x.cells j vs) := by
  unfold elemPut at h
  split at h
  · rename_i k v xs hi
    split at h
    · rename_i hv; subst hv
      split at h
      · rename_i x hx
        split at h
        · rename_i hc
          obtain ⟨hle, hone⟩ := hc
          split at h
          · rename_i cs
            obtain rfl := Option.some.inj h
            exact ⟨k, xs, _, _, hi, hx, hle, hone, rfl, fun _ => rfl⟩
          · split at h
            · rename_i y
              split at h
              · cases h
              · rename_i hya
                obtain rfl := Option.some.inj h
                refine ⟨k, xs, _, _, hi, hx, hle, hone, rfl, fun _ => ?_⟩
                have hy1 : y.cells = [y] := by
                  simp only [List.all_cons, List.all_nil, Bool.and_true] at hone
                  cases y <;> first | rfl | (simp [oneB] at hone)
                rename_i hxa
                have hx1 : x.cells.length ≤ 1 := by cases x <;> first | (simp [PV.cells]; done) | (rename_i cs0; exact (cs0 _ rfl).elim)
                simp only [List.length_cons, List.length_nil] at hle
                have hj : j = 0 := by omega
                subst hj
                rw [hy1]
                unfold Nac.setRange
                rw [List.drop_eq_nil_of_le (by simpa using hx1)]; simp
            · cases h
        · cases h
      · cases h
    · cases h
  · cases h
theorem g_store (S : Sim R M L w) (H : Fit M L w ρ σ) {o : Oper} {k : Nat} {t : TypeId} {a x : CX} {a' x' : Operand} (ho : o.op = .store t a' x') (ha : okX a a' = true) (hx : okX x x' = true) (hk : tySize P t = some k)
    {v : PV} {M' : List Blk} (h : res M ρ (.store k a x) = some (v, M')) : Good R P (execOp σ o) M L w v M' := by
  have k1 := H a a' ha; have k2 := H x x' hx
  simp only [res] at h
  split at h
  · rename_i i ver e j e1
    rw [e1] at k1
    split at h
    case isFalse => cases h
    rename_i hc
    obtain ⟨hlen, hk0⟩ := hc
    cases hp : elemPut M i ver e j (ρ x).cells with
    | none => rw [hp] at h; cases h
    | some M2 =>
      rw [hp] at h
      simp only [Option.map_some, Option.some.injEq, Prod.mk.injEq] at h
      obtain ⟨rfl, rfl⟩ := h
      obtain ⟨k', xs, y0, y, hi, hy0, hle, hone, rfl, hyc⟩ := elemPut_spec hp
      obtain ⟨b, q, hL, he, hca⟩ := k1.op_live hi
      have hcs := k2.cells (by intro h; rw [h] at hlen; simp at hlen; omega)
      have hne : (ρ x).cells ≠ [] := by intro h; rw [h] at hlen; simp at hlen; omega
      have hyc := hyc hne
      obtain ⟨hk0', c, el, vs, g1, g2, g3, g4⟩ := row_cells S hi hL
      have hy0k := hk0' y0 (List.mem_of_getElem? hy0)
      have hcl := hcs.length
      have hf := flat_set (y := y) hk0' hy0 (by omega) hyc
      have hsize : (σ x').cells.size = k := by rw [← hlen, hcl]; simp
      obtain ⟨w', h1, E, S'⟩ := store_row S hi hL (xs' := xs.set e y) (by simp) (fun z hz => by
          rcases List.mem_or_eq_of_mem_set hz with hz | rfl
          · exact hk0' z hz
          · rw [hyc, setRange_length hle]; exact hy0k) (us := (σ x').cells.toList) (hcs.one hone) (fun h => by have := congrArg List.length h; simp [hsize] at this; omega) (p := e * k' + j) (by
          have h2 : (e + 1) * k' ≤ xs.length * k' := Nat.mul_le_mul_right _ he
          rw [Nat.add_mul] at h2
          simp only [Array.length_toList, hsize]
          omega) (P := P) hcs hf
      refine ⟨undef, w', _, .inr ⟨?_, rfl⟩, E, S', .s _ rfl⟩
      have hnot : ¬ ((σ x').cells.size ≠ k) := by simp [hsize]
      rw [show q + e * k' + j = q + (e * k' + j) from by omega] at hca
      simp only [execOp, ho, hca, Instr.storeAt, Instr.sureAddr, storeVar, Sem.run_bind, Sem.run_pure, Result.andThen_ok, run_sizeOf' hk, Sem.run_ite, if_neg hnot, h1]
  · cases h
theorem bytes_beq {a b : ByteArray} : (a == b) = true ↔ a = b := by
  obtain ⟨x⟩ := a
  obtain ⟨y⟩ := b
  show (x == y) = true ↔ _
  simp
theorem sameKey_eq {sk : SK} {q k : Value} (hq : keyOk sk q = true) (h : sameKey q k = true) : k = q := by
  unfold sameKey at h
  cases q <;> cases k <;> simp [eqScalar] at h <;> first
    | (subst h; rfl)
    | (obtain ⟨rfl, rfl⟩ := h; rfl)
    | (cases sk <;> simp [keyOk] at hq; done)
    | (rw [bytes_beq.1 h])
    | (split at h <;> simp at h; rename_i e; subst e; subst h; rfl)
theorem sameBits_self {sk : SK} {q : Value} (hq : keyOk sk q = true) (n : Nat) : Instr.sameBits n q q = true := by
  cases sk <;> cases q <;> simp [keyOk] at hq <;> simp [Instr.sameBits] <;> exact bytes_beq.2 rfl
theorem upd_agg {q u : Value} (hu : aggV u = false) : ∀ {es : List (Value × Value)}, (∀ e ∈ es, aggV e.2 = false) → ∀ e ∈ upd q u es, aggV e.2 = false
  | [], _, e, he => by simp [upd] at he; subst he; exact hu
  | (a, v) :: r, h, e, he => by
    unfold upd at he
    split at he
    · rcases List.mem_cons.1 he with rfl | he
      · exact hu
      · exact h e (by simp [he])
    · rcases List.mem_cons.1 he with rfl | he
      · exact h (a, v) (by simp)
      · exact upd_agg hu (fun x hx => h x (by simp [hx])) e he
theorem map_modify {l : List MapEntry} {j : Nat} {e : MapEntry} (he : l[j]? = some e) (f : MapEntry → MapEntry) (g : MapEntry → Value × Value) : (l.modify j f).map g = (l.map g).set j (g (f e)) := by
  apply List.ext_getElem?
  intro i
  rw [List.getElem?_map, List.getElem?_modify, List.getElem?_set]
  by_cases hij : j = i
  · subst hij
    have : j < l.length := (List.getElem?_eq_some_iff.1 he).1
    have h2 := (List.getElem?_eq_some_iff.1 he).2
    simp [this, h2]
  · simp [hij]
theorem g_mupd (S : Sim R M L w) (H : Fit M L w ρ σ) {o : Oper} {sk : SK} {t kt et : TypeId} {m key x : CX} {m' key' x' : Operand} (ho : o.op = .mapUpdate t m' key' x' ∨ o.op = .insert t m' key' x') (h1 : okX m m' = true) (h2 : okX key key' = true) (h3 : okX x x' = true)
    (hu : P.underlying t = some (.map kt et)) (hk : okKey P kt sk = true)
    {v : PV} {M' : List Blk} (h : res M ρ (.mupd sk m key x) = some (v, M')) : Good R P (execOp σ o) M L w v M' := by
  have k1 := H m m' h1; have k2 := H key key' h2; have k3 := H x x' h3
  simp only [res] at h
  split at h
  · rename_i i q u e1 e2 e3
    rw [e1] at k1; rw [e2] at k2; rw [e3] at k3
    have c2 := k2.s_inv; have c3 := k3.s_inv
    have hua : aggV u = false := by cases k3; assumption
    split at h
    · rename_i es hi
      split at h
      case isFalse => cases h
      rename_i hc
      obtain ⟨hq, hkl⟩ := hc
      simp only [Option.some.injEq, Prod.mk.injEq] at h
      obtain ⟨rfl, rfl⟩ := h
      generalize hcm : σ m' = c at k1
      cases k1 with
      | om _ es' b off hi' hL =>
        rw [hi] at hi'; cases hi'
        obtain ⟨b', o', ents, clock, g1, g2, g3, g4⟩ := S.mem i _ hi
        rw [hL] at g1; cases g1
        obtain ⟨d, hd, hdk⟩ := okKey_spec hk
        obtain ⟨r, f1, f2, f3, f4⟩ := find_now hdk hq ents.toList 0 (by rw [g3]; exact hkl)
        rw [g3] at f3 f4
        have hfk : (Instr.findKey kt q ents.toList).run P w = .ok r w := by
          simp [Instr.findKey, run_underlying hd, f1]
        have hbl : b < w.heap.size := (Array.getElem?_eq_some_iff.1 g2).1
        have hupd : ∃ ents' clock', (Instr.mapUpdate t (.map (some b)) q u).run P w = .ok () { w with heap := w.heap.setIfInBounds b (.map ents' clock') } ∧ ents'.toList.map (fun e => (e.key, e.val)) = upd q u es := by
          cases r with
          | none =>
            refine ⟨ents.push { key := q, val := u, born := clock }, clock + 1, ?_, ?_⟩
            · simp [Instr.mapUpdate, run_underlying hu, getObj, setObj, Sem.run, g2, run_checkKey hk, hfk]
            · rw [f4 rfl u]; simp [g3]
          | some p =>
            obtain ⟨j, pv⟩ := p
            obtain ⟨_, e, he, hs, hup⟩ := f3 j pv rfl
            simp only [Nat.sub_zero] at he hup
            have hej : ents[j]? = some e := by simpa using he
            have hek := sameKey_eq hq hs
            have hsb : Instr.sameBits 10000 e.key q = true := by rw [hek]; exact sameBits_self hq _
            have hkeep : (Instr.keyThatStays e.key q).run P w = .ok q w := by simp [Instr.keyThatStays, hsb]
            refine ⟨ents.modify j fun e => { e with key := q, val := u }, clock, ?_, ?_⟩
            · simp [Instr.mapUpdate, run_underlying hu, getObj, setObj, Sem.run, g2, run_checkKey hk, hfk, hej, hkeep]
            · rw [hup u, Array.toList_modify, map_modify he, g3]
        obtain ⟨ents', clock', hrun, hents⟩ := hupd
        obtain ⟨E, S'⟩ := change S hi (blk' := .map (upd q u es)) L (fun _ _ => rfl) (w' := { w with heap := w.heap.setIfInBounds b (.map ents' clock') }) ⟨rfl, rfl, rfl⟩ (.inl rfl) (by simp) (fun b' hb' hne => by
            have : b ≠ b' := hne (b, off) rfl hL
            simp [Array.getElem?_setIfInBounds_ne this]) (fun p hp => .inl ⟨p, hp, rfl⟩) rfl (fun E => by
            refine ⟨b, off, ents', clock', hL, by simp [hbl], hents, upd_agg hua g4⟩)
        refine ⟨undef, _, L, .inr ⟨?_, rfl⟩, E, S', .s _ rfl⟩
        rcases ho with ho | ho <;> simp only [execOp, ho, hcm, c2, c3, Sem.run_bind, hrun, Result.andThen_ok, Sem.run_pure]
    · cases h
  · cases h
end
end Go.Nac
set_option linter.unusedVariables false
set_option linter.unusedSectionVars false
set_option linter.unusedSimpArgs false
namespace Go.Nac
section
variable {R : CCode → Code → Prop} {P : Program} {M : List Blk} {L : Loc} {w w' : World} {ρ : CX → PV} {σ : Operand → Value}
/-- What a slice holds, as the machine reads it. -/
theorem held_run (S : Sim R M L w) {k : Nat} {p : PV} {c : Value} {ys : List PV} (hp : VRel M L w p c) (h : held M p = some ys) (hk : ∀ y ∈ ys, y.cells.length = k) (hk0 : k ≠ 0) :
    ∃ us, LRel M L w (ys.flatMap PV.cells) us ∧ (Builtin.lenOf c).run P w = .ok ys.length w ∧
      ∀ n w', n ≤ ys.length → w'.heap = w.heap → (Builtin.firstCells k n c).run P w' = .ok (us.take (n * k)).toArray w' := by
  have fin : ∀ {B q n : Nat} {us : List Value} {cap len : Nat} {w' : World}, n * k ≤ us.length → w'.heap = w.heap → (∀ m v, us[m]? = some v → w.cell? ⟨B, q + m, none⟩ = some v) →
      (Builtin.firstCells k n (.slice (some ⟨B, q, none⟩) len cap)).run P w' = .ok (us.take (n * k)).toArray w' := by
    intro B q n us cap len w' hle hh hc
    refine run_firstCells_some (P := P) w' k n ⟨B, q, none⟩ len cap (us.take (n * k)) (by simp; omega) fun j v hv => ?_
    rw [List.getElem?_take] at hv
    split at hv
    · rw [add_none]
      have := hc j v hv
      unfold World.cell? at *
      rw [hh]; exact this
    · cases hv
  unfold held at h
  split at h
  · obtain rfl := Option.some.inj h
    rename_i xs
    cases hp with
    | fs _ a n cap k' vs hn hcap hk' hr hm =>
      subst hn
      refine ⟨vs, hr, by simp [Builtin.lenOf], fun n w' hle hh => ?_⟩
      by_cases hne : xs = []
      · subst hne
        have hn0 : n = 0 := by simpa using hle
        subst hn0
        cases a with
        | none => simp [Builtin.firstCells]
        | some ad => simp [Builtin.firstCells, loadCells, loadCellsFrom]
      · obtain ⟨B, q, rfl, hlt, hno, hcell⟩ := hm hne
        have hvl : vs.length = xs.length * k := by rw [← hr.length]; exact flat_length hk
        exact fin (by rw [hvl]; exact Nat.mul_le_mul_right _ hle) hh hcell
  · obtain rfl := Option.some.inj h
    have := hp.s_inv
    subst this
    refine ⟨[], .nil, by simp [Builtin.lenOf], fun n w' hle hh => ?_⟩
    have hn0 : n = 0 := by simpa using hle
    subst hn0
    simp [Builtin.firstCells]
  · rename_i i ver off len
    split at h
    · rename_i wr k' v xs hi
      split at h
      · rename_i hc
        obtain ⟨rfl, hle⟩ := hc
        obtain rfl := Option.some.inj h
        obtain ⟨a, cap, rfl, hx', hcap, hm⟩ := hp.os_live hi
        have hlen : ((xs.drop off).take len).length = len := by simp; omega
        by_cases h0 : len = 0
        · subst h0
          refine ⟨[], by simp; exact .nil, by simp [Builtin.lenOf], fun n w' hle hh => ?_⟩
          have hn0 : n = 0 := by simpa using hle
          subst hn0
          cases a with
          | none => simp [Builtin.firstCells]
          | some ad => simp [Builtin.firstCells, loadCells, loadCellsFrom]
        · obtain ⟨B, q, cc, el, hL, rfl, hb, hsz⟩ := hm (by omega)
          obtain ⟨hk1, c', el', vs, g1, g2, g3, g4⟩ := row_cells S hi hL
          have hkk : k' = k := by
            have hy : (xs.drop off).take len ≠ [] := by intro h; rw [h] at hlen; simp at hlen; omega
            obtain ⟨y, hy⟩ := List.exists_mem_of_ne_nil _ hy
            exact (hk1 y (List.mem_of_mem_drop (List.mem_of_mem_take hy))).symm.trans (hk y hy)
          subst hkk
          have hr := (g2.drop (off * k')).take (len * k')
          rw [flat_drop hk1, flat_take (fun x hx => hk1 x (List.mem_of_mem_drop hx))] at hr
          have hvl := hr.length
          rw [flat_length (fun x hx => hk1 x (List.mem_of_mem_drop (List.mem_of_mem_take hx))), hlen] at hvl
          refine ⟨_, hr, by simp [Builtin.lenOf]; omega, fun n w' hle hh => ?_⟩
          rw [hlen] at hle
          refine fin (by rw [← hvl]; exact Nat.mul_le_mul_right _ hle) hh fun m v hv => ?_
          rw [List.getElem?_take] at hv
          split at hv
          · rw [List.getElem?_drop] at hv
            rw [show q + off * k' + m = q + (off * k' + m) from by omega]
            exact g4 _ _ hv
          · cases hv
      · cases h
    · cases h
  · cases h
theorem okElem_spec {k : Nat} {ys : List PV} (h : ys.all (okElem k) = true) : (∀ y ∈ ys, y.cells.length = k) ∧ (ys.flatMap PV.cells).all oneB = true := by
  induction ys with
  | nil => simp
  | cons y ys ih =>
    simp only [List.all_cons, Bool.and_eq_true, okElem, beq_iff_eq] at h
    obtain ⟨h1, h2⟩ := ih (by simpa [okElem] using h.2)
    refine ⟨?_, by simp [h.1.2, h2]⟩
    intro z hz
    rcases List.mem_cons.1 hz with rfl | hz
    · exact h.1.1
    · exact h1 z hz
theorem run_append' {t el : TypeId} {i : TypeInfo} {z : Value} {ts : Array TypeId} {ty : TypeId} {base : Option Addr} {sLen sCap n k : Nat} {x : Value} {olds news : List Value} (ht : P.underlying t = some (.slice el)) (hi : P.info? el = some i) (hz : i.zero = some z) (hk : i.size = k)
    (hts : ts[0]? = some t) (hts1 : ∃ t1, ts[1]? = some t1 ∧ ∃ d, P.underlying t1 = some d ∧ ∀ kk, d ≠ .int kk)
    (hn : (Builtin.lenOf x).run P w = .ok n w) (hnew : ∀ w', w'.heap = w.heap → (Builtin.firstCells k n x).run P w' = .ok news.toArray w')
    (hold : ∀ w', w'.heap = w.heap → (Builtin.firstCells k sLen (.slice base sLen sCap)).run P w' = .ok olds.toArray w')
    (hsmall : sLen + n ≤ 2 ^ 20) (hb : i.bytes ≤ 2 ^ 20) :
    (sLen + n ≤ sCap → ∀ w2, (match base with | some a => (storeCells (a.add (sLen * k)) news).run P w = .ok () w2 | none => w2 = w) →
      (Builtin.append_ ts ty #[.slice base sLen sCap, x]).run P w = .ok (.slice base (sLen + n) sCap) w2) ∧
    (¬ sLen + n ≤ sCap → ∃ w2 cap C, Same w w2 ∧ sLen + n ≤ cap ∧ C.size = sLen * 0 + (olds ++ news).length + (cap - (sLen + n)) * z.cells.size ∧ C.toList.take (olds ++ news).length = olds ++ news ∧
      w2.heap = w.heap.push (.cells C el) ∧ (Builtin.append_ ts ty #[.slice base sLen sCap, x]).run P w = .ok (.slice (some ⟨w.heap.size, 0, none⟩) (sLen + n) cap) w2) := by
  obtain ⟨t1, hts1, d, hd, hdi⟩ := hts1
  have hzeros : (match d with | .int _ => true | _ => false) = false := by cases d <;> first | rfl | exact absurd rfl (hdi _)
  constructor
  · intro hroom w2 hst
    have hnew' := hnew w rfl
    cases base with
    | none =>
      simp only at hst
      subst hst
      simp [Builtin.append_, hts, hts1, run_underlying ht, run_underlying hd, hzeros, sizeOf, typeInfo, hi, hk, hn, hroom, hnew']
    | some a =>
      simp only at hst
      simp [Builtin.append_, hts, hts1, run_underlying ht, run_underlying hd, hzeros, sizeOf, typeInfo, hi, hk, hn, hroom, hnew', hst]
  · intro hroom
    have hfit : ¬ (Builtin.nextslicecap (sLen + n) sCap * i.bytes > 2 ^ 48) := by
      have h1 : (sLen + n) * i.bytes ≤ 2 ^ 20 * 2 ^ 20 := Nat.mul_le_mul hsmall hb
      have := growslice_fits (need := sLen + n) (old := sCap) (bytes := i.bytes) (by omega) (by omega)
      omega
    have h63 : ¬ (((sLen + n : Nat) : Int) > 9223372036854775807) := by omega
    have h63' : ¬ (9223372036854775807 < (sLen : Int) + (n : Int)) := by omega
    have hfit' : ¬ (281474976710656 < Builtin.nextslicecap (sLen + n) sCap * i.bytes) := by omega
    have hnew' := hnew w.drew rfl
    have hold' := hold w.drew rfl
    refine ⟨w.drew.alloc (.cells (olds.toArray ++ news.toArray ++ Builtin.zeroCells z.cells (grownCap w (sLen + n) sCap el - (sLen + n))) el), grownCap w (sLen + n) sCap el,
      olds.toArray ++ news.toArray ++ Builtin.zeroCells z.cells (grownCap w (sLen + n) sCap el - (sLen + n)), ⟨rfl, rfl, rfl⟩, grownCap_ge w _ _ _, ?_, ?_, rfl, ?_⟩
    · simp [size_zeroCells]
    · simp only [Array.toList_append]
      rw [List.take_left' (by simp)]
    · simp [Builtin.append_, hts, hts1, run_underlying ht, run_underlying hd, hzeros, sizeOf, typeInfo, zeroValue, hi, hk, hz, hn, hroom, h63', hfit', Question.forced, hnew', hold', newRow, grownCap]
      congr 2
      apply Array.ext'
      simp
theorem g_append (S : Sim R M L w) (H : Fit M L w ρ σ) {o : Oper} {k bytes : Nat} {t t1 el : TypeId} {x y : CX} {x' y' : Operand} {ts : Array TypeId} {d : TypeDesc} (ho : o.op = .call { callee := .builtin .append, args := #[x', y'], argTypes := ts })
    (hx : okX x x' = true) (hy : okX y y' = true) (hts : ts[0]? = some t) (hts1 : ts[1]? = some t1) (ht : P.underlying t = some (.slice el)) (hd : P.underlying t1 = some d) (hdi : ∀ kk, d ≠ .int kk)
    (hk : tySize P el = some k) (hby : (P.info? el).map (·.bytes) = some bytes) {g : Option Nat} {zz : List Value} (hz : okZ P el g zz = true) (hzk : zz.length = k)
    {v : PV} {M' : List Blk} (h : res M ρ (.append k bytes x y) = some (v, M')) : Good R P (execOp σ o) M L w v M' := by
  have k1 := H x x' hx; have k2 := H y y' hy
  obtain ⟨zv, hzv, hz2, hz3, _, _⟩ := okZ_spec hz
  have hinfo : ∃ i, P.info? el = some i ∧ i.bytes = bytes ∧ i.size = k ∧ i.zero = some zv := by
    cases hi : P.info? el with
    | none => rw [hi] at hby; cases hby
    | some i =>
      rw [hi] at hby hzv
      unfold tySize at hk
      rw [hi] at hk
      exact ⟨i, rfl, by simpa using hby, by simpa using hk, by simpa using hzv⟩
  obtain ⟨i, hi, hib, hik, hiz⟩ := hinfo
  have hzs : zv.cells.size = k := by have := congrArg List.length hz2; simpa [hzk] using this
  have htt : ∃ t1, ts[1]? = some t1 ∧ ∃ d, P.underlying t1 = some d ∧ ∀ kk, d ≠ .int kk := ⟨t1, hts1, d, hd, hdi⟩
  simp only [res] at h
  cases hh : held M (ρ y) with
  | none => rw [hh] at h; cases h
  | some ys =>
    rw [hh] at h
    simp only at h
    split at h
    case isFalse => cases h
    rename_i hc
    obtain ⟨hall, hk0, hb20⟩ := hc
    obtain ⟨hyk, hyone⟩ := okElem_spec hall
    obtain ⟨us, hyr, hyn, hyf⟩ := held_run (P := P) S k2 hh hyk hk0
    have husl : us.length = ys.length * k := by rw [← hyr.length]; exact flat_length hyk
    have hnew : ∀ w', w'.heap = w.heap → (Builtin.firstCells k ys.length (σ y')).run P w' = .ok us.toArray w' := fun w' hw' => by
      rw [hyf ys.length w' (Nat.le_refl _) hw', List.take_of_length_le (by omega)]
    have hex : ∀ r w2, (Builtin.append_ ts o.type #[σ x', σ y']).run P w = .ok r w2 → (execOp σ o).run P w = .ok (.value r) w2 := fun r w2 h => by
      simp [execOp, ho, resolve, invoke, builtin, h]
    split at h
    · rename_i e1
      rw [e1] at k1
      have c1 := k1.s_inv
      split at h
      case isFalse => cases h
      rename_i hsm
      simp only [Option.some.injEq, Prod.mk.injEq] at h
      obtain ⟨rfl, rfl⟩ := h
      obtain ⟨r1, r2⟩ := run_append' (P := P) (w := w) (t := t) (el := el) (i := i) (z := zv) (ts := ts) (ty := o.type) (base := none) (sLen := 0) (sCap := 0) (n := ys.length) (k := k) (x := σ y') (olds := []) (news := us) ht hi hiz hik hts htt hyn hnew
        (fun w' _ => by simp [Builtin.firstCells]) (by omega) (by omega)
      by_cases h0 : ys.length = 0
      · have hys : ys = [] := List.eq_nil_of_length_eq_zero h0
        subst hys
        have := r1 (by simp) w rfl
        obtain ⟨E, S'⟩ := push S (.row true k 0 []) none (w' := w) ⟨rfl, rfl, rfl⟩ rfl (by
          rintro _ _ rfl rfl E
          exact ⟨by simp, fun b q hL => by simp [Loc.upd_self] at hL, fun _ => rfl⟩)
        refine ⟨.slice none 0 0, w, _, .inl (hex _ _ (by rw [c1]; simpa using this)), E, S', ?_⟩
        exact .os M.length 0 0 0 true k [] none 0 (by simp) (by simp) (Nat.le_refl _) (by simp)
      · obtain ⟨w2, cap, C, hw2, hcap, hCs, hCt, hheap, hrun⟩ := r2 (by omega)
        simp only [Nat.zero_add, List.nil_append, Nat.zero_mul] at hcap hCs hCt hrun
        obtain ⟨E, S', hv⟩ := new_row S (w' := w2) (k := k) (xs := ys) (C := C) hyk (by rw [← husl, hCt]; exact hyr) hw2 hheap cap hcap (by
          rw [hCs, husl, hzs, ← Nat.add_mul]
          exact Nat.mul_le_mul_right _ (by omega)) 0
        exact ⟨_, _, _, .inl (hex _ _ (by rw [c1]; exact hrun)), E, S', hv⟩
    · rename_i a ver off len e1
      rw [e1] at k1
      split at h
      · rename_i k' vv xs hrow
        split at h
        case isFalse => cases h
        rename_i hcond
        obtain ⟨rfl, rfl, hle, hsm⟩ := hcond
        simp only [Option.some.injEq, Prod.mk.injEq] at h
        obtain ⟨rfl, rfl⟩ := h
        obtain ⟨base, cap, c1, hx', hcap, hm⟩ := k1.os_live hrow
        have hold0 : held M (.os a vv off len) = some ((xs.drop off).take len) := by
          simp [held, hrow, hle]
        have hxk := (S.mem a _ hrow).1
        have hxk' : ∀ y ∈ (xs.drop off).take len, y.cells.length = k' := fun y hy => hxk y (List.mem_of_mem_drop (List.mem_of_mem_take hy))
        have hlen : ((xs.drop off).take len).length = len := by simp; omega
        have k1' := k1
        rw [c1] at k1'
        obtain ⟨os_, hor, hon, hof⟩ := held_run (P := P) S k1' hold0 hxk' hk0
        have hosl : os_.length = len * k' := by rw [← hor.length, flat_length hxk', hlen]
        obtain ⟨r1, r2⟩ := run_append' (P := P) (w := w) (t := t) (el := el) (i := i) (z := zv) (ts := ts) (ty := o.type) (base := base) (sLen := len) (sCap := cap) (n := ys.length) (k := k') (x := σ y') (olds := os_) (news := us) ht hi hiz hik hts htt hyn hnew
          (fun w' hw' => by rw [hof len w' (by omega) hw', List.take_of_length_le (by omega)]) hsm (by omega)
        have hnk : ∀ x ∈ (xs.drop off).take len ++ ys, x.cells.length = k' := fun x hx => (List.mem_append.1 hx).elim (hxk' x) (hyk x)
        have hnr : LRel M L w (((xs.drop off).take len ++ ys).flatMap PV.cells) (os_ ++ us) := by rw [List.flatMap_append]; exact hor.append hyr
        have hnl : ((xs.drop off).take len ++ ys).length = len + ys.length := by rw [List.length_append, hlen]
        have hai : a < M.length := (List.getElem?_eq_some_iff.1 hrow).1
        by_cases hroom : len + ys.length ≤ cap
        · by_cases hcap0 : cap = 0
          · -- nothing at all
            have hl0 : len = 0 := by omega
            have hy0 : ys = [] := List.eq_nil_of_length_eq_zero (by omega)
            subst hl0; subst hy0; subst hcap0
            have hus0 : us = [] := List.eq_nil_of_length_eq_zero (by simpa using husl)
            subst hus0
            have hrun := r1 hroom w (by cases base <;> rfl)
            obtain ⟨E, S'⟩ := change S hrow (blk' := .row true k' (vv + 1) []) (L.upd a none) (fun j hj => Loc.upd_ne _ _ hj) (w' := w) ⟨rfl, rfl, rfl⟩ (.inl rfl) (Nat.le_refl _) (fun _ _ _ => rfl)
              (fun p hp => by rw [Loc.upd_self] at hp; cases hp) ⟨by omega, fun e => by omega⟩ (fun E => ⟨by simp, (fun b q hL => by rw [Loc.upd_self] at hL; cases hL), fun _ => rfl⟩)
            have hxs0 : (xs.drop off).take 0 ++ ([] : List PV) = [] := by simp
            rw [hxs0]
            refine ⟨.slice base 0 0, w, L.upd a none, .inl (hex _ _ (by rw [c1]; simpa using hrun)), E, S', ?_⟩
            · refine .os a (vv + 1) 0 0 true k' [] base 0 (by simp [hai]) (by simp) (Nat.le_refl _) (by simp)
          · obtain ⟨b, q, cc, el', hL, rfl, hb, hsz⟩ := hm hcap0
            have hone := hyr.one hyone
            have hroomk : (len + ys.length) * k' ≤ cap * k' := Nat.mul_le_mul_right _ hroom
            rw [Nat.add_mul] at hroomk
            have hszk : q + off * k' + cap * k' ≤ cc.size := by rw [Nat.add_assoc, ← Nat.add_mul]; exact hsz
            have hst := run_storeCells_at P b (q + off * k' + len * k') el' us 0 cc w hb (by omega) hone
            simp only [Nat.add_zero] at hst
            have hrun := r1 hroom _ (by simp only [add_none]; exact hst)
            obtain ⟨hk1, c', el'', vs, g1, g2, g3, g4⟩ := row_cells S hrow hL
            rw [hb] at g1; cases g1
            have hvl : vs.length = xs.length * k' := by rw [← g2.length]; exact flat_length hk1
            have hoffk : (off + len) * k' ≤ xs.length * k' := Nat.mul_le_mul_right _ hle
            rw [Nat.add_mul] at hoffk
            obtain ⟨E, S'⟩ := write_row S (ver' := vv + 1) (o' := q + off * k') (xs' := (xs.drop off).take len ++ ys) hrow hL hb (w' := w.setRow b (cc.toList.take (q + off * k' + len * k') ++ us ++ cc.toList.drop (q + off * k' + len * k' + us.length)).toArray)
              ⟨rfl, rfl, rfl⟩ (setRow_heap _ _ _ _ _ _ hb) (fun b' hb' => setRow_other _ _ _ _ hb') (setRow_size _ _ _) (by simp; omega) (.inl (by omega)) hnk
              (vs := (vs.drop (off * k')).take (len * k') ++ us) (by
                rw [List.flatMap_append]
                refine LRel.append ?_ hyr
                have := (g2.drop (off * k')).take (len * k')
                rw [flat_drop hk1, flat_take (fun x hx => hk1 x (List.mem_of_mem_drop hx))] at this
                exact this) (fun m u hu => by
                have e : ((cc.toList.take (q + off * k' + len * k') ++ us ++ cc.toList.drop (q + off * k' + len * k' + us.length)).toArray)[q + off * k' + m]? = (setRangeV cc.toList (q + off * k' + len * k') us)[q + off * k' + m]? := by simp [setRangeV]
                rw [e, setRangeV_get _ _ _ (by simp; omega)]
                have hl1 : ((vs.drop (off * k')).take (len * k')).length = len * k' := by simp; omega
                rw [List.getElem?_append, hl1] at hu
                split at hu
                · rename_i hlt
                  rw [if_pos (by omega)]
                  rw [List.getElem?_take, if_pos hlt, List.getElem?_drop] at hu
                  have := g3 _ _ hu
                  rw [show q + off * k' + m = q + (off * k' + m) from by omega]
                  simpa using this
                · rename_i hge
                  have hm2 : m - len * k' < us.length := (List.getElem?_eq_some_iff.1 hu).1
                  rw [if_neg (by omega), if_pos (by omega), show q + off * k' + m - (q + off * k' + len * k') = m - len * k' from by omega]
                  exact hu)
            refine ⟨_, _, _, .inl (hex _ _ (by rw [c1]; exact hrun)), E, S', ?_⟩
            refine .os a (vv + 1) 0 (len + ys.length) true k' _ _ cap (by simp [hai]; rfl) (by rw [hnl]; omega) hroom fun _ => ?_
            refine ⟨b, q + off * k', _, el', by simp [Loc.upd_self], by simp, setRow_heap _ _ _ _ _ _ hb, ?_⟩
            simp only [Nat.zero_add, List.size_toArray, List.length_append, List.length_take, List.length_drop, Array.length_toList]
            omega
        · obtain ⟨w2, cap', C, hw2, hcap', hCs, hCt, hheap, hrun⟩ := r2 hroom
          have hnew2 : w2.heap[w.heap.size]? = some (.cells C el (0, 0)) := by rw [hheap]; simp
          have old : ∀ b, b < w.heap.size → w2.heap[b]? = w.heap[b]? := by
            intro b hlt
            rw [hheap, Array.getElem?_push_lt hlt]; exact (Array.getElem?_eq_getElem hlt).symm
          obtain ⟨E, S'⟩ := change S hrow (blk' := .row true k' (vv + 1) ((xs.drop off).take len ++ ys)) (L.upd a (some (w.heap.size, 0))) (fun j hj => Loc.upd_ne _ _ hj) (w' := w2) hw2 (.inl rfl) (by rw [hheap]; simp) (fun b hb _ => old b hb)
            (fun p hp => by rw [Loc.upd_self] at hp; cases hp; exact .inr (Nat.le_refl _)) ⟨by omega, fun e => by omega⟩ (fun E => by
              refine ⟨hnk, fun b q hL => ?_, fun hL => by rw [Loc.upd_self] at hL; cases hL⟩
              rw [Loc.upd_self] at hL; cases hL
              refine ⟨C, el, os_ ++ us, hnew2, LRel.evo E hnr, fun m u hu => ?_⟩
              rw [Nat.zero_add, ← Array.getElem?_toList]
              have hm' : m < (os_ ++ us).length := (List.getElem?_eq_some_iff.1 hu).1
              rw [← hCt, List.getElem?_take, if_pos hm'] at hu
              exact hu)
          refine ⟨_, _, _, .inl (hex _ _ (by rw [c1]; exact hrun)), E, S', ?_⟩
          refine .os a (vv + 1) 0 (len + ys.length) true k' _ _ cap' (by simp [hai]; rfl) (by rw [hnl]; omega) hcap' fun _ => ?_
          refine ⟨w.heap.size, 0, C, el, by simp [Loc.upd_self], by simp, hnew2, ?_⟩
          rw [hCs, List.length_append, hosl, husl, hzs, ← Nat.add_mul, Nat.zero_add, Nat.zero_add, Nat.mul_zero, Nat.zero_add, ← Nat.add_mul]
          exact Nat.mul_le_mul_right _ (by omega)
      · cases h
    · cases h
theorem flat_setRange {k : Nat} {xs ys : List PV} {off : Nat} (hx : ∀ x ∈ xs, x.cells.length = k) (hy : ∀ y ∈ ys, y.cells.length = k) :
    (setRange xs off ys).flatMap PV.cells = setRange (xs.flatMap PV.cells) (off * k) (ys.flatMap PV.cells) := by
  unfold Nac.setRange
  rw [List.flatMap_append, List.flatMap_append, flat_take hx, flat_length hy, ← Nat.add_mul, flat_drop hx]
theorem g_copy (S : Sim R M L w) (H : Fit M L w ρ σ) {o : Oper} {k : Nat} {t el : TypeId} {x y : CX} {x' y' : Operand} {ts : Array TypeId} (ho : o.op = .call { callee := .builtin .copy, args := #[x', y'], argTypes := ts })
    (hx : okX x x' = true) (hy : okX y y' = true) (hts : ts[0]? = some t) (ht : P.underlying t = some (.slice el)) (hk : tySize P el = some k)
    {v : PV} {M' : List Blk} (h : res M ρ (.copy k x y) = some (v, M')) : Good R P (execOp σ o) M L w v M' := by
  have k1 := H x x' hx; have k2 := H y y' hy
  simp only [res] at h
  split at h
  · rename_i i ver off len ys e1 e2
    rw [e1] at k1
    split at h
    · rename_i k' vv xs hrow
      split at h
      case isFalse => cases h
      rename_i hcond
      obtain ⟨rfl, rfl, hle, hall, hk0⟩ := hcond
      simp only [Option.some.injEq, Prod.mk.injEq] at h
      obtain ⟨rfl, rfl⟩ := h
      obtain ⟨hyk, hyone⟩ := okElem_spec hall
      obtain ⟨us, hyr, hyn, hyf⟩ := held_run (P := P) S k2 e2 hyk hk0
      obtain ⟨base, cap, c1, hx', hcap, hm⟩ := k1.os_live hrow
      have hfc := hyf (Nat.min ys.length len) w (Nat.min_le_left _ _) rfl
      have husl : us.length = ys.length * k' := by rw [← hyr.length]; exact flat_length hyk
      have hyk' : ∀ y ∈ ys.take len, y.cells.length = k' := fun y hy => hyk y (List.mem_of_mem_take hy)
      have hex : ∀ w2, (match base with | some a => (storeCells a (us.take (Nat.min ys.length len * k'))).run P w = .ok () w2 | none => w2 = w) → (execOp σ o).run P w = .ok (.value (.int .i64 ((Nat.min ys.length len : Nat) : Int))) w2 := fun w2 h => by
        cases base with
        | none => subst h; simp [execOp, ho, resolve, invoke, builtin, Builtin.copy_, hts, run_underlying ht, run_sizeOf' hk, c1, hyn, hfc, goInt]
        | some a => simp only at h; simp [execOp, ho, resolve, invoke, builtin, Builtin.copy_, hts, run_underlying ht, run_sizeOf' hk, c1, hyn, hfc, goInt, h]
      by_cases h0 : Nat.min ys.length len = 0
      · -- nothing
        have hempty : ys.take len = [] := by
          apply List.eq_nil_of_length_eq_zero
          rw [List.length_take]
          have h0' : min ys.length len = 0 := h0
          omega
        have hM : M.set i (.row true k' vv (setRange xs off (ys.take len))) = M := by
          rw [hempty]
          have : setRange xs off [] = xs := by unfold Nac.setRange; simp
          rw [this]
          obtain ⟨hlt, hget⟩ := List.getElem?_eq_some_iff.1 hrow
          rw [← hget]; exact List.set_getElem_self hlt
        rw [hM]
        refine good_pure S (hex w ?_) (.s _ rfl)
        rw [h0]
        cases base <;> simp [storeCells]
      · have hcap0 : cap ≠ 0 := by
          have : Nat.min ys.length len ≤ len := Nat.min_le_right _ _
          omega
        obtain ⟨b, q, cc, el', hL, rfl, hb, hsz⟩ := hm hcap0
        obtain ⟨hk1, c', el'', vs, g1, g2, g3, g4⟩ := row_cells S hrow hL
        have hmin : us.take (Nat.min ys.length len * k') = us.take (len * k') := by
          rcases Nat.le_total ys.length len with h1 | h1
          · rw [show Nat.min ys.length len = ys.length from Nat.min_eq_left h1, List.take_of_length_le (by omega), List.take_of_length_le (by rw [husl]; exact Nat.mul_le_mul_right _ h1)]
          · rw [show Nat.min ys.length len = len from Nat.min_eq_right h1]
        have hyr' : LRel M L w ((ys.take len).flatMap PV.cells) (us.take (len * k')) := by rw [← flat_take hyk]; exact hyr.take _
        have hone : ∀ u ∈ us.take (len * k'), u.oneCell' = true := fun u hu => hyr.one hyone u (List.mem_of_mem_take hu)
        have hut : (us.take (len * k')).length ≤ len * k' := by simp; omega
        have hoffk : (off + len) * k' ≤ xs.length * k' := Nat.mul_le_mul_right _ hle
        rw [Nat.add_mul] at hoffk
        have hne : us.take (len * k') ≠ [] := fun h => by
          rw [← hmin] at h
          have := congrArg List.length h
          simp only [List.length_take, List.length_nil, husl] at this
          have h2 : 0 < Nat.min ys.length len * k' := Nat.mul_pos (Nat.pos_of_ne_zero h0) (Nat.pos_of_ne_zero hk0)
          have h3 : Nat.min ys.length len * k' ≤ ys.length * k' := Nat.mul_le_mul_right _ (Nat.min_le_left _ _)
          clear hm
          omega
        have hple : off * k' + (us.take (len * k')).length ≤ xs.length * k' := by clear hm; omega
        have hsl : (setRange xs off (ys.take len)).length = xs.length := setRange_length (by clear hm; have := List.length_take_le len ys; omega)
        obtain ⟨w', h1, E, S'⟩ := store_row S hrow hL (P := P) (xs' := setRange xs off (ys.take len)) hsl (fun z hz => by
            unfold Nac.setRange at hz
            rcases List.mem_append.1 hz with hz | hz
            · rcases List.mem_append.1 hz with hz | hz
              · exact hk1 z (List.mem_of_mem_take hz)
              · exact hyk' z hz
            · exact hk1 z (List.mem_of_mem_drop hz)) hone hne (p := off * k') hple hyr' (flat_setRange hk1 hyk')
        exact ⟨_, w', _, .inl (hex w' (by simp only; rw [hmin]; exact h1)), E, S', .s _ rfl⟩
    · cases h
  · cases h
theorem fold_max {n : Nat} : ∀ {ys : List PV} {cs : List Value} {p q : PV} {c : Value}, foldO maxI p ys = some q → VRel M L w p c → LRel M L w ys cs → ∃ d, (cs.foldlM Builtin.max2 c).run P w = .ok d w ∧ VRel M L w q d
  | [], [], p, q, c, h, hp, _ => by
    simp only [foldO, Option.some.injEq] at h
    subst h
    exact ⟨c, rfl, hp⟩
  | y :: ys, d :: cs, p, q, c, h, hp, hr => by
    cases hr with
    | cons _ _ _ _ hy hys =>
      simp only [foldO] at h
      cases hm : maxI p y with
      | none => rw [hm] at h; cases h
      | some z =>
        rw [hm] at h
        simp only [Option.bind_some] at h
        unfold maxI at hm
        split at hm
        · split at hm
          · rename_i e; subst e
            obtain rfl := Option.some.inj hm
            obtain rfl := hp.s_inv
            obtain rfl := hy.s_inv
            obtain ⟨d', h1, h2⟩ := fold_max (n := n) h (.s _ rfl) hys
            refine ⟨d', ?_, h2⟩
            rw [List.foldlM_cons]
            simp only [Sem.run_bind, Builtin.max2, Sem.run_pure, Result.andThen_ok]
            exact h1
          · cases hm
        · cases hm
  | [], _ :: _, _, _, _, _, _, hr => by cases hr
  | _ :: _, [], _, _, _, _, _, hr => by cases hr
theorem fold_min {n : Nat} : ∀ {ys : List PV} {cs : List Value} {p q : PV} {c : Value}, foldO minI p ys = some q → VRel M L w p c → LRel M L w ys cs → ∃ d, (cs.foldlM Builtin.min2 c).run P w = .ok d w ∧ VRel M L w q d
  | [], [], p, q, c, h, hp, _ => by
    simp only [foldO, Option.some.injEq] at h
    subst h
    exact ⟨c, rfl, hp⟩
  | y :: ys, d :: cs, p, q, c, h, hp, hr => by
    cases hr with
    | cons _ _ _ _ hy hys =>
      simp only [foldO] at h
      cases hm : minI p y with
      | none => rw [hm] at h; cases h
      | some z =>
        rw [hm] at h
        simp only [Option.bind_some] at h
        unfold minI at hm
        split at hm
        · split at hm
          · rename_i e; subst e
            obtain rfl := Option.some.inj hm
            obtain rfl := hp.s_inv
            obtain rfl := hy.s_inv
            obtain ⟨d', h1, h2⟩ := fold_min (n := n) h (.s _ rfl) hys
            refine ⟨d', ?_, h2⟩
            rw [List.foldlM_cons]
            simp only [Sem.run_bind, Builtin.min2, Sem.run_pure, Result.andThen_ok]
            exact h1
          · cases hm
        · cases hm
  | [], _ :: _, _, _, _, _, _, hr => by cases hr
  | _ :: _, [], _, _, _, _, _, hr => by cases hr
theorem g_max (S : Sim R M L w) (H : Fit M L w ρ σ) {o : Oper} {x : CX} {xs : List CX} {args : Array Operand} {ts : Array TypeId} (ho : o.op = .call { callee := .builtin .max, args := args, argTypes := ts }) (hx : okXs (x :: xs) args.toList = true)
    {v : PV} {M' : List Blk} (h : res M ρ (.max x xs) = some (v, M')) : Good R P (execOp σ o) M L w v M' := by
  have k := H.list hx
  simp only [res] at h
  cases hf : foldO maxI (ρ x) (xs.map ρ) with
  | none => rw [hf] at h; cases h
  | some q =>
    rw [hf] at h
    simp only [Option.map_some, Option.some.injEq, Prod.mk.injEq] at h
    obtain ⟨rfl, rfl⟩ := h
    have ha : (args.map σ).toList = args.toList.map σ := by simp
    generalize hl : args.toList.map σ = cs at k ha
    cases k with
    | cons _ c _ ds hc hds =>
      obtain ⟨d, h1, h2⟩ := fold_max (P := P) (n := 0) hf hc hds
      refine good_pure S ?_ h2
      simp [execOp, ho, resolve, invoke, builtin, Builtin.max_, hl, h1]
theorem g_min (S : Sim R M L w) (H : Fit M L w ρ σ) {o : Oper} {x : CX} {xs : List CX} {args : Array Operand} {ts : Array TypeId} (ho : o.op = .call { callee := .builtin .min, args := args, argTypes := ts }) (hx : okXs (x :: xs) args.toList = true)
    {v : PV} {M' : List Blk} (h : res M ρ (.min x xs) = some (v, M')) : Good R P (execOp σ o) M L w v M' := by
  have k := H.list hx
  simp only [res] at h
  cases hf : foldO minI (ρ x) (xs.map ρ) with
  | none => rw [hf] at h; cases h
  | some q =>
    rw [hf] at h
    simp only [Option.map_some, Option.some.injEq, Prod.mk.injEq] at h
    obtain ⟨rfl, rfl⟩ := h
    have ha : (args.map σ).toList = args.toList.map σ := by simp
    generalize hl : args.toList.map σ = cs at k ha
    cases k with
    | cons _ c _ ds hc hds =>
      obtain ⟨d, h1, h2⟩ := fold_min (P := P) (n := 0) hf hc hds
      refine good_pure S ?_ h2
      simp [execOp, ho, resolve, invoke, builtin, Builtin.min_, hl, h1]
theorem g_arrp (S : Sim R M L w) (H : Fit M L w ρ σ) {o : Oper} {n : Nat} {t el : TypeId} {x : CX} {x' : Operand} (ho : o.op = .sliceToArrayPointer t x') (hx : okX x x' = true) (ht : P.underlying t = some (.array n el))
    {v : PV} {M' : List Blk} (h : res M ρ (.arrp n x) = some (v, M')) : Good R P (execOp σ o) M L w v M' := by
  have k1 := H x x' hx
  have run : ∀ {a : Option Addr} {len cap : Nat}, n ≤ len → (Instr.arrayAt t (.slice a len cap)).run P w = .ok (.pointer a) w := by
    intro a len cap hle
    have : ¬ (len < n) := by omega
    simp [Instr.arrayAt, run_underlying ht, this]
  simp only [res] at h
  split at h
  · rename_i xs e1
    rw [e1] at k1
    split at h
    case isFalse => cases h
    rename_i hc
    obtain ⟨hle, hn0⟩ := hc
    simp only [Option.some.injEq, Prod.mk.injEq] at h
    obtain ⟨rfl, rfl⟩ := h
    generalize hcx : σ x' = c at k1
    cases k1 with
    | fs _ a m cap k' vs hm' hcap hk hr hm =>
      subst hm'
      obtain ⟨B, q, rfl, hlt, hno, hcell⟩ := hm (fun h => by rw [h] at hle; simp at hle; omega)
      refine good_pure S (cv := .pointer (some ⟨B, q, none⟩)) (by simp [execOp, ho, hcx, run hle]) ?_
      refine .fp _ B q (vs.take (n * k')) ?_ hlt hno fun m u hu => ?_
      · rw [← flat_take hk]; exact hr.take _
      · rw [List.getElem?_take] at hu
        split at hu
        · exact hcell _ _ hu
        · cases hu
  · rename_i i ver off len e1
    rw [e1] at k1
    split at h
    case isFalse => cases h
    rename_i hc
    obtain ⟨hle, hn0⟩ := hc
    cases hh : held M (.os i ver off len) with
    | none => rw [hh] at h; cases h
    | some ys =>
      rw [hh] at h
      simp only [Option.map_some, Option.some.injEq, Prod.mk.injEq] at h
      obtain ⟨rfl, rfl⟩ := h
      simp only [held] at hh
      split at hh
      · rename_i wr k' vv xs hrow
        split at hh
        · rename_i hcc
          obtain ⟨rfl, hl⟩ := hcc
          obtain ⟨base, cap, c1, hx', hcap, hm⟩ := k1.os_live hrow
          obtain ⟨b, q, cc, el', hL, rfl, hb, hsz⟩ := hm (by omega)
          exact good_pure S (cv := .pointer (some ⟨b, q + off * k', none⟩)) (by simp [execOp, ho, c1, run hle]) (.op i vv off 0 wr k' xs b q hrow (by omega) hL)
        · cases hh
      · cases hh
  · cases h
end
end Go.Nac
set_option linter.unusedVariables false
set_option linter.unusedSectionVars false
set_option linter.unusedSimpArgs false
namespace Go.Nac
section
variable {R : CCode → Code → Prop} {P : Program} {M : List Blk} {L : Loc} {w w' : World} {ρ : CX → PV} {σ : Operand → Value}
theorem g_capn (S : Sim R M L w) (H : Fit M L w ρ σ) {o : Oper} {t el : TypeId} {x : CX} {x' : Operand} {ts : Array TypeId} (ho : o.op = .call { callee := .builtin .cap, args := #[x'], argTypes := ts })
    (hx : okX x x' = true) (hts : ts[0]? = some t) (ht : P.underlying t = some (.slice el))
    {v : PV} {M' : List Blk} (h : res M ρ (.capn x) = some (v, M')) : Good R P (execOp σ o) M L w v M' := by
  have k1 := H x x' hx
  simp only [res] at h
  split at h
  · rename_i e1
    rw [e1] at k1
    have c1 := k1.s_inv
    cases h
    refine good_pure S (cv := .int .i64 0) ?_ (.s _ rfl)
    simp [execOp, ho, resolve, invoke, builtin, Builtin.cap_, hts, c1, run_underlying ht, goInt]
  · cases h
theorem get_zeroCells {z : Array Value} {n j : Nat} (h : j < n * z.size) : (Builtin.zeroCells z n)[j]? = z[j % z.size]? := by
  have hz : 0 < z.size := by rcases Nat.eq_zero_or_pos z.size with e | e; (rw [e] at h; simp at h); exact e
  have hjs : j % z.size < z.size := Nat.mod_lt _ hz
  have hr : (Array.range (n * z.size))[j]? = some j := by simp [h]
  unfold Builtin.zeroCells
  rw [Array.getElem?_map, hr, Option.map_some, getElem!_pos z (j % z.size) hjs, Array.getElem?_eq_getElem hjs]
theorem g_appz (S : Sim R M L w) (H : Fit M L w ρ σ) {o : Oper} {k bytes : Nat} {g : Option Nat} {z : List Value} {t t1 el : TypeId} {kk : IntKind} {x n : CX} {x' n' : Operand} {ts : Array TypeId} (ho : o.op = .call { callee := .builtin .append, args := #[x', n'], argTypes := ts })
    (hx : okX x x' = true) (hn : okX n n' = true) (hts : ts[0]? = some t) (hts1 : ts[1]? = some t1) (ht : P.underlying t = some (.slice el)) (hd : P.underlying t1 = some (.int kk))
    (hk : tySize P el = some k) (hby : (P.info? el).map (·.bytes) = some bytes) (hz : okZ P el g z = true)
    {v : PV} {M' : List Blk} (h : res M ρ (.appz k g z bytes x n) = some (v, M')) : Good R P (execOp σ o) M L w v M' := by
  have k1 := H x x' hx; have k2 := H n n' hn
  obtain ⟨zv, hzv, hz2, hz3, hz4, hz5⟩ := okZ_spec hz
  simp only [res] at h
  split at h
  case h_2 => cases h
  rename_i l e1 e2
  rw [e1] at k1; rw [e2] at k2
  have c1 := k1.s_inv; have c2 := k2.s_inv
  split at h
  case isFalse => cases h
  rename_i hc
  obtain ⟨h0, hle, hbl, hzl, hk0⟩ := hc
  cases hm : mkPV g (z.map .s) with
  | none => rw [hm] at h; cases h
  | some e =>
    rw [hm] at h
    simp only [Option.map_some, Option.some.injEq, Prod.mk.injEq] at h
    obtain ⟨rfl, rfl⟩ := h
    have hec : e.cells = z.map .s := mkPV_cells hm (by simp)
    have hel : e.cells.length = k := by rw [hec]; simpa using hzl
    have hw : IntKind.i64.wrap l = l := IntWalk.i64_in l ⟨by omega, by omega⟩
    have hzs : zv.cells.size = k := by have := congrArg List.length hz2; simpa [hzl] using this
    have hinfo : ∃ i, P.info? el = some i ∧ i.bytes = bytes ∧ i.size = k ∧ i.zero = some zv := by
      cases hi : P.info? el with
      | none => rw [hi] at hby; cases hby
      | some i =>
        rw [hi] at hby hzv
        unfold tySize at hk
        rw [hi] at hk
        exact ⟨i, rfl, by simpa using hby, by simpa using hk, by simpa using hzv⟩
    obtain ⟨i, hi, hib, hik, hiz⟩ := hinfo
    obtain ⟨n, rfl⟩ := Int.eq_ofNat_of_zero_le (Int.le_of_lt h0)
    have hn0 : 0 < n := by omega
    have hmul : (n : Int) * (bytes : Int) ≤ 2 ^ 40 := by
      have : n * bytes ≤ 2 ^ 20 * 2 ^ 20 := Nat.mul_le_mul (by omega) hbl
      have h3 : ((n * bytes : Nat) : Int) ≤ ((2 ^ 20 * 2 ^ 20 : Nat) : Int) := by exact_mod_cast this
      simp only [Int.natCast_mul] at h3
      omega
    have hnot : ¬ ((n : Int) < 0) := by omega
    have hnot2 : ¬ (281474976710656 < (n : Int) * (bytes : Int)) := by omega
    have hfit : ¬ (Builtin.nextslicecap n 0 * bytes > 2 ^ 48) := by
      have h1 : n * bytes ≤ 2 ^ 20 * 2 ^ 20 := Nat.mul_le_mul (by omega) hbl
      have := growslice_fits (need := n) (old := 0) (bytes := bytes) (by omega) (by omega)
      omega
    have hfit' : ¬ (281474976710656 < Builtin.nextslicecap n 0 * bytes) := by omega
    have hnk : ¬ (n * k = 0) := by have := Nat.mul_pos hn0 hk0; omega
    have hroom : ¬ (n ≤ 0) := by omega
    have hroom' : ¬ (n = 0) := by omega
    have h63 : ¬ (9223372036854775807 < (n : Int)) := by omega
    have hcap := grownCap_ge w n 0 el
    have hrun : (execOp σ o).run P w = .ok (.value (.slice (some ⟨w.heap.size, 0, none⟩) n (grownCap w n 0 el)))
        (w.drew.alloc (.cells (Builtin.zeroCells zv.cells n ++ Builtin.zeroCells zv.cells (grownCap w n 0 el - n)) el)) := by
      simp [execOp, ho, resolve, invoke, builtin, Builtin.append_, hts, hts1, run_underlying ht, run_underlying hd, asInt, asIntOf, sizeOf, typeInfo, zeroValue, hi, hik, hib, hiz, c1, c2, hw, hnot, hnot2, hnk, hk0, hroom, hroom', h63, hfit', Question.forced, newRow, grownCap, Builtin.firstCells]
    have hr : LRel M L w ((List.replicate n e).flatMap PV.cells) ((Builtin.zeroCells zv.cells n ++ Builtin.zeroCells zv.cells (grownCap w n 0 el - n)).toList.take ((List.replicate n e).length * k)) := by
      have hsz : (Builtin.zeroCells zv.cells n).size = n * k := by rw [size_zeroCells, hzs]
      rw [Array.toList_append, List.length_replicate, List.take_left' (by simp [hsz])]
      refine LRel.all ?_ fun j x u hx hu => ?_
      · rw [flat_length (k := k) (by intro x hx; rw [List.eq_of_mem_replicate hx]; exact hel)]; simp [hsz]
      · have hj : j < n * k := by
          have := (List.getElem?_eq_some_iff.1 hu).1
          simpa [hsz] using this
        rw [get_replicate hel hk0 n j hj, hec] at hx
        rw [Array.getElem?_toList, get_zeroCells (by rw [hzs]; exact hj), hzs, ← Array.getElem?_toList, hz2] at hu
        rw [List.getElem?_map, hu] at hx
        simp only [Option.map_some, Option.some.injEq] at hx
        subst hx
        exact .s u (hz3 u (List.mem_of_getElem? hu))
    obtain ⟨E, S', hv⟩ := new_row S (k := k) (xs := List.replicate n e) (by intro x hx; rw [List.eq_of_mem_replicate hx]; exact hel) hr (w' := w.drew.alloc (.cells (Builtin.zeroCells zv.cells n ++ Builtin.zeroCells zv.cells (grownCap w n 0 el - n)) el)) ⟨rfl, rfl, rfl⟩ rfl (grownCap w n 0 el) (by simpa using hcap)
      (by rw [Array.size_append, size_zeroCells, size_zeroCells, hzs, ← Nat.add_mul]; exact Nat.mul_le_mul_right _ (by omega)) 0
    refine ⟨_, _, _, .inl hrun, E, S', ?_⟩
    simpa using hv
end
end Go.Nac
set_option linter.unusedVariables false
set_option linter.unusedSectionVars false
set_option linter.unusedSimpArgs false
namespace Go.Nac
theorem nan_f32 (r s : Nat) (hs : s < 2) (hr : r < 8388607) : (FloatKind.decode .f32 (s * 2 ^ 31 + 0x7f800000 + 1 + r)).isNaN = true := by
  have h1 : (s * 2 ^ 31 + 0x7f800000 + 1 + r) % 2147483648 = 0x7f800000 + 1 + r := by omega
  have e1 : Ieee.single.signWeight = 2147483648 := rfl
  have e2 : Ieee.single.binade = 8388608 := rfl
  have e3 : Ieee.single.infRung = 2139095040 := rfl
  unfold FloatKind.decode FloatKind.format Ieee.Format.read
  simp only [e1, e2, e3, h1]
  rw [if_neg (by omega), if_neg (by omega), if_neg (by omega)]
  rfl
theorem nan_f64 (r s : Nat) (hs : s < 2) (hr : r < 4503599627370495) : (FloatKind.decode .f64 (s * 2 ^ 63 + 0x7ff0000000000000 + 1 + r)).isNaN = true := by
  have h1 : (s * 2 ^ 63 + 0x7ff0000000000000 + 1 + r) % 9223372036854775808 = 0x7ff0000000000000 + 1 + r := by omega
  have e1 : Ieee.double.signWeight = 9223372036854775808 := rfl
  have e2 : Ieee.double.binade = 4503599627370496 := rfl
  have e3 : Ieee.double.infRung = 9218868437227405312 := rfl
  unfold FloatKind.decode FloatKind.format Ieee.Format.read
  simp only [e1, e2, e3, h1]
  rw [if_neg (by omega), if_neg (by omega), if_neg (by omega)]
  rfl
theorem nan_cut (k : FloatKind) (q : Question) (hq : (∃ x y, q = .nanBits k x y) ∨ ∃ x, q = .nanConv k x) (t : Nat) : (k.decode (q.cut t)).isNaN = true := by
  rcases hq with ⟨x, y, rfl⟩ | ⟨x, rfl⟩ <;> cases k
  · exact nan_f32 _ _ (Nat.mod_lt _ (by decide)) (Nat.mod_lt _ (by decide))
  · exact nan_f64 _ _ (Nat.mod_lt _ (by decide)) (Nat.mod_lt _ (by decide))
  · exact nan_f32 _ _ (Nat.mod_lt _ (by decide)) (Nat.mod_lt _ (by decide))
  · exact nan_f64 _ _ (Nat.mod_lt _ (by decide)) (Nat.mod_lt _ (by decide))
section
variable {R : CCode → Code → Prop} {P : Program} {M : List Blk} {L : Loc} {w w' : World} {ρ : CX → PV} {σ : Operand → Value}
/-- A NaN is drawn. -/
theorem good_drawn {s : Sem Next} (S : Sim R M L w) (k : FloatKind) (q : Question) (hq : (∃ x y, q = .nanBits k x y) ∨ ∃ x, q = .nanConv k x)
    (hr : s.run P w = .ok (.value (.float k (q.cut (w.tape w.drawn q)))) { w with drawn := w.drawn + 1 }) : Good R P s M L w (.nan k) M :=
  ⟨_, _, L, .inl hr, Evo.heap ⟨rfl, rfl, rfl⟩ rfl, S.heap ⟨rfl, rfl, rfl⟩ rfl, .nan k _ (nan_cut k q hq _)⟩
theorem nan_sum {f : Ieee.Format} {x y : Nat} (h : (f.read x).isNaN = true ∨ (f.read y).isNaN = true) : f.add x y = none ∧ f.sub x y = none ∧ f.mul x y = none ∧ f.div x y = none ∧ f.order x y = none := by
  unfold Ieee.Format.add Ieee.Format.sub Ieee.Format.mul Ieee.Format.div Ieee.Format.order
  generalize f.read x = a at h
  generalize f.read y = b at h
  cases a <;> cases b <;> simp [Ieee.Datum.isNaN, Ieee.Datum.sum, Ieee.Datum.opposite, Ieee.Datum.product, Ieee.Datum.quotient, Ieee.Datum.order] at h ⊢
theorem fKind_rel {x : PV} {c : Value} {k : FloatKind} (h : VRel M L w x c) (hx : fKind x = some k) : ∃ b, c = .float k b ∧ (x = .s (.float k b) ∨ x = .nan k ∧ (k.decode b).isNaN = true) := by
  unfold fKind at hx
  split at hx
  · rename_i k' b
    cases hx
    have := h.s_inv
    exact ⟨b, this, .inl rfl⟩
  · rename_i k'
    cases hx
    cases h with | nan _ b hb => exact ⟨b, rfl, .inr ⟨rfl, hb⟩⟩
  · cases hx
theorem g_fbin (S : Sim R M L w) (H : Fit M L w ρ σ) {o : Oper} {op : BinOp} {t ty : TypeId} {x y : CX} {x' y' : Operand} (ho : o.op = .binOp op t x' y' ty) (hx : okX x x' = true) (hy : okX y y' = true)
    {v : PV} (h : sopV (.fbin op) [ρ x, ρ y] = some v) : Good R P (execOp σ o) M L w v M := by
  have k1 := H x x' hx
  have k2 := H y y' hy
  have key : ∀ (k : FloatKind) (a b : Nat), σ x' = .float k a → σ y' = .float k b →
      (∀ r, fArith op k a b = some (some r) → Good R P (execOp σ o) M L w (.s (.float k r)) M) ∧ (fArith op k a b = some none → Good R P (execOp σ o) M L w (.nan k) M) ∧
      (∀ z, fArith op k a b = none → fCmp op (k.format.order a b) = some z → Good R P (execOp σ o) M L w (.B z) M) := by
    intro k a b e1 e2
    have hrun : (execOp σ o).run P w = (do let v ← binOp op t (.float k a) (.float k b); pure (Next.value v) : Sem Next).run P w := by
      simp only [execOp, ho, e1, e2]
      have hg : (eqGuard op t x' y' (.float k a) (.float k b)).run P w = .ok () w := by
        unfold eqGuard; cases op <;> simp
      simp only [Sem.run_bind, hg, Result.andThen_ok]
    refine ⟨fun r hr => ?_, fun hr => ?_, fun z h0 hz => ?_⟩
    · refine good_pure S ?_ (.s _ rfl)
      rw [hrun]
      cases op <;> simp only [fArith] at hr <;> first | (cases hr; done) | (simp [binOp, Op.floatArith, Option.some.inj hr])
    · refine good_drawn S k (.nanBits k a b) (.inl ⟨a, b, rfl⟩) ?_
      rw [hrun]
      cases op <;> simp only [fArith] at hr <;> first | (cases hr; done) | (simp [binOp, Op.floatArith, Option.some.inj hr, Question.forced])
    · refine good_pure S ?_ (.s _ rfl)
      rw [hrun]
      cases op <;> simp only [fArith] at h0 <;> first | (cases h0; done) | (simp only [fCmp] at hz; first | (cases hz; done) | (cases hz; simp [binOp, Op.floatCmp]))
  simp only [sopV] at h
  split at h
  · rename_i k a k' b e1 e2
    rw [e1] at k1; rw [e2] at k2
    split at h
    · rename_i e; subst e
      obtain ⟨r1, r2, r3⟩ := key k a b k1.s_inv k2.s_inv
      split at h
      · rename_i r hr; cases h; exact r1 r hr
      · rename_i hr; cases h; exact r2 hr
      · rename_i hr
        cases hc : fCmp op (k.format.order a b) with
        | none => rw [hc] at h; cases h
        | some z => rw [hc] at h; cases h; exact r3 z hr hc
    · cases h
  · rename_i hne
    split at h
    · rename_i k k' f1 f2
      split at h
      · rename_i e; subst e
        obtain ⟨a, c1, d1⟩ := fKind_rel k1 f1
        obtain ⟨b, c2, d2⟩ := fKind_rel k2 f2
        have hn : (k.format.read a).isNaN = true ∨ (k.format.read b).isNaN = true := by
          rcases d1 with d1 | ⟨_, d1⟩
          · rcases d2 with d2 | ⟨_, d2⟩
            · exact absurd d2 (hne k a k b d1)
            · exact .inr d2
          · exact .inl d1
        obtain ⟨n1, n2, n3, n4, n5⟩ := nan_sum hn
        obtain ⟨r1, r2, r3⟩ := key k a b c1 c2
        split at h
        · rename_i ha
          cases h
          refine r2 ?_
          cases op <;> simp only [fArith] at ha ⊢ <;> first | (cases ha; done) | simp [n1, n2, n3, n4]
        · rename_i ha
          cases hc : fCmp op none with
          | none => rw [hc] at h; cases h
          | some z =>
            rw [hc] at h; cases h
            refine r3 z ?_ (by rw [n5]; exact hc)
            cases op <;> simp only [fArith] at ha ⊢ <;> first | rfl | (exact absurd rfl ha)
      · cases h
    · cases h
def ffV (d : FloatKind) : PV → Option PV
  | .s (.float k b) =>
    if k = d then some (.s (.float d b)) else
    match k.decode b with
    | .nan _ _ => some (.nan d)
    | .infinity s => some (.s (.float d (d.encode (.infinity s))))
    | .number s m e => if (d.decode (d.encode (.number s m e))).isInfinity then none else some (.s (.float d (d.encode (.number s m e))))
  | .nan _ => some (.nan d)
  | _ => none
def fiV (d : IntKind) : PV → Option PV
  | .s (.float k b) =>
    match (k.decode b).toInt .zero with
    | some n => if d.min ≤ n ∧ n ≤ d.max then some (.s (.int d n)) else none
    | none => none
  | _ => none
def itfV (d : FloatKind) : PV → Option PV
  | .s (.int _ n) => some (.s (.float d (d.nearest n)))
  | _ => none
theorem run_conv_ff {w : World} {s t : TypeId} {k d : FloatKind} {b : Nat} (hs : (P.underlying s).isSome = true) (ht : P.underlying t = some (.float d)) :
    (convert s t (.float k b)).run P w = (Conv.floatToFloat k b d).run P w := by
  obtain ⟨u, hu⟩ := Option.isSome_iff_exists.1 hs
  cases u <;> simp [convert, run_underlying hu, run_underlying ht]
theorem run_conv_if {w : World} {s t : TypeId} {k : IntKind} {d : FloatKind} {n : Int} (hs : (P.underlying s).isSome = true) (ht : P.underlying t = some (.float d)) :
    (convert s t (.int k n)).run P w = .ok (.float d (d.nearest n)) w := by
  obtain ⟨u, hu⟩ := Option.isSome_iff_exists.1 hs
  cases u <;> simp [convert, run_underlying hu, run_underlying ht, Conv.intToFloat]
theorem g_ff (S : Sim R M L w) (H : Fit M L w ρ σ) {o : Oper} {d : FloatKind} {s t : TypeId} {x : CX} {x' : Operand} (ho : o.op = .convert s t x') (hx : okX x x' = true)
    (hs : (P.underlying s).isSome = true) (ht : P.underlying t = some (.float d)) {v : PV} (h : sopV (.ff d) [ρ x] = some v) : Good R P (execOp σ o) M L w v M := by
  have k1 := H x x' hx
  obtain ⟨u, hu⟩ := Option.isSome_iff_exists.1 hs
  have hc : sopV (.ff d) [ρ x] = ffV d (ρ x) := by
    simp only [sopV, ffV]
    cases ρ x <;> try rfl
    rename_i v; cases v <;> rfl
  rw [hc] at h
  unfold ffV at h
  split at h
  · rename_i k b e1
    rw [e1] at k1
    have c1 := k1.s_inv
    split at h
    · rename_i e; subst e; cases h
      exact good_pure S (by simp only [execOp, ho, c1, Sem.run_bind, run_conv_ff hs ht]; simp [Conv.floatToFloat]) (.s _ rfl)
    · rename_i ne
      split at h
      · rename_i sg fr he; cases h
        refine good_drawn S d (.nanConv d b) (.inr ⟨b, rfl⟩) ?_
        simp only [execOp, ho, c1, Sem.run_bind, run_conv_ff hs ht]; simp [Conv.floatToFloat, ne, he, Question.forced]
      · rename_i sg he; cases h
        exact good_pure S (by simp only [execOp, ho, c1, Sem.run_bind, run_conv_ff hs ht]; simp [Conv.floatToFloat, ne, he]) (.s _ rfl)
      · rename_i sg m e he
        split at h
        · cases h
        · rename_i hi; cases h
          exact good_pure S (by simp only [execOp, ho, c1, Sem.run_bind, run_conv_ff hs ht]; simp [Conv.floatToFloat, ne, he, hi]) (.s _ rfl)
  · rename_i k e1
    cases h
    rw [e1] at k1
    generalize hcc : σ x' = c at k1
    cases k1 with
    | nan _ b hb =>
      by_cases e : k = d
      · subst e
        exact ⟨_, w, L, .inl (by simp only [execOp, ho, hcc, Sem.run_bind, run_conv_ff hs ht]; simp [Conv.floatToFloat]), Evo.refl M L w, S, .nan k b hb⟩
      · have hd : ∃ sg fr, k.decode b = .nan sg fr := by
          generalize k.decode b = z at hb
          cases z <;> simp [Ieee.Datum.isNaN] at hb
          exact ⟨_, _, rfl⟩
        obtain ⟨sg, fr, he⟩ := hd
        refine good_drawn S d (.nanConv d b) (.inr ⟨b, rfl⟩) ?_
        simp only [execOp, ho, hcc, Sem.run_bind, run_conv_ff hs ht]; simp [Conv.floatToFloat, e, he, Question.forced]
  · cases h
theorem g_fi (S : Sim R M L w) (H : Fit M L w ρ σ) {o : Oper} {d : IntKind} {s t : TypeId} {x : CX} {x' : Operand} (ho : o.op = .convert s t x') (hx : okX x x' = true)
    (hs : (P.underlying s).isSome = true) (ht : P.underlying t = some (.int d)) {v : PV} (h : sopV (.fi d) [ρ x] = some v) : Good R P (execOp σ o) M L w v M := by
  have k1 := H x x' hx
  have hc : sopV (.fi d) [ρ x] = fiV d (ρ x) := by
    simp only [sopV, fiV]
    cases ρ x <;> try rfl
    rename_i v; cases v <;> rfl
  rw [hc] at h
  unfold fiV at h
  split at h
  · rename_i k b e1
    rw [e1] at k1
    have c1 := k1.s_inv
    split at h
    · rename_i n hn
      split at h
      · rename_i hb
        cases h
        refine good_pure S ?_ (.s _ rfl)
        have := run_convert_float_int (P := P) w s t k d b n hs ht (by unfold floatToIntVal; rw [hn]; simp only []; rw [if_pos hb])
        simp only [execOp, ho, c1, Sem.run_bind, this, Result.andThen_ok, Sem.run_pure]
      · cases h
    · cases h
  · cases h
theorem g_itf (S : Sim R M L w) (H : Fit M L w ρ σ) {o : Oper} {d : FloatKind} {s t : TypeId} {x : CX} {x' : Operand} (ho : o.op = .convert s t x') (hx : okX x x' = true)
    (hs : (P.underlying s).isSome = true) (ht : P.underlying t = some (.float d)) {v : PV} (h : sopV (.itf d) [ρ x] = some v) : Good R P (execOp σ o) M L w v M := by
  have k1 := H x x' hx
  obtain ⟨u, hu⟩ := Option.isSome_iff_exists.1 hs
  have hc : sopV (.itf d) [ρ x] = itfV d (ρ x) := by
    simp only [sopV, itfV]
    cases ρ x <;> try rfl
    rename_i v; cases v <;> rfl
  rw [hc] at h
  unfold itfV at h
  split at h
  · rename_i k n e1
    rw [e1] at k1
    have c1 := k1.s_inv
    cases h
    exact good_pure S (by simp only [execOp, ho, c1, Sem.run_bind, run_conv_if hs ht]; simp) (.s _ rfl)
  · cases h
theorem g_srng (S : Sim R M L w) (H : Fit M L w ρ σ) {o : Oper} {t : TypeId} {x : CX} {x' : Operand} (ho : o.op = .range t x') (hx : okX x x' = true) (ht : P.underlying t = some .string)
    {v : PV} {M' : List Blk} (h : res M ρ (.srng x) = some (v, M')) : Good R P (execOp σ o) M L w v M' := by
  have k1 := H x x' hx
  simp only [res] at h
  split at h
  · rename_i b e1
    rw [e1] at k1
    have c1 := k1.s_inv
    simp only [Option.some.injEq, Prod.mk.injEq] at h
    obtain ⟨rfl, rfl⟩ := h
    have hrun : (execOp σ o).run P w = .ok (.value (.pointer (some ⟨w.heap.size, 0, none⟩))) { w with heap := w.heap.push (.stringIter b 0) } := by
      simp [execOp, ho, c1, Instr.range, run_underlying ht]
      try rfl
    obtain ⟨E, S'⟩ := push S (.siter b 0) (some (.stringIter b 0)) (w' := { w with heap := w.heap.push (.stringIter b 0) }) ⟨rfl, rfl, rfl⟩ rfl (by
      rintro _ _ rfl rfl E
      exact ⟨w.heap.size, 0, by simp [Loc.upd_self], by simp⟩)
    exact ⟨_, _, _, .inl hrun, E, S', .oi M.length b 0 w.heap.size 0 (by simp) (by simp [Loc.upd_self])⟩
  · cases h
theorem g_snxt (S : Sim R M L w) (H : Fit M L w ρ σ) {o : Oper} {x : CX} {x' : Operand} (ho : o.op = .next x' true) (hx : okX x x' = true)
    {v : PV} {M' : List Blk} (h : res M ρ (.snxt x) = some (v, M')) : Good R P (execOp σ o) M L w v M' := by
  have k1 := H x x' hx
  simp only [res] at h
  split at h
  · rename_i i e1
    rw [e1] at k1
    split at h
    · rename_i s pos hi
      generalize hcm : σ x' = c at k1
      cases k1 with
      | oi _ s' pos' b off hi' hL =>
        rw [hi] at hi'; cases hi'
        obtain ⟨b', o', g1, g2⟩ := S.mem i _ hi
        rw [hL] at g1; cases g1
        have hbl : b < w.heap.size := (Array.getElem?_eq_some_iff.1 g2).1
        split at h
        · rename_i hlt
          simp only [Option.some.injEq, Prod.mk.injEq] at h
          obtain ⟨rfl, rfl⟩ := h
          have hrun : (execOp σ o).run P w = .ok (.value (.tuple #[.bool true, .int .i64 pos, .int .i32 (Utf8.decode s pos).1])) { w with heap := w.heap.setIfInBounds b (.stringIter s (pos + (Utf8.decode s pos).2)) } := by
            simp [execOp, ho, hcm, Instr.next, getObj, setObj, Sem.run, g2, hlt, goInt]
            try rfl
          obtain ⟨E, S'⟩ := change S hi (blk' := .siter s (pos + (Utf8.decode s pos).2)) L (fun _ _ => rfl) (w' := { w with heap := w.heap.setIfInBounds b (.stringIter s (pos + (Utf8.decode s pos).2)) }) ⟨rfl, rfl, rfl⟩ (.inl rfl) (by simp) (fun b' hb' hne => by
            have : b ≠ b' := hne (b, off) rfl hL
            simp [Array.getElem?_setIfInBounds_ne this]) (fun p hp => .inl ⟨p, hp, rfl⟩) rfl (fun E => ⟨b, off, hL, by simp [hbl]⟩)
          exact ⟨_, _, L, .inl hrun, E, S', .tup _ _ (.cons _ _ _ _ (.s _ rfl) (.cons _ _ _ _ (.s _ rfl) (.cons _ _ _ _ (.s _ rfl) .nil)))⟩
        · rename_i hlt
          simp only [Option.some.injEq, Prod.mk.injEq] at h
          obtain ⟨rfl, rfl⟩ := h
          have hrun : (execOp σ o).run P w = .ok (.value (.tuple #[.bool false])) w := by
            simp [execOp, ho, hcm, Instr.next, getObj, Sem.run, g2, hlt]
            try rfl
          exact ⟨_, _, L, .inl hrun, Evo.refl M L w, S, .tup _ _ (.cons _ _ _ _ (.s _ rfl) .nil)⟩
    · cases h
  · cases h
end
end Go.Nac

