import Derived.Test.YtdlngmbgalmdeaaK5h
import Derived.Laws.CopyRow
set_option linter.unusedVariables false
set_option linter.unusedSectionVars false
set_option linter.unusedSimpArgs false
namespace Go.Nac
section
variable {R : CCode → Code → Prop} {P : Program} {M : List Blk} {L : Loc} {w w' : World} {ρ : CX → PV} {σ : Operand → Value}
/-- The block of an owned row, written. -/
theorem write_row (S : Sim R M L w) {i k ver ver' b o o' : Nat} {xs xs' : List PV} {c c' : Array Value} {el : TypeId} (hi : M[i]? = some (.row true k ver xs)) (hL : L i = some (b, o)) (hb : w.heap[b]? = some (.cells c el (0, 0)))
    (hw : Same w w') (hnew : w'.heap[b]? = some (.cells c' el (0, 0))) (hoth : ∀ b', b' ≠ b → w'.heap[b']? = w.heap[b']?) (hsz : w'.heap.size = w.heap.size) (hcs : c'.size = c.size) (hver : ver < ver' ∨ ver = ver' ∧ o' = o ∧ xs'.length = xs.length)
    (hk : ∀ x ∈ xs', x.cells.length = k) {vs : List Value} (hr : LRel M L w (xs'.flatMap PV.cells) vs) (hc : ∀ m v, vs[m]? = some v → c'[o' + m]? = some v) :
    Evo M L w (M.set i (.row true k ver' xs')) (L.upd i (some (b, o'))) w' ∧ Sim R (M.set i (.row true k ver' xs')) (L.upd i (some (b, o'))) w' := by
  have hbl : b < w.heap.size := (Array.getElem?_eq_some_iff.1 hb).1
  refine change S hi _ (fun j hj => Loc.upd_ne _ _ hj) hw (.inl rfl) (by omega) (fun b' hb' hne => ?_) (fun p hp => ?_) ?_ fun E => ?_
  · exact hoth b' fun e => hne (b, o) rfl hL e.symm
  · rw [Loc.upd_self] at hp
    cases hp
    exact .inl ⟨(b, o), hL, rfl⟩
  · refine ⟨by omega, fun e => ?_⟩
    rcases hver with h | ⟨_, ho, hl⟩
    · omega
    · refine ⟨rfl, hl, by rw [Loc.upd_self, ho, hL], fun bb oo cc ell h1 h2 => ?_⟩
      rw [hL] at h1; cases h1
      rw [hb] at h2; cases h2
      exact ⟨c', hnew, hcs⟩
  · refine ⟨hk, fun bb oo h1 => ?_, fun h1 => by rw [Loc.upd_self] at h1; cases h1⟩
    rw [Loc.upd_self] at h1; cases h1
    exact ⟨c', el, vs, hnew, LRel.evo E hr, hc⟩
theorem setRangeV_get (cs : List Value) (off : Nat) (vs : List Value) (hle : off + vs.length ≤ cs.length) (m : Nat) :
    (setRangeV cs off vs)[m]? = if m < off then cs[m]? else if m < off + vs.length then vs[m - off]? else cs[m]? := by
  unfold setRangeV
  have h1 : (cs.take off).length = off := by simp; omega
  rw [List.append_assoc, List.getElem?_append]
  rw [h1]
  split
  · rw [List.getElem?_take, if_pos ‹_›]
  · rw [List.getElem?_append]
    split
    · rw [if_pos (by omega)]
    · rw [if_neg (by omega), List.getElem?_drop]
      congr 1; omega
theorem setRange_length {cs : List PV} {off : Nat} {vs : List PV} (h : off + vs.length ≤ cs.length) : (setRange cs off vs).length = cs.length := by
  unfold Nac.setRange; simp; omega
/-- Cells of an owned row, stored. -/
theorem store_row (S : Sim R M L w) {i k ver b o p : Nat} {xs xs' : List PV} {us : List Value} (hi : M[i]? = some (.row true k ver xs)) (hL : L i = some (b, o))
    (hlen : xs'.length = xs.length) (hk : ∀ x ∈ xs', x.cells.length = k) (hone : ∀ u ∈ us, u.oneCell' = true) (hne : us ≠ []) (hp : p + us.length ≤ xs.length * k)
    {ys : List PV} (hy : LRel M L w ys us) (hf : xs'.flatMap PV.cells = setRange (xs.flatMap PV.cells) p ys) :
    ∃ w', (storeCells ⟨b, o + p, none⟩ us).run P w = .ok () w' ∧ Evo M L w (M.set i (.row true k ver xs')) (L.upd i (some (b, o))) w' ∧ Sim R (M.set i (.row true k ver xs')) (L.upd i (some (b, o))) w' := by
  obtain ⟨hk0, c, el, vs, g1, g2, g3, g4⟩ := row_cells S hi hL
  have hvl : vs.length = xs.length * k := by rw [← g2.length]; exact flat_length hk0
  have hpos : 0 < us.length := List.length_pos_iff.2 hne
  have hsz : o + xs.length * k ≤ c.size := by
    have h1 : vs.length - 1 < vs.length := by omega
    have := g3 (vs.length - 1) _ (List.getElem?_eq_getElem h1)
    have := (Array.getElem?_eq_some_iff.1 this).1
    omega
  have hst := run_storeCells_at P b (o + p) el us 0 c w g1 (by omega) hone
  simp only [Nat.add_zero] at hst
  refine ⟨_, hst, ?_⟩
  refine write_row S hi hL g1 (c' := (c.toList.take (o + p) ++ us ++ c.toList.drop (o + p + us.length)).toArray) ⟨rfl, rfl, rfl⟩ (setRow_heap _ _ _ _ _ _ g1) (fun b' hb' => setRow_other _ _ _ _ hb') (setRow_size _ _ _) ?_ (.inr ⟨rfl, rfl, hlen⟩) hk (vs := setRangeV vs p us) ?_ ?_
  · simp; omega
  · rw [hf]; exact g2.setRange hy p
  · intro m v hm
    rw [setRangeV_get vs p us (by omega)] at hm
    have e : ((c.toList.take (o + p) ++ us ++ c.toList.drop (o + p + us.length)).toArray)[o + m]? = (setRangeV c.toList (o + p) us)[o + m]? := by simp [setRangeV]
    rw [e, setRangeV_get _ _ _ (by simp; omega)]
    split at hm
    · rw [if_pos (by omega)]; simpa using g3 m v hm
    · split at hm
      · rw [if_neg (by omega), if_pos (by omega)]
        rw [show o + m - (o + p) = m - p from by omega]; exact hm
      · rw [if_neg (by omega), if_neg (by omega)]; simpa using g3 m v hm
theorem flat_set {k e j : Nat} {xs : List PV} {x y : PV} {vs : List PV} (hk : ∀ x ∈ xs, x.cells.length = k) (hx : xs[e]? = some x) (hle : j + vs.length ≤ k) (hy : y.cells = setRange x.cells j vs) :
    (xs.set e y).flatMap PV.cells = setRange (xs.flatMap PV.cells) (e * k + j) vs := by
  induction xs generalizing e with
  | nil => simp at hx
  | cons z xs ih =>
    have hz : z.cells.length = k := hk z (by simp)
    cases e with
    | zero =>
      simp only [List.getElem?_cons_zero, Option.some.injEq] at hx
      subst hx
      simp only [List.set_cons_zero, List.flatMap_cons, hy, Nac.setRange, Nat.zero_mul, Nat.zero_add]
      rw [List.take_append_of_le_length (by omega), List.drop_append_of_le_length (by omega)]
      simp
    | succ e =>
      simp only [List.getElem?_cons_succ] at hx
      simp only [List.set_cons_succ, List.flatMap_cons]
      rw [ih (fun x hx => hk x (by simp [hx])) hx]
      unfold Nac.setRange
      have e1 : (e + 1) * k + j = z.cells.length + (e * k + j) := by rw [Nat.add_mul, hz]; omega
      rw [e1, List.take_length_add_append, Nat.add_assoc z.cells.length, List.drop_length_add_append]
      simp
theorem elemPut_spec {i ver e j : Nat} {vs : List PV} {M' : List Blk} (h : elemPut M i ver e j vs = some M') : ∃ k xs x y, M[i]? = some (.row true k ver xs) ∧ xs[e]? = some x ∧ j + vs.length ≤ x.cells.length ∧
    vs.all oneB = true ∧ M' = M.set i (.row true k ver (xs.set e y)) ∧ (vs ≠ [] → y.cells = setRange x.cells j vs) := by
  unfold elemPut at h
  split at h
  · rename_i k v xs hi
    split at h
    · rename_i hv; subst hv
      split at h
      · rename_i x hx
        split at h
        · rename_i hc
          obtain ⟨hle, hone⟩ := hc
          split at h
          · rename_i cs
            obtain rfl := Option.some.inj h
            exact ⟨k, xs, _, _, hi, hx, hle, hone, rfl, fun _ => rfl⟩
          · split at h
            · rename_i y
              split at h
              · cases h
              · rename_i hya
                obtain rfl := Option.some.inj h
                refine ⟨k, xs, _, _, hi, hx, hle, hone, rfl, fun _ => ?_⟩
                have hy1 : y.cells = [y] := by
                  simp only [List.all_cons, List.all_nil, Bool.and_true] at hone
                  cases y <;> first | rfl | (simp [oneB] at hone)
                rename_i hxa
                have hx1 : x.cells.length ≤ 1 := by cases x <;> first | (simp [PV.cells]; done) | (rename_i cs0; exact (cs0 _ rfl).elim)
                simp only [List.length_cons, List.length_nil] at hle
                have hj : j = 0 := by omega
                subst hj
                rw [hy1]
                unfold Nac.setRange
                rw [List.drop_eq_nil_of_le (by simpa using hx1)]; simp
            · cases h
        · cases h
      · cases h
    · cases h
  · cases h
theorem g_store (S : Sim R M L w) (H : Fit M L w ρ σ) {o : Oper} {k : Nat} {t : TypeId} {a x : CX} {a' x' : Operand} (ho : o.op = .store t a' x') (ha : okX a a' = true) (hx : okX x x' = true) (hk : tySize P t = some k)
    {v : PV} {M' : List Blk} (h : res M ρ (.store k a x) = some (v, M')) : Good R P (execOp σ o) M L w v M' := by
  have k1 := H a a' ha; have k2 := H x x' hx
  simp only [res] at h
  split at h
  · rename_i i ver e j e1
    rw [e1] at k1
    split at h
    case isFalse => cases h
    rename_i hc
    obtain ⟨hlen, hk0⟩ := hc
    cases hp : elemPut M i ver e j (ρ x).cells with
    | none => rw [hp] at h; cases h
    | some M2 =>
      rw [hp] at h
      simp only [Option.map_some, Option.some.injEq, Prod.mk.injEq] at h
      obtain ⟨rfl, rfl⟩ := h
      obtain ⟨k', xs, y0, y, hi, hy0, hle, hone, rfl, hyc⟩ := elemPut_spec hp
      obtain ⟨b, q, hL, he, hca⟩ := k1.op_live hi
      have hcs := k2.cells (by intro h; rw [h] at hlen; simp at hlen; omega)
      have hne : (ρ x).cells ≠ [] := by intro h; rw [h] at hlen; simp at hlen; omega
      have hyc := hyc hne
      obtain ⟨hk0', c, el, vs, g1, g2, g3, g4⟩ := row_cells S hi hL
      have hy0k := hk0' y0 (List.mem_of_getElem? hy0)
      have hcl := hcs.length
      have hf := flat_set (y := y) hk0' hy0 (by omega) hyc
      have hsize : (σ x').cells.size = k := by rw [← hlen, hcl]; simp
      obtain ⟨w', h1, E, S'⟩ := store_row S hi hL (xs' := xs.set e y) (by simp) (fun z hz => by
          rcases List.mem_or_eq_of_mem_set hz with hz | rfl
          · exact hk0' z hz
          · rw [hyc, setRange_length hle]; exact hy0k) (us := (σ x').cells.toList) (hcs.one hone) (fun h => by have := congrArg List.length h; simp [hsize] at this; omega) (p := e * k' + j) (by
          have h2 : (e + 1) * k' ≤ xs.length * k' := Nat.mul_le_mul_right _ he
          rw [Nat.add_mul] at h2
          simp only [Array.length_toList, hsize]
          omega) (P := P) hcs hf
      refine ⟨undef, w', _, .inr ⟨?_, rfl⟩, E, S', .s _ rfl⟩
      have hnot : ¬ ((σ x').cells.size ≠ k) := by simp [hsize]
      rw [show q + e * k' + j = q + (e * k' + j) from by omega] at hca
      simp only [execOp, ho, hca, Instr.storeAt, Instr.sureAddr, storeVar, Sem.run_bind, Sem.run_pure, Result.andThen_ok, run_sizeOf' hk, Sem.run_ite, if_neg hnot, h1]
  · cases h
theorem bytes_beq {a b : ByteArray} : (a == b) = true ↔ a = b := by
  obtain ⟨x⟩ := a
  obtain ⟨y⟩ := b
  show (x == y) = true ↔ _
  simp
theorem sameKey_eq {sk : SK} {q k : Value} (hq : keyOk sk q = true) (h : sameKey q k = true) : k = q := by
  unfold sameKey at h
  cases q <;> cases k <;> simp [eqScalar] at h <;> first
    | (subst h; rfl)
    | (obtain ⟨rfl, rfl⟩ := h; rfl)
    | (cases sk <;> simp [keyOk] at hq; done)
    | (rw [bytes_beq.1 h])
    | (split at h <;> simp at h; rename_i e; subst e; subst h; rfl)
theorem sameBits_self {sk : SK} {q : Value} (hq : keyOk sk q = true) (n : Nat) : Instr.sameBits n q q = true := by
  cases sk <;> cases q <;> simp [keyOk] at hq <;> simp [Instr.sameBits] <;> exact bytes_beq.2 rfl
theorem upd_agg {q u : Value} (hu : aggV u = false) : ∀ {es : List (Value × Value)}, (∀ e ∈ es, aggV e.2 = false) → ∀ e ∈ upd q u es, aggV e.2 = false
  | [], _, e, he => by simp [upd] at he; subst he; exact hu
  | (a, v) :: r, h, e, he => by
    unfold upd at he
    split at he
    · rcases List.mem_cons.1 he with rfl | he
      · exact hu
      · exact h e (by simp [he])
    · rcases List.mem_cons.1 he with rfl | he
      · exact h (a, v) (by simp)
      · exact upd_agg hu (fun x hx => h x (by simp [hx])) e he
theorem map_modify {l : List MapEntry} {j : Nat} {e : MapEntry} (he : l[j]? = some e) (f : MapEntry → MapEntry) (g : MapEntry → Value × Value) : (l.modify j f).map g = (l.map g).set j (g (f e)) := by
  apply List.ext_getElem?
  intro i
  rw [List.getElem?_map, List.getElem?_modify, List.getElem?_set]
  by_cases hij : j = i
  · subst hij
    have : j < l.length := (List.getElem?_eq_some_iff.1 he).1
    have h2 := (List.getElem?_eq_some_iff.1 he).2
    simp [this, h2]
  · simp [hij]
theorem g_mupd (S : Sim R M L w) (H : Fit M L w ρ σ) {o : Oper} {sk : SK} {t kt et : TypeId} {m key x : CX} {m' key' x' : Operand} (ho : o.op = .mapUpdate t m' key' x' ∨ o.op = .insert t m' key' x') (h1 : okX m m' = true) (h2 : okX key key' = true) (h3 : okX x x' = true)
    (hu : P.underlying t = some (.map kt et)) (hk : okKey P kt sk = true)
    {v : PV} {M' : List Blk} (h : res M ρ (.mupd sk m key x) = some (v, M')) : Good R P (execOp σ o) M L w v M' := by
  have k1 := H m m' h1; have k2 := H key key' h2; have k3 := H x x' h3
  simp only [res] at h
  split at h
  · rename_i i q u e1 e2 e3
    rw [e1] at k1; rw [e2] at k2; rw [e3] at k3
    have c2 := k2.s_inv; have c3 := k3.s_inv
    have hua : aggV u = false := by cases k3; assumption
    split at h
    · rename_i es hi
      split at h
      case isFalse => cases h
      rename_i hc
      obtain ⟨hq, hkl⟩ := hc
      simp only [Option.some.injEq, Prod.mk.injEq] at h
      obtain ⟨rfl, rfl⟩ := h
      generalize hcm : σ m' = c at k1
      cases k1 with
      | om _ es' b off hi' hL =>
        rw [hi] at hi'; cases hi'
        obtain ⟨b', o', ents, clock, g1, g2, g3, g4⟩ := S.mem i _ hi
        rw [hL] at g1; cases g1
        obtain ⟨d, hd, hdk⟩ := okKey_spec hk
        obtain ⟨r, f1, f2, f3, f4⟩ := find_now hdk hq ents.toList 0 (by rw [g3]; exact hkl)
        rw [g3] at f3 f4
        have hfk : (Instr.findKey kt q ents.toList).run P w = .ok r w := by
          simp [Instr.findKey, run_underlying hd, f1]
        have hbl : b < w.heap.size := (Array.getElem?_eq_some_iff.1 g2).1
        have hupd : ∃ ents' clock', (Instr.mapUpdate t (.map (some b)) q u).run P w = .ok () { w with heap := w.heap.setIfInBounds b (.map ents' clock') } ∧ ents'.toList.map (fun e => (e.key, e.val)) = upd q u es := by
          cases r with
          | none =>
            refine ⟨ents.push { key := q, val := u, born := clock }, clock + 1, ?_, ?_⟩
            · simp [Instr.mapUpdate, run_underlying hu, getObj, setObj, Sem.run, g2, run_checkKey hk, hfk]
            · rw [f4 rfl u]; simp [g3]
          | some p =>
            obtain ⟨j, pv⟩ := p
            obtain ⟨_, e, he, hs, hup⟩ := f3 j pv rfl
            simp only [Nat.sub_zero] at he hup
            have hej : ents[j]? = some e := by simpa using he
            have hek := sameKey_eq hq hs
            have hsb : Instr.sameBits 10000 e.key q = true := by rw [hek]; exact sameBits_self hq _
            have hkeep : (Instr.keyThatStays e.key q).run P w = .ok q w := by simp [Instr.keyThatStays, hsb]
            refine ⟨ents.modify j fun e => { e with key := q, val := u }, clock, ?_, ?_⟩
            · simp [Instr.mapUpdate, run_underlying hu, getObj, setObj, Sem.run, g2, run_checkKey hk, hfk, hej, hkeep]
            · rw [hup u, Array.toList_modify, map_modify he, g3]
        obtain ⟨ents', clock', hrun, hents⟩ := hupd
        obtain ⟨E, S'⟩ := change S hi (blk' := .map (upd q u es)) L (fun _ _ => rfl) (w' := { w with heap := w.heap.setIfInBounds b (.map ents' clock') }) ⟨rfl, rfl, rfl⟩ (.inl rfl) (by simp) (fun b' hb' hne => by
            have : b ≠ b' := hne (b, off) rfl hL
            simp [Array.getElem?_setIfInBounds_ne this]) (fun p hp => .inl ⟨p, hp, rfl⟩) rfl (fun E => by
            refine ⟨b, off, ents', clock', hL, by simp [hbl], hents, upd_agg hua g4⟩)
        refine ⟨undef, _, L, .inr ⟨?_, rfl⟩, E, S', .s _ rfl⟩
        rcases ho with ho | ho <;> simp only [execOp, ho, hcm, c2, c3, Sem.run_bind, hrun, Result.andThen_ok, Sem.run_pure]
    · cases h
  · cases h
end
end Go.Nac

