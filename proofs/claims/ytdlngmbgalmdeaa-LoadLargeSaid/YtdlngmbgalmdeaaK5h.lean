import Derived.Test.YtdlngmbgalmdeaaK5g
import Derived.IntWalk
set_option linter.unusedVariables false
set_option linter.unusedSectionVars false
set_option linter.unusedSimpArgs false
namespace Go.Nac
section
variable {R : CCode → Code → Prop} {P : Program} {M : List Blk} {L : Loc} {w w' : World} {ρ : CX → PV} {σ : Operand → Value}
theorem get_replicate {k : Nat} {e : PV} (he : e.cells.length = k) (hk : 0 < k) : ∀ (l i : Nat), i < l * k → ((List.replicate l e).flatMap PV.cells)[i]? = e.cells[i % k]?
  | 0, i, h => by omega
  | l + 1, i, h => by
    rw [List.replicate_succ, List.flatMap_cons]
    rw [Nat.add_mul, Nat.one_mul] at h
    rcases Nat.lt_or_ge i k with hi | hi
    · rw [List.getElem?_append_left (by omega), Nat.mod_eq_of_lt hi]
    · rw [List.getElem?_append_right (by omega), he, get_replicate he hk l (i - k) (by omega)]
      congr 1
      rw [Nat.mod_eq_sub_mod hi]
theorem g_mksl (S : Sim R M L w) (H : Fit M L w ρ σ) {o : Oper} {k bytes : Nat} {g : Option Nat} {z : List Value} {t el : TypeId} {len cap : CX} {len' cap' : Operand} (ho : o.op = .makeSlice t len' cap') (h1 : okX len len' = true) (h2 : okX cap cap' = true)
    (hu : P.underlying t = some (.slice el)) (hk : tySize P el = some k) (hby : (P.info? el).map (·.bytes) = some bytes) (hz : okZ P el g z = true)
    {v : PV} {M' : List Blk} (h : res M ρ (.mksl k g z bytes len cap) = some (v, M')) : Good R P (execOp σ o) M L w v M' := by
  have k1 := H len len' h1; have k2 := H cap cap' h2
  obtain ⟨zv, hzv, hz2, hz3, hz4, hz5⟩ := okZ_spec hz
  simp only [res] at h
  split at h
  · rename_i l c e1 e2
    rw [e1] at k1; rw [e2] at k2
    have c1 := k1.s_inv; have c2 := k2.s_inv
    split at h
    case isFalse => cases h
    rename_i hc
    obtain ⟨h0, rfl, hle, hbl, hzl, hk0⟩ := hc
    cases hm : mkPV g (z.map .s) with
    | none => rw [hm] at h; cases h
    | some e =>
      rw [hm] at h
      simp only [Option.map_some, Option.some.injEq, Prod.mk.injEq] at h
      obtain ⟨rfl, rfl⟩ := h
      have hec : e.cells = z.map .s := mkPV_cells hm (by simp)
      have hel : e.cells.length = k := by rw [hec]; simpa using hzl
      have hw : IntKind.i64.wrap l = l := IntWalk.i64_in l ⟨by omega, by omega⟩
      have hzs : zv.cells.size = k := by have := congrArg List.length hz2; simpa [hzl] using this
      have hinfo : ∃ i, P.info? el = some i ∧ i.bytes = bytes := by
        cases hi : P.info? el with
        | none => rw [hi] at hby; cases hby
        | some i => rw [hi] at hby; exact ⟨i, rfl, by simpa using hby⟩
      obtain ⟨i, hi, hib⟩ := hinfo
      obtain ⟨n, rfl⟩ := Int.eq_ofNat_of_zero_le h0
      have hmul : (bytes : Int) * (n : Int) ≤ 2 ^ 48 := by
        have : bytes * n ≤ 2 ^ 20 * 2 ^ 20 := Nat.mul_le_mul hbl (by omega)
        have h3 : ((bytes * n : Nat) : Int) ≤ ((2 ^ 20 * 2 ^ 20 : Nat) : Int) := by exact_mod_cast this
        simp only [Int.natCast_mul] at h3
        omega
      have hrun : ∃ C : Array Value, C.size = n * k ∧ (∀ j, j < n * k → C[j]? = z[j % k]?) ∧ (execOp σ o).run P w = .ok (.value (.slice (some ⟨w.heap.size, 0, none⟩) n n)) { w with heap := w.heap.push (.cells C el) } := by
        have hnot : ¬ ((n : Int) < 0) := by omega
        have hnot3 : ¬ (281474976710656 < (bytes : Int) * n) := by omega
        by_cases hn0 : n * k = 0
        · refine ⟨#[], by simp [hn0], fun j hj => by omega, ?_⟩
          simp [execOp, ho, c1, c2, Instr.makeSlice, run_underlying hu, asInt, asIntOf, typeInfo, hi, hib, hw, hnot, hnot3, run_sizeOf' hk, hn0, newRow]
          rw [show (Array.map (fun _ => (default : Value)) (Array.range 0)) = #[] from by apply Array.ext'; simp]
          try rfl
        · have hz' := run_zero (P := P) (w := w) hzv
          refine ⟨(Array.range (n * k)).map fun i => zv.cells[i % zv.cells.size]!, by simp, fun j hj => ?_, ?_⟩
          · have hjm : j % k < zv.cells.size := by rw [hzs]; exact Nat.mod_lt _ hk0
            have hjs : j % zv.cells.size < zv.cells.size := by rw [hzs]; rw [hzs] at hjm; exact hjm
            have hr : (Array.range (n * k))[j]? = some j := by simp [hj]
            rw [Array.getElem?_map, hr, Option.map_some, getElem!_pos zv.cells (j % zv.cells.size) hjs]
            rw [← hz2, Array.getElem?_toList, Array.getElem?_eq_getElem hjm]
            congr 2
            rw [hzs]
          · simp [execOp, ho, c1, c2, Instr.makeSlice, run_underlying hu, asInt, asIntOf, typeInfo, hi, hib, hw, hnot, hnot3, run_sizeOf' hk, hn0, newRow, hz']
            try rfl
      obtain ⟨C, hCs, hC, hrun⟩ := hrun
      have hr : LRel M L w ((List.replicate n e).flatMap PV.cells) (C.toList.take ((List.replicate n e).length * k)) := by
        rw [List.take_of_length_le (by simp [hCs])]
        refine LRel.all ?_ fun j x u hx hu => ?_
        · rw [flat_length (k := k) (by intro x hx; rw [List.eq_of_mem_replicate hx]; exact hel)]; simp [hCs]
        · have hj : j < n * k := by
            have := (List.getElem?_eq_some_iff.1 hu).1
            simpa [hCs] using this
          rw [get_replicate hel hk0 n j hj, hec] at hx
          rw [Array.getElem?_toList, hC j hj] at hu
          rw [List.getElem?_map, hu] at hx
          simp only [Option.map_some, Option.some.injEq] at hx
          subst hx
          exact .s u (hz3 u (List.mem_of_getElem? hu))
      obtain ⟨E, S', hv⟩ := new_row S (k := k) (xs := List.replicate n e) (by intro x hx; rw [List.eq_of_mem_replicate hx]; exact hel) hr (w' := { w with heap := w.heap.push (.cells C el) }) ⟨rfl, rfl, rfl⟩ rfl n (by simp) (by simp [hCs]) 0
      refine ⟨_, _, _, .inl hrun, E, S', ?_⟩
      simpa using hv
  · cases h
def kindOf (sk : SK) (d : TypeDesc) : Prop := match sk with | .int => ∃ k, d = .int k | .str => d = .string | .bool => d = .bool
theorem find_now {d : TypeDesc} {sk : SK} {q : Value} (hd : kindOf sk d) (hq : keyOk sk q = true) :
    ∀ (l : List MapEntry) (i : Nat), keysLike q (l.map fun e => (e.key, e.val)) = true →
    ∃ r, Instr.findNow d q l i = some r ∧ r.map (·.2) = find q (l.map fun e => (e.key, e.val)) ∧
      (∀ j v, r = some (j, v) → i ≤ j ∧ ∃ e, l[j - i]? = some e ∧ sameKey q e.key = true ∧ ∀ u, upd q u (l.map fun e => (e.key, e.val)) = (l.map fun e => (e.key, e.val)).set (j - i) (q, u)) ∧
      (r = none → ∀ u, upd q u (l.map fun e => (e.key, e.val)) = (l.map fun e => (e.key, e.val)) ++ [(q, u)])
  | [], i, _ => ⟨none, rfl, rfl, by simp, fun _ u => rfl⟩
  | e :: l, i, h => by
    simp only [List.map_cons, keysLike, List.all_cons, Bool.and_eq_true] at h
    obtain ⟨h1, h2⟩ := h
    obtain ⟨b, hb⟩ := Option.isSome_iff_exists.1 h1
    have hs : Instr.sameNow d q e.key = some b := by
      cases sk with
      | int =>
        obtain ⟨k, rfl⟩ := hd
        cases q <;> simp [keyOk] at hq
        cases hk : e.key <;> rw [hk] at hb <;> simp [eqScalar] at hb
        simp [Instr.sameNow, hb]
      | str =>
        cases hd
        cases q <;> simp [keyOk] at hq
        cases hk : e.key <;> rw [hk] at hb <;> simp [eqScalar] at hb
        simp [Instr.sameNow, hb]
      | bool =>
        cases hd
        cases q <;> simp [keyOk] at hq
        cases hk : e.key <;> rw [hk] at hb <;> simp [eqScalar] at hb
        simp [Instr.sameNow, hb]
    have hsk : sameKey q e.key = b := by simp [sameKey, hb]
    cases b with
    | true =>
      refine ⟨some (i, e.val), by simp [Instr.findNow, hs], by simp [find, hsk], ?_, by simp⟩
      intro j v hj
      simp only [Option.some.injEq, Prod.mk.injEq] at hj
      obtain ⟨rfl, rfl⟩ := hj
      exact ⟨Nat.le_refl _, e, by simp, hsk, fun u => by simp [upd, hsk]⟩
    | false =>
      obtain ⟨r, g1, g2, g3, g4⟩ := find_now hd hq l (i + 1) h2
      refine ⟨r, by simp [Instr.findNow, hs, g1], by simp [find, hsk, g2], ?_, ?_⟩
      · intro j v hj
        obtain ⟨hle, e', h3, h4, h5⟩ := g3 j v hj
        have hji : j - i = (j - (i + 1)) + 1 := by omega
        refine ⟨by omega, e', by rw [hji]; simpa using h3, h4, fun u => ?_⟩
        simp [upd, hsk, hji, h5 u]
      · intro hr u
        simp [upd, hsk, g4 hr u]
def okKey (P : Program) (t : TypeId) (sk : SK) : Bool :=
  match sk, P.underlying t with
  | .int, some (.int _) => true
  | .str, some .string => true
  | .bool, some .bool => true
  | _, _ => false
theorem okKey_spec {t : TypeId} {sk : SK} (h : okKey P t sk = true) : ∃ d, P.underlying t = some d ∧ kindOf sk d := by
  unfold okKey at h
  cases hu : P.underlying t with
  | none => rw [hu] at h; cases sk <;> cases h
  | some d =>
    rw [hu] at h
    cases sk <;> cases d <;> first | (cases h; done) | exact ⟨_, rfl, rfl⟩ | exact ⟨_, rfl, _, rfl⟩
theorem run_checkKey' {t : TypeId} {sk : SK} {q : Value} {b : Bool} (n : Nat) (h : okKey P t sk = true) : (Instr.checkKey b (n + 1) t q).run P w = .ok () w := by
  obtain ⟨d, hu, hd⟩ := okKey_spec h
  cases sk with
  | int => obtain ⟨k, rfl⟩ := hd; simp [Instr.checkKey, run_underlying hu]
  | str => cases hd; simp [Instr.checkKey, run_underlying hu]
  | bool => cases hd; simp [Instr.checkKey, run_underlying hu]
theorem run_checkKey {t : TypeId} {sk : SK} {q : Value} {b : Bool} (h : okKey P t sk = true) : (Instr.checkKey b 10000 t q).run P w = .ok () w := run_checkKey' 9999 h
theorem g_look (S : Sim R M L w) (H : Fit M L w ρ σ) {o : Oper} {sk : SK} {z : Value} {ok : Bool} {t kt et : TypeId} {m key : CX} {m' key' : Operand} (ho : o.op = .lookup t m' key' ok) (h1 : okX m m' = true) (h2 : okX key key' = true)
    (hu : P.underlying t = some (.map kt et)) (hk : okKey P kt sk = true) (hz : okZ P et none [z] = true)
    {v : PV} {M' : List Blk} (h : res M ρ (.look sk z ok m key) = some (v, M')) : Good R P (execOp σ o) M L w v M' := by
  have k1 := H m m' h1; have k2 := H key key' h2
  obtain ⟨zv, hzv, hz2, hz3, _, _⟩ := okZ_spec hz
  have hzz : zv = z ∧ aggV z = false := by
    have := hz3 z (by simp)
    unfold okZ at hz
    rw [hzv] at hz
    simp only at hz
    obtain ⟨h, _⟩ := okVs_eq hz
    simp at h
    exact ⟨h.symm, this⟩
  obtain ⟨rfl, hzagg⟩ := hzz
  simp only [res] at h
  split at h
  · rename_i i q e1 e2
    rw [e1] at k1; rw [e2] at k2
    have c2 := k2.s_inv
    split at h
    · rename_i es hi
      split at h
      case isFalse => cases h
      rename_i hc
      obtain ⟨hq, hkl⟩ := hc
      generalize hcm : σ m' = c at k1
      cases k1 with
      | om _ es' b off hi' hL =>
        rw [hi] at hi'; cases hi'
        obtain ⟨b', o', ents, clock, g1, g2, g3, g4⟩ := S.mem i _ hi
        rw [hL] at g1; cases g1
        obtain ⟨d, hd, hdk⟩ := okKey_spec hk
        obtain ⟨r, f1, f2, _, _⟩ := find_now hdk hq ents.toList 0 (by rw [g3]; exact hkl)
        rw [g3] at f2
        have hfk : (Instr.findKey kt q ents.toList).run P w = .ok r w := by
          simp [Instr.findKey, run_underlying hd, f1]
        have hlook : (Instr.lookup t (.map (some b)) q ok).run P w = .ok (if ok then .tuple #[((find q es).getD zv), .bool (find q es).isSome] else (find q es).getD zv) w := by
          cases r with
          | none =>
            have hf : find q es = none := by simpa using f2.symm
            simp [Instr.lookup, run_underlying hu, getObj, Sem.run, g2, run_checkKey hk, hfk, run_zero hzv, hf]
            try (cases ok <;> rfl)
          | some p =>
            have hf : find q es = some p.2 := by simpa using f2.symm
            simp [Instr.lookup, run_underlying hu, getObj, Sem.run, g2, run_checkKey hk, hfk, hf]
            try (cases ok <;> rfl)
        have hagg : aggV ((find q es).getD zv) = false := by
          have : ∀ (l : List (Value × Value)), (∀ e ∈ l, aggV e.2 = false) → aggV ((find q l).getD zv) = false := by
            intro l hl
            induction l with
            | nil => exact hzagg
            | cons e l ih =>
              unfold find
              split
              · exact hl e (by simp)
              · exact ih fun x hx => hl x (by simp [hx])
          exact this es g4
        have hvv : v = (if ok then .tup [.s ((find q es).getD zv), .B (find q es).isSome] else .s ((find q es).getD zv)) ∧ M' = M := by
          cases hf : find q es with
          | none => rw [hf] at h; simp only [Option.some.injEq, Prod.mk.injEq] at h; exact ⟨h.1.symm.trans (by cases ok <;> rfl), h.2.symm⟩
          | some u => rw [hf] at h; simp only [Option.some.injEq, Prod.mk.injEq] at h; exact ⟨h.1.symm.trans (by cases ok <;> rfl), h.2.symm⟩
        obtain ⟨rfl, rfl⟩ := hvv
        refine good_pure S (by simp only [execOp, ho, hcm, c2, Sem.run_bind, hlook]; rfl) ?_
        cases ok
        · exact .s _ hagg
        · exact .tup _ _ (.cons _ _ _ _ (.s _ hagg) (.cons _ _ _ _ (.s _ rfl) .nil))
    · cases h
  · cases h
end
end Go.Nac

