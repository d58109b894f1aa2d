import Derived.Test.YtdlngmbgalmdeaaK5j
set_option linter.unusedVariables false
set_option linter.unusedSectionVars false
set_option linter.unusedSimpArgs false
namespace Go.Nac
section
variable {R : CCode → Code → Prop} {P : Program} {M : List Blk} {L : Loc} {w w' : World} {ρ : CX → PV} {σ : Operand → Value}
theorem g_capn (S : Sim R M L w) (H : Fit M L w ρ σ) {o : Oper} {t el : TypeId} {x : CX} {x' : Operand} {ts : Array TypeId} (ho : o.op = .call { callee := .builtin .cap, args := #[x'], argTypes := ts })
    (hx : okX x x' = true) (hts : ts[0]? = some t) (ht : P.underlying t = some (.slice el))
    {v : PV} {M' : List Blk} (h : res M ρ (.capn x) = some (v, M')) : Good R P (execOp σ o) M L w v M' := by
  have k1 := H x x' hx
  simp only [res] at h
  split at h
  · rename_i e1
    rw [e1] at k1
    have c1 := k1.s_inv
    cases h
    refine good_pure S (cv := .int .i64 0) ?_ (.s _ rfl)
    simp [execOp, ho, resolve, invoke, builtin, Builtin.cap_, hts, c1, run_underlying ht, goInt]
  · cases h
theorem get_zeroCells {z : Array Value} {n j : Nat} (h : j < n * z.size) : (Builtin.zeroCells z n)[j]? = z[j % z.size]? := by
  have hz : 0 < z.size := by rcases Nat.eq_zero_or_pos z.size with e | e; (rw [e] at h; simp at h); exact e
  have hjs : j % z.size < z.size := Nat.mod_lt _ hz
  have hr : (Array.range (n * z.size))[j]? = some j := by simp [h]
  unfold Builtin.zeroCells
  rw [Array.getElem?_map, hr, Option.map_some, getElem!_pos z (j % z.size) hjs, Array.getElem?_eq_getElem hjs]
theorem g_appz (S : Sim R M L w) (H : Fit M L w ρ σ) {o : Oper} {k bytes : Nat} {g : Option Nat} {z : List Value} {t t1 el : TypeId} {kk : IntKind} {x n : CX} {x' n' : Operand} {ts : Array TypeId} (ho : o.op = .call { callee := .builtin .append, args := #[x', n'], argTypes := ts })
    (hx : okX x x' = true) (hn : okX n n' = true) (hts : ts[0]? = some t) (hts1 : ts[1]? = some t1) (ht : P.underlying t = some (.slice el)) (hd : P.underlying t1 = some (.int kk))
    (hk : tySize P el = some k) (hby : (P.info? el).map (·.bytes) = some bytes) (hz : okZ P el g z = true)
    {v : PV} {M' : List Blk} (h : res M ρ (.appz k g z bytes x n) = some (v, M')) : Good R P (execOp σ o) M L w v M' := by
  have k1 := H x x' hx; have k2 := H n n' hn
  obtain ⟨zv, hzv, hz2, hz3, hz4, hz5⟩ := okZ_spec hz
  simp only [res] at h
  split at h
  case h_2 => cases h
  rename_i l e1 e2
  rw [e1] at k1; rw [e2] at k2
  have c1 := k1.s_inv; have c2 := k2.s_inv
  split at h
  case isFalse => cases h
  rename_i hc
  obtain ⟨h0, hle, hbl, hzl, hk0⟩ := hc
  cases hm : mkPV g (z.map .s) with
  | none => rw [hm] at h; cases h
  | some e =>
    rw [hm] at h
    simp only [Option.map_some, Option.some.injEq, Prod.mk.injEq] at h
    obtain ⟨rfl, rfl⟩ := h
    have hec : e.cells = z.map .s := mkPV_cells hm (by simp)
    have hel : e.cells.length = k := by rw [hec]; simpa using hzl
    have hw : IntKind.i64.wrap l = l := IntWalk.i64_in l ⟨by omega, by omega⟩
    have hzs : zv.cells.size = k := by have := congrArg List.length hz2; simpa [hzl] using this
    have hinfo : ∃ i, P.info? el = some i ∧ i.bytes = bytes ∧ i.size = k ∧ i.zero = some zv := by
      cases hi : P.info? el with
      | none => rw [hi] at hby; cases hby
      | some i =>
        rw [hi] at hby hzv
        unfold tySize at hk
        rw [hi] at hk
        exact ⟨i, rfl, by simpa using hby, by simpa using hk, by simpa using hzv⟩
    obtain ⟨i, hi, hib, hik, hiz⟩ := hinfo
    obtain ⟨n, rfl⟩ := Int.eq_ofNat_of_zero_le (Int.le_of_lt h0)
    have hn0 : 0 < n := by omega
    have hmul : (n : Int) * (bytes : Int) ≤ 2 ^ 40 := by
      have : n * bytes ≤ 2 ^ 20 * 2 ^ 20 := Nat.mul_le_mul (by omega) hbl
      have h3 : ((n * bytes : Nat) : Int) ≤ ((2 ^ 20 * 2 ^ 20 : Nat) : Int) := by exact_mod_cast this
      simp only [Int.natCast_mul] at h3
      omega
    have hnot : ¬ ((n : Int) < 0) := by omega
    have hnot2 : ¬ (281474976710656 < (n : Int) * (bytes : Int)) := by omega
    have hfit : ¬ (Builtin.nextslicecap n 0 * bytes > 2 ^ 48) := by
      have h1 : n * bytes ≤ 2 ^ 20 * 2 ^ 20 := Nat.mul_le_mul (by omega) hbl
      have := growslice_fits (need := n) (old := 0) (bytes := bytes) (by omega) (by omega)
      omega
    have hfit' : ¬ (281474976710656 < Builtin.nextslicecap n 0 * bytes) := by omega
    have hnk : ¬ (n * k = 0) := by have := Nat.mul_pos hn0 hk0; omega
    have hroom : ¬ (n ≤ 0) := by omega
    have hroom' : ¬ (n = 0) := by omega
    have h63 : ¬ (9223372036854775807 < (n : Int)) := by omega
    have hcap := grownCap_ge w n 0 el
    have hrun : (execOp σ o).run P w = .ok (.value (.slice (some ⟨w.heap.size, 0, none⟩) n (grownCap w n 0 el)))
        (w.drew.alloc (.cells (Builtin.zeroCells zv.cells n ++ Builtin.zeroCells zv.cells (grownCap w n 0 el - n)) el)) := by
      simp [execOp, ho, resolve, invoke, builtin, Builtin.append_, hts, hts1, run_underlying ht, run_underlying hd, asInt, asIntOf, sizeOf, typeInfo, zeroValue, hi, hik, hib, hiz, c1, c2, hw, hnot, hnot2, hnk, hk0, hroom, hroom', h63, hfit', Question.forced, newRow, grownCap, Builtin.firstCells]
    have hr : LRel M L w ((List.replicate n e).flatMap PV.cells) ((Builtin.zeroCells zv.cells n ++ Builtin.zeroCells zv.cells (grownCap w n 0 el - n)).toList.take ((List.replicate n e).length * k)) := by
      have hsz : (Builtin.zeroCells zv.cells n).size = n * k := by rw [size_zeroCells, hzs]
      rw [Array.toList_append, List.length_replicate, List.take_left' (by simp [hsz])]
      refine LRel.all ?_ fun j x u hx hu => ?_
      · rw [flat_length (k := k) (by intro x hx; rw [List.eq_of_mem_replicate hx]; exact hel)]; simp [hsz]
      · have hj : j < n * k := by
          have := (List.getElem?_eq_some_iff.1 hu).1
          simpa [hsz] using this
        rw [get_replicate hel hk0 n j hj, hec] at hx
        rw [Array.getElem?_toList, get_zeroCells (by rw [hzs]; exact hj), hzs, ← Array.getElem?_toList, hz2] at hu
        rw [List.getElem?_map, hu] at hx
        simp only [Option.map_some, Option.some.injEq] at hx
        subst hx
        exact .s u (hz3 u (List.mem_of_getElem? hu))
    obtain ⟨E, S', hv⟩ := new_row S (k := k) (xs := List.replicate n e) (by intro x hx; rw [List.eq_of_mem_replicate hx]; exact hel) hr (w' := w.drew.alloc (.cells (Builtin.zeroCells zv.cells n ++ Builtin.zeroCells zv.cells (grownCap w n 0 el - n)) el)) ⟨rfl, rfl, rfl⟩ rfl (grownCap w n 0 el) (by simpa using hcap)
      (by rw [Array.size_append, size_zeroCells, size_zeroCells, hzs, ← Nat.add_mul]; exact Nat.mul_le_mul_right _ (by omega)) 0
    refine ⟨_, _, _, .inl hrun, E, S', ?_⟩
    simpa using hv
end
end Go.Nac

