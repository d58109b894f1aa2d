import Derived.Test.YtbmicihfhfcpkaaK6
import Derived.RangeFuncRecord
set_option linter.unusedVariables false
set_option linter.unusedSectionVars false
set_option linter.unusedSimpArgs false
namespace Go.Nac
section
variable {R : CCode → Code → Prop} {M : List Blk} {L : Loc} {w : World}
theorem low_cells {n : Nat} (x : PV) : lowL n x.cells ↔ x.low n := by
  cases x <;> simp [PV.cells, lowL, PV.low]
theorem lowL_flat {n : Nat} (xs : List PV) : lowL n (xs.flatMap PV.cells) ↔ lowL n xs := by
  induction xs with
  | nil => simp [lowL]
  | cons x xs ih => rw [List.flatMap_cons, lowL_append, low_cells, ih, lowL]
mutual
theorem VRel.low : ∀ {p : PV} {c : Value}, VRel M L w p c → p.low M.length
  | _, _, .top v => by simp [PV.low]
  | _, _, .s v h => by simp [PV.low]
  | _, _, .agg cs vs h => by rw [PV.low]; exact LRel.low h
  | _, _, .tup cs vs h => by rw [PV.low]; exact LRel.low h
  | _, _, .fs xs a n cap k vs hn hc hk h hm => by
      rw [PV.low]
      exact (lowL_flat xs).1 (LRel.low h)
  | _, _, .fp cs b o vs h hlt hb hm => by rw [PV.low]; exact LRel.low h
  | _, _, .os i ver off len wr k xs a cap hi hx hc hm => by rw [PV.low]; exact (List.getElem?_eq_some_iff.1 hi).1
  | _, _, .os' i ver off len wr k v' xs a c hi hv => by rw [PV.low]; exact (List.getElem?_eq_some_iff.1 hi).1
  | _, _, .op i ver e j wr k xs b o hi he hL => by rw [PV.low]; exact (List.getElem?_eq_some_iff.1 hi).1
  | _, _, .op' i ver e j wr k v' xs a hi hv => by rw [PV.low]; exact (List.getElem?_eq_some_iff.1 hi).1
  | _, _, .om i es b o hi hL => by rw [PV.low]; exact (List.getElem?_eq_some_iff.1 hi).1
  | _, _, .fn f a c va vc ha hc => by rw [PV.low]; exact ⟨LRel.low ha, LRel.low hc⟩
  | _, _, .yl i st pd ts ps x y b o hi hL => by rw [PV.low]; exact (List.getElem?_eq_some_iff.1 hi).1
  | _, _, .nan k b h => by simp [PV.low]
  | _, _, .oi i s pos b o hi hL => by rw [PV.low]; exact (List.getElem?_eq_some_iff.1 hi).1
theorem LRel.low : ∀ {xs : List PV} {vs : List Value}, LRel M L w xs vs → lowL M.length xs
  | _, _, .nil => by simp [lowL]
  | _, _, .cons x v xs vs h hs => by rw [lowL]; exact ⟨VRel.low h, LRel.low hs⟩
end
theorem BRel.low {i : Nat} {b : Blk} (h : BRel R M L w i b) : b.low M.length := by
  cases b with
  | row wr k ver xs =>
    obtain ⟨_, h1, h2⟩ := h
    rw [Blk.low]
    cases hL : L i with
    | none => rw [h2 hL]; simp [lowL]
    | some p =>
      obtain ⟨_, _, _, _, h3, _⟩ := h1 p.1 p.2 hL
      exact (lowL_flat xs).1 h3.low
  | map es => exact trivial
  | loop st pd ts ps a b =>
    obtain ⟨_, _, _, _, _, _, _, _, h, _⟩ := h
    rw [Blk.low]; exact h.low
  | siter => exact trivial
theorem Sim.low (S : Sim R M L w) : lowM M.length M := by
  intro b hb
  obtain ⟨i, hi⟩ := List.getElem?_of_mem hb
  exact (S.mem i b hi).low
section
variable {M2 : List Blk} {L2 : Loc} {n : Nat} (hM : ∀ i, i < n → M2[i]? = M[i]?) (hL : ∀ i, i < n → L2 i = L i) (hO : ∀ b, Owned M2 L2 b → Owned M L b)
include hM hL hO
mutual
theorem VRel.remap : ∀ {p : PV} {c : Value}, VRel M L w p c → p.low n → VRel M2 L2 w p c
  | _, _, .top v, _ => .top v
  | _, _, .s v h, _ => .s v h
  | _, _, .agg cs vs h, l => .agg cs vs (LRel.remap h (by rw [PV.low] at l; exact l))
  | _, _, .tup cs vs h, l => .tup cs vs (LRel.remap h (by rw [PV.low] at l; exact l))
  | _, _, .fs xs a n cap k vs hn hc hk h hm, l => .fs xs a n cap k vs hn hc hk (LRel.remap h (by rw [PV.low] at l; exact (lowL_flat xs).2 l)) fun hne => by
      obtain ⟨b, o, ha, hlt, hb, hv⟩ := hm hne
      exact ⟨b, o, ha, hlt, fun h => hb (hO b h), hv⟩
  | _, _, .fp cs b o vs h hlt hb hm, l => .fp cs b o vs (LRel.remap h (by rw [PV.low] at l; exact l)) hlt (fun h => hb (hO b h)) hm
  | _, _, .os i ver off len wr k xs a cap hi hx hc hm, l => .os i ver off len wr k xs a cap ((hM i (by rw [PV.low] at l; exact l)).trans hi) hx hc fun hne => by
      rw [PV.low] at l
      obtain ⟨b, o, c, el, g1, g2⟩ := hm hne
      exact ⟨b, o, c, el, (hL i l).trans g1, g2⟩
  | _, _, .os' i ver off len wr k v' xs a c hi hv, l => .os' i ver off len wr k v' xs a c ((hM i (by rw [PV.low] at l; exact l)).trans hi) hv
  | _, _, .op i ver e j wr k xs b o hi he hL', l => .op i ver _ j wr k xs b o ((hM i (by rw [PV.low] at l; exact l)).trans hi) he ((hL i (by rw [PV.low] at l; exact l)).trans hL')
  | _, _, .op' i ver e j wr k v' xs a hi hv, l => .op' i ver _ j wr k v' xs a ((hM i (by rw [PV.low] at l; exact l)).trans hi) hv
  | _, _, .om i es b o hi hL', l => .om i es b o ((hM i (by rw [PV.low] at l; exact l)).trans hi) ((hL i (by rw [PV.low] at l; exact l)).trans hL')
  | _, _, .fn f a c va vc ha hc, l => .fn f a c va vc (LRel.remap ha (by rw [PV.low] at l; exact l.1)) (LRel.remap hc (by rw [PV.low] at l; exact l.2))
  | _, _, .yl i st pd ts ps x y b o hi hL', l => .yl i st pd ts ps x y b o ((hM i (by rw [PV.low] at l; exact l)).trans hi) ((hL i (by rw [PV.low] at l; exact l)).trans hL')
  | _, _, .nan k b h, _ => .nan k b h
  | _, _, .oi i s pos b o hi hL', l => .oi i s pos b o ((hM i (by rw [PV.low] at l; exact l)).trans hi) ((hL i (by rw [PV.low] at l; exact l)).trans hL')
theorem LRel.remap : ∀ {xs : List PV} {vs : List Value}, LRel M L w xs vs → lowL n xs → LRel M2 L2 w xs vs
  | _, _, .nil, _ => .nil
  | _, _, .cons x v xs vs h hs, l => .cons x v xs vs (VRel.remap h (by rw [lowL] at l; exact l.1)) (LRel.remap hs (by rw [lowL] at l; exact l.2))
end
theorem BRel.remap {i j : Nat} {b : Blk} (h : BRel R M L w i b) (l : b.low n) (e : L2 j = L i) : BRel R M2 L2 w j b := by
  cases b with
  | row wr k ver xs =>
    rw [Blk.low] at l
    obtain ⟨h0, h1, h2⟩ := h
    refine ⟨h0, fun b o hb => ?_, fun hb => h2 (e ▸ hb)⟩
    obtain ⟨c, el, vs, g1, g2, g3⟩ := h1 b o (e ▸ hb)
    exact ⟨c, el, vs, g1, LRel.remap hM hL hO g2 ((lowL_flat xs).2 l), g3⟩
  | map es =>
    obtain ⟨b, o, ents, clock, h1, h2⟩ := h
    exact ⟨b, o, ents, clock, e.trans h1, h2⟩
  | loop st pd ts ps a b =>
    rw [Blk.low] at l
    obtain ⟨k, o, r, h1, h2, h3, h4, h5, h6, h7⟩ := h
    exact ⟨k, o, r, e.trans h1, h2, h3, h4, h5, LRel.remap hM hL hO h6 l, h7⟩
  | siter s pos =>
    obtain ⟨b, o, h1, h2⟩ := h
    exact ⟨b, o, e.trans h1, h2⟩
end
theorem take_get {n i : Nat} (h : i < n) : (M.take n)[i]? = M[i]? := by rw [List.getElem?_take, if_pos h]
theorem take_some {n i : Nat} {b : Blk} (h : (M.take n)[i]? = some b) : M[i]? = some b ∧ i < n := by
  rw [List.getElem?_take] at h
  split at h
  · exact ⟨h, by assumption⟩
  · cases h
theorem Owned.take {n b : Nat} (h : Owned (M.take n) L b) : Owned M L b := by
  obtain ⟨i, bl, p, h1, h2⟩ := h
  exact ⟨i, bl, p, (take_some h1).1, h2⟩
theorem Sim.take (S : Sim R M L w) {n : Nat} (l : lowM n (M.take n)) : Sim R (M.take n) L w :=
  ⟨fun i b hi => BRel.remap (fun i h => take_get h) (fun _ _ => rfl) (fun b h => h.take) (S.mem i b (take_some hi).1) (l b (List.mem_of_getElem? hi)) rfl,
   fun i j bi bj p q h1 h2 => S.inj i j bi bj p q (take_some h1).1 (take_some h2).1⟩
theorem VRel.take {n : Nat} {p : PV} {c : Value} (h : VRel M L w p c) (l : p.low n) : VRel (M.take n) L w p c :=
  VRel.remap (fun i h => take_get h) (fun _ _ => rfl) (fun b h => h.take) h l
theorem LRel.take' {n : Nat} {p : List PV} {c : List Value} (h : LRel M L w p c) (l : lowL n p) : LRel (M.take n) L w p c :=
  LRel.remap (fun i h => take_get h) (fun _ _ => rfl) (fun b h => h.take) h l
/-- Cut, from a memory that is the same or older. -/
theorem Evo.take {M0 : List Blk} {L0 : Loc} {w0 : World} (E : Evo M0 L0 w0 M L w) {n : Nat} (h : M0.length ≤ n) : Evo M0 L0 w0 (M.take n) L w where
  os := E.os
  tape := E.tape
  output := E.output
  size := E.size
  frame := fun b h1 h2 => ⟨(E.frame b h1 h2).1, fun h => (E.frame b h1 h2).2 h.take⟩
  blk := fun i b hi => by
    obtain ⟨b', h1, h2⟩ := E.blk i b hi
    exact ⟨b', by rw [take_get (Nat.lt_of_lt_of_le (List.getElem?_eq_some_iff.1 hi).1 h)]; exact h1, h2⟩
theorem os_out (S : Sim R M L w) {i ver off len : Nat} {c : Value} {xs : List PV} {M2 : List Blk} (h : VRel M L w (.os i ver off len) c) (hh : held M (.os i ver off len) = some xs)
    (hO : ∀ b, Owned M2 L b → Owned M L b) (hno : ∀ b o, L i = some (b, o) → ¬ Owned M2 L b) {n : Nat} (hM : ∀ i, i < n → M2[i]? = M[i]?) (l : lowL n xs) : VRel M2 L w (.fs xs) c := by
  simp only [held] at hh
  split at hh
  · rename_i wr k v ys hi
    split at hh
    · rename_i hc
      obtain ⟨rfl, hle⟩ := hc
      simp only [Option.some.injEq] at hh
      subst hh
      obtain ⟨a, cap, rfl, _, hcap, hm⟩ := h.os_live hi
      obtain ⟨hk, h2, h3⟩ := S.mem i _ hi
      have hlen : ((ys.drop off).take len).length = len := by simp; omega
      by_cases hcap0 : cap = 0
      · have : len = 0 := by omega
        subst this
        exact .fs _ _ _ _ k [] (by simp) (by simp) (by simp) (by simp; exact .nil) (by simp)
      · obtain ⟨B, q, cc, el', hL, rfl, hb, hsz⟩ := hm hcap0
        obtain ⟨cc', el'', vs, g1, g2, g3⟩ := h2 B q hL
        rw [hb] at g1; cases g1
        have hr := (g2.drop (off * k)).take (len * k)
        rw [flat_drop hk, flat_take (fun x hx => hk x (List.mem_of_mem_drop hx))] at hr
        refine .fs _ _ _ _ k _ hlen.symm (by rw [hlen]; exact hcap) (fun x hx => hk x (List.mem_of_mem_drop (List.mem_of_mem_take hx))) (LRel.remap hM (fun _ _ => rfl) hO hr ((lowL_flat _).2 l)) fun hne => ?_
        refine ⟨B, q + off * k, rfl, (Array.getElem?_eq_some_iff.1 hb).1, hno B q hL, fun m u hu => ?_⟩
        rw [List.getElem?_take] at hu
        split at hu
        · rw [List.getElem?_drop] at hu
          have := g3 _ _ hu
          rw [show q + off * k + m = q + (off * k + m) from by omega]
          simp [World.cell?, hb, this]
        · cases hu
    · cases hh
  · cases hh
theorem VRel.out1 (S : Sim R M L w) {n : Nat} {p : PV} {c : Value} (h : VRel M L w p c) (l : (Nac.out1 n M p).low n) : VRel (M.take n) L w (Nac.out1 n M p) c := by
  cases p
  case os i ver off len =>
    simp only [Nac.out1] at l ⊢
    split
    · rename_i hn
      rw [if_pos hn] at l
      cases hh : held M (.os i ver off len) with
      | none => exact .top c
      | some xs =>
        rw [hh] at l
        simp only [PV.low] at l
        refine os_out S h hh (fun b h => h.take) (fun b o hL => ?_) (fun i h => take_get h) l
        rintro ⟨j, bl, p, h1, h4, h5, h6⟩
        obtain ⟨h1, hj⟩ := take_some h1
        simp only [held] at hh
        split at hh
        · rename_i hi
          exact S.inj j i bl _ p (b, o) h1 hi h4 (by omega) h5 hL h6
        · cases hh
    · rename_i hn
      rw [if_neg hn] at l
      exact (view1_rel S h).take l
  case s v =>
    have hc := h.s_inv
    subst hc
    by_cases e : c = .slice none 0 0
    · subst e; exact .fs [] none 0 0 0 [] rfl (Nat.le_refl _) (by simp) .nil (by simp)
    · have : Nac.out1 n M (.s c) = .s c := by
        unfold Nac.out1
        split
        · rename_i h; cases h
        · rename_i h; cases h; exact absurd rfl e
        · rfl
      rw [this] at l ⊢; exact h.take l
  all_goals exact h.take l
theorem LRel.out1 (S : Sim R M L w) {n : Nat} {ps : List PV} {cs : List Value} (h : LRel M L w ps cs) (l : lowL n (ps.map (Nac.out1 n M))) : LRel (M.take n) L w (ps.map (Nac.out1 n M)) cs := by
  induction ps generalizing cs with
  | nil => cases h; exact .nil
  | cons x xs ih =>
    rw [List.map_cons, lowL] at l
    cases h with | cons _ v _ vs h hs => exact .cons _ _ _ _ (h.out1 S l.1) (ih hs l.2)
theorem VRel.outV (S : Sim R M L w) {n : Nat} {p : PV} {c : Value} (h : VRel M L w p c) (l : (Nac.outV n M p).low n) : VRel (M.take n) L w (Nac.outV n M p) c := by
  cases p
  case agg cs =>
    cases h with
    | agg _ vs h => exact .agg _ _ (LRel.out1 S h (by simpa only [Nac.outV, PV.low] using l))
  all_goals exact VRel.out1 S h l
theorem LRel.outV (S : Sim R M L w) {n : Nat} {ps : List PV} {cs : List Value} (h : LRel M L w ps cs) (l : lowL n (ps.map (Nac.outV n M))) : LRel (M.take n) L w (ps.map (Nac.outV n M)) cs := by
  induction ps generalizing cs with
  | nil => cases h; exact .nil
  | cons x xs ih =>
    rw [List.map_cons, lowL] at l
    cases h with | cons _ v _ vs h hs => exact .cons _ _ _ _ (h.outV S l.1) (ih hs l.2)
section
variable {D : Nat} {o : Obj} (hD : ∀ c el s, w.heap[D]? ≠ some (.cells c el s))
include hD
theorem putObj_cells {b : Nat} {c : Array Value} {el : TypeId} {s : Nat × Nat} (h : w.heap[b]? = some (.cells c el s)) : (w.putObj D o).heap[b]? = some (.cells c el s) := by
  rw [World.putObj_heap_other (fun e => hD _ _ _ (e ▸ h))]; exact h
theorem putObj_cell {a : Addr} {v : Value} (h : w.cell? a = some v) : (w.putObj D o).cell? a = some v := by
  rw [← h]
  by_cases e : a.block = D
  · exfalso
    simp only [World.cell?] at h
    split at h
    · rename_i h1; exact hD _ _ _ (e ▸ h1)
    · cases h
  · simp only [World.cell?]; rw [World.putObj_heap_other e]
mutual
theorem VRel.poke : ∀ {p : PV} {c : Value}, VRel M L w p c → VRel M L (w.putObj D o) p c
  | _, _, .top v => .top v
  | _, _, .s v h => .s v h
  | _, _, .agg cs vs h => .agg cs vs (LRel.poke h)
  | _, _, .tup cs vs h => .tup cs vs (LRel.poke h)
  | _, _, .fs xs a n cap k vs hn hc hk h hm => .fs xs a n cap k vs hn hc hk (LRel.poke h) fun hne => by
      obtain ⟨b, o, ha, hlt, hb, hv⟩ := hm hne
      exact ⟨b, o, ha, by rw [World.putObj_size]; exact hlt, hb, fun m v hmv => putObj_cell hD (hv m v hmv)⟩
  | _, _, .fp cs b o vs h hlt hb hm => .fp cs b o vs (LRel.poke h) (by rw [World.putObj_size]; exact hlt) hb fun m v hmv => putObj_cell hD (hm m v hmv)
  | _, _, .os i ver off len wr k xs a cap hi hx hc hm => .os i ver off len wr k xs a cap hi hx hc fun hne => by
      obtain ⟨b, o, c, el, g1, g2, g3, g4⟩ := hm hne
      exact ⟨b, o, c, el, g1, g2, putObj_cells hD g3, g4⟩
  | _, _, .os' i ver off len wr k v' xs a c hi hv => .os' i ver off len wr k v' xs a c hi hv
  | _, _, .op i ver e j wr k xs b o hi he hL => .op i ver _ j wr k xs b o hi he hL
  | _, _, .op' i ver e j wr k v' xs a hi hv => .op' i ver _ j wr k v' xs a hi hv
  | _, _, .om i es b o hi hL => .om i es b o hi hL
  | _, _, .fn f a c va vc ha hc => .fn f a c va vc (LRel.poke ha) (LRel.poke hc)
  | _, _, .yl i st pd ts ps x y b o hi hL => .yl i st pd ts ps x y b o hi hL
  | _, _, .nan k b h => .nan k b h
  | _, _, .oi i s pos b o hi hL => .oi i s pos b o hi hL
theorem LRel.poke : ∀ {xs : List PV} {vs : List Value}, LRel M L w xs vs → LRel M L (w.putObj D o) xs vs
  | _, _, .nil => .nil
  | _, _, .cons x v xs vs h hs => .cons x v xs vs (VRel.poke h) (LRel.poke hs)
end
theorem BRel.poke {i : Nat} {b : Blk} (hO : ¬ Owned M L D) (hi : M[i]? = some b) (h : BRel R M L w i b) : BRel R M L (w.putObj D o) i b := by
  cases b with
  | row wr k ver xs =>
    obtain ⟨h0, h1, h2⟩ := h
    refine ⟨h0, fun b o hb => ?_, h2⟩
    obtain ⟨c, el, vs, g1, g2, g3⟩ := h1 b o hb
    exact ⟨c, el, vs, putObj_cells hD g1, LRel.poke hD g2, g3⟩
  | map es =>
    obtain ⟨b, o, ents, clock, h1, h2, h3⟩ := h
    refine ⟨b, o, ents, clock, h1, ?_, h3⟩
    rw [World.putObj_heap_other (fun e => hO ⟨i, _, (b, o), hi, rfl, h1, e⟩)]; exact h2
  | loop st pd ts ps a b =>
    obtain ⟨k, o, r, h1, h2, h3, h4, h5, h6, h7⟩ := h
    refine ⟨k, o, r, h1, ?_, h3, h4, h5, LRel.poke hD h6, h7⟩
    rw [World.putObj_heap_other (fun e => hO ⟨i, _, (k, o), hi, rfl, h1, e⟩)]; exact h2
  | siter s pos =>
    obtain ⟨b, o, h1, h2⟩ := h
    refine ⟨b, o, h1, ?_⟩
    rw [World.putObj_heap_other (fun e => hO ⟨i, _, (b, o), hi, rfl, h1, e⟩)]; exact h2
theorem Sim.poke (hO : ¬ Owned M L D) (S : Sim R M L w) : Sim R M L (w.putObj D o) := ⟨fun i b hi => BRel.poke hD hO hi (S.mem i b hi), S.inj⟩
theorem Evo.poke {M0 : List Blk} {L0 : Loc} {w0 : World} (E : Evo M0 L0 w0 M L w) (h : w0.heap.size ≤ D) : Evo M0 L0 w0 M L (w.putObj D o) where
  os := E.os
  tape := E.tape
  output := E.output
  size := by rw [World.putObj_size]; exact E.size
  frame := fun b h1 h2 => ⟨by rw [World.putObj_heap_other (by omega)]; exact (E.frame b h1 h2).1, (E.frame b h1 h2).2⟩
  blk := fun i b hi => by
    obtain ⟨b', h1, h2⟩ := E.blk i b hi
    refine ⟨b', h1, ?_⟩
    cases b with
    | row wr k ver xs =>
      cases b' with
      | row wr' k' ver' xs' =>
        refine ⟨h2.1, fun e => ?_⟩
        obtain ⟨g1, g2, g3, g4⟩ := h2.2 e
        refine ⟨g1, g2, g3, fun b o c el hb hc => ?_⟩
        obtain ⟨c', k1, k2⟩ := g4 b o c el hb hc
        exact ⟨c', putObj_cells hD k1, k2⟩
      | _ => exact h2.elim
    | map es => cases b' <;> exact h2
    | loop => cases b' <;> exact h2
    | siter => cases b' <;> exact h2
end
end
end Go.Nac

