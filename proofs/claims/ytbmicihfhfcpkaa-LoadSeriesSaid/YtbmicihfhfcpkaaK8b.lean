import Derived.Test.YtbmicihfhfcpkaaK8
set_option linter.unusedVariables false
set_option linter.unusedSectionVars false
set_option linter.unusedSimpArgs false
namespace Go.Nac
section
variable {R : CCode → Code → Prop} {M : List Blk} {L : Loc} {w : World}
section
variable {M2 : List Blk} {L2 : Loc} {n x : Nat} {kk : Nat} {zs : List PV} (hM : ∀ i, i < n → i ≠ x → M2[i]? = M[i]?) (hx : M[x]? = some hole) (hx2 : M2[x]? = some (.row true kk 1 zs)) (hL : ∀ i, i < n → i ≠ x → L2 i = L i) (hO : ∀ b, Owned M2 L2 b → Owned M L b)
include hM hx hx2 hL hO
mutual
theorem VRel.fill : ∀ {p : PV} {c : Value}, VRel M L w p c → p.low n → VRel M2 L2 w p c
  | _, _, .top v, _ => .top v
  | _, _, .s v h, _ => .s v h
  | _, _, .agg cs vs h, l => .agg cs vs (LRel.fill h (by rw [PV.low] at l; exact l))
  | _, _, .tup cs vs h, l => .tup cs vs (LRel.fill h (by rw [PV.low] at l; exact l))
  | _, _, .fs xs a n cap k vs hn hc hk h hm, l => .fs xs a n cap k vs hn hc hk (LRel.fill h (by rw [PV.low] at l; exact (lowL_flat xs).2 l)) fun hne => by
      obtain ⟨b, o, ha, hlt, hb, hv⟩ := hm hne
      exact ⟨b, o, ha, hlt, fun h => hb (hO b h), hv⟩
  | _, _, .fp cs b o vs h hlt hb hm, l => .fp cs b o vs (LRel.fill h (by rw [PV.low] at l; exact l)) hlt (fun h => hb (hO b h)) hm
  | _, _, .os i ver off len wr k xs a cap hi hx' hc hm, l => by
      rw [PV.low] at l
      by_cases e : i = x
      · subst e
        rw [hx] at hi; cases hi
        exact .os' i 0 off len true kk 1 zs a cap hx2 (by omega)
      · exact .os i ver off len wr k xs a cap ((hM i l e).trans hi) hx' hc fun hne => by
          obtain ⟨b, o, c, el, g1, g2⟩ := hm hne
          exact ⟨b, o, c, el, (hL i l e).trans g1, g2⟩
  | _, _, .os' i ver off len wr k v' xs a c hi hv, l => by
      rw [PV.low] at l
      by_cases e : i = x
      · subst e
        rw [hx] at hi; cases hi; omega
      · exact .os' i ver off len wr k v' xs a c ((hM i l e).trans hi) hv
  | _, _, .op i ver e j wr k xs b o hi he hL', l => by
      rw [PV.low] at l
      by_cases e' : i = x
      · subst e'
        rw [hx] at hi; cases hi; simp at he
      · exact .op i ver _ j wr k xs b o ((hM i l e').trans hi) he ((hL i l e').trans hL')
  | _, _, .op' i ver e j wr k v' xs a hi hv, l => by
      rw [PV.low] at l
      by_cases e' : i = x
      · subst e'
        rw [hx] at hi; cases hi; omega
      · exact .op' i ver _ j wr k v' xs a ((hM i l e').trans hi) hv
  | _, _, .om i es b o hi hL', l => by
      rw [PV.low] at l
      by_cases e' : i = x
      · subst e'
        rw [hx] at hi; cases hi
      · exact .om i es b o ((hM i l e').trans hi) ((hL i l e').trans hL')
  | _, _, .fn f a c va vc ha hc, l => .fn f a c va vc (LRel.fill ha (by rw [PV.low] at l; exact l.1)) (LRel.fill hc (by rw [PV.low] at l; exact l.2))
  | _, _, .yl i st pd ts ps u y b o hi hL', l => by
      rw [PV.low] at l
      by_cases e' : i = x
      · subst e'
        rw [hx] at hi; cases hi
      · exact .yl i st pd ts ps u y b o ((hM i l e').trans hi) ((hL i l e').trans hL')
  | _, _, .nan k b h, _ => .nan k b h
  | _, _, .oi i s pos b o hi hL', l => by
      rw [PV.low] at l
      by_cases e' : i = x
      · subst e'
        rw [hx] at hi; cases hi
      · exact .oi i s pos b o ((hM i l e').trans hi) ((hL i l e').trans hL')
theorem LRel.fill : ∀ {xs : List PV} {vs : List Value}, LRel M L w xs vs → lowL n xs → LRel M2 L2 w xs vs
  | _, _, .nil, _ => .nil
  | _, _, .cons x v xs vs h hs, l => .cons x v xs vs (VRel.fill h (by rw [lowL] at l; exact l.1)) (LRel.fill hs (by rw [lowL] at l; exact l.2))
end
theorem BRel.fill {i j : Nat} {b : Blk} (h : BRel R M L w i b) (l : b.low n) (e : L2 j = L i) : BRel R M2 L2 w j b := by
  cases b with
  | row wr k ver xs =>
    rw [Blk.low] at l
    obtain ⟨h0, h1, h2⟩ := h
    refine ⟨h0, fun b o hb => ?_, fun hb => h2 (e ▸ hb)⟩
    obtain ⟨c, el, vs, g1, g2, g3⟩ := h1 b o (e ▸ hb)
    exact ⟨c, el, vs, g1, LRel.fill hM hx hx2 hL hO g2 ((lowL_flat xs).2 l), g3⟩
  | map es =>
    obtain ⟨b, o, ents, clock, h1, h2⟩ := h
    exact ⟨b, o, ents, clock, e.trans h1, h2⟩
  | loop st pd ts ps a b =>
    rw [Blk.low] at l
    obtain ⟨k, o, r, h1, h2, h3, h4, h5, h6, h7⟩ := h
    exact ⟨k, o, r, e.trans h1, h2, h3, h4, h5, LRel.fill hM hx hx2 hL hO h6 l, h7⟩
  | siter s pos =>
    obtain ⟨b, o, h1, h2⟩ := h
    exact ⟨b, o, e.trans h1, h2⟩
end
theorem BRel.bump {j k v v' : Nat} {wr wr' : Bool} {xs : List PV} (h : BRel R M L w j (.row wr k v xs)) : BRel R M L w j (.row wr' k v' xs) := h
/-- The move. -/
theorem place_sound {M0 : List Blk} {L0 : Loc} {w0 : World} {k x : Nat} {xs : List PV} (E : Evo M0 L0 w0 (M ++ [.row true k 0 xs]) L w) (S : Sim R (M ++ [.row true k 0 xs]) L w) (hM0 : M0 = M) (hlow : lowM M.length M) (hxl : lowL M.length xs)
    (hx : M[x]? = some hole) : Evo M0 L0 w0 (M.set x (.row true k 1 xs)) (L.upd x (L M.length)) w ∧ Sim R (M.set x (.row true k 1 xs)) (L.upd x (L M.length)) w ∧
      (∀ p c, VRel (M ++ [.row true k 0 xs]) L w p c → p.low M.length → VRel (M.set x (.row true k 1 xs)) (L.upd x (L M.length)) w p c) := by
  have hlt : x < M.length := (List.getElem?_eq_some_iff.1 hx).1
  have hx1 : (M ++ [Blk.row true k 0 xs])[x]? = some hole := by rw [List.getElem?_append_left hlt]; exact hx
  have hx2 : (M.set x (.row true k 1 xs))[x]? = some (.row true k 1 xs) := List.getElem?_set_self hlt
  have hN : (M ++ [Blk.row true k 0 xs])[M.length]? = some (.row true k 0 xs) := by simp
  have hM : ∀ i, i < M.length → i ≠ x → (M.set x (.row true k 1 xs))[i]? = (M ++ [Blk.row true k 0 xs])[i]? := by
    intro i hi hne
    rw [List.getElem?_set_ne (Ne.symm hne), List.getElem?_append_left hi]
  have hL : ∀ i, i < M.length → i ≠ x → (L.upd x (L M.length)) i = L i := fun i _ hne => Loc.upd_ne L _ hne
  have get : ∀ i b, (M.set x (.row true k 1 xs))[i]? = some b → i < M.length ∧ ((i = x ∧ b = .row true k 1 xs) ∨ (i ≠ x ∧ M[i]? = some b)) := by
    intro i b hi
    have hl : i < M.length := by have := (List.getElem?_eq_some_iff.1 hi).1; simpa using this
    refine ⟨hl, ?_⟩
    rcases get_set hlt hi with ⟨h1, h2⟩ | ⟨h1, h2⟩
    · exact .inl ⟨h1, h2⟩
    · exact .inr ⟨h1, h2⟩
  have hO : ∀ b, Owned (M.set x (.row true k 1 xs)) (L.upd x (L M.length)) b → Owned (M ++ [Blk.row true k 0 xs]) L b := by
    rintro b ⟨j, bl, p, h1, h2, h3, h4⟩
    obtain ⟨hl, ⟨rfl, rfl⟩ | ⟨hne, hj⟩⟩ := get j bl h1
    · rw [Loc.upd_self] at h3
      exact ⟨M.length, _, p, hN, rfl, h3, h4⟩
    · exact ⟨j, bl, p, by rw [List.getElem?_append_left hl]; exact hj, h2, by rw [← hL j hl hne]; exact h3, h4⟩
  refine ⟨⟨E.os, E.tape, E.output, E.size, fun b h1 h2 => ⟨(E.frame b h1 h2).1, fun h => (E.frame b h1 h2).2 (hO b h)⟩, fun j b hj => ?_⟩, ⟨fun j b hj => ?_, fun i j bx bY p q h1 h2 hl hne hp hq => ?_⟩, fun p c h l => VRel.fill hM hx1 hx2 hL hO h l⟩
  · subst hM0
    have hjl := (List.getElem?_eq_some_iff.1 hj).1
    by_cases e : j = x
    · subst e
      rw [hx] at hj; cases hj
      exact ⟨_, hx2, by simp [hole, BEvo]⟩
    · obtain ⟨b', h1, h2⟩ := E.blk j b hj
      refine ⟨b', (hM j hjl e).trans h1, ?_⟩
      have hLj := hL j hjl e
      cases b with
      | row =>
        cases b' with
        | row => exact ⟨h2.1, fun e => by obtain ⟨g1, g2, g3, g4⟩ := h2.2 e; exact ⟨g1, g2, hLj.trans g3, g4⟩⟩
        | _ => exact h2.elim
      | map =>
        cases b' with
        | map => exact Eq.trans hLj h2
        | _ => exact h2.elim
      | loop =>
        cases b' with
        | loop => exact ⟨hLj.trans h2.1, h2.2⟩
        | _ => exact h2.elim
      | siter =>
        cases b' with
        | siter => exact Eq.trans hLj h2
        | _ => exact h2.elim
  · obtain ⟨hl, ⟨rfl, rfl⟩ | ⟨hne, hj⟩⟩ := get j b hj
    · exact (BRel.fill hM hx1 hx2 hL hO (S.mem M.length _ hN) (by rw [Blk.low]; exact hxl) (Loc.upd_self L _ _)).bump
    · exact BRel.fill hM hx1 hx2 hL hO (S.mem j b (by rw [List.getElem?_append_left hl]; exact hj)) (hlow b (List.mem_of_getElem? hj)) (hL j hl hne)
  · obtain ⟨hli, ⟨rfl, rfl⟩ | ⟨hnei, hi⟩⟩ := get i bx h1
    · obtain ⟨hlj, ⟨rfl, rfl⟩ | ⟨hnej, hj⟩⟩ := get j bY h2
      · exact absurd rfl hne
      · rw [Loc.upd_self] at hp; rw [hL j hlj hnej] at hq
        exact S.inj M.length j _ bY p q hN (by rw [List.getElem?_append_left hlj]; exact hj) hl (by omega) hp hq
    · obtain ⟨hlj, ⟨rfl, rfl⟩ | ⟨hnej, hj⟩⟩ := get j bY h2
      · rw [hL i hli hnei] at hp; rw [Loc.upd_self] at hq
        exact S.inj i M.length bx _ p q (by rw [List.getElem?_append_left hli]; exact hi) hN hl (by omega) hp hq
      · rw [hL i hli hnei] at hp; rw [hL j hlj hnej] at hq
        exact S.inj i j bx bY p q (by rw [List.getElem?_append_left hli]; exact hi) (by rw [List.getElem?_append_left hlj]; exact hj) hl hne hp hq
/-- Holes are laid. -/
theorem holes_sound (S : Sim R M L w) (k : Nat) : ∃ L', Evo M L w (M ++ List.replicate k hole) L' w ∧ Sim R (M ++ List.replicate k hole) L' w := by
  induction k with
  | zero => exact ⟨L, by simpa using Evo.refl M L w, by simpa using S⟩
  | succ k ih =>
    obtain ⟨L1, E1, S1⟩ := ih
    obtain ⟨E2, S2⟩ := push S1 hole none (w' := w) ⟨rfl, rfl, rfl⟩ rfl (by
      rintro _ _ rfl rfl E
      exact ⟨by simp, fun b q hL => by simp [Loc.upd_self] at hL, fun _ => rfl⟩)
    rw [List.replicate_succ', ← List.append_assoc]
    exact ⟨_, E1.trans E2, S2⟩
end
end Go.Nac

