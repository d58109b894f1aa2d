import Derived.Test.YtbmicihfhfcpkaaK1
import Derived.AtR
import Derived.Laws.Cells
import Derived.Laws.World
set_option linter.unusedVariables false
set_option linter.unusedSectionVars false
set_option linter.unusedSimpArgs false
namespace Go.Nac
abbrev Loc := Nat → Option (Nat × Nat)
def Blk.live : Blk → Bool
  | .row w _ _ _ => w
  | _ => true
def Owned (M : List Blk) (L : Loc) (b : Nat) : Prop := ∃ i blk p, M[i]? = some blk ∧ blk.live = true ∧ L i = some p ∧ p.1 = b
def aggV : Value → Bool
  | .agg _ => true
  | _ => false
mutual
inductive VRel (M : List Blk) (L : Loc) (w : World) : PV → Value → Prop
  | top (v : Value) : VRel M L w .top v
  | s (v : Value) (h : aggV v = false) : VRel M L w (.s v) v
  | agg (cs : List PV) (vs : Array Value) (h : LRel M L w cs vs.toList) : VRel M L w (.agg cs) (.agg vs)
  | tup (cs : List PV) (vs : Array Value) (h : LRel M L w cs vs.toList) : VRel M L w (.tup cs) (.tuple vs)
  | fs (xs : List PV) (a : Option Addr) (n cap k : Nat) (vs : List Value) (hn : n = xs.length) (hc : xs.length ≤ cap) (hk : ∀ x ∈ xs, x.cells.length = k)
      (h : LRel M L w (xs.flatMap PV.cells) vs)
      (hm : xs ≠ [] → ∃ b o, a = some ⟨b, o, none⟩ ∧ b < w.heap.size ∧ ¬ Owned M L b ∧ ∀ m v, vs[m]? = some v → w.cell? ⟨b, o + m, none⟩ = some v) :
      VRel M L w (.fs xs) (.slice a n cap)
  | fp (cs : List PV) (b o : Nat) (vs : List Value) (h : LRel M L w cs vs) (hlt : b < w.heap.size) (hb : ¬ Owned M L b)
      (hm : ∀ m v, vs[m]? = some v → w.cell? ⟨b, o + m, none⟩ = some v) : VRel M L w (.fp cs) (.pointer (some ⟨b, o, none⟩))
  | os (i ver off len : Nat) (wr : Bool) (k : Nat) (xs : List PV) (a : Option Addr) (cap : Nat) (hi : M[i]? = some (.row wr k ver xs)) (hx : off + len ≤ xs.length) (hc : len ≤ cap)
      (hm : cap ≠ 0 → ∃ b o c el, L i = some (b, o) ∧ a = some ⟨b, o + off * k, none⟩ ∧ w.heap[b]? = some (.cells c el (0, 0)) ∧ o + (off + cap) * k ≤ c.size) :
      VRel M L w (.os i ver off len) (.slice a len cap)
  | os' (i ver off len : Nat) (wr : Bool) (k v' : Nat) (xs : List PV) (a : Option Addr) (c : Nat) (hi : M[i]? = some (.row wr k v' xs)) (hv : ver < v') : VRel M L w (.os i ver off len) (.slice a len c)
  | op (i ver e j : Nat) (wr : Bool) (k : Nat) (xs : List PV) (b o : Nat) (hi : M[i]? = some (.row wr k ver xs)) (he : e < xs.length) (hL : L i = some (b, o)) :
      VRel M L w (.op i ver e j) (.pointer (some ⟨b, o + e * k + j, none⟩))
  | op' (i ver e j : Nat) (wr : Bool) (k v' : Nat) (xs : List PV) (a : Option Addr) (hi : M[i]? = some (.row wr k v' xs)) (hv : ver < v') : VRel M L w (.op i ver e j) (.pointer a)
  | om (i : Nat) (es : List (Value × Value)) (b o : Nat) (hi : M[i]? = some (.map es)) (hL : L i = some (b, o)) : VRel M L w (.om i) (.map (some b))
  | fn (f : Fn) (a c : List PV) (va vc : Array Value) (ha : LRel M L w a va.toList) (hc : LRel M L w c vc.toList) : VRel M L w (.fn f a c) (.func f va vc)
  | yl (i : Nat) (st : LoopState) (pd : Option Ex) (ts : List PV) (ps : List Nat) (x y : CCode) (b o : Nat) (hi : M[i]? = some (.loop st pd ts ps x y)) (hL : L i = some (b, o)) :
      VRel M L w (.yl i) (.func (.yield b) #[] #[])
  | nan (k : FloatKind) (b : Nat) (h : (k.decode b).isNaN = true) : VRel M L w (.nan k) (.float k b)
  | oi (i : Nat) (s : ByteArray) (pos b o : Nat) (hi : M[i]? = some (.siter s pos)) (hL : L i = some (b, o)) : VRel M L w (.oi i) (.pointer (some ⟨b, 0, none⟩))
inductive LRel (M : List Blk) (L : Loc) (w : World) : List PV → List Value → Prop
  | nil : LRel M L w [] []
  | cons (x : PV) (v : Value) (xs : List PV) (vs : List Value) (h : VRel M L w x v) (hs : LRel M L w xs vs) : LRel M L w (x :: xs) (v :: vs)
end
section
variable {M : List Blk} {L : Loc} {w : World}
theorem LRel.length {xs : List PV} {vs : List Value} (h : LRel M L w xs vs) : xs.length = vs.length := by
  induction xs generalizing vs with
  | nil => cases h; rfl
  | cons x xs ih => cases h with | cons _ v _ vs h hs => simp [ih hs]
theorem LRel.get {xs : List PV} {vs : List Value} (h : LRel M L w xs vs) {i : Nat} {x : PV} (hx : xs[i]? = some x) : ∃ v, vs[i]? = some v ∧ VRel M L w x v := by
  induction xs generalizing vs i with
  | nil => simp at hx
  | cons y xs ih =>
    cases h with
    | cons _ v _ vs h hs =>
      cases i with
      | zero => simp at hx; subst hx; exact ⟨v, rfl, h⟩
      | succ i => simpa using ih hs (by simpa using hx)
theorem LRel.append {xs ys : List PV} {vs us : List Value} (h : LRel M L w xs vs) (k : LRel M L w ys us) : LRel M L w (xs ++ ys) (vs ++ us) := by
  induction xs generalizing vs with
  | nil => cases h; exact k
  | cons x xs ih => cases h with | cons _ v _ vs h hs => exact .cons _ _ _ _ h (ih hs)
theorem LRel.split {xs ys : List PV} {vs : List Value} (h : LRel M L w (xs ++ ys) vs) : ∃ v1 v2, vs = v1 ++ v2 ∧ LRel M L w xs v1 ∧ LRel M L w ys v2 := by
  induction xs generalizing vs with
  | nil => exact ⟨[], vs, rfl, .nil, h⟩
  | cons x xs ih =>
    cases h with
    | cons _ v _ vs h hs =>
      obtain ⟨v1, v2, rfl, h1, h2⟩ := ih hs
      exact ⟨v :: v1, v2, rfl, .cons _ _ _ _ h h1, h2⟩
theorem LRel.drop {xs : List PV} {vs : List Value} (h : LRel M L w xs vs) (n : Nat) : LRel M L w (xs.drop n) (vs.drop n) := by
  induction n generalizing xs vs with
  | zero => exact h
  | succ n ih =>
    cases h with
    | nil => exact .nil
    | cons _ _ _ _ _ hs => exact ih hs
theorem LRel.take {xs : List PV} {vs : List Value} (h : LRel M L w xs vs) (n : Nat) : LRel M L w (xs.take n) (vs.take n) := by
  induction n generalizing xs vs with
  | zero => exact .nil
  | succ n ih =>
    cases h with
    | nil => exact .nil
    | cons _ _ _ _ h hs => exact .cons _ _ _ _ h (ih hs)
theorem LRel.map_s (vs : List Value) (h : ∀ v ∈ vs, aggV v = false) : LRel M L w (vs.map .s) vs := by
  induction vs with
  | nil => exact .nil
  | cons v vs ih => exact .cons _ _ _ _ (.s v (h v (by simp))) (ih fun x hx => h x (by simp [hx]))
theorem LRel.tops (vs : List Value) : LRel M L w (List.replicate vs.length .top) vs := by
  induction vs with
  | nil => exact .nil
  | cons v vs ih => exact .cons _ _ _ _ (.top v) ih
theorem LRel.set {xs : List PV} {vs : List Value} (h : LRel M L w xs vs) (i : Nat) {x : PV} {v : Value} (hx : VRel M L w x v) : LRel M L w (xs.set i x) (vs.set i v) := by
  induction xs generalizing vs i with
  | nil => cases h; exact .nil
  | cons y xs ih =>
    cases h with
    | cons _ u _ us h hs =>
      cases i with
      | zero => exact .cons _ _ _ _ hx hs
      | succ i => exact .cons _ _ _ _ h (ih hs i)
theorem LRel.all {xs : List PV} {vs : List Value} (hl : xs.length = vs.length) (h : ∀ (i : Nat) (x : PV) (v : Value), xs[i]? = some x → vs[i]? = some v → VRel M L w x v) : LRel M L w xs vs := by
  induction xs generalizing vs with
  | nil => cases vs with | nil => exact .nil | cons => simp at hl
  | cons x xs ih =>
    cases vs with
    | nil => simp at hl
    | cons v vs => exact .cons _ _ _ _ (h 0 x v rfl rfl) (ih (by simpa using hl) fun i x v h1 h2 => h (i + 1) x v (by simpa using h1) (by simpa using h2))
theorem VRel.cells {p : PV} {c : Value} (h : VRel M L w p c) (hp : p.cells ≠ []) : LRel M L w p.cells c.cells.toList := by
  have one : ∀ {p : PV} {c : Value}, VRel M L w p c → p.cells = [p] → aggV c = false → LRel M L w p.cells c.cells.toList := by
    intro p c h hp hc
    rw [hp]
    cases c <;> first | (simp [aggV] at hc; done) | exact .cons _ _ _ _ h .nil
  cases h with
  | top => simp [PV.cells] at hp
  | s _ h => exact one (.s c h) rfl h
  | agg cs vs h => exact h
  | tup cs vs h => exact one (.tup cs vs h) rfl rfl
  | fs xs a n cap k vs hn hc hk h hm => exact one (.fs xs a n cap k vs hn hc hk h hm) rfl rfl
  | fp cs b o vs h hlt hb hm => exact one (.fp cs b o vs h hlt hb hm) rfl rfl
  | os i ver off len wr k xs a cap hi hx hc hm => exact one (.os i ver off len wr k xs a cap hi hx hc hm) rfl rfl
  | os' i ver off len wr k v' xs a c hi hv => exact one (.os' i ver off len wr k v' xs a c hi hv) rfl rfl
  | op i ver e j wr k xs b o hi he hL => exact one (.op i ver e j wr k xs b o hi he hL) rfl rfl
  | op' i ver e j wr k v' xs a hi hv => exact one (.op' i ver e j wr k v' xs a hi hv) rfl rfl
  | om i es b o hi hL => exact one (.om i es b o hi hL) rfl rfl
  | fn f a c va vc ha hc => exact one (.fn f a c va vc ha hc) rfl rfl
  | yl i st pd ts ps x y b o hi hL => exact one (.yl i st pd ts ps x y b o hi hL) rfl rfl
  | nan k b h => exact one (.nan k b h) rfl rfl
  | oi i s pos b o hi hL => exact one (.oi i s pos b o hi hL) rfl rfl
theorem VRel.one {p : PV} {c : Value} (h : VRel M L w p c) (hp : oneB p = true) : c.oneCell' = true := by
  cases h with
  | s _ h => cases c <;> first | rfl | (simp [oneB] at hp)
  | top => simp [oneB] at hp
  | agg => simp [oneB] at hp
  | tup => simp [oneB] at hp
  | _ => rfl
theorem LRel.one {xs : List PV} {vs : List Value} (h : LRel M L w xs vs) (hp : xs.all oneB = true) : ∀ v ∈ vs, v.oneCell' = true := by
  induction xs generalizing vs with
  | nil => cases h; simp
  | cons x xs ih =>
    cases h with
    | cons _ v _ vs h hs =>
      simp only [List.all_cons, Bool.and_eq_true] at hp
      intro u hu
      rcases List.mem_cons.1 hu with rfl | hu
      · exact h.one hp.1
      · exact ih hs hp.2 u hu
end
def pendRel : Option Ex → Option Code → Prop
  | none, none => True
  | some (.exit i), some (.exit j) => i = j
  | some (.goto i), some (.goto j) => i = j
  | some .ret, some .ret => True
  | _, _ => False
/-- What a block stands for. R: a relation between plain code and loaded code. -/
def BRel (R : CCode → Code → Prop) (M : List Blk) (L : Loc) (w : World) (i : Nat) : Blk → Prop
  | .row _ k _ xs => (∀ x ∈ xs, x.cells.length = k) ∧
      (∀ b o, L i = some (b, o) → ∃ c el vs, w.heap[b]? = some (.cells c el (0, 0)) ∧ LRel M L w (xs.flatMap PV.cells) vs ∧ ∀ m v, vs[m]? = some v → c[o + m]? = some v) ∧
      (L i = none → xs = [])
  | .map es => ∃ b o ents clock, L i = some (b, o) ∧ w.heap[b]? = some (.map ents clock) ∧ ents.toList.map (fun e => (e.key, e.val)) = es ∧ ∀ e ∈ es, aggV e.2 = false
  | .loop st pd ts ps a b => ∃ k o r, L i = some (k, o) ∧ w.heap[k]? = some (.loop r) ∧ r.state = st ∧ pendRel pd r.pending ∧ r.params.toList = ps ∧ LRel M L w ts r.tmps.toList ∧ R a r.assign ∧ R b r.body
  | .siter s pos => ∃ b o, L i = some (b, o) ∧ w.heap[b]? = some (.stringIter s pos)
structure Sim (R : CCode → Code → Prop) (M : List Blk) (L : Loc) (w : World) : Prop where
  mem : ∀ i b, M[i]? = some b → BRel R M L w i b
  inj : ∀ i j bi bj p q, M[i]? = some bi → M[j]? = some bj → bi.live = true → i ≠ j → L i = some p → L j = some q → p.1 ≠ q.1
def BEvo (L L' : Loc) (w w' : World) (i : Nat) : Blk → Blk → Prop
  | .row _ k ver xs, .row _ k' ver' xs' => ver ≤ ver' ∧ (ver = ver' → k' = k ∧ xs'.length = xs.length ∧ L' i = L i ∧
      ∀ b o c el, L i = some (b, o) → w.heap[b]? = some (.cells c el (0, 0)) → ∃ c', w'.heap[b]? = some (.cells c' el (0, 0)) ∧ c'.size = c.size)
  | .map _, .map _ => L' i = L i
  | .loop _ _ ts ps a b, .loop _ _ ts' ps' a' b' => L' i = L i ∧ ts' = ts ∧ ps' = ps ∧ a' = a ∧ b' = b
  | .siter _ _, .siter _ _ => L' i = L i
  | _, _ => False
structure Evo (M : List Blk) (L : Loc) (w : World) (M' : List Blk) (L' : Loc) (w' : World) : Prop where
  os : w'.os = w.os
  tape : w'.tape = w.tape
  output : w'.output = w.output
  size : w.heap.size ≤ w'.heap.size
  frame : ∀ b, b < w.heap.size → ¬ Owned M L b → w'.heap[b]? = w.heap[b]? ∧ ¬ Owned M' L' b
  blk : ∀ i b, M[i]? = some b → ∃ b', M'[i]? = some b' ∧ BEvo L L' w w' i b b'
theorem BEvo.refl (L : Loc) (w : World) (i : Nat) (b : Blk) : BEvo L L w w i b b := by
  cases b with
  | row => exact ⟨Nat.le_refl _, fun _ => ⟨rfl, rfl, rfl, fun _ _ c _ _ h => ⟨c, h, rfl⟩⟩⟩
  | map => rfl
  | loop => exact ⟨rfl, rfl, rfl, rfl, rfl⟩
  | siter => rfl
theorem Evo.refl (M : List Blk) (L : Loc) (w : World) : Evo M L w M L w :=
  ⟨rfl, rfl, rfl, Nat.le_refl _, fun b _ h => ⟨rfl, h⟩, fun i b h => ⟨b, h, .refl ..⟩⟩
theorem BEvo.trans {L L' L'' : Loc} {w w' w'' : World} {i : Nat} {b b' b'' : Blk} (h : BEvo L L' w w' i b b') (k : BEvo L' L'' w' w'' i b' b'') : BEvo L L'' w w'' i b b'' := by
  cases b with
  | row _ kk ver xs =>
    cases b' with
    | row _ kk' ver' xs' =>
      cases b'' with
      | row _ kk'' ver'' xs'' =>
        refine ⟨Nat.le_trans h.1 k.1, fun e => ?_⟩
        have e1 : ver = ver' := by have := h.1; have := k.1; omega
        have e2 : ver' = ver'' := by omega
        obtain ⟨h1, h2, h3, h4⟩ := h.2 e1
        obtain ⟨k1, k2, k3, k4⟩ := k.2 e2
        refine ⟨k1.trans h1, k2.trans h2, k3.trans h3, fun b o c el hL hb => ?_⟩
        obtain ⟨c', hc', hs'⟩ := h4 b o c el hL hb
        obtain ⟨c'', hc'', hs''⟩ := k4 b o c' el (h3.trans hL) hc'
        exact ⟨c'', hc'', hs''.trans hs'⟩
      | _ => exact k.elim
    | _ => exact h.elim
  | map =>
    cases b' with
    | map =>
      cases b'' with
      | map => exact Eq.trans k h
      | _ => exact k.elim
    | _ => exact h.elim
  | loop =>
    cases b' with
    | loop =>
      cases b'' with
      | loop =>
        obtain ⟨a1, a2, a3, a4, a5⟩ := h
        obtain ⟨b1, b2, b3, b4, b5⟩ := k
        exact ⟨b1.trans a1, b2.trans a2, b3.trans a3, b4.trans a4, b5.trans a5⟩
      | _ => exact k.elim
    | _ => exact h.elim
  | siter =>
    cases b' with
    | siter =>
      cases b'' with
      | siter => exact Eq.trans k h
      | _ => exact k.elim
    | _ => exact h.elim
theorem Evo.trans {M M' M'' : List Blk} {L L' L'' : Loc} {w w' w'' : World} (h : Evo M L w M' L' w') (k : Evo M' L' w' M'' L'' w'') : Evo M L w M'' L'' w'' where
  os := k.os.trans h.os
  tape := k.tape.trans h.tape
  output := k.output.trans h.output
  size := Nat.le_trans h.size k.size
  frame := fun b hb ho => by
    obtain ⟨h1, h2⟩ := h.frame b hb ho
    obtain ⟨k1, k2⟩ := k.frame b (Nat.lt_of_lt_of_le hb h.size) h2
    exact ⟨k1.trans h1, k2⟩
  blk := fun i b hb => by
    obtain ⟨b', h1, h2⟩ := h.blk i b hb
    obtain ⟨b'', k1, k2⟩ := k.blk i b' h1
    exact ⟨b'', k1, h2.trans k2⟩
section
variable {M M' : List Blk} {L L' : Loc} {w w' : World} (E : Evo M L w M' L' w')
include E
theorem Evo.cell {b o : Nat} {v : Value} (hlt : b < w.heap.size) (hb : ¬ Owned M L b) (hc : w.cell? ⟨b, o, none⟩ = some v) : w'.cell? ⟨b, o, none⟩ = some v := by
  have := (E.frame b hlt hb).1
  unfold World.cell? at *
  simp only at *
  rw [this]; exact hc
theorem Evo.row {i k ver : Nat} {wr : Bool} {xs : List PV} (hi : M[i]? = some (.row wr k ver xs)) : ∃ wr' k' ver' xs', M'[i]? = some (.row wr' k' ver' xs') ∧ BEvo L L' w w' i (.row wr k ver xs) (.row wr' k' ver' xs') := by
  obtain ⟨b', h1, h2⟩ := E.blk i _ hi
  cases b' with
  | row wr' k' ver' xs' => exact ⟨_, _, _, _, h1, h2⟩
  | _ => exact h2.elim
mutual
theorem VRel.evo : ∀ {p : PV} {c : Value}, VRel M L w p c → VRel M' L' w' p c
  | _, _, .top v => .top v
  | _, _, .s v h => .s v h
  | _, _, .agg cs vs h => .agg cs vs (LRel.evo h)
  | _, _, .tup cs vs h => .tup cs vs (LRel.evo h)
  | _, _, .fs xs a n cap k vs hn hc hk h hm => .fs xs a n cap k vs hn hc hk (LRel.evo h) fun hne => by
      obtain ⟨b, o, ha, hlt, hb, hv⟩ := hm hne
      exact ⟨b, o, ha, Nat.lt_of_lt_of_le hlt E.size, (E.frame b hlt hb).2, fun m v hmv => E.cell hlt hb (hv m v hmv)⟩
  | _, _, .fp cs b o vs h hlt hb hm => .fp cs b o vs (LRel.evo h) (Nat.lt_of_lt_of_le hlt E.size) (E.frame b hlt hb).2 fun m v hmv => E.cell hlt hb (hm m v hmv)
  | _, _, .os i ver off len wr k xs a cap hi hx hc hm => by
      obtain ⟨wr', k', ver', xs', h1, h2, h3⟩ := E.row hi
      by_cases e : ver = ver'
      · subst e
        obtain ⟨rfl, e2, e3, e4⟩ := h3 rfl
        refine .os i ver off len wr' k' xs' a cap h1 (by omega) hc fun hne => ?_
        obtain ⟨b, o, c, el, g1, g2, g3, g4⟩ := hm hne
        obtain ⟨c', g5, g6⟩ := e4 b o c el g1 g3
        exact ⟨b, o, c', el, e3.trans g1, g2, g5, by rw [g6]; exact g4⟩
      · exact .os' i ver off len wr' k' ver' xs' a cap h1 (by omega)
  | _, _, .os' i ver off len wr k v' xs a c hi hv => by
      obtain ⟨wr', k', ver', xs', h1, h2, h3⟩ := E.row hi
      exact .os' i ver off len wr' k' ver' xs' a c h1 (by omega)
  | _, _, .op i ver e j wr k xs b o hi he hL => by
      obtain ⟨wr', k', ver', xs', h1, h2, h3⟩ := E.row hi
      by_cases e : ver = ver'
      · subst e
        obtain ⟨rfl, e2, e3, e4⟩ := h3 rfl
        exact .op i ver _ j wr' k' xs' b o h1 (by omega) (e3.trans hL)
      · exact .op' i ver _ j wr' k' ver' xs' _ h1 (by omega)
  | _, _, .op' i ver e j wr k v' xs a hi hv => by
      obtain ⟨wr', k', ver', xs', h1, h2, h3⟩ := E.row hi
      exact .op' i ver _ j wr' k' ver' xs' a h1 (by omega)
  | _, _, .om i es b o hi hL => by
      obtain ⟨b', h1, h2⟩ := E.blk i _ hi
      cases b' with
      | map es' => exact .om i es' b o h1 (Eq.trans h2 hL)
      | _ => exact h2.elim
  | _, _, .fn f a c va vc ha hc => .fn f a c va vc (LRel.evo ha) (LRel.evo hc)
  | _, _, .yl i st pd ts ps x y b o hi hL => by
      obtain ⟨b', h1, h2⟩ := E.blk i _ hi
      cases b' with
      | loop st' pd' ts' ps' x' y' => exact .yl i st' pd' ts' ps' x' y' b o h1 (Eq.trans h2.1 hL)
      | _ => exact h2.elim
  | _, _, .nan k b h => .nan k b h
  | _, _, .oi i s pos b o hi hL => by
      obtain ⟨b', h1, h2⟩ := E.blk i _ hi
      cases b' with
      | siter s' pos' => exact .oi i s' pos' b o h1 (Eq.trans h2 hL)
      | _ => exact h2.elim
theorem LRel.evo : ∀ {xs : List PV} {vs : List Value}, LRel M L w xs vs → LRel M' L' w' xs vs
  | _, _, .nil => .nil
  | _, _, .cons x v xs vs h hs => .cons x v xs vs (VRel.evo h) (LRel.evo hs)
end
end
end Go.Nac

