import Derived.Test.YtbmicihfhfcpkaaK2
set_option linter.unusedVariables false
set_option linter.unusedSimpArgs false
namespace Go.Nac
def lk (i : Nat) : List (Nat × PV) → PV
  | [] => .top
  | (j, v) :: r => if i = j then v else lk i r
theorem lk_nil {i : Nat} : lk i [] = .top := nrfl rfl
theorem lk_cons {i j : Nat} {v : PV} {r : List (Nat × PV)} : lk i ((j, v) :: r) = if i = j then v else lk i r := nrfl rfl
def mk (n : Nat) (kvs : List (Nat × PV)) : List PV := (List.range n).map fun i => lk i kvs
theorem mk_length {n : Nat} {kvs : List (Nat × PV)} : (mk n kvs).length = n := by simp [mk]
theorem mk_get {n i : Nat} {kvs : List (Nat × PV)} : (mk n kvs).getD i .top = if i < n then lk i kvs else .top := by
  rw [List.getD_eq_getElem?_getD, mk, List.getElem?_map]
  split
  · rename_i h; rw [List.getElem?_range h]; rfl
  · rename_i h; rw [List.getElem?_eq_none (by simpa using h)]; rfl
theorem mk_set {n d : Nat} {v : PV} {kvs : List (Nat × PV)} : (mk n kvs).set d v = mk n ((d, v) :: kvs) := by
  apply List.ext_getElem?
  intro i
  by_cases e : i = d
  · subst e
    by_cases h : i < n
    · rw [List.getElem?_set_self (by rw [mk_length]; exact h)]
      simp [mk, h, lk]
    · rw [List.getElem?_eq_none (by simp [mk]; omega), List.getElem?_eq_none (by simp [mk]; omega)]
  · rw [List.getElem?_set_ne (Ne.symm e)]
    simp only [mk, List.getElem?_map, lk]
    by_cases h : i < n
    · rw [List.getElem?_range h]; simp [e]
    · rw [List.getElem?_eq_none (by simpa using h)]; rfl
theorem mk_put {n d : Nat} {v : PV} {kvs : List (Nat × PV)} : put (mk n kvs) (some d) v = mk n ((d, v) :: kvs) := mk_set
theorem ev_mk {n i : Nat} {kvs : List (Nat × PV)} : ev (mk n kvs) (.t i) = if i < n then lk i kvs else .top := mk_get
theorem keepL_mk {n : Nat} {ks : List Nat} {kvs : List (Nat × PV)} : keepL ks (mk n kvs) = mk n (ks.map fun k => (k, lk k kvs)) := by
  unfold keepL
  rw [mk_length]
  apply List.ext_getElem?
  intro i
  simp only [mk, List.getElem?_map]
  by_cases h : i < n
  · rw [List.getElem?_range h]
    simp only [Option.map_some, Option.some.injEq]
    have e1 : (mk n kvs).getD i .top = lk i kvs := by rw [mk_get, if_pos h]
    unfold mk at e1
    rw [e1]
    induction ks with
    | nil => simp [lk]
    | cons k ks ih =>
      simp only [List.contains_cons, List.map_cons, lk]
      by_cases e : i = k
      · subst e; simp
      · rw [if_neg e, ← ih]; simp [e]
  · rw [List.getElem?_eq_none (by simpa using h)]; rfl
def keepK (kvs : List (Nat × PV)) : List Nat → List (Nat × PV)
  | [] => []
  | k :: ks => (k, lk k kvs) :: keepK kvs ks
theorem keepK_nil {kvs : List (Nat × PV)} : keepK kvs [] = [] := nrfl rfl
theorem keepK_cons {kvs : List (Nat × PV)} {k : Nat} {ks : List Nat} : keepK kvs (k :: ks) = (k, lk k kvs) :: keepK kvs ks := nrfl rfl
theorem keep_mk {n : Nat} {ks : List Nat} {kvs : List (Nat × PV)} : keepL ks (mk n kvs) = mk n (keepK kvs ks) := by
  rw [keepL_mk]
  congr 1
  induction ks with
  | nil => rfl
  | cons k ks ih => rw [keepK_cons, ← ih]; rfl
theorem mk_zip (args : List PV) (n : Nat) (h : args.length ≤ n) : args ++ List.replicate (n - args.length) .top = mk n (args.zipIdx.map fun p => (p.2, p.1)) := by
  have key : ∀ (as : List PV) (j i : Nat), lk (j + i) ((as.zipIdx j).map fun p => (p.2, p.1)) = as.getD i .top := by
    intro as
    induction as with
    | nil => intro j i; simp [lk]
    | cons a as ih =>
      intro j i
      simp only [List.zipIdx_cons, List.map_cons, lk]
      cases i with
      | zero => simp
      | succ i => rw [if_neg (by omega), show j + (i + 1) = (j + 1) + i from by omega, ih]; simp
  apply List.ext_getElem?
  intro i
  by_cases hi : i < n
  · simp only [mk, List.getElem?_map]
    rw [List.getElem?_range hi, Option.map_some]
    have := key args 0 i
    rw [Nat.zero_add] at this
    rw [this, List.getElem?_append, List.getD_eq_getElem?_getD]
    split
    · rename_i h1; rw [List.getElem?_eq_getElem h1]; rfl
    · rename_i h1; rw [List.getElem?_replicate, if_pos (by omega), List.getElem?_eq_none (by omega)]; rfl
  · rw [List.getElem?_eq_none (by simp; omega), List.getElem?_eq_none (by simp [mk]; omega)]
theorem lowL_mk {m n : Nat} {kvs : List (Nat × PV)} (h : lowL m (kvs.map Prod.snd)) : lowL m (mk n kvs) := by
  rw [lowL_iff]
  intro x hx
  obtain ⟨i, _, rfl⟩ := List.mem_map.1 hx
  clear hx
  induction kvs with
  | nil => simp [lk, PV.low]
  | cons p kvs ih =>
    obtain ⟨j, v⟩ := p
    simp only [List.map_cons, lowL] at h
    simp only [lk]
    split
    · exact h.1
    · exact ih h.2
section
variable {C : CallR} {n0 : Nat} {Q : Post} {K : (List Blk) → List PV → Prop} {M : (List Blk)} {t : List PV} {d : Option Nat} {os : List COper}
def b1 (o : Option PV) (f : PV → Prop) : Prop := match o with | some v => f v | none => False
def b2 (o : Option (PV × List Blk)) (f : PV → List Blk → Prop) : Prop := match o with | some (v, M) => f v M | none => False
def kont (C : CallR) (os : List COper) (K : (List Blk) → List PV → Prop) (M : List Blk) (t : List PV) (d : Option Nat) : PV → Prop := fun v => wpOps C os K M (put t d v)
def kont2 (C : CallR) (os : List COper) (K : (List Blk) → List PV → Prop) (t : List PV) (d : Option Nat) : PV → List Blk → Prop := fun v M => wpOps C os K M (put t d v)
theorem b1_congr {o o' : Option PV} {f : PV → Prop} (h : o = o') : b1 o f = b1 o' f := by rw [h]
theorem b2_congr {o o' : Option (PV × List Blk)} {f : PV → List Blk → Prop} (h : o = o') : b2 o f = b2 o' f := by rw [h]
theorem b1_kont {v : PV} : b1 (some v) (kont C os K M t d) = wpOps C os K M (put t d v) := nrfl rfl
theorem b2_kont {v : PV} {M' : List Blk} : b2 (some (v, M')) (kont2 C os K t d) = wpOps C os K M' (put t d v) := nrfl rfl
theorem wpOps_q {o : COp} (h : o.isCall = false) {f : Option PV} (hf : res M (ev t) o = f.map (·, M)) : wpOps C (⟨d, o, none⟩ :: os) K M t = b1 f (kont C os K M t d) := by
  rw [wpOps_op h, hf]
  cases f <;> rfl
theorem wpOps_l {o : COp} (h : o.isCall = false) : wpOps C (⟨d, o, none⟩ :: os) K M t = b2 (res M (ev t) o) (kont2 C os K t d) := by
  rw [wpOps_op h]
  cases res M (ev t) o <;> rfl
theorem r_mov {x : CX} : wpOps C (⟨d, .mov x, none⟩ :: os) K M t = wpOps C os K M (put t d (ev t x)) := wpOps_q (f := some (ev t x)) rfl rfl
theorem r_pick {c a b : CX} : wpOps C (⟨d, .pick c a b, none⟩ :: os) K M t = b1 (pickV (ev t c) (ev t a) (ev t b)) (kont C os K M t d) := wpOps_q rfl rfl
theorem r_build {z : List Value} {ps : List (Nat × Nat × CX)} : wpOps C (⟨d, .build z ps, none⟩ :: os) K M t = b1 ((fillParts (z.map .s) (ps.map fun p => (p.1, p.2.1, ev t p.2.2))).map .agg) (kont C os K M t d) :=
  wpOps_q rfl (by simp only [res, Option.map_map]; rfl)
theorem r_load {g : Option Nat} {x : CX} : wpOps C (⟨d, .load g x, none⟩ :: os) K M t = b1 (loadPV M g (ev t x)) (kont C os K M t d) := wpOps_q rfl rfl
theorem r_bin {op : BinOp} {x y : CX} : wpOps C (⟨d, .bin op x y, none⟩ :: os) K M t = b1 (bin op (ev t x) (ev t y)) (kont C os K M t d) := wpOps_q rfl rfl
theorem r_binb {op : BinOp} {x y : CX} : wpOps C (⟨d, .binb op x y, none⟩ :: os) K M t = b1 (binb op (ev t x) (ev t y)) (kont C os K M t d) := wpOps_q rfl rfl
def eqsV (neg : Bool) (lay : List SK) : PV → PV → Option PV
  | .agg xs, .agg ys => (eqCells lay xs ys).map fun b => .B (if neg then !b else b)
  | _, _ => none
theorem r_eqs {neg : Bool} {lay : List SK} {x y : CX} : wpOps C (⟨d, .eqs neg lay x y, none⟩ :: os) K M t = b1 (eqsV neg lay (ev t x) (ev t y)) (kont C os K M t d) :=
  wpOps_q rfl (by
  simp only [res, eqsV]
  generalize ev t x = vx; generalize ev t y = vy
  cases vx <;> cases vy <;> first | rfl | simp only [Option.map_map, Function.comp_def])
theorem r_un {op : UnOp} {x : CX} : wpOps C (⟨d, .un op x, none⟩ :: os) K M t = b1 (un op (ev t x)) (kont C os K M t d) := wpOps_q rfl rfl
theorem r_conv {k : IntKind} {x : CX} : wpOps C (⟨d, .conv k x, none⟩ :: os) K M t = b1 (conv k (ev t x)) (kont C os K M t d) := wpOps_q rfl rfl
theorem r_len {x : CX} : wpOps C (⟨d, .len x, none⟩ :: os) K M t = b1 ((lenOf (ev t x)).map fun (n : Nat) => .I (n : Int)) (kont C os K M t d) := wpOps_q rfl (by simp only [res, Option.map_map]; rfl)
def lensV : PV → Option PV
  | .s (.string b) => some (.I (b.size : Int))
  | _ => none
theorem r_lens {x : CX} : wpOps C (⟨d, .lens x, none⟩ :: os) K M t = b1 (lensV (ev t x)) (kont C os K M t d) := wpOps_q rfl (by
  simp only [res, lensV]
  generalize ev t x = vx
  cases vx <;> first | rfl | (rename_i v; cases v <;> first | rfl | simp only [Option.map_map, Function.comp_def]) | (simp only []; split <;> first | rfl | simp only [Option.map_map, Function.comp_def]))
theorem r_max {x : CX} {xs : List CX} : wpOps C (⟨d, .max x xs, none⟩ :: os) K M t = b1 (foldO maxI (ev t x) (xs.map (ev t))) (kont C os K M t d) := wpOps_q rfl rfl
theorem r_min {x : CX} {xs : List CX} : wpOps C (⟨d, .min x xs, none⟩ :: os) K M t = b1 (foldO minI (ev t x) (xs.map (ev t))) (kont C os K M t d) := wpOps_q rfl rfl
theorem r_sop {o : SOp} {xs : List CX} : wpOps C (⟨d, .sop o xs, none⟩ :: os) K M t = b1 (sopV o (xs.map (ev t))) (kont C os K M t d) := wpOps_q rfl rfl
def srngO (M : List Blk) : PV → Option (PV × List Blk)
  | .s (.string b) => some (.oi M.length, M ++ [.siter b 0])
  | _ => none
theorem r_srng {x : CX} : wpOps C (⟨d, .srng x, none⟩ :: os) K M t = b2 (srngO M (ev t x)) (kont2 C os K t d) := by
  rw [wpOps_l rfl]
  apply b2_congr
  simp only [res, srngO]
  generalize ev t x = vx
  cases vx <;> first | rfl | (rename_i v; cases v <;> rfl)
def snxtR (M : List Blk) (i : Nat) : Option Blk → Option (PV × List Blk)
  | some (.siter s pos) => if pos < s.size then some (.tup [.B true, .I pos, .s (.int .i32 (Utf8.decode s pos).1)], M.set i (.siter s (pos + (Utf8.decode s pos).2))) else some (.tup [.B false], M)
  | _ => none
def snxtO (M : List Blk) : PV → Option (PV × List Blk)
  | .oi i => snxtR M i M[i]?
  | _ => none
theorem r_snxt {x : CX} : wpOps C (⟨d, .snxt x, none⟩ :: os) K M t = b2 (snxtO M (ev t x)) (kont2 C os K t d) := by
  rw [wpOps_l rfl]
  apply b2_congr
  simp only [res, snxtO]
  generalize ev t x = vx
  cases vx <;> rfl
def extV (i : Nat) : PV → Option PV
  | .tup vs => vs[i]?
  | _ => none
theorem r_ext {i : Nat} {x : CX} : wpOps C (⟨d, .ext i x, none⟩ :: os) K M t = b1 (extV i (ev t x)) (kont C os K M t d) := wpOps_q rfl (by
  simp only [res, extV]
  generalize ev t x = vx
  cases vx <;> first | rfl | (rename_i v; cases v <;> first | rfl | simp only [Option.map_map, Function.comp_def]) | (simp only []; split <;> first | rfl | simp only [Option.map_map, Function.comp_def]))
def fieldV (off : Nat) (g : Option Nat) : PV → Option PV
  | .agg cs => mkPV g ((cs.drop off).take (g.getD 1))
  | _ => none
theorem r_field {off : Nat} {g : Option Nat} {x : CX} : wpOps C (⟨d, .field off g x, none⟩ :: os) K M t = b1 (fieldV off g (ev t x)) (kont C os K M t d) := wpOps_q rfl (by
  simp only [res, fieldV]
  generalize ev t x = vx
  cases vx <;> first | rfl | (rename_i v; cases v <;> first | rfl | simp only [Option.map_map, Function.comp_def]) | (simp only []; split <;> first | rfl | simp only [Option.map_map, Function.comp_def]))
def idxaV (n k : Nat) (g : Option Nat) : PV → Option Nat → Option PV
  | .agg cs, some m => if m < n then mkPV g ((cs.drop (m * k)).take (g.getD 1)) else none
  | _, _ => none
theorem r_idxa {n k : Nat} {g : Option Nat} {x i : CX} : wpOps C (⟨d, .idxa n k g x i, none⟩ :: os) K M t = b1 (idxaV n k g (ev t x) (asNat (ev t i))) (kont C os K M t d) := wpOps_q rfl (by
  simp only [res, idxaV]
  generalize ev t x = vx; generalize asNat (ev t i) = vi
  cases vx <;> cases vi <;> first | rfl | (simp only []; split <;> rfl))
def idxsV : PV → Option Nat → Option PV
  | .s (.string b), some n => (b[n]?).map fun c => .s (.int .u8 c.toNat)
  | _, _ => none
theorem r_idxs {x i : CX} : wpOps C (⟨d, .idxs x i, none⟩ :: os) K M t = b1 (idxsV (ev t x) (asNat (ev t i))) (kont C os K M t d) := wpOps_q rfl (by
  simp only [res, idxsV]
  generalize ev t x = vx; generalize asNat (ev t i) = vi
  cases vi <;> cases vx <;> first | rfl | (rename_i v; cases v <;> first | rfl | simp only [Option.map_map, Function.comp_def]))
def slstrV : PV → Option PV → Option PV → Option PV
  | .s (.string b), lo, hi => (bounds b.size lo hi).map fun p => .s (.string (b.extract p.1 p.2))
  | _, _, _ => none
theorem r_slstr {x : CX} {lo hi : Option CX} : wpOps C (⟨d, .slstr x lo hi, none⟩ :: os) K M t = b1 (slstrV (ev t x) (lo.map (ev t)) (hi.map (ev t))) (kont C os K M t d) := wpOps_q rfl (by
  simp only [res, slstrV]
  generalize ev t x = vx
  cases vx <;> first | rfl | (rename_i v; cases v <;> first | rfl | simp only [Option.map_map, Function.comp_def]) | (simp only []; split <;> first | rfl | simp only [Option.map_map, Function.comp_def]))
def arrpV (M : List Blk) (n : Nat) : PV → Option PV
  | .fs xs => if n ≤ xs.length ∧ 0 < n then some (.fp ((xs.take n).flatMap PV.cells)) else none
  | .os i ver off len => if n ≤ len ∧ 0 < n then (held M (.os i ver off len)).map fun _ => .op i ver off 0 else none
  | _ => none
theorem r_arrp {n : Nat} {x : CX} : wpOps C (⟨d, .arrp n x, none⟩ :: os) K M t = b1 (arrpV M n (ev t x)) (kont C os K M t d) := wpOps_q rfl (by
  simp only [res, arrpV]
  generalize ev t x = vx
  cases vx <;> first | rfl | (simp only []; split <;> simp [Option.map_map, Function.comp_def]))
def nilcV (M : List Blk) : PV → Option PV
  | .fp cs => some (.fp cs)
  | .op i ver e j => if liveRow M i ver then some (.op i ver e j) else none
  | .fn (.func f) a b => some (.fn (.func f) a b)
  | _ => none
theorem r_nilc {x : CX} : wpOps C (⟨d, .nilc x, none⟩ :: os) K M t = b1 (nilcV M (ev t x)) (kont C os K M t d) := wpOps_q rfl (by
  simp only [res, nilcV]
  generalize ev t x = vx
  cases vx <;> first | rfl | (rename_i f _ _; cases f <;> rfl) | (simp only []; split <;> rfl))
theorem r_mkfn {f : FuncId} {cap : List CX} : wpOps C (⟨d, .mkfn f cap, none⟩ :: os) K M t = wpOps C os K M (put t d (.fn (.func f) [] (cap.map (ev t)))) := wpOps_q (f := some (.fn (.func f) [] (cap.map (ev t)))) rfl rfl
def sliceV (M : List Blk) (k : Nat) : PV → Option PV → Option PV → Option PV
  | .fs xs, lo, hi => if sized k xs then (bounds xs.length lo hi).map fun b => .fs ((xs.drop b.1).take (b.2 - b.1)) else none
  | .s (.slice none 0 0), lo, hi => (bounds 0 lo hi).map fun _ => PV.nilS
  | .os i ver off len, lo, hi => if liveRow M i ver ∧ rowK M i = k then (bounds len lo hi).map fun b => .os i ver (off + b.1) (b.2 - b.1) else none
  | _, _, _ => none
theorem r_slice {k : Nat} {x : CX} {lo hi : Option CX} : wpOps C (⟨d, .slice k x lo hi, none⟩ :: os) K M t = b1 (sliceV M k (ev t x) (lo.map (ev t)) (hi.map (ev t))) (kont C os K M t d) := wpOps_q rfl (by
  simp only [res, sliceV]
  generalize ev t x = vx
  cases vx
  case fs xs => simp only []; by_cases h : sized k xs = true <;> simp [h, Option.map_map, Function.comp_def]
  case os i ver off len => simp only []; by_cases h : liveRow M i ver = true ∧ rowK M i = k <;> simp [h, Option.map_map, Function.comp_def]
  case s v => 
    by_cases e : v = .slice none 0 0
    · subst e; simp only [Option.map_map]; rfl
    · split
      · rename_i h; cases h
      · rename_i h; cases h; exact absurd rfl e
      · rename_i h; cases h
      · split
        · rename_i h; cases h
        · rename_i h; cases h; exact absurd rfl e
        · rename_i h; cases h
        · rfl
  all_goals rfl)
def faddrV (M : List Blk) (off : Nat) : PV → Option PV
  | .fp cs => if off ≤ cs.length then some (.fp (cs.drop off)) else none
  | .op i ver e j => if liveRow M i ver then some (.op i ver e (j + off)) else none
  | _ => none
theorem r_faddr {off : Nat} {x : CX} : wpOps C (⟨d, .faddr off x, none⟩ :: os) K M t = b1 (faddrV M off (ev t x)) (kont C os K M t d) := wpOps_q rfl (by
  simp only [res, faddrV]
  generalize ev t x = vx
  cases vx <;> first | rfl | (simp only []; split <;> rfl))
def elemP (k : Nat) : Option PV → Option PV
  | some y => if y.cells.length = k then some (.fp y.cells) else none
  | none => none
def rowP (k a ver off len n : Nat) : Option Blk → Option PV
  | some (.row _ k' v xs) => if v = ver ∧ k' = k ∧ off + len ≤ xs.length then some (.op a ver (off + n) 0) else none
  | _ => none
def iaddrV (M : List Blk) (k : Nat) : PV → Option Nat → Option PV
  | .fs xs, some n => elemP k (xs[n]?)
  | .os a ver off len, some n => if n < len then rowP k a ver off len n M[a]? else none
  | _, _ => none
theorem r_iaddr {k : Nat} {x i : CX} : wpOps C (⟨d, .iaddr k x i, none⟩ :: os) K M t = b1 (iaddrV M k (ev t x) (asNat (ev t i))) (kont C os K M t d) := wpOps_q rfl (by
  simp only [res, iaddrV]
  generalize ev t x = vx; generalize asNat (ev t i) = vi
  cases vx <;> cases vi <;> try rfl
  · rename_i xs n
    simp only []
    cases xs[n]? with
    | none => rfl
    | some y => simp only [elemP]; split <;> rfl
  · rename_i a _ _ _ _
    simp only []; split
    · cases M[a]? with
      | none => rfl
      | some b => cases b <;> first | rfl | (simp only [rowP]; split <;> rfl)
    · rfl)
def iaddraV (M : List Blk) (n k : Nat) : PV → Option Nat → Option PV
  | .fp cs, some m => if m < n ∧ n * k ≤ cs.length then some (.fp ((cs.drop (m * k)).take k)) else none
  | .op a ver e j, some m => if m < n ∧ liveRow M a ver then some (.op a ver e (j + m * k)) else none
  | _, _ => none
theorem r_iaddra {n k : Nat} {x i : CX} : wpOps C (⟨d, .iaddra n k x i, none⟩ :: os) K M t = b1 (iaddraV M n k (ev t x) (asNat (ev t i))) (kont C os K M t d) := wpOps_q rfl (by
  simp only [res, iaddraV]
  generalize ev t x = vx; generalize asNat (ev t i) = vi
  cases vx <;> cases vi <;> first | rfl | (simp only []; split <;> rfl))
def lookB (z : Value) (ok : Bool) (sk : SK) (q : Value) : Option Blk → Option PV
  | some (.map es) => if keyOk sk q ∧ keysLike q es then
          (match find q es with
           | some v => some (if ok then .tup [.s v, .B true] else .s v)
           | none => some (if ok then .tup [.s z, .B false] else .s z))
          else none
  | _ => none
def lookV (M : List Blk) (sk : SK) (z : Value) (ok : Bool) : PV → PV → Option PV
  | .om i, .s q => lookB z ok sk q M[i]?
  | _, _ => none
theorem r_look {sk : SK} {z : Value} {ok : Bool} {m key : CX} : wpOps C (⟨d, .look sk z ok m key, none⟩ :: os) K M t = b1 (lookV M sk z ok (ev t m) (ev t key)) (kont C os K M t d) := wpOps_q rfl (by
  simp only [res, lookV]
  generalize ev t m = vm; generalize ev t key = vk
  cases vm <;> cases vk <;> try rfl
  rename_i i q
  simp only [lookB]
  cases M[i]? with
  | none => rfl
  | some b => cases b <;> first | rfl | (rename_i es; simp only []; split <;> first | rfl | (cases find q es <;> rfl)))
/-- What lays rows. -/
theorem r_onil {k : Nat} : wpOps C (⟨d, .onil k, none⟩ :: os) K M t = wpOps C os K (M ++ [.row true k 0 []]) (put t d (.os M.length 0 0 0)) := by rw [wpOps_l rfl]; rfl
theorem r_mkmap : wpOps C (⟨d, .mkmap, none⟩ :: os) K M t = wpOps C os K (M ++ [.map []]) (put t d (.om M.length)) := by rw [wpOps_l rfl]; rfl
def allocO (M : List Blk) (k : Nat) : Option PV → Option (PV × List Blk)
  | some e => some (.op M.length 0 0 0, M ++ [.row true k 0 [e]])
  | none => none
theorem r_alloc {g : Option Nat} {z : List Value} : wpOps C (⟨d, .alloc g z, none⟩ :: os) K M t = b2 (allocO M z.length (mkPV g (z.map .s))) (kont2 C os K t d) := by
  rw [wpOps_l rfl]; simp only [res]; cases mkPV g (z.map .s) <;> rfl
def boxO (M : List Blk) (own : Bool) (k : Nat) (v : PV) : Option (PV × List Blk) :=
  if v.cells.length = k ∧ k ≠ 0 then
      if own then some (.op M.length 0 0 0, M ++ [.row true k 0 [v]]) else some (.fp (view M v).cells, M)
    else none
theorem r_box {own : Bool} {k : Nat} {x : CX} : wpOps C (⟨d, .box own k x, none⟩ :: os) K M t = b2 (boxO M own k (ev t x)) (kont2 C os K t d) := wpOps_l rfl
def bslO (M : List Blk) (own : Bool) (k : Nat) (vs : List PV) : Option (PV × List Blk) :=
  if vs.all (fun x => x.cells.length = k) ∧ k ≠ 0 then
      if own then some (.os M.length 0 0 vs.length, M ++ [.row true k 0 vs]) else some (.fs (vs.map (view M)), M)
    else none
theorem r_bsl {own : Bool} {k : Nat} {xs : List CX} : wpOps C (⟨d, .bsl own k xs, none⟩ :: os) K M t = b2 (bslO M own k (xs.map (ev t))) (kont2 C os K t d) := by
  rw [wpOps_l rfl]; simp only [res, bslO, List.length_map, List.map_map, Function.comp_def]
def storeO (M : List Blk) (k : Nat) : PV → PV → Option (PV × List Blk)
  | .op i ver e j, v => if v.cells.length = k ∧ k ≠ 0 then (elemPut M i ver e j v.cells).map (unit, ·) else none
  | _, _ => none
theorem r_store {k : Nat} {a v : CX} : wpOps C (⟨d, .store k a v, none⟩ :: os) K M t = b2 (storeO M k (ev t a) (ev t v)) (kont2 C os K t d) := by
  rw [wpOps_l rfl]; simp only [res, storeO]
  generalize ev t a = va
  cases va <;> rfl
def mkslO (M : List Blk) (k : Nat) (g : Option Nat) (z : List Value) (bytes : Nat) : PV → PV → Option (PV × List Blk)
  | .s (.int .i64 l), .s (.int .i64 c) =>
      if 0 ≤ l ∧ l = c ∧ l ≤ 2 ^ 20 ∧ bytes ≤ 2 ^ 20 ∧ z.length = k ∧ 0 < k then
        (mkPV g (z.map .s)).map fun e => (.os M.length 0 0 l.toNat, M ++ [.row true k 0 (List.replicate l.toNat e)])
      else none
  | _, _ => none
theorem r_mksl {k : Nat} {g : Option Nat} {z : List Value} {bytes : Nat} {a b : CX} : wpOps C (⟨d, .mksl k g z bytes a b, none⟩ :: os) K M t = b2 (mkslO M k g z bytes (ev t a) (ev t b)) (kont2 C os K t d) := by
  rw [wpOps_l rfl]; rfl
def appO (M : List Blk) (k bytes : Nat) (vx : PV) (o : Option (List PV)) : Option (PV × List Blk) :=
    match o with
    | some ys =>
      if ys.all (okElem k) ∧ k ≠ 0 ∧ bytes ≤ 2 ^ 20 then
        match vx with
        | .s (.slice none 0 0) => if ys.length ≤ 2 ^ 20 then some (.os M.length 0 0 ys.length, M ++ [.row true k 0 ys]) else none
        | .os i ver off len => match M[i]? with
          | some (.row true k' v xs) =>
            if v = ver ∧ k' = k ∧ off + len ≤ xs.length ∧ len + ys.length ≤ 2 ^ 20 then
              some (.os i (ver + 1) 0 (len + ys.length), M.set i (.row true k (ver + 1) ((xs.drop off).take len ++ ys)))
            else none
          | _ => none
        | _ => none
      else none
    | none => none
theorem app_eq {k bytes : Nat} {x y : CX} : res M (ev t) (.append k bytes x y) = appO M k bytes (ev t x) (held M (ev t y)) := nrfl rfl
def appR (M : List Blk) (k bytes i ver off len : Nat) (ys : List PV) : Option Blk → Option (PV × List Blk)
  | some (.row true k' v xs) => if (ys.all (okElem k) ∧ k ≠ 0 ∧ bytes ≤ 2 ^ 20) ∧ v = ver ∧ k' = k ∧ off + len ≤ xs.length ∧ len + ys.length ≤ 2 ^ 20 then
              some (.os i (ver + 1) 0 (len + ys.length), M.set i (.row true k (ver + 1) ((xs.drop off).take len ++ ys))) else none
  | _ => none
theorem appO_os {k bytes i ver off len : Nat} {ys : List PV} : appO M k bytes (.os i ver off len) (some ys) = appR M k bytes i ver off len ys M[i]? := by
  simp only [appO, appR]
  cases M[i]? with
  | none => simp
  | some b =>
    cases b with
    | row w k' v xs =>
      cases w
      · simp
      · simp only []
        by_cases h : ys.all (okElem k) = true ∧ k ≠ 0 ∧ bytes ≤ 2 ^ 20
        · rw [if_pos h]
          by_cases h2 : v = ver ∧ k' = k ∧ off + len ≤ xs.length ∧ len + ys.length ≤ 2 ^ 20
          · rw [if_pos h2, if_pos ⟨h, h2⟩]
          · rw [if_neg h2, if_neg (fun h3 => h2 h3.2)]
        · rw [if_neg h, if_neg (fun h3 => h h3.1)]
    | _ => simp
/-- A row of the call's own grows. -/
theorem appR_own {M : List Blk} {k bytes i ver len : Nat} {xs ys : List PV} (hl : len = xs.length) (hy : ys.all (okElem k) = true) (hk : k ≠ 0) (hb : bytes ≤ 2 ^ 20) (hs : xs.length + ys.length ≤ 1048576) :
    appR M k bytes i ver 0 len ys (some (.row true k ver xs)) = some (.os i (ver + 1) 0 (len + ys.length), M.set i (.row true k (ver + 1) (xs ++ ys))) := by
  subst hl
  have e : (xs.drop 0).take xs.length = xs := by simp
  show (if (ys.all (okElem k) = true ∧ k ≠ 0 ∧ bytes ≤ 2 ^ 20) ∧ ver = ver ∧ k = k ∧ 0 + xs.length ≤ xs.length ∧ xs.length + ys.length ≤ 2 ^ 20 then some (PV.os i (ver + 1) 0 (xs.length + ys.length), M.set i (Blk.row true k (ver + 1) ((xs.drop 0).take xs.length ++ ys))) else none) = _
  rw [if_pos ⟨⟨hy, hk, hb⟩, rfl, rfl, by omega, by omega⟩, e]
theorem appO_nil {M : List Blk} {k bytes : Nat} {ys : List PV} (hy : ys.all (okElem k) = true) (hk : k ≠ 0) (hb : bytes ≤ 2 ^ 20) (hs : ys.length ≤ 1048576) :
    appO M k bytes PV.nilS (some ys) = some (.os M.length 0 0 ys.length, M ++ [.row true k 0 ys]) := by
  simp only [appO]
  rw [if_pos ⟨hy, hk, hb⟩, if_pos (by omega)]
theorem r_append {k bytes : Nat} {x y : CX} : wpOps C (⟨d, .append k bytes x y, none⟩ :: os) K M t = b2 (appO M k bytes (ev t x) (held M (ev t y))) (kont2 C os K t d) := by
  rw [wpOps_l rfl, app_eq]
def freezeO : Option (PV × List Blk) → Option (PV × List Blk)
  | some (v, M) => (freezeAll M v.cells).map fun M' => (view M' v, M')
  | none => none
theorem r_fz {c : COp} {r : Option (PV × List Blk)} (h : res M (ev t) c = r) : wpOps C (⟨d, .fz c, none⟩ :: os) K M t = b2 (freezeO r) (kont2 C os K t d) := by
  subst h
  apply propext
  show (∃ v M', (∃ v0 M1, res M (ev t) c = some (v0, M1) ∧ freezeAll M1 v0.cells = some M' ∧ v = view M' v0) ∧ wpOps C os K M' (put t d v)) ↔ _
  cases hr : res M (ev t) c with
  | none => simp [freezeO, b2]
  | some p =>
    obtain ⟨v0, M1⟩ := p
    cases hf : freezeAll M1 v0.cells with
    | none => simp [freezeO, b2, hf]
    | some M2 =>
      simp only [freezeO, b2, hf, kont2, Option.map_some]
      constructor
      · rintro ⟨v, M', ⟨v1, M3, h1, h2, rfl⟩, h3⟩
        cases h1
        rw [hf] at h2; cases h2
        exact h3
      · exact fun h => ⟨_, _, ⟨_, _, rfl, hf, rfl⟩, h⟩
theorem r_fzmov {x : CX} : wpOps C (⟨d, .fz (.mov x), none⟩ :: os) K M t = b2 (freezeO (some (ev t x, M))) (kont2 C os K t d) := r_fz rfl
theorem r_fzapp {k bytes : Nat} {x y : CX} : wpOps C (⟨d, .fz (.append k bytes x y), none⟩ :: os) K M t = b2 (freezeO (appO M k bytes (ev t x) (held M (ev t y)))) (kont2 C os K t d) := r_fz app_eq
def mupdB (M : List Blk) (i : Nat) (sk : SK) (q u : Value) : Option Blk → Option (PV × List Blk)
  | some (.map es) => if keyOk sk q ∧ keysLike q es then some (unit, M.set i (.map (upd q u es))) else none
  | _ => none
def mupdO (M : List Blk) (sk : SK) : PV → PV → PV → Option (PV × List Blk)
  | .om i, .s q, .s u => mupdB M i sk q u M[i]?
  | _, _, _ => none
theorem r_mupd {sk : SK} {m key v : CX} : wpOps C (⟨d, .mupd sk m key v, none⟩ :: os) K M t = b2 (mupdO M sk (ev t m) (ev t key) (ev t v)) (kont2 C os K t d) := by
  rw [wpOps_l rfl]
  simp only [res, mupdO]
  generalize ev t m = vm; generalize ev t key = vk; generalize ev t v = vv
  cases vm <;> cases vk <;> cases vv <;> rfl
def gK (x : PV) (want : Bool) (C : CallR) (d : Option Nat) (o : COp) (os : List COper) (K : (List Blk) → List PV → Prop) (M : List Blk) (t : List PV) : Prop :=
  guardW x want (wpOps C (⟨d, o, none⟩ :: os) K M t) (wpOps C os K M (put t d unit))
theorem r_guard {o : COp} {g : Nat} {want : Bool} : wpOps C (⟨d, o, some (g, want)⟩ :: os) K M t = gK (t.getD g .top) want C d o os K M t := nrfl rfl
theorem gK_congr {x x' : PV} {want : Bool} {o : COp} (h : x = x') : gK x want C d o os K M t = gK x' want C d o os K M t := by rw [h]
theorem gK_tt {o : COp} : gK (.B true) true C d o os K M t = wpOps C (⟨d, o, none⟩ :: os) K M t := by unfold gK; rw [guardW_B]; rfl
theorem gK_ff {o : COp} : gK (.B false) false C d o os K M t = wpOps C (⟨d, o, none⟩ :: os) K M t := by unfold gK; rw [guardW_B]; rfl
theorem gK_tf {o : COp} : gK (.B true) false C d o os K M t = wpOps C os K M (put t d unit) := by unfold gK; rw [guardW_B]; rfl
theorem gK_ft {o : COp} : gK (.B false) true C d o os K M t = wpOps C os K M (put t d unit) := by unfold gK; rw [guardW_B]; rfl
theorem gK_unit {o : COp} {want : Bool} : gK unit want C d o os K M t = wpOps C os K M (put t d unit) := by unfold gK; rw [guardW_unit]
theorem gK_cases {c want : Bool} {o : COp} (h1 : c = true → gK (.B true) want C d o os K M t) (h2 : c = false → gK (.B false) want C d o os K M t) : gK (.B c) want C d o os K M t := by
  cases c
  · exact h2 rfl
  · exact h1 rfl
def cK (x : PV) (C : CallR) (n0 : Nat) (a b : CCode) (Q : Post) (M : List Blk) (t : List PV) : Prop := guardP x true (Wp C n0 a Q M t) (Wp C n0 b Q M t)
theorem r_cond {c : CX} {a b : CCode} : Wp C n0 (.cond c a b) Q M t = cK (ev t c) C n0 a b Q M t := by rw [Wp_cond]; rfl
theorem cK_congr {x x' : PV} {a b : CCode} (h : x = x') : cK x C n0 a b Q M t = cK x' C n0 a b Q M t := by rw [h]
theorem cK_t {a b : CCode} : cK (.B true) C n0 a b Q M t = Wp C n0 a Q M t := by unfold cK; rw [guardP_B]; rfl
theorem cK_f {a b : CCode} : cK (.B false) C n0 a b Q M t = Wp C n0 b Q M t := by unfold cK; rw [guardP_B]; rfl
theorem cK_cases {c : Bool} {a b : CCode} (h1 : c = true → cK (.B true) C n0 a b Q M t) (h2 : c = false → cK (.B false) C n0 a b Q M t) : cK (.B c) C n0 a b Q M t := by
  cases c
  · exact h2 rfl
  · exact h1 rfl
def callP (C : CallR) (lo : Bool) (g : Callee) (args : List PV) (M : List Blk) (k : PV → List Blk → Prop) : Prop := ∃ v M', (lo = false → M' = M) ∧ C g args M v M' ∧ k v M'
theorem r_call {lo : Bool} {g : FuncId} {args : List CX} : wpOps C (⟨d, .call lo (.inr g) args, none⟩ :: os) K M t = callP C lo (.fn g) (args.map (argV M (ev t))) M (kont2 C os K t d) := by
  apply propext
  show (∃ v M', ((lo = false → M' = M) ∧ C (.fn g) (args.map (argV M (ev t))) M v M') ∧ wpOps C os K M' (put t d v)) ↔ _
  exact ⟨fun ⟨v, M', ⟨h1, h2⟩, h3⟩ => ⟨v, M', h1, h2, h3⟩, fun ⟨v, M', h1, h2, h3⟩ => ⟨v, M', ⟨h1, h2⟩, h3⟩⟩
def callV (C : CallR) (lo : Bool) (f : PV) (args : List PV) (M : List Blk) (k : PV → List Blk → Prop) : Prop :=
  match f with
  | .fn (.func g) first cap => callP C lo (.fn g) (first ++ args ++ cap) M k
  | .yl i => callP C lo (.yl i) args M k
  | _ => False
theorem r_callv {lo : Bool} {x : CX} {args : List CX} : wpOps C (⟨d, .call lo (.inl x) args, none⟩ :: os) K M t = callV C lo (ev t x) (args.map (argV M (ev t))) M (kont2 C os K t d) := by
  apply propext
  show (∃ v M', ((lo = false → M' = M) ∧ (match ev t x with
      | .fn (.func g) first cap => C (.fn g) (first ++ args.map (argV M (ev t)) ++ cap) M v M'
      | .yl i => C (.yl i) (args.map (argV M (ev t))) M v M'
      | _ => False)) ∧ wpOps C os K M' (put t d v)) ↔ _
  unfold callV
  split
  · exact ⟨fun ⟨v, M', ⟨h1, h2⟩, h3⟩ => ⟨v, M', h1, h2, h3⟩, fun ⟨v, M', h1, h2, h3⟩ => ⟨v, M', ⟨h1, h2⟩, h3⟩⟩
  · exact ⟨fun ⟨v, M', ⟨h1, h2⟩, h3⟩ => ⟨v, M', h1, h2, h3⟩, fun ⟨v, M', h1, h2, h3⟩ => ⟨v, M', ⟨h1, h2⟩, h3⟩⟩
  · simp
theorem callV_fn {lo : Bool} {g : FuncId} {first cap args : List PV} {k : PV → List Blk → Prop} : callV C lo (.fn (.func g) first cap) args M k = callP C lo (.fn g) (first ++ args ++ cap) M k := nrfl rfl
theorem callV_yl {lo : Bool} {i : Nat} {args : List PV} {k : PV → List Blk → Prop} : callV C lo (.yl i) args M k = callP C lo (.yl i) args M k := nrfl rfl
theorem callP_q {lo : Bool} {g : Callee} {args : List PV} {k : PV → List Blk → Prop} {r : PV} (h : C g args M r M) (hk : k r M) : callP C lo g args M k := ⟨r, M, fun _ => rfl, h, hk⟩
theorem callP_l {g : Callee} {args : List PV} {k : PV → List Blk → Prop} {r : PV} {M' : List Blk} (h : C g args M r M') (hk : k r M') : callP C true g args M k := ⟨r, M', (fun h => by cases h), h, hk⟩
theorem kont2_eq {v : PV} {M' : List Blk} : kont2 C os K t d v M' = wpOps C os K M' (put t d v) := nrfl rfl
theorem Wp_keep {ks : List Nat} : Wp C n0 (.keep ks) Q M t = Q .normal M (keepL ks t) := nrfl rfl
def fixP (Q : Post) (i : Nat) (v : PV) (t : List PV) : Option (List Blk) → Prop
  | some M' => Q .normal M' (t.set i (view M' v))
  | none => False
theorem Wp_fix {i : Nat} : Wp C n0 (.fix i) Q M t = fixP Q i (t.getD i .top) t (freezeAll M (t.getD i .top).cells) := by
  apply propext
  show (∃ M', freezeAll M (t.getD i .top).cells = some M' ∧ Q .normal M' (t.set i (view M' (t.getD i .top)))) ↔ _
  cases freezeAll M (t.getD i .top).cells with
  | none => simp [fixP]
  | some M' => simp [fixP]
theorem fixP_some {i : Nat} {v : PV} {M' : List Blk} : fixP Q i v t (some M') = Q .normal M' (t.set i (view M' v)) := nrfl rfl
/-- A round comes back to the head, further on. -/
def Again {α : Type} (n : Nat) (I : α → Prop) (σ : α → List Blk) (τ : α → List (Nat × PV)) (μ : α → Nat) (x : α) (M : List Blk) (t : List PV) : Prop := ∃ y, I y ∧ μ y < μ x ∧ M = σ y ∧ t = mk n (τ y)
theorem again' {α : Type} {n : Nat} {I : α → Prop} {σ : α → List Blk} {τ : α → List (Nat × PV)} {μ : α → Nat} {x : α} {kvs : List (Nat × PV)} (y : α) (h1 : I y) (h2 : μ y < μ x) (h3 : M = σ y) (h4 : kvs = τ y) : Again n I σ τ μ x M (mk n kvs) := ⟨y, h1, h2, h3, by rw [h4]⟩
/-- A loop, its state told as a short list. -/
theorem loop_mk {c : CCode} {n : Nat} {kvs : List (Nat × PV)} {α : Type} (x0 : α) (I : α → Prop) (σ : α → List Blk) (τ : α → List (Nat × PV)) (μ : α → Nat) (h0 : I x0) (hM : M = σ x0) (ht : kvs = τ x0)
    (h : ∀ x, I x → Wp C n0 c (thenK (Again n I σ τ μ x) Q) (σ x) (mk n (τ x))) : Wp C n0 (.loop c) Q M (mk n kvs) := by
  subst hM; subst ht
  exact loop_inv I σ (fun x => mk n (τ x)) μ h x0 h0
end
theorem post_ret {n : Nat} {rs : List (Nat × Option (Option Nat))} {r : PV} {M N : List Blk} {t : List PV} {vs : List PV} {e : Ex} (he : match e with | .ret | .normal => True | _ => False) (hM : lowM M.length M) (hn : n = M.length)
    (hv : resOf (M ++ N) t rs = some vs) (hr : mkRes M.length (M ++ N) vs = r) (hl : r.low M.length) : bodyPost n rs r M e (M ++ N) t := by
  subst hn
  exact ⟨he, M.length, Nat.le_refl _, by simp, by simpa using hM, by simp, vs, hv, .inl hr.symm, hl⟩
theorem post_ret0 {n : Nat} {rs : List (Nat × Option (Option Nat))} {r : PV} {M : List Blk} {t : List PV} {vs : List PV} {e : Ex} (he : match e with | .ret | .normal => True | _ => False) (hM : lowM M.length M) (hn : n = M.length)
    (hv : resOf M t rs = some vs) (hr : mkRes M.length M vs = r) (hl : r.low M.length) : bodyPost n rs r M e M t := by
  have := post_ret (N := []) (r := r) (rs := rs) (t := t) (vs := vs) he hM hn (by simpa using hv) (by simpa using hr) hl
  simpa using this
end Go.Nac

