/- Running plain code: temporaries as a short list, and equations for simp. -/
import Derived.Test.YtbmicihfhfcpkaaW03
import Derived.OpenShut
import Derived.ChangeArms
import Derived.Below
import Derived.Carry
import Derived.ChangeShapes
import Derived.Sort.Grow
import Derived.Deep.Draws
set_option linter.unusedVariables false
set_option linter.unusedSimpArgs false
namespace Go.Nac
def lk (i:Nat):List (Nat × PV) → PV
 | [] => .top
 | (j,v) :: r => if i = j then v else lk i r
theorem QnO {i:Nat}:lk i [] = .top:=nrfl rfl
theorem QmA {i j:Nat} {v:PV} {r:List (Nat × PV)}:lk i ((j,v) :: r) = if i = j then v else lk i r:=nrfl rfl
def mk (n:Nat) (kvs:List (Nat × PV)):List PV:=(List.range n).map fun i => lk i kvs
theorem Qcj {n:Nat} {kvs:List (Nat × PV)}:(mk n kvs).length = n:=by simp [mk]
theorem Qc4 {n i:Nat} {kvs:List (Nat × PV)}:(mk n kvs).getD i .top = if i < n then lk i kvs else .top:=by
 rw [List.getD_eq_getElem?_getD,mk,List.getElem?_map]
 split
 ·rename_i h;rw [List.getElem?_range h];rfl
 ·rename_i h;rw [List.getElem?_eq_none (by simpa using h)];rfl
theorem QdY {n d:Nat} {v:PV} {kvs:List (Nat × PV)}:(mk n kvs).set d v = mk n ((d,v) :: kvs):=by
 apply List.ext_getElem?
 intro i
 by_cases e:i = d
 ·subst e
  by_cases h:i < n
  ·rw [List.getElem?_set_self (by rw [Qcj];exact h)]
   simp [mk,h,lk]
  ·rw [List.getElem?_eq_none (by simp [mk];omega),List.getElem?_eq_none (by simp [mk];omega)]
 ·rw [List.getElem?_set_ne (Ne.symm e)]
  simp only [mk,List.getElem?_map,lk]
  by_cases h:i < n
  ·rw [List.getElem?_range h];simp [e]
  ·rw [List.getElem?_eq_none (by simpa using h)];rfl
theorem Qnx {n d:Nat} {v:PV} {kvs:List (Nat × PV)}:put (mk n kvs) (some d) v = mk n ((d,v) :: kvs):=QdY
theorem ev_mk {n i:Nat} {kvs:List (Nat × PV)}:ev (mk n kvs) (.t i) = if i < n then lk i kvs else .top:=Qc4
theorem QkJ {n:Nat} {ks:List Nat} {kvs:List (Nat × PV)}:keepL ks (mk n kvs) = mk n (ks.map fun k => (k,lk k kvs)):=by
 unfold keepL
 rw [Qcj]
 apply List.ext_getElem?
 intro i
 simp only [mk,List.getElem?_map]
 by_cases h:i < n
 ·rw [List.getElem?_range h]
  simp only [Option.map_some,Option.some.injEq]
  have e1:(mk n kvs).getD i .top = lk i kvs:=by rw [Qc4,if_pos h]
  unfold mk at e1
  rw [e1]
  induction ks with
  | nil => simp [lk]
  | cons k ks ih =>
   simp only [List.contains_cons,List.map_cons,lk]
   by_cases e:i = k
   ·subst e;simp
   ·rw [if_neg e,← ih];simp [e]
 ·rw [List.getElem?_eq_none (by simpa using h)];rfl
def keepK (kvs:List (Nat × PV)):List Nat → List (Nat × PV)
 | [] => []
 | k :: ks => (k,lk k kvs) :: keepK kvs ks
theorem Qig {kvs:List (Nat × PV)}:keepK kvs [] = []:=nrfl rfl
theorem Qbk {kvs:List (Nat × PV)} {k:Nat} {ks:List Nat}:keepK kvs (k :: ks) = (k,lk k kvs) :: keepK kvs ks:=nrfl rfl
theorem QlA {n:Nat} {ks:List Nat} {kvs:List (Nat × PV)}:keepL ks (mk n kvs) = mk n (keepK kvs ks):=by
 rw [QkJ]
 congr 1
 induction ks with
 | nil => rfl
 | cons k ks ih => rw [Qbk,← ih];rfl
theorem JX (args:List PV) (n:Nat) (h:args.length ≤ n):args ++ List.replicate (n - args.length) .top = mk n (args.zipIdx.map fun p => (p.2,p.1)):=by
 have key:∀ (as:List PV) (j i:Nat),lk (j + i) ((as.zipIdx j).map fun p => (p.2,p.1)) = as.getD i .top:=by
  intro as
  induction as with
  | nil => intro j i;simp [lk]
  | cons a as ih =>
   intro j i
   simp only [List.zipIdx_cons,List.map_cons,lk]
   cases i with
   | zero => simp
   | succ i => rw [if_neg (by omega),show j + (i + 1) = (j + 1) + i from by omega,ih];simp
 apply List.ext_getElem?
 intro i
 by_cases hi:i < n
 ·simp only [mk,List.getElem?_map]
  rw [List.getElem?_range hi,Option.map_some]
  have:=key args 0 i
  rw [Nat.zero_add] at this
  rw [this,List.getElem?_append,List.getD_eq_getElem?_getD]
  split
  ·rename_i h1;rw [List.getElem?_eq_getElem h1];rfl
  ·rename_i h1;rw [List.getElem?_replicate,if_pos (by omega),List.getElem?_eq_none (by omega)];rfl
 ·rw [List.getElem?_eq_none (by simp;omega),List.getElem?_eq_none (by simp [mk];omega)]
theorem Qr {m n:Nat} {kvs:List (Nat × PV)} (h:lowL m (kvs.map Prod.snd)):lowL m (mk n kvs):=by
 rw [VU]
 intro x hx
 obtain ⟨i,_,rfl⟩:=List.mem_map.1 hx
 clear hx
 induction kvs with
 | nil => simp [lk,PV.low]
 | cons p kvs ih =>
  obtain ⟨j,v⟩:=p
  simp only [List.map_cons,lowL] at h
  simp only [lk]
  split
  ·exact h.1
  ·exact ih h.2
section
variable {C:CallR} {n0:Nat} {Q:Post} {K:(List Blk) → List PV → Prop} {M:(List Blk)} {t:List PV} {d:Option Nat} {os:List COper}
def b1 (o:Option PV) (f:PV → Prop):Prop:=match o with|some v => f v|none => False
def b2 (o:Option (PV × List Blk)) (f:PV → List Blk → Prop):Prop:=match o with|some (v,M) => f v M|none => False
def kont (C:CallR) (os:List COper) (K:(List Blk) → List PV → Prop) (M:List Blk) (t:List PV) (d:Option Nat):PV → Prop:=fun v => wpOps C os K M (put t d v)
def kont2 (C:CallR) (os:List COper) (K:(List Blk) → List PV → Prop) (t:List PV) (d:Option Nat):PV → List Blk → Prop:=fun v M => wpOps C os K M (put t d v)
theorem QaZ {o o':Option PV} {f:PV → Prop} (h:o = o'):b1 o f = b1 o' f:=by rw [h]
theorem Ye {o o':Option (PV × List Blk)} {f:PV → List Blk → Prop} (h:o = o'):b2 o f = b2 o' f:=by rw [h]
theorem QlX {v:PV}:b1 (some v) (kont C os K M t d) = wpOps C os K M (put t d v):=nrfl rfl
theorem Qmp {v:PV} {M':List Blk}:b2 (some (v,M')) (kont2 C os K t d) = wpOps C os K M' (put t d v):=nrfl rfl
theorem Qz {o:COp} (h:o.isCall = false) {f:Option PV} (hf:res M (ev t) o = f.map (·,M)):wpOps C (⟨d,o,none⟩ :: os) K M t = b1 f (kont C os K M t d):=by
 rw [QdN h,hf]
 cases f <;> rfl
theorem QP {o:COp} (h:o.isCall = false):wpOps C (⟨d,o,none⟩ :: os) K M t = b2 (res M (ev t) o) (kont2 C os K t d):=by
 rw [QdN h]
 cases res M (ev t) o <;> rfl
theorem r_mov {x:CX}:wpOps C (⟨d,.mov x,none⟩ :: os) K M t = wpOps C os K M (put t d (ev t x)):=Qz (f:=some (ev t x)) rfl rfl
theorem Qnj {c a b:CX}:wpOps C (⟨d,.pick c a b,none⟩ :: os) K M t = b1 (pickV (ev t c) (ev t a) (ev t b)) (kont C os K M t d):=Qz rfl rfl
theorem QmS {z:List Value} {ps:List (Nat × Nat × CX)}:wpOps C (⟨d,.build z ps,none⟩ :: os) K M t = b1 ((Q5 (z.map .s) (ps.map fun p => (p.1,p.2.1,ev t p.2.2))).map .agg) (kont C os K M t d) :=
 Qz rfl (by simp only [res,Option.map_map];rfl)
theorem Qnc {g:Option Nat} {x:CX}:wpOps C (⟨d,.load g x,none⟩ :: os) K M t = b1 (Vh M g (ev t x)) (kont C os K M t d):=Qz rfl rfl
theorem r_bin {op:BinOp} {x y:CX}:wpOps C (⟨d,.bin op x y,none⟩ :: os) K M t = b1 (bin op (ev t x) (ev t y)) (kont C os K M t d):=Qz rfl rfl
theorem Qod {op:BinOp} {x y:CX}:wpOps C (⟨d,.binb op x y,none⟩ :: os) K M t = b1 (binb op (ev t x) (ev t y)) (kont C os K M t d):=Qz rfl rfl
def eqsV (neg:Bool) (lay:List SK):PV → PV → Option PV
 | .agg xs,.agg ys => (QL lay xs ys).map fun b => .B (if neg then !b else b)
 | _,_ => none
theorem r_eqs {neg:Bool} {lay:List SK} {x y:CX}:wpOps C (⟨d,.eqs neg lay x y,none⟩ :: os) K M t = b1 (eqsV neg lay (ev t x) (ev t y)) (kont C os K M t d) :=
 Qz rfl (by
 simp only [res,eqsV]
 generalize ev t x = vx;generalize ev t y = vy
 cases vx <;> cases vy <;> first|rfl|simp only [Option.map_map,Function.comp_def])
theorem r_un {op:UnOp} {x:CX}:wpOps C (⟨d,.un op x,none⟩ :: os) K M t = b1 (un op (ev t x)) (kont C os K M t d):=Qz rfl rfl
theorem QnW {k:IntKind} {x:CX}:wpOps C (⟨d,.conv k x,none⟩ :: os) K M t = b1 (conv k (ev t x)) (kont C os K M t d):=Qz rfl rfl
theorem r_len {x:CX}:wpOps C (⟨d,.len x,none⟩ :: os) K M t = b1 ((lenOf (ev t x)).map fun (n:Nat) => .I (n:Int)) (kont C os K M t d):=Qz rfl (by simp only [res,Option.map_map];rfl)
def lensV:PV → Option PV
 | .s (.string b) => some (.I (b.size:Int))
 | _ => none
theorem QnM {x:CX}:wpOps C (⟨d,.lens x,none⟩ :: os) K M t = b1 (lensV (ev t x)) (kont C os K M t d):=Qz rfl (by
 simp only [res,lensV]
 generalize ev t x = vx
 cases vx <;> first|rfl|(rename_i v;cases v <;> first|rfl|simp only [Option.map_map,Function.comp_def])|(simp only [];split <;> first|rfl|simp only [Option.map_map,Function.comp_def]))
theorem r_max {x:CX} {xs:List CX}:wpOps C (⟨d,.max x xs,none⟩ :: os) K M t = b1 (foldO maxI (ev t x) (xs.map (ev t))) (kont C os K M t d):=Qz rfl rfl
theorem r_min {x:CX} {xs:List CX}:wpOps C (⟨d,.min x xs,none⟩ :: os) K M t = b1 (foldO minI (ev t x) (xs.map (ev t))) (kont C os K M t d):=Qz rfl rfl
theorem r_sop {o:SOp} {xs:List CX}:wpOps C (⟨d,.sop o xs,none⟩ :: os) K M t = b1 (sopV o (xs.map (ev t))) (kont C os K M t d):=Qz rfl rfl
theorem QmT {n:Nat} {x:CX}:wpOps C (⟨d,.arrsl n x,none⟩ :: os) K M t = b1 (QbN n (ev t x)) (kont C os K M t d):=Qz rfl rfl
def srngO (M:List Blk):PV → Option (PV × List Blk)
 | .s (.string b) => some (.oi M.length,M ++ [.siter (.str b 0)])
 | _ => none
theorem Qof {x:CX}:wpOps C (⟨d,.srng x,none⟩ :: os) K M t = b2 (srngO M (ev t x)) (kont2 C os K t d):=by
 rw [QP rfl]
 apply Ye
 simp only [res,srngO]
 generalize ev t x = vx
 cases vx <;> first|rfl|(rename_i v;cases v <;> rfl)
def snxtR (M:List Blk) (i:Nat):Option Blk → Option (PV × List Blk)
 | some (.siter (.str s pos)) => if pos < s.size then some (.tup [.B true,.I pos,.s (.int .i32 (Utf8.decode s pos).1)],M.set i (.siter (.str s (pos + (Utf8.decode s pos).2)))) else some (.tup [.B false],M)
 | _ => none
def snxtO (M:List Blk):PV → Option (PV × List Blk)
 | .oi i => snxtR M i M[i]?
 | _ => none
theorem QnV {x:CX}:wpOps C (⟨d,.snxt x,none⟩ :: os) K M t = b2 (snxtO M (ev t x)) (kont2 C os K t d):=by
 rw [QP rfl]
 apply Ye
 simp only [res,snxtO]
 generalize ev t x = vx
 cases vx <;> rfl
def extV (i:Nat):PV → Option PV
 | .tup vs => vs[i]?
 | _ => none
theorem r_ext {i:Nat} {x:CX}:wpOps C (⟨d,.ext i x,none⟩ :: os) K M t = b1 (extV i (ev t x)) (kont C os K M t d):=Qz rfl (by
 simp only [res,extV]
 generalize ev t x = vx
 cases vx <;> first|rfl|(rename_i v;cases v <;> first|rfl|simp only [Option.map_map,Function.comp_def])|(simp only [];split <;> first|rfl|simp only [Option.map_map,Function.comp_def]))
def QbI (off:Nat) (g:Option Nat):PV → Option PV
 | .agg cs => mkPV g ((cs.drop off).take (g.getD 1))
 | _ => none
theorem Qmn {off:Nat} {g:Option Nat} {x:CX}:wpOps C (⟨d,.field off g x,none⟩ :: os) K M t = b1 (QbI off g (ev t x)) (kont C os K M t d):=Qz rfl (by
 simp only [res,QbI]
 generalize ev t x = vx
 cases vx <;> first|rfl|(rename_i v;cases v <;> first|rfl|simp only [Option.map_map,Function.comp_def])|(simp only [];split <;> first|rfl|simp only [Option.map_map,Function.comp_def]))
def idxaV (n k:Nat) (g:Option Nat):PV → Option Nat → Option PV
 | .agg cs,some m => if m < n then mkPV g ((cs.drop (m * k)).take (g.getD 1)) else none
 | _,_ => none
theorem Qm9 {n k:Nat} {g:Option Nat} {x i:CX}:wpOps C (⟨d,.idxa n k g x i,none⟩ :: os) K M t = b1 (idxaV n k g (ev t x) (asNat (ev t i))) (kont C os K M t d):=Qz rfl (by
 simp only [res,idxaV]
 generalize ev t x = vx;generalize asNat (ev t i) = vi
 cases vx <;> cases vi <;> first|rfl|(simp only [];split <;> rfl))
def idxsV:PV → Option Nat → Option PV
 | .s (.string b),some n => (b[n]?).map fun c => .s (.int .u8 c.toNat)
 | _,_ => none
theorem Qnw {x i:CX}:wpOps C (⟨d,.idxs x i,none⟩ :: os) K M t = b1 (idxsV (ev t x) (asNat (ev t i))) (kont C os K M t d):=Qz rfl (by
 simp only [res,idxsV]
 generalize ev t x = vx;generalize asNat (ev t i) = vi
 cases vi <;> cases vx <;> first|rfl|(rename_i v;cases v <;> first|rfl|simp only [Option.map_map,Function.comp_def]))
def Qho:PV → Option PV → Option PV → Option PV
 | .s (.string b),lo,hi => (bounds b.size lo hi).map fun p => .s (.string (b.extract p.1 p.2))
 | _,_,_ => none
theorem Qmy {x:CX} {lo hi:Option CX}:wpOps C (⟨d,.slstr x lo hi,none⟩ :: os) K M t = b1 (Qho (ev t x) (lo.map (ev t)) (hi.map (ev t))) (kont C os K M t d):=Qz rfl (by
 simp only [res,Qho]
 generalize ev t x = vx
 cases vx <;> first|rfl|(rename_i v;cases v <;> first|rfl|simp only [Option.map_map,Function.comp_def])|(simp only [];split <;> first|rfl|simp only [Option.map_map,Function.comp_def]))
def arrpV (M:List Blk) (n:Nat):PV → Option PV
 | .fs xs => if n ≤ xs.length ∧ 0 < n then some (.fp ((xs.take n).flatMap PV.cells)) else none
 | .os i ver off len => if n ≤ len ∧ 0 < n then (held M (.os i ver off len)).map fun _ => .op i ver off 0 else none
 | _ => none
theorem Qn6 {n:Nat} {x:CX}:wpOps C (⟨d,.arrp n x,none⟩ :: os) K M t = b1 (arrpV M n (ev t x)) (kont C os K M t d):=Qz rfl (by
 simp only [res,arrpV]
 generalize ev t x = vx
 cases vx <;> first|rfl|(simp only [];split <;> simp [Option.map_map,Function.comp_def]))
def nilcV (M:List Blk):PV → Option PV
 | .fp cs => some (.fp cs)
 | .op i ver e j => if QT M i ver then some (.op i ver e j) else none
 | .fn (.func f) a b => some (.fn (.func f) a b)
 | _ => none
theorem Qm7 {x:CX}:wpOps C (⟨d,.nilc x,none⟩ :: os) K M t = b1 (nilcV M (ev t x)) (kont C os K M t d):=Qz rfl (by
 simp only [res,nilcV]
 generalize ev t x = vx
 cases vx <;> first|rfl|(rename_i f _ _;cases f <;> rfl)|(simp only [];split <;> rfl))
theorem Qnh {f:FuncId} {cap:List CX}:wpOps C (⟨d,.mkfn f cap,none⟩ :: os) K M t = wpOps C os K M (put t d (.fn (.func f) [] (cap.map (ev t)))):=Qz (f:=some (.fn (.func f) [] (cap.map (ev t)))) rfl rfl
def YU (M:List Blk) (k:Nat):PV → Option PV → Option PV → Option PV
 | .fs xs,lo,hi => if sized k xs then (bounds xs.length lo hi).map fun b => .fs ((xs.drop b.1).take (b.2 - b.1)) else none
 | .s (.slice none 0 0),lo,hi => (bounds 0 lo hi).map fun _ => PV.nilS
 | .os i ver off len,lo,hi => if QT M i ver ∧ rowK M i = k then (bounds len lo hi).map fun b => .os i ver (off + b.1) (b.2 - b.1) else none
 | _,_,_ => none
theorem QmC {k:Nat} {x:CX} {lo hi:Option CX}:wpOps C (⟨d,.slice k x lo hi,none⟩ :: os) K M t = b1 (YU M k (ev t x) (lo.map (ev t)) (hi.map (ev t))) (kont C os K M t d):=Qz rfl (by
 simp only [res,YU]
 generalize ev t x = vx
 cases vx
 case fs xs => simp only [];by_cases h:sized k xs = true <;> simp [h,Option.map_map,Function.comp_def]
 case os i ver off len => simp only [];by_cases h:QT M i ver = true ∧ rowK M i = k <;> simp [h,Option.map_map,Function.comp_def]
 case s v =>
  by_cases e:v = .slice none 0 0
  ·subst e;simp only [Option.map_map];rfl
  ·split
   ·rename_i h;cases h
   ·rename_i h;cases h;exact absurd rfl e
   ·rename_i h;cases h
   ·split
    ·rename_i h;cases h
    ·rename_i h;cases h;exact absurd rfl e
    ·rename_i h;cases h
    ·rfl
 all_goals rfl)
def Jl (M:List Blk) (off:Nat):PV → Option PV
 | .fp cs => if off ≤ cs.length then some (.fp (cs.drop off)) else none
 | .op i ver e j => if QT M i ver then some (.op i ver e (j + off)) else none
 | _ => none
theorem QlF {off:Nat} {x:CX}:wpOps C (⟨d,.faddr off x,none⟩ :: os) K M t = b1 (Jl M off (ev t x)) (kont C os K M t d):=Qz rfl (by
 simp only [res,Jl]
 generalize ev t x = vx
 cases vx <;> first|rfl|(simp only [];split <;> rfl))
def elemP (k:Nat):Option PV → Option PV
 | some y => if y.cells.length = k then some (.fp y.cells) else none
 | none => none
def rowP (k a ver off len n:Nat):Option Blk → Option PV
 | some (.row _ k' v xs) => if v = ver ∧ k' = k ∧ off + len ≤ xs.length then some (.op a ver (off + n) 0) else none
 | _ => none
def Qao (M:List Blk) (k:Nat):PV → Option Nat → Option PV
 | .fs xs,some n => elemP k (xs[n]?)
 | .os a ver off len,some n => if n < len then rowP k a ver off len n M[a]? else none
 | _,_ => none
theorem QkT {k:Nat} {x i:CX}:wpOps C (⟨d,.iaddr k x i,none⟩ :: os) K M t = b1 (Qao M k (ev t x) (asNat (ev t i))) (kont C os K M t d):=Qz rfl (by
 simp only [res,Qao]
 generalize ev t x = vx;generalize asNat (ev t i) = vi
 cases vx <;> cases vi <;> try rfl
 ·rename_i xs n
  simp only []
  cases xs[n]? with
  | none => rfl
  | some y => simp only [elemP];split <;> rfl
 ·rename_i a _ _ _ _
  simp only [];split
  ·cases M[a]? with
   | none => rfl
   | some b => cases b <;> first | rfl | (simp only [rowP];split <;> rfl)
  ·rfl)
def Jv (M:List Blk) (n k:Nat):PV → Option Nat → Option PV
 | .fp cs,some m => if m < n ∧ n * k ≤ cs.length then some (.fp ((cs.drop (m * k)).take k)) else none
 | .op a ver e j,some m => if m < n ∧ QT M a ver then some (.op a ver e (j + m * k)) else none
 | _,_ => none
theorem QjE {n k:Nat} {x i:CX}:wpOps C (⟨d,.iaddra n k x i,none⟩ :: os) K M t = b1 (Jv M n k (ev t x) (asNat (ev t i))) (kont C os K M t d):=Qz rfl (by
 simp only [res,Jv]
 generalize ev t x = vx;generalize asNat (ev t i) = vi
 cases vx <;> cases vi <;> first|rfl|(simp only [];split <;> rfl))
def lookB (z:Value) (ok:Bool) (sk:SK) (q:Value):Option Blk → Option PV
  | some (.map es) => if keyOk sk q ∧ Q7 q es then
          (match find q es with
           | some v => some (if ok then .tup [.s v,.B true] else .s v)
           | none => some (if ok then .tup [.s z,.B false] else .s z))
          else none
  | _ => none
def lookV (M:List Blk) (sk:SK) (z:Value) (ok:Bool):PV → PV → Option PV
 | .om i,.s q => lookB z ok sk q M[i]?
 | _,_ => none
theorem Qoj {sk:SK} {z:Value} {ok:Bool} {m key:CX}:wpOps C (⟨d,.look sk z ok m key,none⟩ :: os) K M t = b1 (lookV M sk z ok (ev t m) (ev t key)) (kont C os K M t d):=Qz rfl (by
 simp only [res,lookV]
 generalize ev t m = vm;generalize ev t key = vk
 cases vm <;> cases vk <;> try rfl
 rename_i i q
 simp only [lookB]
 cases M[i]? with
 | none => rfl
 | some b => cases b <;> first | rfl | (rename_i es;simp only [];split <;> first | rfl | (cases find q es <;> rfl)))
theorem QnY {k:Nat}:wpOps C (⟨d,.onil k,none⟩ :: os) K M t = wpOps C os K (M ++ [.row true k 0 []]) (put t d (.os M.length 0 0 0)):=by rw [QP rfl];rfl
theorem QlN:wpOps C (⟨d,.mkmap,none⟩ :: os) K M t = wpOps C os K (M ++ [.map []]) (put t d (.om M.length)):=by rw [QP rfl];rfl
def Qha (M:List Blk) (k:Nat):Option PV → Option (PV × List Blk)
 | some e => some (.op M.length 0 0 0,M ++ [.row true k 0 [e]])
 | none => none
theorem Ql0 {g:Option Nat} {z:List Value}:wpOps C (⟨d,.alloc g z,none⟩ :: os) K M t = b2 (Qha M z.length (mkPV g (z.map .s))) (kont2 C os K t d):=by
 rw [QP rfl];simp only [res];cases mkPV g (z.map .s) <;> rfl
def boxO (M:List Blk) (own:Bool) (k:Nat) (v:PV):Option (PV × List Blk) :=
 if v.cells.length = k ∧ k ≠ 0 then
   if own then some (.op M.length 0 0 0,M ++ [.row true k 0 [v]]) else some (.fp (view M v).cells,M)
  else none
theorem r_box {own:Bool} {k:Nat} {x:CX}:wpOps C (⟨d,.box own k x,none⟩ :: os) K M t = b2 (boxO M own k (ev t x)) (kont2 C os K t d):=QP rfl
def bslO (M:List Blk) (own:Bool) (k:Nat) (vs:List PV):Option (PV × List Blk) :=
 if vs.all (fun x => x.cells.length = k) ∧ k ≠ 0 then
   if own then some (.os M.length 0 0 vs.length,M ++ [.row true k 0 vs]) else some (.fs (vs.map (view M)),M)
  else none
theorem r_bsl {own:Bool} {k:Nat} {xs:List CX}:wpOps C (⟨d,.bsl own k xs,none⟩ :: os) K M t = b2 (bslO M own k (xs.map (ev t))) (kont2 C os K t d):=by
 rw [QP rfl];simp only [res,bslO,List.length_map,List.map_map,Function.comp_def]
def Qbz (M:List Blk) (k:Nat):PV → PV → Option (PV × List Blk)
 | .op i ver e j,v => if v.cells.length = k ∧ k ≠ 0 then (Vd M i ver e j v.cells).map (unit,·) else none
 | _,_ => none
theorem Qlh {k:Nat} {a v:CX}:wpOps C (⟨d,.store k a v,none⟩ :: os) K M t = b2 (Qbz M k (ev t a) (ev t v)) (kont2 C os K t d):=by
 rw [QP rfl];simp only [res,Qbz]
 generalize ev t a = va
 cases va <;> rfl
def mkslO (M:List Blk) (k:Nat) (g:Option Nat) (z:List Value) (bytes:Nat):PV → PV → Option (PV × List Blk)
 | .s (.int .i64 l),.s (.int .i64 c) =>
   if 0 ≤ l ∧ l = c ∧ l ≤ 2 ^ 20 ∧ bytes ≤ 2 ^ 20 ∧ z.length = k ∧ 0 < k then
    (mkPV g (z.map .s)).map fun e => (.os M.length 0 0 l.toNat,M ++ [.row true k 0 (List.replicate l.toNat e)])
   else none
 | _,_ => none
theorem Qnp {k:Nat} {g:Option Nat} {z:List Value} {bytes:Nat} {a b:CX}:wpOps C (⟨d,.mksl k g z bytes a b,none⟩ :: os) K M t = b2 (mkslO M k g z bytes (ev t a) (ev t b)) (kont2 C os K t d):=by
 rw [QP rfl];rfl
def appO (M:List Blk) (k bytes:Nat) (vx:PV) (o:Option (List PV)):Option (PV × List Blk) :=
  match o with
  | some ys =>
   if ys.all (QX k) ∧ k ≠ 0 ∧ bytes ≤ 2 ^ 20 then
    match vx with
    | .s (.slice none 0 0) => if ys.length ≤ 2 ^ 20 then some (.os M.length 0 0 ys.length,M ++ [.row true k 0 ys]) else none
    | .os i ver off len => match M[i]? with
     | some (.row true k' v xs) =>
      if v = ver ∧ k' = k ∧ off + len ≤ xs.length ∧ len + ys.length ≤ 2 ^ 20 then
       some (.os i (ver + 1) 0 (len + ys.length),M.set i (.row true k (ver + 1) ((xs.drop off).take len ++ ys)))
      else none
     | _ => none
    | _ => none
   else none
  | none => none
theorem Qiz {k bytes:Nat} {x y:CX}:res M (ev t) (.append k bytes x y) = appO M k bytes (ev t x) (held M (ev t y)):=nrfl rfl
def appR (M:List Blk) (k bytes i ver off len:Nat) (ys:List PV):Option Blk → Option (PV × List Blk)
 | some (.row true k' v xs) => if (ys.all (QX k) ∧ k ≠ 0 ∧ bytes ≤ 2 ^ 20) ∧ v = ver ∧ k' = k ∧ off + len ≤ xs.length ∧ len + ys.length ≤ 2 ^ 20 then
       some (.os i (ver + 1) 0 (len + ys.length),M.set i (.row true k (ver + 1) ((xs.drop off).take len ++ ys))) else none
 | _ => none
theorem QmX {k bytes i ver off len:Nat} {ys:List PV}:appO M k bytes (.os i ver off len) (some ys) = appR M k bytes i ver off len ys M[i]?:=by
 simp only [appO,appR]
 cases M[i]? with
 | none => simp
 | some b =>
  cases b with
  | row w k' v xs =>
   cases w
   ·simp
   ·simp only []
    by_cases h:ys.all (QX k) = true ∧ k ≠ 0 ∧ bytes ≤ 2 ^ 20
    ·rw [if_pos h]
     by_cases h2:v = ver ∧ k' = k ∧ off + len ≤ xs.length ∧ len + ys.length ≤ 2 ^ 20
     ·rw [if_pos h2,if_pos ⟨h,h2⟩]
     ·rw [if_neg h2,if_neg (fun h3 => h2 h3.2)]
    ·rw [if_neg h,if_neg (fun h3 => h h3.1)]
  | _ => simp
theorem Qda {M:List Blk} {k bytes i ver len:Nat} {xs ys:List PV} (hl:len = xs.length) (hy:ys.all (QX k) = true) (hk:k ≠ 0) (hb:bytes ≤ 2 ^ 20) (hs:xs.length + ys.length ≤ 1048576) :
  appR M k bytes i ver 0 len ys (some (.row true k ver xs)) = some (.os i (ver + 1) 0 (len + ys.length),M.set i (.row true k (ver + 1) (xs ++ ys))):=by
 subst hl
 have e:(xs.drop 0).take xs.length = xs:=by simp
 show (if (ys.all (QX k) = true ∧ k ≠ 0 ∧ bytes ≤ 2 ^ 20) ∧ ver = ver ∧ k = k ∧ 0 + xs.length ≤ xs.length ∧ xs.length + ys.length ≤ 2 ^ 20 then some (PV.os i (ver + 1) 0 (xs.length + ys.length),M.set i (Blk.row true k (ver + 1) ((xs.drop 0).take xs.length ++ ys))) else none) = _
 rw [if_pos ⟨⟨hy,hk,hb⟩,rfl,rfl,by omega,by omega⟩,e]
theorem Qdg {M:List Blk} {k bytes:Nat} {ys:List PV} (hy:ys.all (QX k) = true) (hk:k ≠ 0) (hb:bytes ≤ 2 ^ 20) (hs:ys.length ≤ 1048576) :
  appO M k bytes PV.nilS (some ys) = some (.os M.length 0 0 ys.length,M ++ [.row true k 0 ys]):=by
 simp only [appO]
 rw [if_pos ⟨hy,hk,hb⟩,if_pos (by omega)]
theorem QiU {k bytes:Nat} {x y:CX}:wpOps C (⟨d,.append k bytes x y,none⟩ :: os) K M t = b2 (appO M k bytes (ev t x) (held M (ev t y))) (kont2 C os K t d):=by
 rw [QP rfl,Qiz]
def ZK:Option (PV × List Blk) → Option (PV × List Blk)
 | some (v,M) => (QF M v.cells).map fun M' => (view M' v,M')
 | none => none
theorem r_fz {c:COp} {r:Option (PV × List Blk)} (h:res M (ev t) c = r):wpOps C (⟨d,.fz c,none⟩ :: os) K M t = b2 (ZK r) (kont2 C os K t d):=by
 subst h
 apply propext
 show (∃ v M',(∃ v0 M1,res M (ev t) c = some (v0,M1) ∧ QF M1 v0.cells = some M' ∧ v = view M' v0) ∧ wpOps C os K M' (put t d v)) ↔ _
 cases hr:res M (ev t) c with
 | none => simp [ZK,b2]
 | some p =>
  obtain ⟨v0,M1⟩:=p
  cases hf:QF M1 v0.cells with
  | none => simp [ZK,b2,hf]
  | some M2 =>
   simp only [ZK,b2,hf,kont2,Option.map_some]
   constructor
   ·rintro ⟨v,M',⟨v1,M3,h1,h2,rfl⟩,h3⟩
    cases h1
    rw [hf] at h2;cases h2
    exact h3
   ·exact fun h => ⟨_,_,⟨_,_,rfl,hf,rfl⟩,h⟩
theorem QlL {x:CX}:wpOps C (⟨d,.fz (.mov x),none⟩ :: os) K M t = b2 (ZK (some (ev t x,M))) (kont2 C os K t d):=r_fz rfl
theorem Qmq {k bytes:Nat} {x y:CX}:wpOps C (⟨d,.fz (.append k bytes x y),none⟩ :: os) K M t = b2 (ZK (appO M k bytes (ev t x) (held M (ev t y)))) (kont2 C os K t d):=r_fz Qiz
def mupdB (M:List Blk) (i:Nat) (sk:SK) (q u:Value):Option Blk → Option (PV × List Blk)
 | some (.map es) => if keyOk sk q ∧ Q7 q es then some (unit,M.set i (.map (upd q u es))) else none
 | _ => none
def mupdO (M:List Blk) (sk:SK):PV → PV → PV → Option (PV × List Blk)
 | .om i,.s q,.s u => mupdB M i sk q u M[i]?
 | _,_,_ => none
theorem QnZ {sk:SK} {m key v:CX}:wpOps C (⟨d,.mupd sk m key v,none⟩ :: os) K M t = b2 (mupdO M sk (ev t m) (ev t key) (ev t v)) (kont2 C os K t d):=by
 rw [QP rfl]
 simp only [res,mupdO]
 generalize ev t m = vm;generalize ev t key = vk;generalize ev t v = vv
 cases vm <;> cases vk <;> cases vv <;> rfl
def gK (x:PV) (want:Bool) (C:CallR) (d:Option Nat) (o:COp) (os:List COper) (K:(List Blk) → List PV → Prop) (M:List Blk) (t:List PV):Prop :=
 QbW x want (wpOps C (⟨d,o,none⟩ :: os) K M t) (wpOps C os K M (put t d unit))
theorem QmN {o:COp} {g:Nat} {want:Bool}:wpOps C (⟨d,o,some (g,want)⟩ :: os) K M t = gK (t.getD g .top) want C d o os K M t:=nrfl rfl
theorem Qbi {x x':PV} {want:Bool} {o:COp} (h:x = x'):gK x want C d o os K M t = gK x' want C d o os K M t:=by rw [h]
theorem gK_tt {o:COp}:gK (.B true) true C d o os K M t = wpOps C (⟨d,o,none⟩ :: os) K M t:=by unfold gK;rw [JE];rfl
theorem gK_ff {o:COp}:gK (.B false) false C d o os K M t = wpOps C (⟨d,o,none⟩ :: os) K M t:=by unfold gK;rw [JE];rfl
theorem gK_tf {o:COp}:gK (.B true) false C d o os K M t = wpOps C os K M (put t d unit):=by unfold gK;rw [JE];rfl
theorem gK_ft {o:COp}:gK (.B false) true C d o os K M t = wpOps C os K M (put t d unit):=by unfold gK;rw [JE];rfl
theorem QlC {o:COp} {want:Bool}:gK unit want C d o os K M t = wpOps C os K M (put t d unit):=by unfold gK;rw [Qeo]
theorem QA {c want:Bool} {o:COp} (h1:c = true → gK (.B true) want C d o os K M t) (h2:c = false → gK (.B false) want C d o os K M t):gK (.B c) want C d o os K M t:=by
 cases c
 ·exact h2 rfl
 ·exact h1 rfl
def cK (x:PV) (C:CallR) (n0:Nat) (a b:CCode) (Q:Post) (M:List Blk) (t:List PV):Prop:=J3 x true (Wp C n0 a Q M t) (Wp C n0 b Q M t)
theorem Qns {c:CX} {a b:CCode}:Wp C n0 (.cond c a b) Q M t = cK (ev t c) C n0 a b Q M t:=by rw [Qlx];rfl
theorem Qbj {x x':PV} {a b:CCode} (h:x = x'):cK x C n0 a b Q M t = cK x' C n0 a b Q M t:=by rw [h]
theorem cK_t {a b:CCode}:cK (.B true) C n0 a b Q M t = Wp C n0 a Q M t:=by unfold cK;rw [QdB];rfl
theorem cK_f {a b:CCode}:cK (.B false) C n0 a b Q M t = Wp C n0 b Q M t:=by unfold cK;rw [QdB];rfl
theorem Qi {c:Bool} {a b:CCode} (h1:c = true → cK (.B true) C n0 a b Q M t) (h2:c = false → cK (.B false) C n0 a b Q M t):cK (.B c) C n0 a b Q M t:=by
 cases c
 ·exact h2 rfl
 ·exact h1 rfl
def callP (C:CallR) (lo:Bool) (g:Callee) (args:List PV) (M:List Blk) (k:PV → List Blk → Prop):Prop:=∃ v M',(lo = false → M' = M) ∧ C g args M v M' ∧ k v M'
theorem Qot {lo:Bool} {g:FuncId} {args:List CX}:wpOps C (⟨d,.call lo (.inr g) args,none⟩ :: os) K M t = callP C lo (.fn g) (args.map (argV M (ev t))) M (kont2 C os K t d):=by
 apply propext
 show (∃ v M',((lo = false → M' = M) ∧ C (.fn g) (args.map (argV M (ev t))) M v M') ∧ wpOps C os K M' (put t d v)) ↔ _
 exact ⟨fun ⟨v,M',⟨h1,h2⟩,h3⟩ => ⟨v,M',h1,h2,h3⟩,fun ⟨v,M',h1,h2,h3⟩ => ⟨v,M',⟨h1,h2⟩,h3⟩⟩
def callV (C:CallR) (lo:Bool) (f:PV) (args:List PV) (M:List Blk) (k:PV → List Blk → Prop):Prop :=
 match f with
 | .fn (.func g) first cap => callP C lo (.fn g) (first ++ args ++ cap) M k
 | .yl i => callP C lo (.yl i) args M k
 | _ => False
theorem Qln {lo:Bool} {x:CX} {args:List CX}:wpOps C (⟨d,.call lo (.inl x) args,none⟩ :: os) K M t = callV C lo (ev t x) (args.map (argV M (ev t))) M (kont2 C os K t d):=by
 apply propext
 show (∃ v M',((lo = false → M' = M) ∧ (match ev t x with
   | .fn (.func g) first cap => C (.fn g) (first ++ args.map (argV M (ev t)) ++ cap) M v M'
   | .yl i => C (.yl i) (args.map (argV M (ev t))) M v M'
   | _ => False)) ∧ wpOps C os K M' (put t d v)) ↔ _
 unfold callV
 split
 ·exact ⟨fun ⟨v,M',⟨h1,h2⟩,h3⟩ => ⟨v,M',h1,h2,h3⟩,fun ⟨v,M',h1,h2,h3⟩ => ⟨v,M',⟨h1,h2⟩,h3⟩⟩
 ·exact ⟨fun ⟨v,M',⟨h1,h2⟩,h3⟩ => ⟨v,M',h1,h2,h3⟩,fun ⟨v,M',h1,h2,h3⟩ => ⟨v,M',⟨h1,h2⟩,h3⟩⟩
 ·simp
theorem Qkk {lo:Bool} {g:FuncId} {first cap args:List PV} {k:PV → List Blk → Prop}:callV C lo (.fn (.func g) first cap) args M k = callP C lo (.fn g) (first ++ args ++ cap) M k:=nrfl rfl
theorem QjB {lo:Bool} {i:Nat} {args:List PV} {k:PV → List Blk → Prop}:callV C lo (.yl i) args M k = callP C lo (.yl i) args M k:=nrfl rfl
theorem Qb {lo:Bool} {g:Callee} {args:List PV} {k:PV → List Blk → Prop} {r:PV} (h:C g args M r M) (hk:k r M):callP C lo g args M k:=⟨r,M,fun _ => rfl,h,hk⟩
theorem V7 {g:Callee} {args:List PV} {k:PV → List Blk → Prop} {r:PV} {M':List Blk} (h:C g args M r M') (hk:k r M'):callP C true g args M k:=⟨r,M',(fun h => by cases h),h,hk⟩
theorem QjJ {v:PV} {M':List Blk}:kont2 C os K t d v M' = wpOps C os K M' (put t d v):=nrfl rfl
theorem QlV {ks:List Nat}:Wp C n0 (.keep ks) Q M t = Q .normal M (keepL ks t):=nrfl rfl
def fixP (Q:Post) (i:Nat) (v:PV) (t:List PV):Option (List Blk) → Prop
 | some M' => Q .normal M' (t.set i (view M' v))
 | none => False
theorem Qnv {i:Nat}:Wp C n0 (.fix i) Q M t = fixP Q i (t.getD i .top) t (QF M (t.getD i .top).cells):=by
 apply propext
 show (∃ M',QF M (t.getD i .top).cells = some M' ∧ Q .normal M' (t.set i (view M' (t.getD i .top)))) ↔ _
 cases QF M (t.getD i .top).cells with
 | none => simp [fixP]
 | some M' => simp [fixP]
theorem QhA {i:Nat} {v:PV} {M':List Blk}:fixP Q i v t (some M') = Q .normal M' (t.set i (view M' v)):=nrfl rfl
def Again {α:Type} (n:Nat) (I:α → Prop) (σ:α → List Blk) (τ:α → List (Nat × PV)) (μ:α → Nat) (x:α) (M:List Blk) (t:List PV):Prop:=∃ y,I y ∧ μ y < μ x ∧ M = σ y ∧ t = mk n (τ y)
theorem again' {α:Type} {n:Nat} {I:α → Prop} {σ:α → List Blk} {τ:α → List (Nat × PV)} {μ:α → Nat} {x:α} {kvs:List (Nat × PV)} (y:α) (h1:I y) (h2:μ y < μ x) (h3:M = σ y) (h4:kvs = τ y):Again n I σ τ μ x M (mk n kvs):=⟨y,h1,h2,h3,by rw [h4]⟩
theorem Qm {c:CCode} {n:Nat} {kvs:List (Nat × PV)} {α:Type} (x0:α) (I:α → Prop) (σ:α → List Blk) (τ:α → List (Nat × PV)) (μ:α → Nat) (h0:I x0) (hM:M = σ x0) (ht:kvs = τ x0)
  (h:∀ x,I x → Wp C n0 c (thenK (Again n I σ τ μ x) Q) (σ x) (mk n (τ x))):Wp C n0 (.loop c) Q M (mk n kvs):=by
 subst hM;subst ht
 exact QkC I σ (fun x => mk n (τ x)) μ h x0 h0
end
theorem QdQ {n:Nat} {rs:List (Nat × Option (Option Nat))} {r:PV} {M N:List Blk} {t:List PV} {vs:List PV} {e:Ex} (he:match e with|.ret|.normal => True|_ => False) (hM:lowM M.length M) (hn:n = M.length)
  (hv:resOf (M ++ N) t rs = some vs) (hr:mkRes M.length (M ++ N) vs = r) (hl:r.low M.length):VC n rs r M e (M ++ N) t:=by
 subst hn
 exact ⟨he,M.length,Nat.le_refl _,by simp,by simpa using hM,by simp,vs,hv,.inl hr.symm,hl⟩
theorem Qis {n:Nat} {rs:List (Nat × Option (Option Nat))} {r:PV} {M:List Blk} {t:List PV} {vs:List PV} {e:Ex} (he:match e with|.ret|.normal => True|_ => False) (hM:lowM M.length M) (hn:n = M.length)
  (hv:resOf M t rs = some vs) (hr:mkRes M.length M vs = r) (hl:r.low M.length):VC n rs r M e M t:=by
 have:=QdQ (N:=[]) (r:=r) (rs:=rs) (t:=t) (vs:=vs) he hM hn (by simpa using hv) (by simpa using hr) hl
 simpa using this
end Go.Nac
namespace Go.Nac
section
variable {M:List Blk} {k:IntKind} {a b:Int} {p q:Bool} {x y z:PV} {xs ys cs:List PV}
theorem Qjc:lenOf (.fs xs) = some xs.length:=nrfl rfl
theorem Qjh {i v o n:Nat}:lenOf (.os i v o n) = some n:=nrfl rfl
theorem Qiy:lenOf (.s (.slice none 0 0)) = some 0:=nrfl rfl
theorem Qmd {s:ByteArray}:lensV (.s (.string s)) = some (.I (s.size:Int)):=nrfl rfl
theorem Qm0:bin .add (.s (.int k a)) (.s (.int k b)) = some (.s (.int k (k.wrap (a + b)))):=by simp [bin,isSh,VD]
theorem QlG:bin .sub (.s (.int k a)) (.s (.int k b)) = some (.s (.int k (k.wrap (a - b)))):=by simp [bin,isSh,VD]
theorem Qlj:bin .mul (.s (.int k a)) (.s (.int k b)) = some (.s (.int k (k.wrap (a * b)))):=by simp [bin,isSh,VD]
theorem Qla:bin .quo (.s (.int k a)) (.s (.int k b)) = if b = 0 then none else some (.s (.int k (k.wrap (a.tdiv b)))):=by simp only [bin,isSh,VD,Bool.false_eq_true,if_false,if_true];split <;> rfl
theorem QlE:bin .rem (.s (.int k a)) (.s (.int k b)) = if b = 0 then none else some (.s (.int k (a.tmod b))):=by simp only [bin,isSh,VD,Bool.false_eq_true,if_false,if_true];split <;> rfl
theorem Qml:bin .eql (.s (.int k a)) (.s (.int k b)) = some (.B (decide (a = b))):=by simp only [bin,isSh,VD,Bool.false_eq_true,if_false,if_true,Option.map_some];congr
theorem QmI:bin .neq (.s (.int k a)) (.s (.int k b)) = some (.B (decide (¬ a = b))):=by
 simp only [bin,isSh,VD,Bool.false_eq_true,if_false,if_true,Option.map_some,Option.some.injEq,PV.s.injEq,Value.bool.injEq]
 by_cases h:a = b <;> simp [h]
theorem Qk6:bin .lss (.s (.int k a)) (.s (.int k b)) = some (.B (decide (a < b))):=by simp [bin,isSh,VD]
theorem QmB:bin .leq (.s (.int k a)) (.s (.int k b)) = some (.B (decide (a ≤ b))):=by simp [bin,isSh,VD]
theorem Ql1:bin .gtr (.s (.int k a)) (.s (.int k b)) = some (.B (decide (b < a))):=by simp [bin,isSh,VD]
theorem Qk7:bin .geq (.s (.int k a)) (.s (.int k b)) = some (.B (decide (b ≤ a))):=by simp [bin,isSh,VD]
theorem Qlq {b:ByteArray}:srngO M (.s (.string b)) = some (.oi M.length,M ++ [.siter (.str b 0)]):=nrfl rfl
theorem QgZ {n:Nat} (h:n ≤ cs.length) (h1:0 < n) (h2:(cs.take n).all oneB = true):QbN n (.fp cs) = some (.fs (cs.take n)):=if_pos ⟨h,h1,h2⟩
theorem QjD {i:Nat}:snxtO M (.oi i) = snxtR M i M[i]?:=nrfl rfl
theorem Qf3 {i pos:Nat} {s:ByteArray} (h:pos < s.size):snxtR M i (some (.siter (.str s pos))) = some (.tup [.B true,.I pos,.s (.int .i32 (Utf8.decode s pos).1)],M.set i (.siter (.str s (pos + (Utf8.decode s pos).2)))):=if_pos h
theorem QfG {i pos:Nat} {s:ByteArray} (h:¬ pos < s.size):snxtR M i (some (.siter (.str s pos))) = some (.tup [.B false],M):=if_neg h
theorem QkA {fk:FloatKind}:sopV (.itf fk) [.s (.int k a)] = some (.s (.float fk (fk.nearest a))):=nrfl rfl
theorem Qll {fk:FloatKind} {u:Nat}:sopV (.ff fk) [.s (.float fk u)] = some (.s (.float fk u)):=by simp only [sopV,if_true]
theorem Qey {fk:FloatKind} {u:Nat}:(PV.s (.float fk u)).cells = [.s (.float fk u)]:=nrfl rfl
theorem QgR {fk:FloatKind}:(PV.nan fk).cells = [.nan fk]:=nrfl rfl
theorem Qgo {fk:FloatKind} {u:Nat}:oneB (.s (.float fk u)) = true:=nrfl rfl
theorem QiO {fk:FloatKind}:oneB (.nan fk) = true:=nrfl rfl
theorem QfD {fk:FloatKind} {u:Nat}:view M (.s (.float fk u)) = .s (.float fk u):=nrfl rfl
theorem Qj3 {fk:FloatKind}:view M (.nan fk) = .nan fk:=nrfl rfl
theorem Qk2 {i:Nat}:view M (.oi i) = .oi i:=nrfl rfl
theorem Qek {fk:FloatKind} {u:Nat}:view1 M (.s (.float fk u)) = .s (.float fk u):=nrfl rfl
theorem Qhm {fk:FloatKind}:view1 M (.nan fk) = .nan fk:=nrfl rfl
theorem Qgn {n:Nat} {fk:FloatKind} {u:Nat}:outV n M (.s (.float fk u)) = .s (.float fk u):=nrfl rfl
theorem Qj2 {n:Nat} {fk:FloatKind}:outV n M (.nan fk) = .nan fk:=nrfl rfl
theorem QfR {n:Nat} {fk:FloatKind} {u:Nat}:out1 n M (.s (.float fk u)) = .s (.float fk u):=nrfl rfl
theorem QjC:binb .eql (.B p) (.B q) = some (.B (p == q)):=nrfl rfl
theorem Qi4:binb .neq (.B p) (.B q) = some (.B (!(p == q))):=nrfl rfl
theorem Qm6:un .neg (.s (.int k a)) = some (.s (.int k (k.wrap (-a)))):=by simp [un]
theorem QnH:un .not (.B p) = some (.B (!p)):=nrfl rfl
theorem Qkt {k':IntKind}:conv k' (.s (.int k a)) = some (.s (.int k' (k'.wrap a))):=nrfl rfl
theorem Qmm:pickV (.B true) x y = some x:=nrfl rfl
theorem QmP:pickV (.B false) x y = some y:=nrfl rfl
theorem QjX:pickV (.B p) (.B true) (.B q) = some (.B (p || q)):=by cases p <;> rfl
theorem QiA:pickV (.B p) (.B q) (.B false) = some (.B (p && q)):=by cases p <;> rfl
theorem QhY:asNat (.s (.int k a)) = if 0 ≤ a then some a.toNat else none:=nrfl rfl
theorem Qme {a:Int} (h:-9223372036854775808 ≤ a ∧ a ≤ 9223372036854775807):IntKind.i64.wrap a = a:=Qcy h
theorem QjS {i:Nat}:extV i (.tup xs) = xs[i]?:=nrfl rfl
theorem Qhz {f:PV → PV → Option PV}:foldO f x [] = some x:=nrfl rfl
theorem Qga {f:PV → PV → Option PV}:foldO f x (y :: xs) = (f x y).bind fun z => foldO f z xs:=nrfl rfl
theorem Qkb:maxI (.s (.int k a)) (.s (.int k b)) = some (.s (.int k (max a b))):=by
 simp only [maxI,if_true,Option.some.injEq,PV.s.injEq,Value.int.injEq,true_and];omega
theorem QiZ:minI (.s (.int k a)) (.s (.int k b)) = some (.s (.int k (min a b))):=by
 simp only [minI,if_true,Option.some.injEq,PV.s.injEq,Value.int.injEq,true_and];omega
theorem Qhc:(PV.agg cs).cells = cs:=nrfl rfl
theorem Ql2 {v:Value}:(PV.s v).cells = [.s v]:=nrfl rfl
theorem Qkl:(PV.fs cs).cells = [.fs cs]:=nrfl rfl
theorem QiI {i v o n:Nat}:(PV.os i v o n).cells = [.os i v o n]:=nrfl rfl
theorem Qko {i v o n:Nat}:(PV.op i v o n).cells = [.op i v o n]:=nrfl rfl
theorem Qkn {i:Nat}:(PV.om i).cells = [.om i]:=nrfl rfl
theorem QkN:(PV.fp cs).cells = [.fp cs]:=nrfl rfl
theorem Qkq {f:Fn}:(PV.fn f xs ys).cells = [.fn f xs ys]:=nrfl rfl
theorem QjU:oneB (.s (.int k a)) = true:=nrfl rfl
theorem Qhy:oneB (.s (.bool p)) = true:=nrfl rfl
theorem QiR {s:ByteArray}:oneB (.s (.string s)) = true:=nrfl rfl
theorem QiQ:oneB (.s (.slice none 0 0)) = true:=nrfl rfl
theorem QkZ:oneB (.fs xs) = true:=nrfl rfl
theorem Qli {i v o n:Nat}:oneB (.os i v o n) = true:=nrfl rfl
theorem Qmi {i v o n:Nat}:oneB (.op i v o n) = true:=nrfl rfl
theorem QmL {i:Nat}:oneB (.om i) = true:=nrfl rfl
theorem Qix {n:Nat}:QX n x = (x.cells.length == n && x.cells.all oneB):=nrfl rfl
theorem QhG:mkPV none [x] = some x:=nrfl rfl
theorem Qcu {n:Nat} (h:xs.length = n):mkPV (some n) xs = some (.agg xs):=by simp [mkPV,h]
theorem QhS {n:Nat} (h:n ≤ cs.length):Vh M (some n) (.fp cs) = some (.agg (cs.take n)):=by
 simp only [Vh,Option.getD_some];exact Qcu (by simp;omega)
theorem QfQ:Vh M none (.fp (x :: cs)) = some x:=by simp [Vh,mkPV]
def QbT (ver e j n:Nat):Option Blk → Option (List PV)
 | some (.row _ _ v xs) =>
  if v = ver then
   match xs[e]? with
   | some x => if j + n ≤ x.cells.length then some ((x.cells.drop j).take n) else
     if j + n ≤ ((xs.drop e).flatMap PV.cells).length then some ((((xs.drop e).flatMap PV.cells).drop j).take n) else none
   | none => none
  else none
 | _ => none
theorem Qgu {i ver e j n:Nat}:Zt M i ver e j n = QbT ver e j n M[i]?:=by
 unfold Zt
 cases M[i]? with
 | none => rfl
 | some b => cases b <;> rfl
theorem QhW {g:Option Nat} {i ver e j:Nat}:Vh M g (.op i ver e j) = (QbT ver e j (g.getD 1) M[i]?).bind fun cs => mkPV g cs:=by
 rw [← Qgu];rfl
def J2 (xs:List PV) (e j n:Nat):Option PV → Option (List PV)
 | some x => if j + n ≤ x.cells.length then some ((x.cells.drop j).take n) else
   if j + n ≤ ((xs.drop e).flatMap PV.cells).length then some ((((xs.drop e).flatMap PV.cells).drop j).take n) else none
 | none => none
theorem Qih {w:Bool} {kk ver e j n:Nat}:QbT ver e j n (some (.row w kk ver xs)) = J2 xs e j n xs[e]?:=by
 simp only [QbT,if_true]
 cases xs[e]? <;> rfl
theorem QeL {e j n:Nat} (h:j + n ≤ x.cells.length):J2 xs e j n (some x) = some ((x.cells.drop j).take n):=by simp only [J2,if_pos h]
def putR (M:List Blk) (i ver e j:Nat) (vs:List PV):Option Blk → Option (List Blk)
  | some (.row true k v xs) =>
    if v = ver then
      match xs[e]? with
      | some x => if j + vs.length ≤ x.cells.length ∧ vs.all oneB then
          (match x with
           | .agg cs => some (M.set i (.row true k v (xs.set e (.agg (setRange cs j vs)))))
           | _ => match vs with
             | [y] => match y with
               | .agg _ => none
               | y => some (M.set i (.row true k v (xs.set e y)))
             | _ => none)
          else none
      | none => none
    else none
  | _ => none
theorem Qbt {i ver e j:Nat} {vs:List PV}:Vd M i ver e j vs = putR M i ver e j vs M[i]?:=by
 unfold Vd
 cases M[i]? with
 | none => rfl
 | some b => cases b with
  | row w => cases w <;> rfl
  | _ => rfl
theorem Qkm {kk i ver e j:Nat} {vs:List PV} (hx:xs[e]? = some (.agg cs)) (h:j + vs.length ≤ cs.length) (h1:vs.all oneB = true) :
  putR M i ver e j vs (some (.row true kk ver xs)) = some (M.set i (.row true kk ver (xs.set e (.agg (setRange cs j vs))))):=by
 unfold putR
 simp only [if_true,hx]
 exact if_pos ⟨h,h1⟩
theorem Qc9 {kk i ver e:Nat} {v:PV} (hx:xs[e]? = some x) (hx1:oneB x = true) (h1:oneB v = true) :
  putR M i ver e 0 [v] (some (.row true kk ver xs)) = some (M.set i (.row true kk ver (xs.set e v))):=by
 unfold putR
 simp only [if_true,hx]
 have hc:0 + [v].length ≤ x.cells.length:=by cases x <;> first|(cases hx1;done)|(simp [PV.cells])
 rw [if_pos ⟨hc,by simp [h1]⟩]
 cases x <;> first|(cases hx1;done)|skip
 all_goals (cases v <;> first|(cases h1;done)|rfl)
theorem QgU {kk i ver:Nat} {v:PV} (hx1:oneB x = true) (h1:oneB v = true) :
  putR M i ver 0 0 [v] (some (.row true kk ver [x])) = some (M.set i (.row true kk ver [v])):=by
 rw [Qc9 (x:=x) rfl hx1 h1];rfl
def putE (M:List Blk) (i k ver e j:Nat) (xs vs:List PV):Option PV → Option (List Blk)
 | some x => putR M i ver 0 j vs (some (.row true k ver [x])) |>.bind fun _ => putR M i ver e j vs (some (.row true k ver xs))
 | none => none
theorem Qcd {i kk ver e j:Nat} {vs:List PV}:putR M i ver e j vs (some (.row true kk ver xs)) = putE M i kk ver e j xs vs xs[e]?:=by
 cases h:xs[e]? with
 | none => simp only [putR,if_true,h,putE]
 | some x =>
  simp only [putE]
  simp only [putR,if_true,h,List.getElem?_cons_zero]
  split
  ·split
   ·rfl
   ·split
    ·split <;> first|rfl|(rename_i h1 _ _ _ _ h2;exact absurd rfl (h2 _))
    ·rfl
  ·rfl
theorem Qba {kk i ver e j:Nat} {vs:List PV} (h:j + vs.length ≤ cs.length) (h1:vs.all oneB = true) (hx:xs[e]? = some (.agg cs)) :
  putE M i kk ver e j xs vs (some (.agg cs)) = some (M.set i (.row true kk ver (xs.set e (.agg (setRange cs j vs))))):=by
 rw [← hx,← Qcd,Qkm hx h h1]
theorem Qja {kk i ver e:Nat} {v:PV} (hx1:oneB x = true) (h1:oneB v = true) (hx:xs[e]? = some x) :
  putE M i kk ver e 0 xs [v] (some x) = some (M.set i (.row true kk ver (xs.set e v))):=by
 rw [← hx,← Qcd,Qc9 hx hx1 h1]
theorem Qie {kk i ver e j:Nat} (h:y.cells.length = kk) (hk:kk ≠ 0):Qbz M kk (.op i ver e j) y = (putR M i ver e j y.cells M[i]?).map (unit,·):=by
 rw [← Qbt];simp only [Qbz];rw [if_pos ⟨h,hk⟩]
theorem Qen {n:Nat}:Qha M n (some x) = some (.op M.length 0 0 0,M ++ [.row true n 0 [x]]):=nrfl rfl
theorem Qjm {n:Nat} (h:x.cells.length = n) (hn:n ≠ 0):boxO M true n x = some (.op M.length 0 0 0,M ++ [.row true n 0 [x]]):=by simp [boxO,h,hn]
theorem Qlz {n:Nat} (h:x.cells.length = n) (hn:n ≠ 0):boxO M false n x = some (.fp (view M x).cells,M):=by simp [boxO,h,hn]
theorem Qc3 {n:Nat} (h:xs.all (fun x => x.cells.length = n) = true) (hn:n ≠ 0):bslO M true n xs = some (.os M.length 0 0 xs.length,M ++ [.row true n 0 xs]):=by
 simp only [bslO];rw [if_pos ⟨h,hn⟩];rfl
theorem Qhw {n:Nat} (hn:n ≠ 0):bslO M true n [] = some (.os M.length 0 0 0,M ++ [.row true n 0 []]):=Qc3 (by simp) hn
theorem Qi2 {n:Nat} (hn:n ≠ 0):bslO M false n [] = some (.fs [],M):=by simp [bslO,hn]
theorem Qmr {n:Nat} (h:xs.all (fun x => x.cells.length = n) = true) (hn:n ≠ 0):bslO M false n xs = some (.fs (xs.map (view M)),M):=by
 simp only [bslO];rw [if_pos ⟨h,hn⟩];rfl
theorem QfB {kk bytes:Nat} {g:Option Nat} {zv:List Value} (h0:0 ≤ a) (h1:a ≤ 1048576) (hb:bytes ≤ 1048576) (hz:zv.length = kk) (hk:0 < kk) :
  mkslO M kk g zv bytes (.s (.int .i64 a)) (.s (.int .i64 a)) = (mkPV g (zv.map .s)).map fun e => (.os M.length 0 0 a.toNat,M ++ [.row true kk 0 (List.replicate a.toNat e)]):=by
 exact if_pos ⟨h0,rfl,by omega,by omega,hz,hk⟩
theorem Qh4 {n m:Nat}:Qao M n (.fs xs) (some m) = elemP n xs[m]?:=nrfl rfl
theorem QfW {n:Nat} (h:x.cells.length = n):elemP n (some x) = some (.fp x.cells):=by simp [elemP,h]
theorem QhT {n m i ver off len:Nat} (h:m < len):Qao M n (.os i ver off len) (some m) = rowP n i ver off len m M[i]?:=by simp [Qao,h]
theorem Qib {n i ver off len m:Nat} {w:Bool} (h:off + len ≤ xs.length):rowP n i ver off len m (some (.row w n ver xs)) = some (.op i ver (off + m) 0):=by simp [rowP,h]
theorem Qiw {off:Nat} (h:off ≤ cs.length):Jl M off (.fp cs) = some (.fp (cs.drop off)):=by simp [Jl,h]
def liveR (ver:Nat):Option Blk → Bool
 | some (.row _ _ v _) => v == ver
 | _ => false
theorem Zs {i ver:Nat}:QT M i ver = liveR ver M[i]?:=by
 unfold QT
 cases M[i]? with
 | none => rfl
 | some b => cases b <;> rfl
theorem QfF {ver kk:Nat} {w:Bool}:liveR ver (some (.row w kk ver xs)) = true:=by simp [liveR]
theorem Qht {off i ver e j:Nat}:Jl M off (.op i ver e j) = if liveR ver M[i]? = true then some (.op i ver e (j + off)) else none:=by simp only [Jl,Zs]
theorem QjA:nilcV M (.fp cs) = some (.fp cs):=nrfl rfl
theorem Qkc {i ver e j:Nat}:nilcV M (.op i ver e j) = if liveR ver M[i]? = true then some (.op i ver e j) else none:=by simp only [nilcV,Zs]
theorem Qjx {f:FuncId}:nilcV M (.fn (.func f) xs ys) = some (.fn (.func f) xs ys):=nrfl rfl
theorem Qgv {off:Nat}:QbI off none (.agg cs) = mkPV none ((cs.drop off).take 1):=nrfl rfl
theorem Qed {off n:Nat}:QbI off (some n) (.agg cs) = mkPV (some n) ((cs.drop off).take n):=nrfl rfl
theorem Qit {n:Nat} {lo hi:Option PV} (h:sized n xs = true):YU M n (.fs xs) lo hi = (bounds xs.length lo hi).map fun b => .fs ((xs.drop b.1).take (b.2 - b.1)):=by simp [YU,h]
theorem QhE {n:Nat}:sized n [] = true:=nrfl rfl
theorem natZ:((0:Nat):Int) = 0:=nrfl rfl
theorem natO:((1:Nat):Int) = 1:=nrfl rfl
theorem min10:min (1:Int) 0 = 0:=nrfl rfl
theorem Qf8 {n:Nat} {lo hi:Option PV}:YU M n (.s (.slice none 0 0)) lo hi = (bounds 0 lo hi).map fun _ => PV.nilS:=nrfl rfl
def rowKR:Option Blk → Nat
 | some (.row _ k _ _) => k
 | _ => 0
theorem Qmz {i:Nat}:rowK M i = rowKR M[i]?:=by
 unfold rowK
 cases M[i]? with
 | none => rfl
 | some b => cases b <;> rfl
def QbA (i ver off len n:Nat) (lo hi:Option PV):Option Blk → Option PV
 | some (.row _ k v _) => if v = ver ∧ k = n then (bounds len lo hi).map fun b => .os i ver (off + b.1) (b.2 - b.1) else none
 | _ => none
theorem QhJ {n i ver off len:Nat} {lo hi:Option PV}:YU M n (.os i ver off len) lo hi = QbA i ver off len n lo hi M[i]?:=by
 simp only [YU,Zs,Qmz]
 cases M[i]? with
 | none => rfl
 | some b => cases b <;> simp [liveR,rowKR,QbA]
theorem Qf7 {n i ver off len:Nat} {lo hi:Option PV} {w:Bool}:QbA i ver off len n lo hi (some (.row w n ver xs)) = (bounds len lo hi).map fun b => .os i ver (off + b.1) (b.2 - b.1):=by simp [QbA]
theorem QgE {n k a ver e j m:Nat}:Jv M n k (.op a ver e j) (some m) = if m < n ∧ liveR ver M[a]? = true then some (.op a ver e (j + m * k)) else none:=by simp only [Jv,Zs]
theorem QfJ {n k m:Nat}:Jv M n k (.fp cs) (some m) = if m < n ∧ n * k ≤ cs.length then some (.fp ((cs.drop (m * k)).take k)) else none:=nrfl rfl
theorem QiV {n:Nat}:arrpV M n (.fs xs) = if n ≤ xs.length ∧ 0 < n then some (.fp ((xs.take n).flatMap PV.cells)) else none:=nrfl rfl
theorem VB {M:List Blk} {k bytes i ver len:Nat} {xs ys:List PV} (hl:len ≤ xs.length) (hy:ys.all (QX k) = true) (hk:k ≠ 0) (hb:bytes ≤ 2 ^ 20) (hs:len + ys.length ≤ 1048576) :
  appR M k bytes i ver 0 len ys (some (.row true k ver xs)) = some (.os i (ver + 1) 0 (len + ys.length),M.set i (.row true k (ver + 1) (xs.take len ++ ys))):=by
 show (if (ys.all (QX k) = true ∧ k ≠ 0 ∧ bytes ≤ 2 ^ 20) ∧ ver = ver ∧ k = k ∧ 0 + len ≤ xs.length ∧ len + ys.length ≤ 2 ^ 20 then some (PV.os i (ver + 1) 0 (len + ys.length),M.set i (Blk.row true k (ver + 1) ((xs.drop 0).take len ++ ys))) else none) = _
 rw [if_pos ⟨⟨hy,hk,hb⟩,rfl,rfl,by omega,by omega⟩];simp
theorem QgV {n:Nat} {lo hi:Option PV}:bounds n lo hi = (hiN n hi).bind fun h => (loN lo).bind fun l => if l ≤ h ∧ h ≤ n then some (l,h) else none:=nrfl rfl
theorem Qi9 {n:Nat}:hiN n none = some n:=nrfl rfl
theorem QkL {n:Nat} {v:PV}:hiN n (some v) = asNat v:=nrfl rfl
theorem Qj5:loN none = some 0:=nrfl rfl
theorem Qki {v:PV}:loN (some v) = asNat v:=nrfl rfl
theorem Qmw:held M (.fs xs) = some xs:=nrfl rfl
theorem Qjk:held M (.s (.slice none 0 0)) = some []:=nrfl rfl
def heldR (ver off len:Nat):Option Blk → Option (List PV)
 | some (.row _ _ v xs) => if v = ver ∧ off + len ≤ xs.length then some ((xs.drop off).take len) else none
 | _ => none
theorem Qcc {i ver off len:Nat}:held M (.os i ver off len) = heldR ver off len M[i]?:=by
 unfold held
 simp only [heldR]
 cases M[i]? with
 | none => rfl
 | some b => cases b <;> rfl
theorem QhC {ver kk len:Nat} {w:Bool} (h:len = xs.length):heldR ver 0 len (some (.row w kk ver xs)) = some xs:=by subst h;simp [heldR]
theorem Qgh {ver kk off len:Nat} {w:Bool} (h:off + len ≤ xs.length):heldR ver off len (some (.row w kk ver xs)) = some ((xs.drop off).take len):=by simp [heldR,h]
theorem Qku {n i ver off len:Nat}:arrpV M n (.os i ver off len) = if n ≤ len ∧ 0 < n then (heldR ver off len M[i]?).map fun _ => .op i ver off 0 else none:=by simp only [arrpV,Qcc]
def viewR (i ver off len:Nat):Option Blk → PV
 | some (.row false _ v xs) => if v = ver ∧ off + len ≤ xs.length then .fs ((xs.drop off).take len) else .os i ver off len
 | _ => .os i ver off len
theorem QkM:view M (.s (.int k a)) = .s (.int k a):=nrfl rfl
theorem Qh1:view M (.B p) = .B p:=nrfl rfl
theorem QjH {s:ByteArray}:view M (.s (.string s)) = .s (.string s):=nrfl rfl
theorem Qjs:view M (.s (.slice none 0 0)) = .fs []:=nrfl rfl
theorem QlB:view M (.fs xs) = .fs xs:=nrfl rfl
theorem Qmu:view M (.fp xs) = .fp xs:=nrfl rfl
theorem Qmt {i:Nat}:view M (.om i) = .om i:=nrfl rfl
theorem Qle {i v e j:Nat}:view M (.op i v e j) = .op i v e j:=nrfl rfl
theorem QkV {i:Nat}:view M (.yl i) = .yl i:=nrfl rfl
theorem QlZ {f:Fn}:view M (.fn f xs ys) = .fn f xs ys:=nrfl rfl
theorem Qjq:view M (.tup xs) = .tup xs:=nrfl rfl
theorem Qi0:view M .top = .top:=nrfl rfl
theorem Qkp:view M (.agg cs) = .agg (cs.map (view1 M)):=nrfl rfl
theorem Qh5:view1 M (.s (.int k a)) = .s (.int k a):=nrfl rfl
theorem Qgm:view1 M (.B p) = .B p:=nrfl rfl
theorem QhL {s:ByteArray}:view1 M (.s (.string s)) = .s (.string s):=nrfl rfl
theorem Qhh:view1 M (.s (.slice none 0 0)) = .fs []:=nrfl rfl
theorem Qji:view1 M (.fs xs) = .fs xs:=nrfl rfl
theorem Qfl {i ver off len:Nat}:view M (.os i ver off len) = viewR i ver off len M[i]?:=by
 simp only [view,view1]
 cases M[i]? with
 | none => rfl
 | some b => cases b with
  | row w => cases w <;> rfl
  | _ => rfl
theorem Qjr {i ver off len:Nat}:view1 M (.os i ver off len) = viewR i ver off len M[i]?:=by rw [← Qfl];rfl
theorem QfV {i ver off len kk v:Nat}:viewR i ver off len (some (.row true kk v xs)) = .os i ver off len:=nrfl rfl
theorem QgQ {i ver kk len:Nat} (h:len = xs.length):viewR i ver 0 len (some (.row false kk ver xs)) = .fs xs:=by subst h;simp [viewR]
theorem Qow {ρ:CX → PV} {n:Nat}:argV M ρ (.t n) = view M (ρ (.t n)):=nrfl rfl
theorem Qnt {ρ:CX → PV} {v:Value}:argV M ρ (.k v) = .s v:=nrfl rfl
theorem Qm8 {ρ:CX → PV} {f:FuncId}:argV M ρ (.f f) = view M (ρ (.f f)):=nrfl rfl
def frzR (M:List Blk) (i:Nat):Option Blk → Option (List Blk)
 | some (.row _ k v xs) => some (M.set i (.row false k v xs))
 | _ => none
theorem Qd2 {i ver off len:Nat}:QF M [.os i ver off len] = frzR M i M[i]?:=by
 simp only [QF,freeze]
 cases M[i]? with
 | none => rfl
 | some b => cases b <;> rfl
theorem QdA:QF M [.fs xs] = some M:=nrfl rfl
theorem QcJ:QF M [.s (.slice none 0 0)] = some M:=nrfl rfl
theorem QkG {i kk v:Nat} {w:Bool}:frzR M i (some (.row w kk v xs)) = some (M.set i (.row false kk v xs)):=nrfl rfl
theorem Qdz:ZK (some (x,M)) = (QF M x.cells).map fun M' => (view M' x,M'):=nrfl rfl
theorem Qeb:QL [] [] [] = some true:=nrfl rfl
theorem QeT {ks:List SK}:QL (.int :: ks) (.s (.int k a) :: xs) (.s (.int k b) :: ys) = (QL ks xs ys).map fun r => decide (a = b) && r:=by
 simp only [QL,eqSK,if_true,bind,Option.bind_some,pure]
 cases QL ks xs ys with
 | none => rfl
 | some r => simp only [Option.bind_some,Option.map_some];congr
theorem Qdu {ks:List SK}:QL (.bool :: ks) (.B p :: xs) (.B q :: ys) = (QL ks xs ys).map fun r => (p == q) && r:=by
 simp only [QL,eqSK,bind,Option.bind_some,pure]
 cases QL ks xs ys <;> rfl
theorem QkB {neg:Bool} {lay:List SK}:eqsV neg lay (.agg xs) (.agg ys) = (QL lay xs ys).map fun r => .B (if neg = true then !r else r):=nrfl rfl
theorem Qcg {C:CallR} {n0:Nat} {Q:Post} {t:List PV} (hM:lowM M.length M) (hn:n0 ≤ M.length) (ht:lowL M.length t) (hq:Q .normal M t):Wp C n0 .cut Q M t:=by
 refine ⟨M.length,hn,Nat.le_refl _,?_,ht,?_⟩ <;> rw [List.take_length] <;> assumption
def nilAt (j:Nat):Option PV → Bool
 | some x => match x.cells[j]? with
  | some (.s (.slice none 0 0)) => true
  | _ => false
 | none => false
def ownR (M:List Blk) (a ver e j k:Nat):Option Blk → Option (List Blk)
 | some (.row w kk v xs) => if nilAt j xs[e]? = true then (putR M a ver e j [.os M.length 0 0 0] (some (.row w kk v xs))).map (· ++ [.row true k 0 []]) else none
 | _ => none
def ownO (M:List Blk) (j k:Nat):PV → Option (List Blk)
 | .op a ver e j0 => ownR M a ver e (j0 + j) k M[a]?
 | _ => none
def ownP (Q:Post) (t:List PV):Option (List Blk) → Prop
 | some M' => Q .normal M' t
 | none => False
theorem Qnq {C:CallR} {n0:Nat} {Q:Post} {t:List PV} {i j k:Nat}:Wp C n0 (.own i j k) Q M t = ownP Q t (ownO M j k (t.getD i .top)):=by
 apply propext
 show (∃ M',Ju M (t.getD i .top) j k = some M' ∧ Q .normal M' t) ↔ _
 have:Ju M (t.getD i .top) j k = ownO M j k (t.getD i .top):=by
  generalize t.getD i .top = p
  cases p <;> try rfl
  rename_i a ver e j0
  simp only [Ju,ownO]
  cases hb:M[a]? with
  | none => rfl
  | some b =>
   cases b <;> try rfl
   rename_i w kk v xs
   simp only [ownR,← hb,← Qbt]
   cases hx:xs[e]? with
   | none => rfl
   | some x =>
    simp only [Option.map_some,Option.bind_some]
    by_cases hn:nilAt (j0 + j) (some x) = true
    ·rw [if_pos hn]
     simp only [nilAt] at hn
     split at hn
     ·rename_i h3;rw [h3];rfl
     ·cases hn
    ·rw [if_neg hn]
     split
     ·rename_i h3;exfalso;apply hn;simp only [nilAt];rw [h3];rfl
     ·rfl
 rw [this]
 cases ownO M j k (t.getD i .top) with
 | none => simp [ownP]
 | some M' => simp [ownP]
theorem QgM {Q:Post} {t:List PV} {M':List Blk}:ownP Q t (some M') = Q .normal M' t:=nrfl rfl
theorem QmF {a ver e j0 j k:Nat}:ownO M j k (.op a ver e j0) = ownR M a ver e (j0 + j) k M[a]?:=nrfl rfl
theorem Qj4 {a ver k:Nat} {kk:Nat}:ownR M a ver 0 0 k (some (.row true kk ver [.s (.slice none 0 0)])) = some (M.set a (.row true kk ver [.os M.length 0 0 0]) ++ [.row true k 0 []]):=by
 show (putR M a ver 0 0 [.os M.length 0 0 0] _).map _ = _
 rw [QgU rfl rfl];rfl
section
variable {C:CallR} {d:Option Nat} {os:List (COper × Option Nat)} {tr:List Foot} {K:List Foot → List Blk → List PV → Prop} {t:List PV}
def dK (C:CallR) (os:List (COper × Option Nat)) (tr:List Foot) (fp:Foot) (K:List Foot → List Blk → List PV → Prop) (n:Nat) (M:List Blk) (t:List PV):Prop:=M.length = n ∧ wpD C os (tr ++ [fp]) K M t
theorem dK_eq {fp:Foot} {n:Nat}:dK C os tr fp K n M t = (M.length = n ∧ wpD C os (tr ++ [fp]) K M t):=nrfl rfl
theorem d_op {o:COp}:wpD C ((⟨d,o,none⟩,none) :: os) tr K M t = wpOps C [⟨d,o,none⟩] (dK C os tr (fpOp (ev t) o) K M.length) M t:=by
 apply propext
 constructor
 ·rintro ⟨_,v,M',h1,h2,h3⟩
  exact ⟨v,M',h1,h2,h3⟩
 ·rintro ⟨v,M',h1,h2,h3⟩
  exact ⟨rfl,v,M',h1,h2,h3⟩
theorem d_nil:wpD C [] tr K M t = K tr M t:=nrfl rfl
def Qd4 (C:CallR) (os:List (COper × Option Nat)) (tr:List Foot) (K:List Foot → List Blk → List PV → Prop) (M:List Blk) (t:List PV) (d:Option Nat) (i n:Nat):Option PV → Option Blk → Prop
 | some e,some (.row false 0 0 []) => wpD C os (tr ++ [some ([],[i])]) K (M.set i (.row true n 1 [e])) (put t d (.op i 1 0 0))
 | _,_ => False
theorem QmY {g:Option Nat} {z:List Value} {r:Nat}:wpD C ((⟨d,.alloc g z,none⟩,some r) :: os) tr K M t = Qd4 C os tr K M t d (M.length - r) z.length (mkPV g (z.map .s)) M[M.length - r]?:=by
 apply propext
 constructor
 ·rintro ⟨_,v,M',⟨o,k,xs,h1,h2,rfl,rfl⟩,h4,h5⟩
  simp only [VH,Option.map_eq_some_iff] at h1
  obtain ⟨e,h6,h7⟩:=h1
  cases h7
  rw [h6,h2]
  exact h5
 ·intro h
  cases he:mkPV g (z.map .s) with
  | none => rw [he] at h;exact h.elim
  | some e =>
   rw [he] at h
   cases hb:M[M.length - r]? with
   | none => rw [hb] at h;exact h.elim
   | some b =>
    rw [hb] at h
    unfold Qd4 at h
    split at h
    ·rename_i h1 h2
     cases h1;cases h2
     exact ⟨rfl,_,_,⟨true,z.length,[_],by simp only [VH,he];rfl,hb,rfl,rfl⟩,by simp,h⟩
    ·exact h.elim
theorem QeI {i n:Nat}:Qd4 C os tr K M t d i n (some x) (some (.row false 0 0 [])) = wpD C os (tr ++ [some ([],[i])]) K (M.set i (.row true n 1 [x])) (put t d (.op i 1 0 0)):=nrfl rfl
def bslD (C:CallR) (os:List (COper × Option Nat)) (tr:List Foot) (K:List Foot → List Blk → List PV → Prop) (M:List Blk) (t:List PV) (d:Option Nat) (i k:Nat) (vs:List PV):Option Blk → Prop
 | some (.row false 0 0 []) => if vs.all (fun x => x.cells.length = k) ∧ k ≠ 0 then wpD C os (tr ++ [some ([],[i])]) K (M.set i (.row true k 1 vs)) (put t d (.os i 1 0 vs.length)) else False
 | _ => False
theorem d_bsl {k r:Nat} {xs:List CX}:wpD C ((⟨d,.bsl true k xs,none⟩,some r) :: os) tr K M t = bslD C os tr K M t d (M.length - r) k (xs.map (ev t)) M[M.length - r]?:=by
 apply propext
 constructor
 ·rintro ⟨_,v,M',⟨o,k',ys,h1,h2,rfl,rfl⟩,h4,h5⟩
  simp only [VH] at h1
  split at h1
  ·rename_i hc
   cases h1
   rw [h2]
   show (if _ then _ else _)
   rw [if_pos hc.2]
   simpa [fpD] using h5
  ·cases h1
 ·intro h
  cases hb:M[M.length - r]? with
  | none => rw [hb] at h;exact h.elim
  | some b =>
   rw [hb] at h
   unfold bslD at h
   split at h
   ·rename_i h2
    cases h2
    split at h
    ·rename_i hc
     exact ⟨rfl,_,_,⟨false,k,xs.map (ev t),if_pos ⟨rfl,hc⟩,hb,rfl,rfl⟩,by simp,by simpa [fpD] using h⟩
    ·exact h.elim
   ·exact h.elim
theorem Qkd {i k:Nat} (hk:k ≠ 0):bslD C os tr K M t d i k [] (some (.row false 0 0 [])) = wpD C os (tr ++ [some ([],[i])]) K (M.set i (.row true k 1 [])) (put t d (.os i 1 0 0)):=by
 show (if _ then _ else _) = _
 rw [if_pos ⟨by simp,hk⟩];rfl
theorem QlS:hole = .row false 0 0 []:=nrfl rfl
theorem Qms {i v e j:Nat}:refs (.op i v e j) = [i]:=nrfl rfl
theorem QmO {i v e j:Nat}:refs (.os i v e j) = [i]:=nrfl rfl
theorem QmQ {i:Nat}:refs (.om i) = [i]:=nrfl rfl
theorem Qlb {i:Nat}:refs (.oi i) = [i]:=nrfl rfl
theorem QmZ:refs (.fs xs) = []:=nrfl rfl
theorem QkW:refs (.fp xs) = []:=nrfl rfl
theorem Qnm {v:Value}:refs (.s v) = []:=nrfl rfl
end
theorem QhM {n:Nat}:mkRes n M [x] = outV n M x:=nrfl rfl
theorem Qg3 {n:Nat}:mkRes n M (x :: y :: xs) = .tup ((x :: y :: xs).map (outV n M)):=nrfl rfl
theorem QiP {n:Nat}:outV n M (.s (.int k a)) = .s (.int k a):=nrfl rfl
theorem Qhk {n:Nat}:outV n M (.B p) = .B p:=nrfl rfl
theorem QkD {n:Nat} {s:ByteArray}:outV n M (.s (.string s)) = .s (.string s):=nrfl rfl
theorem QjL {n:Nat}:outV n M (.s (.slice none 0 0)) = .fs []:=nrfl rfl
theorem QmR {n:Nat}:outV n M (.fs xs) = .fs xs:=nrfl rfl
theorem Qi7 {n:Nat}:outV n M (.agg cs) = .agg (cs.map (out1 n M)):=nrfl rfl
theorem QlY {n:Nat} {f:Fn}:outV n M (.fn f xs ys) = .fn f xs ys:=nrfl rfl
theorem Qkh {n:Nat}:out1 n M (.s (.int k a)) = .s (.int k a):=nrfl rfl
theorem QhO {n:Nat}:out1 n M (.B p) = .B p:=nrfl rfl
theorem QiJ {n:Nat} {s:ByteArray}:out1 n M (.s (.string s)) = .s (.string s):=nrfl rfl
theorem QmU {n:Nat}:out1 n M (.fs xs) = .fs xs:=nrfl rfl
theorem QiX {n:Nat}:out1 n M (.s (.slice none 0 0)) = .fs []:=nrfl rfl
def orTop:Option (List PV) → PV
 | some xs => .fs xs
 | none => .top
theorem Qfm {n i ver off len:Nat} (h:n ≤ i):out1 n M (.os i ver off len) = orTop (heldR ver off len M[i]?):=by
 rw [← Qcc];simp only [out1];rw [if_pos h];cases held M (.os i ver off len) <;> rfl
theorem Qld {n i ver off len:Nat} (h:n ≤ i):outV n M (.os i ver off len) = orTop (heldR ver off len M[i]?):=Qfm h
theorem QfL:orTop (some xs) = .fs xs:=nrfl rfl
theorem QgY {t:List PV}:resOf M t [] = some []:=nrfl rfl
theorem Qgw {t:List PV} {i:Nat} {r:List (Nat × Option (Option Nat))}:resOf M t ((i,none) :: r) = (resOf M t r).map (t.getD i .top :: ·):=nrfl rfl
def consO:Option PV → Option (List PV) → Option (List PV)
 | some v,some vs => some (v :: vs)
 | _,_ => none
theorem Qgc {t:List PV} {i:Nat} {g:Option Nat} {r:List (Nat × Option (Option Nat))}:resOf M t ((i,some g) :: r) = consO (Vh M g (t.getD i .top)) (resOf M t r):=by
 simp only [resOf,res,ev]
 cases Vh M g (t.getD i .top) <;> cases resOf M t r <;> rfl
theorem QfE {vs:List PV}:consO (some x) (some vs) = some (x :: vs):=nrfl rfl
theorem Qi1 {C:CallR} {n0 n:Nat} {Q:Post} {kvs:List (Nat × PV)} {f:CX} {ps:List Nat} {A B:CCode} {g:FuncId} {cap:List PV} {M':List Blk} {t':List PV} {ps':List Nat} {A' B':CCode}
  (hf:ev (mk n kvs) f = .fn (.func g) [] cap) (hc:C (.fn g) (.yl M.length :: cap) (M ++ [.loop .ready none (mk n kvs) ps A B]) (.tup []) (M' ++ [.loop .ready none t' ps' A' B']))
  (hl:M'.length = M.length) (hlow:lowM M.length M') (hq:Q .normal M' (mk n kvs)):Wp C n0 (.rangeFunc f ps A B) Q M (mk n kvs) :=
 ⟨g,[],cap,M',.ready,none,t',ps',A',B',hf,hc,hl,hlow,by decide,hq⟩
def Qhx (C:CallR) (m i n:Nat) (kvs:List (Nat × PV)) (ps:List Nat) (A B:CCode) (r:PV) (M':List Blk) (M1:List Blk) (t1:List PV):Prop :=
 (∃ ts' ps' a' b',M1[i]? = some (.loop .ready none ts' ps' a' b')) ∧ Wp C m B (Yl m i ps A B (mk n kvs) r M') (M1.set i (.loop .busy none (mk n kvs) ps A B)) t1
theorem Qnk {C:CallR} {m i n:Nat} {kvs:List (Nat × PV)} {ps:List Nat} {A B:CCode} {r:PV} {M' M1:List Blk} {t1:List PV} {ts':List PV} {ps':List Nat} {a' b':CCode} (h:M1[i]? = some (.loop .ready none ts' ps' a' b'))
  (hw:Wp C m B (Yl m i ps A B (mk n kvs) r M') (M1.set i (.loop .busy none (mk n kvs) ps A B)) t1):Qhx C m i n kvs ps A B r M' M1 t1:=⟨⟨_,_,_,_,h⟩,hw⟩
theorem QjR {F:Prog} {X:XRel} {i n p:Nat} {kvs:List (Nat × PV)} {A B:CCode} {r:PV} {M':List Blk} (hi:M[i]? = some (.loop .ready none (mk n kvs) [p] A B))
  (h:lowM M.length M → lowL M.length [x] → Wp (ACall F X) M.length A (thenK (Qhx (ACall F X) M.length i n kvs [p] A B r M') (fun _ _ _ => False)) M (mk n ((p,x) :: kvs))):ACall F X (.yl i) [x] M r M':=by
 refine QkF hi rfl fun h1 h2 => ?_
 have:=h h1 h2
 simp only [List.zip_cons_cons,List.zip_nil_right,List.foldl_cons,List.foldl_nil,QdY]
 exact this
theorem low_s {n:Nat} {v:Value}:(PV.s v).low n = True:=by simp [PV.low]
theorem Qlf {n:Nat}:(PV.agg cs).low n = lowL n cs:=by simp [PV.low]
theorem Qlc {n:Nat}:(PV.tup cs).low n = lowL n cs:=by simp [PV.low]
theorem Qov {n:Nat}:(PV.fs cs).low n = lowL n cs:=by simp [PV.low]
theorem Qn8 {n:Nat}:(PV.fp cs).low n = lowL n cs:=by simp [PV.low]
theorem Qoe {n i v o l:Nat}:(PV.os i v o l).low n = (i < n):=by simp [PV.low]
theorem Qoa {n i v o l:Nat}:(PV.op i v o l).low n = (i < n):=by simp [PV.low]
theorem Qox {n i:Nat}:(PV.om i).low n = (i < n):=by simp [PV.low]
theorem Qn2 {n:Nat} {f:Fn}:(PV.fn f xs ys).low n = (lowL n xs ∧ lowL n ys):=by simp [PV.low]
theorem Qlt {n:Nat} {fk:FloatKind}:(PV.nan fk).low n = True:=by simp [PV.low]
theorem QnF {n i:Nat}:(PV.oi i).low n = (i < n):=by simp [PV.low]
theorem QnL {n i:Nat}:(PV.yl i).low n = (i < n):=by simp [PV.low]
theorem QmW {n:Nat}:PV.top.low n = True:=by simp [PV.low]
theorem Qkv {n:Nat}:lowL n [] = True:=by simp [lowL]
theorem Qhp {n:Nat}:lowL n (x :: xs) = (x.low n ∧ lowL n xs):=by simp [lowL]
def Clean (x:PV):Prop:=∀ n,x.low n
theorem QiE {α:Type} {f:α → PV} {n:Nat} {l:List α} (h:∀ a,(f a).low n):lowL n (l.map f) = True:=eq_true (Zm f l h)
theorem Qo {C:CallR} {n0:Nat} {Q:Post} {N:List Blk} {t:List PV} (hM:lowM M.length M) (hn:n0 = M.length) (j:Nat) (hj:j ≤ N.length) (hN:lowM (M.length + j) (N.take j)) (ht:lowL (M.length + j) t) (hq:Q .normal (M ++ N.take j) t) :
  Wp C n0 .cut Q (M ++ N) t:=by
 subst hn
 refine ⟨M.length + j,by omega,by simp;omega,?_,ht,?_⟩
 ·rw [takeM];exact (VJ _ _).2 ⟨ZP (by omega) hM,hN⟩
 ·rw [takeM];exact hq
theorem Qkw {n:Nat} {rs:List (Nat × Option (Option Nat))} {r:PV} {N:List Blk} {t:List PV} {e:Ex} (he:(match e with|.ret|.normal => True|_ => False)) (hM:lowM M.length M) (hn:n = M.length)
  (h:(resOf (M ++ N) t rs).map (mkRes M.length (M ++ N)) = some r) (hl:r.low M.length):VC n rs r M e (M ++ N) t:=by
 cases hv:resOf (M ++ N) t rs with
 | none => rw [hv] at h;cases h
 | some vs => rw [hv] at h;exact QdQ he hM hn hv (Option.some.inj h) hl
theorem Vr {n:Nat} {rs:List (Nat × Option (Option Nat))} {r:PV} {t:List PV} {e:Ex} (he:(match e with|.ret|.normal => True|_ => False)) (hM:lowM M.length M) (hn:n = M.length)
  (h:(resOf M t rs).map (mkRes M.length M) = some r) (hl:r.low M.length):VC n rs r M e M t:=by
 cases hv:resOf M t rs with
 | none => rw [hv] at h;cases h
 | some vs => rw [hv] at h;exact Qis he hM hn hv (Option.some.inj h) hl
theorem pfN {n:Nat} {rs:List (Nat × Option (Option Nat))} {r:PV} {M N:List Blk} {t:List PV} {e:Ex} (hM:lowM M.length M) (h:(resOf (M ++ N) t rs).map (mkRes M.length (M ++ N)) = some r) (hl:r.low M.length) (he:(match e with |.ret|.normal => True|_ => False):=by trivial) (hn:n = M.length:=by rfl):VC n rs r M e (M ++ N) t:=Qkw he hM hn h hl
theorem pf0 {n:Nat} {rs:List (Nat × Option (Option Nat))} {r:PV} {M:List Blk} {t:List PV} {e:Ex} (hM:lowM M.length M) (h:(resOf M t rs).map (mkRes M.length M) = some r) (hl:r.low M.length) (he:(match e with |.ret|.normal => True|_ => False):=by trivial) (hn:n = M.length:=by rfl):VC n rs r M e M t:=Vr he hM hn h hl
theorem QiY {n:Nat} {rs:List (Nat × Option (Option Nat))} {N:List Blk} {t:List PV} {e:Ex} (he:(match e with|.ret|.normal => True|_ => False)) (hM:lowM M.length M) (hn:n = M.length)
  (h:resOf (M ++ N) t rs = some [PV.nilS]):VC n rs PV.nilS M e (M ++ N) t:=by
 subst hn
 exact ⟨he,M.length,Nat.le_refl _,by simp,by simpa using hM,by simp,_,h,.inr ⟨rfl,rfl⟩,by simp [PV.low]⟩
theorem Qlg {rs:List (Nat × Option (Option Nat))} {N:List Blk} {t:List PV} {e:Ex} {j k v off len:Nat} (he:(match e with|.ret|.normal => True|_ => False)) (hM:lowM M.length M)
  (hv:resOf (M ++ N) t rs = some [.os (M.length + j) v off len]) (hj:N[j]? = some (.row true k v xs)) (hx:lowL M.length xs):Qat M.length rs (.os M.length v off len) (M ++ [.row true k v xs]) e (M ++ N) t:=by
 refine ⟨he,by simp,by simpa using hM,M.length + j,v,off,len,k,xs,hv,by omega,by rw [getMj];exact hj,hx,rfl,by simp⟩
theorem Qhf {n:Nat}:lowM n [] = True:=eq_true YQ
theorem Qf4 {n:Nat} {b:Blk} {bs:List Blk}:lowM n (b :: bs) = (b.low n ∧ lowM n bs):=propext (Qag b bs)
theorem Qh7 {n:Nat}:lowL n (xs ++ ys) = (lowL n xs ∧ lowL n ys):=propext (QaO xs ys)
theorem QiM {w:Bool} {kk v n:Nat}:(Blk.row w kk v xs).low n = lowL n xs:=nrfl rfl
theorem Qgq {it:Iter} {n:Nat}:(Blk.siter it).low n = True:=nrfl rfl
theorem QkK {es:List (Value × Value)} {n:Nat}:(Blk.map es).low n = True:=nrfl rfl
theorem QC {α β:Type} {l:List α} {i:Nat} {x:α} {f:α → β} (h:l[i]? = some x):(l.take (i + 1)).map f = (l.take i).map f ++ [f x]:=by
 obtain ⟨h1,h2⟩:=List.getElem?_eq_some_iff.1 h
 rw [List.take_succ_eq_append_getElem h1,h2,List.map_append];rfl
theorem mk0 (n:Nat):[] ++ List.replicate (n - ([]:List PV).length) .top = mk n []:=JX [] n (Nat.zero_le _)
theorem mk1 (n:Nat) (h:1 ≤ n) (a:PV):[a] ++ List.replicate (n - [a].length) .top = mk n [(0,a)]:=JX [a] n h
theorem mk2 (n:Nat) (h:2 ≤ n) (a b:PV):[a,b] ++ List.replicate (n - [a,b].length) .top = mk n [(0,a),(1,b)]:=JX [a,b] n h
theorem mk3 (n:Nat) (h:3 ≤ n) (a b c:PV):[a,b,c] ++ List.replicate (n - [a,b,c].length) .top = mk n [(0,a),(1,b),(2,c)]:=JX [a,b,c] n h
theorem mk4 (n:Nat) (h:4 ≤ n) (a b c d:PV):[a,b,c,d] ++ List.replicate (n - [a,b,c,d].length) .top = mk n [(0,a),(1,b),(2,c),(3,d)]:=JX [a,b,c,d] n h
theorem J6:(match Ex.ret with|.ret|.normal => True|_ => False):=trivial
theorem ZD:(match Ex.normal with|.ret|.normal => True|_ => False):=trivial
end
end Go.Nac
namespace Go.Nac
structure Rev where
 at_:Int
 ld:Int
 deriving DecidableEq
def Qd (x:Rev):PV:=.agg [.I x.at_,.I x.ld]
theorem VS (x:Rev):Qd x = .agg [.I x.at_,.I x.ld]:=nrfl rfl
theorem Qa (x:Rev):(Qd x).cells = [.I x.at_,.I x.ld]:=nrfl rfl
theorem Vf {n:Nat} (x:Rev):(Qd x).low n = True:=eq_true (by simp [Qd,PV.low,lowL])
theorem Qf {n:Nat} (l:List Rev):lowL n (l.map Qd) = True:=eq_true (Zm _ _ fun r => by simp [Qd,PV.low,lowL])
theorem Yw (l:List Rev):(l.map Qd).all (QX 2) = true:=by rw [List.all_eq_true];intro x hx;obtain ⟨y,_,rfl⟩:=List.mem_map.1 hx;rfl
theorem Qac (l:List Rev):sized 2 (l.map Qd) = true:=by unfold sized;rw [List.all_eq_true];intro x hx;obtain ⟨y,_,rfl⟩:=List.mem_map.1 hx;rfl
structure Cyc where
 from_:Int
 to_:Int
 lo:Int
 hi:Int
 deriving DecidableEq
def Qn (x:Cyc):PV:=.agg [.I x.from_,.I x.to_,.I x.lo,.I x.hi]
theorem Qk (x:Cyc):(Qn x).cells = [.I x.from_,.I x.to_,.I x.lo,.I x.hi]:=nrfl rfl
theorem Qe9 {n:Nat} (x:Cyc):(Qn x).low n = True:=eq_true (by simp [Qn,PV.low,lowL])
theorem Qj {n:Nat} (l:List Cyc):lowL n (l.map Qn) = True:=eq_true (Zm _ _ fun r => by simp [Qn,PV.low,lowL])
structure Life where
 cap:Int
 exp:Int
 deriving DecidableEq
def ZN (x:Life):PV:=.agg [.I x.cap,.I x.exp]
theorem VF (x:Life):ZN x = .agg [.I x.cap,.I x.exp]:=nrfl rfl
theorem Va (x:Life):(ZN x).cells = [.I x.cap,.I x.exp]:=nrfl rfl
theorem Qde {n:Nat} (x:Life):(ZN x).low n = True:=eq_true (by simp [ZN,PV.low,lowL])
theorem Qea {n:Nat} (l:List Life):lowL n (l.map ZN) = True:=eq_true (Zm _ _ fun r => by simp [ZN,PV.low,lowL])
structure Cls where
 num:Int
 cnt:Int
 deriving DecidableEq
def Qhl (x:Cls):PV:=.agg [.I x.num,.I x.cnt]
theorem Qe1 {n:Nat} (x:Cls):(Qhl x).low n = True:=eq_true (by simp [Qhl,PV.low,lowL])
structure Pnt where
 x:Int
 y:Int
 deriving DecidableEq
def Qh6 (x:Pnt):PV:=.agg [.I x.x,.I x.y]
theorem QeQ {n:Nat} (x:Pnt):(Qh6 x).low n = True:=eq_true (by simp [Qh6,PV.low,lowL])
theorem Z6 {n:Nat} (l:List Int):lowL n (l.map PV.I) = True:=eq_true (Zm _ _ fun r => by simp [PV.low])
end Go.Nac
namespace Go.Nac
def Qfy (F:Prog) (X:XRel) (g:FuncId) (cap:List PV) (xs:List PV):Prop :=
 ∀ (i:Nat) (N:Nat → List Blk),(∀ k,k ≤ xs.length → (N k).length = (N 0).length ∧ lowM (N k).length (N k)) →
  (∀ k x E,xs[k]? = some x → ACall F X (.yl i) [x] (N k ++ E) (.B true) (N (k + 1) ++ E)) → ACall F X (.fn g) (.yl i :: cap) (N 0) (.tup []) (N xs.length)
def Qd0 (N:List Blk):Post:=fun e M' _ => e = .normal ∧ ∃ T,M' = N ++ T
theorem Qar {N M':List Blk} {t:List PV} (T:List Blk) (h:M' = N ++ T):Qd0 N .normal M' t:=⟨rfl,T,h⟩
def Qhn (C:CallR) (m i:Nat) (L LB:Blk) (B:CCode) (N M1:List Blk) (t1:List PV):Prop:=M1[i]? = some L ∧ Wp C m B (Qd0 N) (M1.set i LB) t1
theorem Qnl {C:CallR} {m i:Nat} {L LB:Blk} {B:CCode} {N M1:List Blk} {t1:List PV} (h:M1[i]? = some L) (hw:Wp C m B (Qd0 N) (M1.set i LB) t1):Qhn C m i L LB B N M1 t1:=⟨h,hw⟩
theorem Qgs {F:Prog} {X:XRel} {g:FuncId} {cap xs:List PV} (hg:Qfy F X g cap xs) {n0 n p:Nat} {Q:Post} {kvs:List (Nat × PV)} {f:CX} {A B:CCode} {M:List Blk} (R:Nat → List Blk)
  (hM:lowM M.length M) (hf:ev (mk n kvs) f = .fn (.func g) [] cap) (hlen:∀ k,(R k).length = (R 0).length) (hlow:∀ k,k ≤ xs.length → lowM (M.length + (R 0).length) (R k)) (ht:lowL (M.length + (R 0).length) (kvs.map Prod.snd))
  (hy:∀ k x E L LB,xs[k]? = some x → lowM (M.length + ((R k).length + (1 + E.length))) E →
   Wp (ACall F X) (M.length + ((R k).length + (1 + E.length))) A (thenK (Qhn (ACall F X) (M.length + ((R k).length + (1 + E.length))) (M.length + (R k).length) L LB B (M ++ (R (k + 1) ++ LB :: E))) (fun _ _ _ => False)) (M ++ (R k ++ L :: E)) (mk n ((p,x) :: kvs)))
  (hq:Q .normal (M ++ R xs.length) (mk n kvs)):Wp (ACall F X) n0 (.rangeFunc f [p] A B) Q (M ++ R 0) (mk n kvs):=by
 have hlowR:∀ k,k ≤ xs.length → lowM (M.length + (R 0).length) (M ++ R k):=fun k hk => (VJ _ _).2 ⟨ZP (by omega) hM,hlow k hk⟩
 have key:=hg (M.length + (R 0).length) (fun k => (M ++ R k) ++ [.loop .ready none (mk n kvs) [p] A B]) (fun k hk => ?_) (fun k x E hx => ?_)
 ·refine Qi1 (M':=M ++ R xs.length) (A':=A) (B':=B) (ps':=[p]) (t':=mk n kvs) hf ?_ ?_ ?_ hq
  ·rw [List.length_append];exact key
  ·simp [hlen]
  ·rw [List.length_append];exact hlowR _ (Nat.le_refl _)
 ·have e:((M ++ R k) ++ [Blk.loop .ready none (mk n kvs) [p] A B]).length = M.length + (R 0).length + 1:=by simp [hlen k];omega
  refine ⟨by rw [e];simp;omega,?_⟩
  rw [e]
  refine (VJ _ _).2 ⟨ZP (by omega) (hlowR k hk),?_⟩
  refine (Qag _ _).2 ⟨?_,YQ⟩
  exact Q0 (by omega) _ (Qr ht)
 ·have hkx:k < xs.length:=(List.getElem?_eq_some_iff.1 hx).1
  have hi:((M ++ R k) ++ [Blk.loop .ready none (mk n kvs) [p] A B] ++ E)[M.length + (R 0).length]? = some (.loop .ready none (mk n kvs) [p] A B):=by
   rw [List.append_assoc,List.getElem?_append_right (by simp [hlen k]),List.length_append,hlen k,Nat.sub_self];rfl
  refine QjR hi fun h1 h2 => ?_
  have e:((M ++ R k) ++ [Blk.loop .ready none (mk n kvs) [p] A B] ++ E).length = M.length + ((R k).length + (1 + E.length)):=by simp;omega
  rw [e] at h1 ⊢
  have hE:lowM (M.length + ((R k).length + (1 + E.length))) E:=((VJ _ _).1 h1).2
  have:=hy k x E (.loop .ready none (mk n kvs) [p] A B) (.loop .busy none (mk n kvs) [p] A B) hx hE
  have e2:(M ++ R k) ++ [Blk.loop .ready none (mk n kvs) [p] A B] ++ E = M ++ (R k ++ Blk.loop .ready none (mk n kvs) [p] A B :: E):=by simp
  rw [e2,← hlen k]
  refine ZJ (fun _ _ _ _ _ h => h) A (Zq ?_ (fun _ _ _ h => h)) this
  rintro M1 t1 ⟨g1,g2⟩
  refine Qnk g1 (ZJ (fun _ _ _ _ _ h => h) B ?_ g2)
  rintro ex M' t ⟨rfl,T,rfl⟩
  have hN:(M ++ (R (k + 1) ++ Blk.loop .busy none (mk n kvs) [p] A B :: E)).length = M.length + ((R k).length + (1 + E.length)):=by simp [hlen (k + 1),hlen k];omega
  have hidx:∀ (b:Blk) (S:List Blk),(M ++ (R (k + 1) ++ b :: S))[M.length + (R k).length]? = some b:=by
   intro b S
   rw [getMj,List.getElem?_append_right (by simp [hlen (k + 1),hlen k]),hlen (k + 1),hlen k,Nat.sub_self];rfl
  refine ⟨⟨mk n kvs,[p],A,B,?_⟩,⟨M.length + ((R k).length + (1 + E.length)),Nat.le_refl _,by rw [List.length_append,hN];omega,?_,?_⟩,rfl⟩
  ·rw [show (M ++ (R (k + 1) ++ Blk.loop .busy none (mk n kvs) [p] A B :: E)) ++ T = M ++ (R (k + 1) ++ Blk.loop .busy none (mk n kvs) [p] A B :: (E ++ T)) from by simp]
   exact hidx _ _
  ·rw [List.take_left' hN]
   refine (VJ _ _).2 ⟨ZP (by omega) hM,(VJ _ _).2 ⟨ZP (by rw [hlen k];omega) (hlow (k + 1) hkx),(Qag _ _).2 ⟨?_,hE⟩⟩⟩
   exact Q0 (by rw [hlen k];omega) _ (Qr ht)
  ·rw [List.take_left' hN,setMj,List.set_append_right _ _ (by simp [hlen (k + 1),hlen k]),hlen (k + 1),hlen k,Nat.sub_self]
   simp
end Go.Nac
namespace Go.Nac
section
variable {M:List Blk} {k:IntKind} {a:Int}
theorem Zd {i:Nat} {sk:SK} {z q:Value} {ok:Bool}:lookV M sk z ok (.om i) (.s q) = lookB z ok sk q M[i]?:=nrfl rfl
theorem Zk {sk:SK} {z q:Value} {es:List (Value × Value)} (h1:keyOk sk q = true) (h2:Q7 q es = true):lookB z false sk q (some (.map es)) = some (.s ((find q es).getD z)):=by
 simp only [lookB,h1,h2,and_self,if_true]
 cases find q es <;> rfl
theorem Zc {sk:SK} {z q:Value} {es:List (Value × Value)} (h1:keyOk sk q = true) (h2:Q7 q es = true):lookB z true sk q (some (.map es)) = some (.tup [.s ((find q es).getD z),.B (find q es).isSome]):=by
 simp only [lookB,h1,h2,and_self,if_true]
 cases find q es <;> rfl
theorem Zo {i:Nat} {sk:SK} {q u:Value}:mupdO M sk (.om i) (.s q) (.s u) = mupdB M i sk q u M[i]?:=nrfl rfl
theorem VQ {i:Nat} {sk:SK} {q u:Value} {es:List (Value × Value)} (h1:keyOk sk q = true) (h2:Q7 q es = true):mupdB M i sk q u (some (.map es)) = some (unit,M.set i (.map (upd q u es))):=by
 simp only [mupdB,h1,h2,and_self,if_true]
theorem VP:keyOk .int (.int k a) = true:=nrfl rfl
theorem VT {s:ByteArray}:keyOk .str (.string s) = true:=nrfl rfl
theorem VR:oneB (.s (.map none)) = true:=nrfl rfl
section
variable {C:CallR} {K:(List Blk) → List PV → Prop} {t:List PV} {d:Option Nat} {os:List COper} {xs ys:List PV}
def capnV:PV → Option PV
 | .s (.slice none 0 0) => some (.I 0)
 | _ => none
theorem Jj {x:CX}:wpOps C (⟨d,.capn x,none⟩ :: os) K M t = b1 (capnV (ev t x)) (kont C os K M t d):=Qz rfl (by
 simp only [res,capnV]
 generalize ev t x = vx
 split
 ·rfl
 ·split
  ·rename_i h;exact absurd rfl h
  ·rfl)
theorem ZM:capnV (.s (.slice none 0 0)) = some (.I 0):=nrfl rfl
def appzO (M:List Blk) (k:Nat) (g:Option Nat) (z:List Value) (bytes:Nat):PV → PV → Option (PV × List Blk)
 | .s (.slice none 0 0),.s (.int .i64 l) =>
   if 0 < l ∧ l ≤ 2 ^ 20 ∧ bytes ≤ 2 ^ 20 ∧ z.length = k ∧ 0 < k then
    (mkPV g (z.map .s)).map fun e => (.os M.length 0 0 l.toNat,M ++ [.row true k 0 (List.replicate l.toNat e)])
   else none
 | _,_ => none
theorem Jt {k:Nat} {g:Option Nat} {z:List Value} {bytes:Nat} {x n:CX}:wpOps C (⟨d,.appz k g z bytes x n,none⟩ :: os) K M t = b2 (appzO M k g z bytes (ev t x) (ev t n)) (kont2 C os K t d):=by
 rw [QP rfl];rfl
theorem Zr {kk bytes:Nat} {g:Option Nat} {zv:List Value} (h0:0 < a) (h1:a ≤ 1048576) (hb:bytes ≤ 1048576) (hz:zv.length = kk) (hk:0 < kk) :
  appzO M kk g zv bytes (.s (.slice none 0 0)) (.s (.int .i64 a)) = (mkPV g (zv.map .s)).map fun e => (.os M.length 0 0 a.toNat,M ++ [.row true kk 0 (List.replicate a.toNat e)]):=by
 exact if_pos ⟨h0,by omega,by omega,hz,hk⟩
def copyR (M:List Blk) (k i ver off len:Nat) (ys:List PV):Option Blk → Option (PV × List Blk)
 | some (.row true k' v xs) => if v = ver ∧ k' = k ∧ off + len ≤ xs.length ∧ ys.all (QX k) ∧ k ≠ 0 then
     some (.I ((Nat.min ys.length len:Nat):Int),M.set i (.row true k ver (setRange xs off (ys.take len)))) else none
 | _ => none
def copyO (M:List Blk) (k:Nat):PV → Option (List PV) → Option (PV × List Blk)
 | .os i ver off len,some ys => copyR M k i ver off len ys M[i]?
 | _,_ => none
theorem Jq {k:Nat} {x y:CX}:wpOps C (⟨d,.copy k x y,none⟩ :: os) K M t = b2 (copyO M k (ev t x) (held M (ev t y))) (kont2 C os K t d):=by
 rw [QP rfl]
 simp only [res]
 generalize ev t x = vx;generalize held M (ev t y) = vy
 cases vx <;> cases vy <;> first|rfl|skip
theorem Z7 {kk i ver off len:Nat}:copyO M kk (.os i ver off len) (some ys) = copyR M kk i ver off len ys M[i]?:=nrfl rfl
theorem ZI {kk i ver len:Nat} (hl:len = xs.length) (hy:ys.length = len) (ho:ys.all (QX kk) = true) (hk:kk ≠ 0) :
  copyR M kk i ver 0 len ys (some (.row true kk ver xs)) = some (.I (len:Int),M.set i (.row true kk ver ys)):=by
 show (if _ then _ else _) = _
 rw [if_pos ⟨rfl,rfl,by omega,ho,hk⟩]
 have e1:ys.take len = ys:=List.take_of_length_le (by omega)
 have e2:setRange xs 0 ys = ys:=by simp [setRange];omega
 rw [e1,e2,hy];simp
end
end
end Go.Nac
namespace Go.Nac
section
variable {C:CallR} {K:(List Blk) → List PV → Prop} {M:List Blk} {t:List PV} {d:Option Nat} {os:List COper} {xs ys:List PV}
theorem ev_g {g:Nat} {cs:List Value}:ev t (.g g cs) = .fp (cs.map .s):=nrfl rfl
theorem Qm4 {ρ:CX → PV} {g:Nat} {cs:List Value}:argV M ρ (.g g cs) = view M (ρ (.g g cs)):=nrfl rfl
def Qbl (neg:Bool):PV → Option PV
 | .err => some (.B neg)
 | .s .nilIface => some (.B (!neg))
 | _ => none
theorem QlM {neg:Bool} {x:CX}:wpOps C (⟨d,.isnil neg x,none⟩ :: os) K M t = b1 (Qbl neg (ev t x)) (kont C os K M t d):=Qz rfl (by
 simp only [res,Qbl];generalize ev t x = vx;split <;> split <;> simp_all)
theorem QgA {neg:Bool}:Qbl neg .err = some (.B neg):=nrfl rfl
theorem QfC {neg:Bool}:Qbl neg (.s .nilIface) = some (.B (!neg)):=nrfl rfl
def b2sV:Option (List PV) → Option PV
 | some ys => (strOf ys).map fun s => .s (.string s)
 | none => none
def noStr:PV → Bool
 | .s (.string _) => false
 | _ => true
def b2sO (M:List Blk) (x:PV):Option PV:=if noStr x = true then b2sV (held M x) else none
theorem r_b2s {x:CX}:wpOps C (⟨d,.b2s x,none⟩ :: os) K M t = b1 (b2sO M (ev t x)) (kont C os K M t d):=Qz rfl (by
 simp only [res,b2sO]
 generalize ev t x = vx
 have key:((held M vx).bind strOf).map (fun s => (PV.s (.string s),M)) = (b2sV (held M vx)).map (·,M):=by
  cases held M vx with
  | none => rfl
  | some ys => simp only [b2sV,Option.bind_some,Option.map_map];rfl
 split
 ·rfl
 ·rename_i hno
  rw [if_pos (by cases vx <;> first|rfl|(rename_i v;cases v <;> first|rfl|exact absurd rfl (hno _)))]
  exact key)
theorem Qmb:b2sO M (.fs xs) = (strOf xs).map fun s => .s (.string s):=nrfl rfl
theorem Qmj {i v o n:Nat}:b2sO M (.os i v o n) = b2sV (held M (.os i v o n)):=nrfl rfl
theorem QiN:b2sO M (.s (.slice none 0 0)) = some (.s (.string ⟨#[]⟩)):=nrfl rfl
theorem Qiq:b2sV (some ys) = (strOf ys).map fun s => .s (.string s):=nrfl rfl
theorem Qel (b:ByteArray):strOf (QH b) = some b:=by
 have key:∀ l:List UInt8,strOf (l.map fun u => .s (.int .u8 u.toNat)) = some ⟨l.toArray⟩:=by
  intro l
  induction l with
  | nil => rfl
  | cons u l ih =>
   show (strOf (l.map _)).map _ = _
   rw [ih]
   simp
 unfold QH
 rw [key]
theorem QiH {b:ByteArray}:held M (.s (.string b)) = some (QH b):=nrfl rfl
theorem Qd9 {n:Nat} (b:ByteArray):lowL n (QH b) = True:=eq_true (Zm _ _ fun r => by simp [PV.low])
def s2bO (M:List Blk) (own:Bool):PV → Option (PV × List Blk)
 | .s (.string b) => if own = true then some (.os M.length 0 0 b.size,M ++ [.row true 1 0 (QH b)]) else some (.fs (QH b),M)
 | _ => none
theorem r_s2b {own:Bool} {x:CX}:wpOps C (⟨d,.s2b own x,none⟩ :: os) K M t = b2 (s2bO M own (ev t x)) (kont2 C os K t d):=by
 rw [QP rfl]
 simp only [res,s2bO]
 generalize ev t x = vx
 split <;> split <;> simp_all
theorem Qjw {b:ByteArray}:s2bO M true (.s (.string b)) = some (.os M.length 0 0 b.size,M ++ [.row true 1 0 (QH b)]):=nrfl rfl
theorem Qlo {b:ByteArray}:s2bO M false (.s (.string b)) = some (.fs (QH b),M):=nrfl rfl
def ownB (ver:Nat):Option Blk → Bool
 | some (.row true _ v _) => v == ver
 | _ => false
theorem Qg4 {i ver:Nat}:QbH M i ver = ownB ver M[i]?:=by
 unfold QbH
 cases M[i]? with
 | none => rfl
 | some b => cases b with
  | row w => cases w <;> rfl
  | _ => rfl
theorem Qjb {ver k:Nat}:ownB ver (some (.row true k ver xs)) = true:=by simp [ownB]
def markO (M:List Blk):PV → Option (PV × List Blk)
 | .os i ver off len => if ownB ver M[i]? = true ∧ 0 < len then some (.os i ver off len,M) else none
 | _ => none
theorem Qfh {x:CX}:res M (ev t) (.mark x) = markO M (ev t x):=by
 simp only [res,markO,Qg4]
 generalize ev t x = vx
 cases vx <;> rfl
theorem Qoo {x:CX}:wpOps C (⟨d,.mark x,none⟩ :: os) K M t = b2 (markO M (ev t x)) (kont2 C os K t d):=by
 rw [QP rfl,Qfh]
theorem QkO {x:CX}:wpOps C (⟨d,.fz (.mark x),none⟩ :: os) K M t = b2 (ZK (markO M (ev t x))) (kont2 C os K t d):=r_fz Qfh
theorem QjY {i ver off len:Nat}:markO M (.os i ver off len) = if ownB ver M[i]? = true ∧ 0 < len then some (.os i ver off len,M) else none:=nrfl rfl
theorem QnX {f:FuncId} {ys:List CX}:wpOps C (⟨d,.mkbm f ys,none⟩ :: os) K M t = wpOps C os K M (put t d (.fn (.func f) (ys.map (ev t)) [])):=Qz (f:=some (.fn (.func f) (ys.map (ev t)) [])) rfl rfl
def Qdp (C:CallR) (g:FuncId) (args:List PV) (M:List Blk) (k:PV → List Blk → Prop):Prop:=∃ v,lowL 0 args ∧ (∀ N,C (.fn g) args N v N) ∧ k v M
theorem Qlv {g:FuncId} {args:List CX}:wpOps C (⟨d,.pcall (.inr g) args,none⟩ :: os) K M t = Qdp C g (args.map (argV [] (ev t))) M (kont2 C os K t d):=by
 apply propext
 show (∃ v M',(M' = M ∧ lowL 0 (args.map (argV [] (ev t))) ∧ ∀ N,C (.fn g) (args.map (argV [] (ev t))) N v N) ∧ wpOps C os K M' (put t d v)) ↔ _
 exact ⟨fun ⟨v,M',⟨h1,h2,h3⟩,h4⟩ => ⟨v,h2,h3,h1 ▸ h4⟩,fun ⟨v,h1,h2,h3⟩ => ⟨v,M,⟨rfl,h1,h2⟩,h3⟩⟩
def Qdi (C:CallR) (f:PV) (args:List PV) (M:List Blk) (k:PV → List Blk → Prop):Prop :=
 match f with
 | .fn (.func g) first cap => lowL 0 first ∧ lowL 0 cap ∧ ∃ v,lowL 0 args ∧ (∀ N,C (.fn g) (first ++ args ++ cap) N v N) ∧ k v M
 | _ => False
theorem Qjn {x:CX} {args:List CX}:wpOps C (⟨d,.pcall (.inl x) args,none⟩ :: os) K M t = Qdi C (ev t x) (args.map (argV [] (ev t))) M (kont2 C os K t d):=by
 apply propext
 show (∃ v M',(M' = M ∧ lowL 0 (args.map (argV [] (ev t))) ∧ ∀ N,(match ev t x with
   | .fn (.func g) first cap => lowL 0 first ∧ lowL 0 cap ∧ C (.fn g) (first ++ args.map (argV [] (ev t)) ++ cap) N v N
   | _ => False)) ∧ wpOps C os K M' (put t d v)) ↔ _
 unfold Qdi
 split
 ·exact ⟨fun ⟨v,M',⟨h1,h2,h3⟩,h4⟩ => ⟨(h3 M).1,(h3 M).2.1,v,h2,fun N => (h3 N).2.2,h1 ▸ h4⟩,fun ⟨g1,g2,v,h1,h2,h3⟩ => ⟨v,M,⟨rfl,h1,fun N => ⟨g1,g2,h2 N⟩⟩,h3⟩⟩
 ·constructor
  ·rintro ⟨v,M',⟨h1,h2,h3⟩,h4⟩;exact (h3 M).elim
  ·exact fun h => h.elim
theorem Qg2 {g:FuncId} {args:List PV} {k:PV → List Blk → Prop}:Qdi C (.fn (.func g) [] []) args M k = Qdp C g args M k:=by
 apply propext
 show (lowL 0 [] ∧ lowL 0 [] ∧ ∃ v,lowL 0 args ∧ (∀ N,C (.fn g) ([] ++ args ++ []) N v N) ∧ k v M) ↔ _
 simp [Qdp,lowL]
def Qoh (C:CallR) (fv:PV) (args:List PV) (M:List Blk) (k:PV → List Blk → Prop):Prop :=
 ∃ v i b,Qaq fv = [i] ∧ lowL 0 args ∧ (∀ N:List Blk,N.length = M.length → N[i]? = M[i]? → QbS C fv args N v (N.set i b)) ∧ k v (M.set i b)
theorem QlQ {x:CX} {args:List CX}:wpOps C (⟨d,.fcall x args,none⟩ :: os) K M t = Qoh C (ev t x) (args.map (argV [] (ev t))) M (kont2 C os K t d):=by
 apply propext
 constructor
 ·rintro ⟨v,M',⟨i,b,h1,rfl,h3,h4⟩,h5⟩;exact ⟨v,i,b,h1,h3,h4,h5⟩
 ·rintro ⟨v,i,b,h1,h3,h4,h5⟩;exact ⟨v,_,⟨i,b,h1,rfl,h3,h4⟩,h5⟩
def Jw:Nat → List Blk
 | 0 => []
 | k + 1 => hole :: Jw k
theorem Qhq (k:Nat):Jw k = List.replicate k hole:=by
 induction k with
 | zero => rfl
 | succ k ih => rw [List.replicate_succ,← ih];rfl
theorem QhZ {n0 k:Nat} {Q:Post}:Wp C n0 (.holes k) Q M t = Q .normal (M ++ Jw k) t:=by rw [QkI,Qhq]
theorem QeB:Jw 0 = []:=nrfl rfl
theorem Qe0 {k:Nat}:Jw (k + 1) = .row false 0 0 [] :: Jw k:=nrfl rfl
theorem Qef {ks:List SK} {a b:ByteArray}:QL (.str :: ks) (.s (.string a) :: xs) (.s (.string b) :: ys) = (QL ks xs ys).map fun r => (a == b) && r:=by
 simp only [QL,eqSK,bind,Option.bind_some,pure]
 cases QL ks xs ys <;> rfl
theorem Qhj:PV.err.cells = [.err]:=nrfl rfl
theorem QkR:oneB .err = true:=nrfl rfl
theorem QjQ:view M .err = .err:=nrfl rfl
theorem Qg6:view1 M .err = .err:=nrfl rfl
theorem QgT:view M (.s .nilIface) = .s .nilIface:=nrfl rfl
theorem QkH {n:Nat}:outV n M .err = .err:=nrfl rfl
theorem Qk3 {n:Nat}:PV.err.low n = True:=by simp [PV.low]
end
end Go.Nac
set_option linter.unusedSectionVars false
namespace Go.Nac
def Opens (P:Program) (t:TypeId) {α:Type} (f:α → List PV) (ok:α → Prop):Prop :=
 ∀ (H:Type) (enc:TypeId × Value → H) (W:World) (L:Loc) (n:Nat) (cs:List Value) (x:DataW H × List MemPlace),
  DataW.trod enc P W 0 (fun _ => true) true n t cs = some x → ∃ a,ok a ∧ LRel [] L W (f a) cs
theorem YT {z:Int} (h:(Lit.int .i64 z).wf = true):-9223372036854775808 ≤ z ∧ z ≤ 9223372036854775807:=bounds_i64 h
theorem Qh2 {P:Program} {t:TypeId} (ht:P.underlying t = some (.int .i64)):Opens P t (fun z:Int => [.I z]) (fun z => -9223372036854775808 ≤ z ∧ z ≤ 9223372036854775807):=by
 intro H enc W L n cs x h
 obtain ⟨z,rfl,_,hw⟩:=DataW.trod_int ht h
 exact ⟨z,YT hw,.cons _ _ _ _ (.s _ rfl) .nil⟩
theorem Qfb {M:List Blk} {L:Loc} {w:World} {α:Type} (f:α → List PV) {k:Nat} (hf:∀ a,(f a).length = k) (g:Nat → List Value) :
  ∀ (l:List α) (o:Nat),(∀ i a,l[i]? = some a → LRel M L w (f a) (g (o + i))) → LRel M L w (l.flatMap f) ((List.range l.length).flatMap fun i => g (o + i))
 | [],_,_ => .nil
 | a :: l,o,h => by
  rw [List.flatMap_cons,List.length_cons,List.range_succ_eq_map,List.flatMap_cons,List.flatMap_map]
  refine LRel.append (by simpa using h 0 a rfl) ?_
  have:=Qfb f hf g l (o + 1) fun i b hb => by
   have:=h (i + 1) b (by simpa using hb)
   rwa [show o + (i + 1) = o + 1 + i by omega] at this
  have e:(fun i => g (o + 1 + i)) = fun i => g (o + (i + 1)):=by funext i;congr 1;omega
  rw [e] at this
  exact this
theorem QiG {g:Nat → List Value} {k n:Nat} (hk:0 < k) (hg:∀ i,i < n → (g i).length = k) {m:Nat} {v:Value} (h:((List.range n).flatMap g)[m]? = some v) :
  ∃ i j,i < n ∧ j < k ∧ m = i * k + j ∧ (g i)[j]? = some v:=by
 induction n with
 | zero => simp at h
 | succ n ih =>
  have hl:((List.range n).flatMap g).length = n * k:=by
   clear ih h
   have hg':∀ i,i < n → (g i).length = k:=fun i hi => hg i (by omega)
   clear hg
   induction n with
   | zero => simp
   | succ n ih =>
    rw [List.range_succ,List.flatMap_append,List.length_append,ih fun i hi => hg' i (by omega)]
    simp [hg' n (by omega),Nat.succ_mul]
  rw [List.range_succ,List.flatMap_append] at h
  by_cases hm:m < n * k
  ·rw [List.getElem?_append_left (by omega)] at h
   obtain ⟨i,j,h1,h2,h3,h4⟩:=ih (fun i hi => hg i (by omega)) h
   exact ⟨i,j,by omega,h2,h3,h4⟩
  ·rw [List.getElem?_append_right (by omega),hl] at h
   simp only [List.flatMap_cons,List.flatMap_nil,List.append_nil] at h
   have:=(List.getElem?_eq_some_iff.1 h).1
   rw [hg n (by omega)] at this
   exact ⟨n,m - n * k,by omega,this,by omega,h⟩
theorem Qjp {α β:Type} {f:α → Option β}:∀ {l:List α} {r:List β},l.mapM f = some r → r.length = l.length ∧ ∀ (i:Nat) (a:α),l[i]? = some a → f a = r[i]?
 | l,r,h => ⟨by simpa using mapM_some_length h,fun i a hi => mapM_some_get h i a hi⟩
theorem QaG {P:Program} {t e:TypeId} (ht:P.underlying t = some (.slice e)) {k:Nat} (he:P.cellsOf e = k) (hk:0 < k) {α:Type} {f:α → List PV} {ok:α → Prop}
  (g:α → PV) (hg:∀ a,(g a).cells = f a) (hf:∀ a,(f a).length = k) (h:Opens P e f ok):Opens P t (fun l:List α => [.fs (l.map g)]) (fun l => ∀ a ∈ l,ok a):=by
 intro H enc W L n cs x hx
 have hcells:∀ l:List α,∀ x ∈ l.map g,x.cells.length = k:=by
  intro l x hx
  obtain ⟨a,_,rfl⟩:=List.mem_map.1 hx
  rw [hg,hf]
 rcases DataW.trod_slice ht hx with ⟨rfl,_⟩|⟨a,len,cap,elems,rest,m,_,rfl,_,hb,hl,hm,hlen,hel,_,_⟩
 ·exact ⟨[],by simp,.cons _ _ _ _ (.fs _ _ _ _ k [] rfl (by simp) (by simp) .nil (by simp)) .nil⟩
 ·have each:∀ i,i < len → ∃ cs',W.cells? 0 (a.add (i * k)) k = some cs' ∧ ∃ b,ok b ∧ LRel [] L W (f b) cs':=by
   intro i hi
   have h1:=hel i hi
   rw [he,List.getElem?_eq_getElem (by omega),Option.bind_eq_some_iff] at h1
   obtain ⟨cs',h2,h3⟩:=h1
   exact ⟨cs',h2,h H enc W L _ _ _ h3⟩
  let G:Nat → List Value:=fun i => (W.cells? 0 (a.add (i * k)) k).getD []
  have pick:∀ i,i < len → ∃ b,ok b ∧ LRel [] L W (f b) (G i):=by
   intro i hi
   obtain ⟨cs',h1,h2⟩:=each i hi
   show ∃ b,ok b ∧ LRel [] L W (f b) ((W.cells? 0 (a.add (i * k)) k).getD [])
   rw [h1];exact h2
  have choose:∀ n,n ≤ len → ∃ l:List α,l.length = n ∧ (∀ b ∈ l,ok b) ∧ ∀ i b,l[i]? = some b → LRel [] L W (f b) (G i):=by
   intro n hn
   induction n with
   | zero => exact ⟨[],rfl,by simp,by simp⟩
   | succ n ih =>
    obtain ⟨l,h1,h2,h3⟩:=ih (by omega)
    obtain ⟨b,h4,h5⟩:=pick n (by omega)
    refine ⟨l ++ [b],by simp [h1],?_,?_⟩
    ·intro c hc
     rcases List.mem_append.1 hc with hc|hc
     ·exact h2 c hc
     ·rw [List.mem_singleton.1 hc];exact h4
    ·intro i c hc
     by_cases hi:i < l.length
     ·rw [List.getElem?_append_left hi] at hc;exact h3 i c hc
     ·have:i = n:=by have:=(List.getElem?_eq_some_iff.1 hc).1;simp at this;omega
      subst this
      rw [List.getElem?_append_right (by omega),h1,Nat.sub_self] at hc
      simp at hc;subst hc;exact h5
  obtain ⟨l,hl1,hl2,hl3⟩:=choose len (Nat.le_refl _)
  have hG:∀ i,i < len → (G i).length = k:=by
   intro i hi
   obtain ⟨b,_,hb⟩:=pick i hi
   rw [← hb.length,hf]
  refine ⟨l,hl2,.cons _ _ _ _ (.fs _ _ _ _ k ((List.range l.length).flatMap G) (by simp [hl1]) (by simp;omega) (hcells l) ?_ ?_) .nil⟩
  ·have e:(l.map g).flatMap PV.cells = l.flatMap f:=by
    rw [List.flatMap_map];simp only [hg]
   rw [e]
   have:=Qfb (M:=[]) (L:=L) (w:=W) f hf G l 0 (fun i b hb => by simpa using hl3 i b hb)
   simpa using this
  ·intro hne
   have h0:0 < len:=by
    rw [← hl1]
    cases l with
    | nil => simp at hne
    | cons => simp
   have cell:∀ i j v,i < len → j < k → (G i)[j]? = some v → W.cell? ((a.add (i * k)).add j) = some v:=by
    intro i j v hi hj hv
    obtain ⟨cs',h1,_⟩:=each i hi
    have hGi:G i = cs':=by show (W.cells? 0 (a.add (i * k)) k).getD [] = cs';rw [h1];rfl
    rw [hGi] at hv
    unfold World.cells? at h1
    split at h1
    ·have:=(Qjp h1).2 j j (by simp [hj])
     rw [this,hv]
    ·cases h1
   obtain ⟨v0,hv0⟩:∃ v,(G 0)[0]? = some v:=⟨_,List.getElem?_eq_getElem (by rw [hG 0 h0];exact hk)⟩
   have hc0:=cell 0 0 v0 h0 hk hv0
   simp only [Nat.zero_mul,Addr.add,if_true] at hc0
   have hsp:a.spot = none:=by
    unfold World.cell? at hc0
    split at hc0
    ·split at hc0
     ·cases hc0
     ·rename_i hs;simpa using hs
    ·cases hc0
   have hblk:a.block < W.heap.size:=World.block_lt_of_cell? W a hc0
   obtain ⟨ab,ao,as⟩:=a
   simp only at hsp
   subst hsp
   refine ⟨ab,ao,rfl,hblk,fun ⟨i,b,p,hi,_⟩ => by simp at hi,fun m v hmv => ?_⟩
   rw [hl1] at hmv
   obtain ⟨i,j,h1,h2,rfl,h3⟩:=QiG hk hG hmv
   have:=cell i j v h1 h2 h3
   have e:(Addr.add (Addr.add ⟨ab,ao,none⟩ (i * k)) j) = ⟨ab,ao + (i * k + j),none⟩:=by
    unfold Addr.add
    split <;> split <;> simp_all <;> omega
   rw [← e];exact this
theorem JW {P:Program} {t:TypeId} {fs:Array Field} (ht:P.underlying t = some (.struct fs)) {H:Type} {enc:TypeId × Value → H} {W:World} {n:Nat} {cs:List Value} {x:DataW H × List MemPlace}
  (h:DataW.trod enc P W 0 (fun _ => true) true n t cs = some x) (hc:P.cellsOf t = fs.size) (hf:∀ (i:Nat) (f:Field),fs[i]? = some f → f.offset = i ∧ P.cellsOf f.type = 1) :
  cs.length = fs.size ∧ ∀ (i:Nat) (f:Field),fs[i]? = some f → ∃ v m y,cs[i]? = some v ∧ DataW.trod enc P W 0 (fun _ => true) true m f.type [v] = some y:=by
 obtain ⟨xs,m,_,_,hl,hxl,hx⟩:=DataW.trod_struct ht h
 refine ⟨hl.trans hc,fun i f hi => ?_⟩
 have h1:=hx i f hi
 have hlt:=(Array.getElem?_eq_some_iff.1 hi).1
 rw [(hf i f hi).1,(hf i f hi).2,List.getElem?_eq_getElem (by omega)] at h1
 have hlt2:i < cs.length:=by omega
 rw [List.drop_eq_getElem_cons hlt2] at h1
 exact ⟨cs[i],m,_,List.getElem?_eq_getElem hlt2,h1⟩
theorem QhR {P:Program} {t:TypeId} {f0 f1:Field} (ht:P.underlying t = some (.struct #[f0,f1])) (hc:P.cellsOf t = 2) (h0:f0.offset = 0 ∧ P.cellsOf f0.type = 1 ∧ P.underlying f0.type = some (.int .i64))
  (h1:f1.offset = 1 ∧ P.cellsOf f1.type = 1 ∧ P.underlying f1.type = some (.int .i64)) :
  Opens P t (fun r:Rev => [.I r.at_,.I r.ld]) (fun r => (-9223372036854775808 ≤ r.at_ ∧ r.at_ ≤ 9223372036854775807) ∧ (-9223372036854775808 ≤ r.ld ∧ r.ld ≤ 9223372036854775807)):=by
 intro H enc W L n cs x h
 obtain ⟨hl,hf⟩:=JW ht h hc (by
  intro i f hi
  match i,hi with
  | 0,hi => simp at hi;subst hi;exact ⟨h0.1,h0.2.1⟩
  | 1,hi => simp at hi;subst hi;exact ⟨h1.1,h1.2.1⟩
  | n + 2,hi => simp at hi)
 obtain ⟨v0,m0,y0,e0,g0⟩:=hf 0 f0 rfl
 obtain ⟨v1,m1,y1,e1,g1⟩:=hf 1 f1 rfl
 obtain ⟨z0,k0,_,w0⟩:=DataW.trod_int h0.2.2 g0
 obtain ⟨z1,k1,_,w1⟩:=DataW.trod_int h1.2.2 g1
 cases k0;cases k1
 obtain ⟨c0,c1,rfl⟩:∃ a b,cs = [a,b]:=by
  match cs,hl with
  | [a,b],_ => exact ⟨a,b,rfl⟩
 simp at e0 e1;subst e0;subst e1
 exact ⟨⟨z0,z1⟩,⟨YT w0,YT w1⟩,.cons _ _ _ _ (.s _ rfl) (.cons _ _ _ _ (.s _ rfl) .nil)⟩
theorem Opens.arg {P:Program} {t:TypeId} {α:Type} {f:α → List PV} {ok:α → Prop} (h:Opens P t f ok) (g:α → PV) (hg:∀ a,f a = [g a]) {H:Type} {enc:TypeId × Value → H} {W:World} {v:Value} {d:DataW H} {ps:List MemPlace}
  (hv:v.cells.toList = [v]) (ht:DataW.Trod enc P W 0 (fun _ => true) true t v d ps) (L:Loc):∃ a,ok a ∧ VRel [] L W (g a) v:=by
 obtain ⟨n,hn⟩:=ht
 obtain ⟨a,h1,h2⟩:=h H enc W L n _ _ hn
 rw [hg,hv] at h2
 cases h2 with|cons _ _ _ _ h3 _ => exact ⟨a,h1,h3⟩
open Go.RowKit in
theorem QfN [Env] {P:Program} (hmix:P.follows .mixedOrders = true) {F:Prog} {X:XRel} (hF:∀ f cf,F f = some cf → okFn P f cf = true) (hX:∀ f args M r M',X f args M r M' → Conc P (.fn f) args M r M') {f:FuncId} (hroot:(F f).isSome = true) {args:List PV} (h:∀ M,ACall F X (.fn f) args M (.B true) M)
  {W:World} {cargs:Array Value} (hG:∀ g cs,Env.glb g = some cs → ∃ el,W.heap[g]? = some (.cells cs.toArray el (0,0))) (A:LRel [] (fun _ => none) W args cargs.toList):Calls P f cargs W fun e W' => e = .returned (.bool true) ∧ Below W.heap.size W W':=by
 refine (QaS hmix hF hX hroot (h []) (L:=fun _ => none) ⟨fun i b hi => by simp at hi,fun i j bi bj p q hi => by simp at hi,fun g cs h => ⟨hG g cs h,fun ⟨i,b,p,hi,_⟩ => by simp at hi⟩⟩ A).mono fun e W' he => ?_
 cases e with
 | returned v =>
  obtain ⟨L',E,S,R⟩:=he
  refine ⟨?_,E.os,E.tape,E.output,E.size,fun k hk => (E.frame k hk fun ⟨i,b,p,hi,_⟩ => by simp at hi).1⟩
  cases R with
  | s _ _ => rfl
 | _ => exact he.elim
end Go.Nac
namespace Go.Nac
theorem Qh3 {P:Program} {t:TypeId} {f0 f1 f2 f3:Field} (ht:P.underlying t = some (.struct #[f0,f1,f2,f3])) (hc:P.cellsOf t = 4) (h0:f0.offset = 0 ∧ P.cellsOf f0.type = 1 ∧ P.underlying f0.type = some (.int .i64))
  (h1:f1.offset = 1 ∧ P.cellsOf f1.type = 1 ∧ P.underlying f1.type = some (.int .i64)) (h2:f2.offset = 2 ∧ P.cellsOf f2.type = 1 ∧ P.underlying f2.type = some (.int .i64)) (h3:f3.offset = 3 ∧ P.cellsOf f3.type = 1 ∧ P.underlying f3.type = some (.int .i64)) :
  Opens P t (fun c:Cyc => [.I c.from_,.I c.to_,.I c.lo,.I c.hi]) (fun c => (-9223372036854775808 ≤ c.from_ ∧ c.from_ ≤ 9223372036854775807) ∧ (-9223372036854775808 ≤ c.to_ ∧ c.to_ ≤ 9223372036854775807) ∧ (-9223372036854775808 ≤ c.lo ∧ c.lo ≤ 9223372036854775807) ∧ (-9223372036854775808 ≤ c.hi ∧ c.hi ≤ 9223372036854775807)):=by
 intro H enc W L n cs x h
 obtain ⟨hl,hf⟩:=JW ht h hc (by
  intro i f hi
  match i,hi with
  | 0,hi => simp at hi;subst hi;exact ⟨h0.1,h0.2.1⟩
  | 1,hi => simp at hi;subst hi;exact ⟨h1.1,h1.2.1⟩
  | 2,hi => simp at hi;subst hi;exact ⟨h2.1,h2.2.1⟩
  | 3,hi => simp at hi;subst hi;exact ⟨h3.1,h3.2.1⟩
  | n + 4,hi => simp at hi)
 obtain ⟨v0,m0,y0,e0,g0⟩:=hf 0 f0 rfl
 obtain ⟨v1,m1,y1,e1,g1⟩:=hf 1 f1 rfl
 obtain ⟨v2,m2,y2,e2,g2⟩:=hf 2 f2 rfl
 obtain ⟨v3,m3,y3,e3,g3⟩:=hf 3 f3 rfl
 obtain ⟨z0,k0,_,w0⟩:=DataW.trod_int h0.2.2 g0
 obtain ⟨z1,k1,_,w1⟩:=DataW.trod_int h1.2.2 g1
 obtain ⟨z2,k2,_,w2⟩:=DataW.trod_int h2.2.2 g2
 obtain ⟨z3,k3,_,w3⟩:=DataW.trod_int h3.2.2 g3
 cases k0;cases k1;cases k2;cases k3
 obtain ⟨c0,c1,c2,c3,rfl⟩:∃ a b c d,cs = [a,b,c,d]:=by
  match cs,hl with
  | [a,b,c,d],_ => exact ⟨a,b,c,d,rfl⟩
 simp at e0 e1 e2 e3;subst e0;subst e1;subst e2;subst e3
 exact ⟨⟨z0,z1,z2,z3⟩,⟨YT w0,YT w1,YT w2,YT w3⟩,.cons _ _ _ _ (.s _ rfl) (.cons _ _ _ _ (.s _ rfl) (.cons _ _ _ _ (.s _ rfl) (.cons _ _ _ _ (.s _ rfl) .nil)))⟩
theorem Opens.one {P:Program} {t:TypeId} {α:Type} {f:α → List PV} {ok:α → Prop} (h:Opens P t f ok) (g:α → PV) (hg:∀ a,f a = [g a]) {H:Type} {enc:TypeId × Value → H} {W:World} {L:Loc} {n:Nat} {v:Value} {x:DataW H × List MemPlace}
  (ht:DataW.trod enc P W 0 (fun _ => true) true n t [v] = some x):∃ a,ok a ∧ VRel [] L W (g a) v:=by
 obtain ⟨a,h1,h2⟩:=h H enc W L n _ _ ht
 rw [hg] at h2
 cases h2 with|cons _ _ _ _ h3 _ => exact ⟨a,h1,h3⟩
end Go.Nac
namespace Go.Nac
theorem Qkr {P:Program} {t e:TypeId} (ht:P.underlying t = some (.array 2 e)) (hc:P.cellsOf t = 2) (he:P.cellsOf e = 1) {A:Type} {g:A → PV} {ok:A → Prop} (h:Opens P e (fun a => [g a]) ok)
  {H:Type} {enc:TypeId × Value → H} {W:World} {vs:Array Value} {d:DataW H} {ps:List MemPlace} (hT:DataW.Trod enc P W 0 (fun _ => true) true t (.agg vs) d ps) (L:Loc) :
  ∃ x y,ok x ∧ ok y ∧ VRel [] L W (.agg [g x,g y]) (.agg vs):=by
 obtain ⟨n,hn⟩:=hT
 obtain ⟨xs,m,_,_,hl,hxl,hx⟩:=DataW.trod_array ht hn
 have e0:(Value.agg vs).cells.toList = vs.toList:=rfl
 rw [e0] at hl hx
 rw [he] at hx
 obtain ⟨a,b,hv⟩:∃ a b,vs.toList = [a,b]:=by
  generalize vs.toList = cs at hl
  rw [hc] at hl
  match cs,hl with
  | [a,b],_ => exact ⟨a,b,rfl⟩
 have h0:=hx 0 (by omega)
 have h1:=hx 1 (by omega)
 rw [hv,List.getElem?_eq_getElem (by omega)] at h0 h1
 obtain ⟨x,o0,r0⟩:=h.one g (fun _ => rfl) (L:=L) h0
 obtain ⟨y,o1,r1⟩:=h.one g (fun _ => rfl) (L:=L) h1
 refine ⟨x,y,o0,o1,.agg _ _ ?_⟩
 rw [hv]
 exact .cons _ _ _ _ r0 (.cons _ _ _ _ r1 .nil)
theorem okWide_arr {P:Program} {w:World} {r:Reach} {base:Nat} {t e:TypeId} {n:Nat} {v:Value} (ht:P.underlying t = some (.array n e)) (h:Value.okWide P w r base t v):∃ cs,v = .agg cs:=by
 simp only [Value.okWide,ht] at h
 obtain ⟨cs,h1,_⟩:=h
 exact ⟨cs,h1⟩
end Go.Nac
namespace Go.Nac
def YV (P:Program) (fs:List Field):Nat:=(fs.map fun f => P.cellsOf f.type).sum
def YH (P:Program) (fs:List Field) (off:Nat) {α:Type} (f:α → List PV) (ok:α → Prop):Prop :=
 ∀ (H:Type) (enc:TypeId × Value → H) (W:World) (L:Loc) (cs:List Value),cs.length = YV P fs →
  (∀ (i:Nat) (fd:Field),fs[i]? = some fd → ∃ m y,DataW.trod enc P W 0 (fun _ => true) true m fd.type ((cs.drop (fd.offset - off)).take (P.cellsOf fd.type)) = some y) → ∃ a,ok a ∧ LRel [] L W (f a) cs
theorem YH.nil {P:Program} {off:Nat}:YH P [] off (fun _:Unit => []) (fun _ => True):=by
 intro H enc W L cs hl _
 have:cs = []:=List.eq_nil_of_length_eq_zero (by simpa [YV] using hl)
 subst this;exact ⟨(),trivial,.nil⟩
theorem YH.cons {P:Program} {fd:Field} {fs:List Field} {off k:Nat} {α β:Type} {f:α → List PV} {g:β → List PV} {ok:α → Prop} {ok':β → Prop}
  (h:Opens P fd.type f ok) (ho:fd.offset = off) (hk:P.cellsOf fd.type = k) (hge:∀ x ∈ fs,off + k ≤ x.offset) (hs:YH P fs (off + k) g ok') :
  YH P (fd :: fs) off (fun p:α × β => f p.1 ++ g p.2) (fun p => ok p.1 ∧ ok' p.2):=by
 intro H enc W L cs hl hf
 have hl':cs.length = k + YV P fs:=by rw [hl];simp [YV,hk]
 obtain ⟨m,y,h0⟩:=hf 0 fd rfl
 rw [ho,Nat.sub_self,List.drop_zero,hk] at h0
 obtain ⟨a,o1,r1⟩:=h H enc W L m _ _ h0
 obtain ⟨b,o2,r2⟩:=hs H enc W L (cs.drop k) (by simp;omega) (by
  intro i fd' hi
  obtain ⟨m,y,h1⟩:=hf (i + 1) fd' (by simpa using hi)
  have hg:=hge fd' (List.mem_of_getElem? hi)
  refine ⟨m,y,?_⟩
  rw [List.drop_drop,show k + (fd'.offset - (off + k)) = fd'.offset - off by omega];exact h1)
 refine ⟨(a,b),⟨o1,o2⟩,?_⟩
 have:=LRel.append r1 r2
 rwa [List.take_append_drop] at this
theorem Opens.struct {P:Program} {t:TypeId} {fs:Array Field} (ht:P.underlying t = some (.struct fs)) (hc:P.cellsOf t = YV P fs.toList) {α:Type} {f:α → List PV} {ok:α → Prop} (h:YH P fs.toList 0 f ok):Opens P t f ok:=by
 intro H enc W L n cs x hx
 obtain ⟨xs,m,_,_,hl,hxl,hf⟩:=DataW.trod_struct ht hx
 refine h H enc W L cs (hl.trans hc) fun i fd hi => ?_
 rw [Array.getElem?_toList] at hi
 have h1:=hf i fd hi
 have hlt:=(Array.getElem?_eq_some_iff.1 hi).1
 rw [List.getElem?_eq_getElem (by omega)] at h1
 exact ⟨m,_,h1⟩
theorem Opens.map {P:Program} {t:TypeId} {α β:Type} {f:α → List PV} {ok:α → Prop} (h:Opens P t f ok) (φ:α → β) {g:β → List PV} (hg:∀ a,f a = g (φ a)) {ok':β → Prop} (hok:∀ a,ok a → ok' (φ a)):Opens P t g ok':=by
 intro H enc W L n cs x hx
 obtain ⟨a,h1,h2⟩:=h H enc W L n cs x hx
 exact ⟨φ a,hok a h1,by rw [← hg];exact h2⟩
end Go.Nac
namespace Go.Nac
variable [Env]
section
variable {P:Program} {R:CCode → Code → Prop} {M:List Blk} {L:Loc} {w w':World}
end
end Go.Nac
namespace Go.Nac
variable {C:CallR} {K:List Blk → List PV → Prop} {M:List Blk} {t:List PV} {d:Option Nat} {os:List COper}
theorem Qjv {T:TypeId} {z:List Value}:wpOps C (⟨d,.balloc T z,none⟩ :: os) K M t = b2 (some (.bp M.length 0 T,M ++ [.row true z.length 0 [.agg (z.map .s)]])) (kont2 C os K t d):=by
 rw [QP rfl];rfl
def untyV (M:List Blk):PV → Option PV
 | .bp i ver _ => if QT M i ver then some (.op i ver 0 0) else none
 | _ => none
theorem Qnb {x:CX}:wpOps C (⟨d,.unty x,none⟩ :: os) K M t = b1 (untyV M (ev t x)) (kont C os K M t d):=Qz rfl (by
 simp only [res,untyV]
 generalize ev t x = vx
 cases vx <;> first|rfl|(simp only [];split <;> rfl))
theorem QiS {i ver:Nat} {T:TypeId}:untyV M (.bp i ver T) = if liveR ver M[i]? = true then some (.op i ver 0 0) else none:=by simp only [untyV,Zs]
def usdV (M:List Blk):PV → Option PV
 | .s (.slice none 0 0) => some (.s (.pointer none))
 | .ot i ver len _ => if QT M i ver then some (.op i ver 0 0) else none
 | _ => none
theorem r_usd {x:CX}:wpOps C (⟨d,.usd x,none⟩ :: os) K M t = b1 (usdV M (ev t x)) (kont C os K M t d):=Qz rfl (by
 simp only [res,usdV]
 generalize ev t x = vx
 cases vx with
 | s v =>
  by_cases h:v = .slice none 0 0
  ·subst h;rfl
  ·split
   ·rename_i e;cases e;exact absurd rfl h
   ·rename_i e;cases e
   ·split
    ·rename_i e;cases e;exact absurd rfl h
    ·rename_i e;cases e
    ·rfl
 | ot i ver len e => simp only [];split <;> rfl
 | _ => rfl)
theorem Qjd:usdV M (.s (.slice none 0 0)) = some (.s (.pointer none)):=rfl
theorem Ql5 {i ver len:Nat} {e:TypeId}:usdV M (.ot i ver len e) = if liveR ver M[i]? = true then some (.op i ver 0 0) else none:=by simp only [usdV,Zs]
def tappR (M:List Blk) (e bytes i ver len:Nat) (e':TypeId) (ys:List PV):Option Blk → Option (PV × List Blk)
 | some (.row true k' v xs) => if v = ver ∧ k' = 1 ∧ len ≤ xs.length ∧ len + ys.length ≤ 2 ^ 20 ∧ e' = e then some (.ot i (ver + 1) (len + ys.length) e,M.set i (.row true 1 (ver + 1) (xs.take len ++ ys))) else none
 | _ => none
def tappO (M:List Blk) (e:TypeId) (bytes:Nat) (vx:PV) (o:Option (List PV)):Option (PV × List Blk) :=
 match o with
 | some ys =>
  if ys.all (QX 1) ∧ 0 < ys.length ∧ bytes ≤ 2 ^ 20 then
   match vx with
   | .s (.slice none 0 0) => if ys.length ≤ 2 ^ 20 then some (.ot M.length 0 ys.length e,M ++ [.row true 1 0 ys]) else none
   | .ot i ver len e' => match M[i]? with
    | some (.row true k' v xs) =>
     if v = ver ∧ k' = 1 ∧ len ≤ xs.length ∧ len + ys.length ≤ 2 ^ 20 ∧ e' = e then
      some (.ot i (ver + 1) (len + ys.length) e,M.set i (.row true 1 (ver + 1) (xs.take len ++ ys)))
     else none
    | _ => none
   | _ => none
  else none
 | none => none
theorem Qom {e:TypeId} {bytes:Nat} {x y:CX}:wpOps C (⟨d,.tapp e bytes x y,none⟩ :: os) K M t = b2 (tappO M e bytes (ev t x) (held M (ev t y))) (kont2 C os K t d):=by rw [QP rfl];rfl
theorem QhK {e:TypeId} {bytes:Nat} {ys:List PV} (ha:ys.all (QX 1) = true) (hp:0 < ys.length) (hb:bytes ≤ 1048576) (hs:ys.length ≤ 1048576) :
  tappO M e bytes (.s (.slice none 0 0)) (some ys) = some (.ot M.length 0 ys.length e,M ++ [.row true 1 0 ys]):=by
 simp only [tappO]
 rw [if_pos ⟨ha,hp,by omega⟩,if_pos (by omega)]
theorem Qj7 {e e':TypeId} {bytes i ver len:Nat} {ys:List PV} (ha:ys.all (QX 1) = true) (hp:0 < ys.length) (hb:bytes ≤ 1048576) :
  tappO M e bytes (.ot i ver len e') (some ys) = tappR M e bytes i ver len e' ys M[i]?:=by
 simp only [tappO]
 rw [if_pos ⟨ha,hp,by omega⟩]
 unfold tappR
 cases M[i]? with
 | none => rfl
 | some b =>
  cases b with
  | row w k v xs => cases w <;> rfl
  | _ => rfl
theorem Qia {e:TypeId} {bytes i ver len:Nat} {xs ys:List PV} (hl:len = xs.length) (hs:xs.length + ys.length ≤ 1048576) :
  tappR M e bytes i ver len e ys (some (.row true 1 ver xs)) = some (.ot i (ver + 1) (len + ys.length) e,M.set i (.row true 1 (ver + 1) (xs ++ ys))):=by
 subst hl
 simp only [tappR]
 rw [if_pos ⟨(by first|rfl|trivial),(by first|rfl|trivial),Nat.le_refl _,by omega,(by first|rfl|trivial)⟩,List.take_length]
def ustrR (M:List Blk) (e:TypeId) (i ver:Nat) (l:Int) (i' ver' len:Nat) (e':TypeId):Option Blk → Option (PV × List Blk)
 | some (.row true k v xs) =>
  if i = i' ∧ ver = ver' ∧ e = e' ∧ l = len ∧ v = ver ∧ k = 1 ∧ len ≤ xs.length ∧ len ≤ 2 ^ 24 ∧ (xs.take len).all Yf = true then
   (strOf (xs.take len)).map fun s => (.s (.string s),M.set i (.row false 1 (ver + 1) []))
  else none
 | _ => none
def ustrO (M:List Blk) (e:TypeId) (p n s:PV):Option (PV × List Blk) :=
 match p,n,s with
 | .s (.pointer none),.s (.int .i64 0),_ => some (.s (.string ⟨#[]⟩),M)
 | .op i ver 0 0,.s (.int .i64 l),.ot i' ver' len e' => match M[i]? with
  | some (.row true k v xs) =>
   if i = i' ∧ ver = ver' ∧ e = e' ∧ l = len ∧ v = ver ∧ k = 1 ∧ len ≤ xs.length ∧ len ≤ 2 ^ 24 ∧ (xs.take len).all Yf = true then
    (strOf (xs.take len)).map fun s => (.s (.string s),M.set i (.row false 1 (ver + 1) []))
   else none
  | _ => none
 | _,_,_ => none
theorem QnI {e:TypeId} {p n s:CX}:wpOps C (⟨d,.ustr e p n s,none⟩ :: os) K M t = b2 (ustrO M e (ev t p) (ev t n) (ev t s)) (kont2 C os K t d):=by rw [QP rfl];rfl
theorem Qg1 {e:TypeId} {s:PV}:ustrO M e (.s (.pointer none)) (.I 0) s = some (.s (.string ⟨#[]⟩),M):=rfl
theorem Qjf {e e':TypeId} {i ver i' ver' len:Nat} {l:Int}:ustrO M e (.op i ver 0 0) (.s (.int .i64 l)) (.ot i' ver' len e') = ustrR M e i ver l i' ver' len e' M[i]?:=by
 simp only [ustrO]
 unfold ustrR
 cases M[i]? with
 | none => rfl
 | some b =>
  cases b with
  | row w k v xs => cases w <;> rfl
  | _ => rfl
theorem Qg9 (b:ByteArray):(QH b).all Yf = true:=by
 unfold QH
 rw [List.all_eq_true]
 intro x hx
 obtain ⟨u,_,rfl⟩:=List.mem_map.1 hx
 have:=u.toNat_lt
 simp only [Yf,Bool.and_eq_true,decide_eq_true_eq]
 omega
theorem QeY {e:TypeId} {i ver:Nat} {b:ByteArray} {l:Int} {len:Nat} (hl:l = b.size) (hn:len = b.size) (h24:b.size ≤ 16777216) (hst:strOf (QH b) = some b) :
  ustrR M e i ver l i ver len e (some (.row true 1 ver (QH b))) = some (.s (.string b),M.set i (.row false 1 (ver + 1) [])):=by
 subst hl;subst hn
 have hlen:(QH b).length = b.size:=by simp [QH]
 simp only [ustrR]
 have ht:(QH b).take b.size = QH b:=List.take_of_length_le (by omega)
 rw [ht,if_pos ⟨(by first|rfl|trivial),(by first|rfl|trivial),(by first|rfl|trivial),(by first|rfl|trivial),(by first|rfl|trivial),(by first|rfl|trivial),by omega,by omega,Qg9 b⟩,hst];rfl
def QbR (M:List Blk) (n i ver e:Nat):Option Blk → Option (PV × List Blk)
 | some (.row true k v xs) =>
  if v = ver ∧ k = n ∧ 0 < n then
   match xs[e]? with
   | some (.agg cs) => if cs.all isS then some (.fs cs,M.set i (.row false k v xs)) else none
   | _ => none
  else none
 | _ => none
def Qc1 (M:List Blk) (n:Nat):PV → Option (PV × List Blk)
 | .op i ver e 0 => match M[i]? with
  | some (.row true k v xs) =>
   if v = ver ∧ k = n ∧ 0 < n then
    match xs[e]? with
    | some (.agg cs) => if cs.all isS then some (.fs cs,M.set i (.row false k v xs)) else none
    | _ => none
   else none
  | _ => none
 | _ => none
theorem Qm3 {n:Nat} {x:CX}:wpOps C (⟨d,.arrfz n x,none⟩ :: os) K M t = b2 (Qc1 M n (ev t x)) (kont2 C os K t d):=by rw [QP rfl];rfl
theorem Qhr {n i ver e:Nat}:Qc1 M n (.op i ver e 0) = QbR M n i ver e M[i]?:=by
 simp only [Qc1]
 unfold QbR
 cases M[i]? with
 | none => rfl
 | some b =>
  cases b with
  | row w k v xs => cases w <;> rfl
  | _ => rfl
theorem QgB {n i ver:Nat} {cs:List PV} (hn:0 < n) (hc:cs.all isS = true):QbR M n i ver 0 (some (.row true n ver [.agg cs])) = some (.fs cs,M.set i (.row false n ver [.agg cs])):=by
 simp only [QbR]
 rw [if_pos ⟨(by first|rfl|trivial),(by first|rfl|trivial),hn⟩]
 simp only [List.getElem?_cons_zero,hc,if_true]
def clrR (M:List Blk) (k:Nat) (g:Option Nat) (z:List Value) (i ver off len:Nat):Option Blk → Option (PV × List Blk)
 | some (.row true k' v xs) =>
  if v = ver ∧ k' = k ∧ off + len ≤ xs.length ∧ 0 < k then
   (mkPV g (z.map .s)).bind fun e => if e.cells.length = k ∧ e.cells.all oneB = true then some (unit,M.set i (.row true k ver (setRange xs off (List.replicate len e)))) else none
  else none
 | _ => none
def clrO (M:List Blk) (k:Nat) (g:Option Nat) (z:List Value):PV → Option (PV × List Blk)
 | .fs [] => some (unit,M)
 | .s (.slice none 0 0) => some (unit,M)
 | .os i ver off len => match M[i]? with
  | some (.row true k' v xs) =>
   if v = ver ∧ k' = k ∧ off + len ≤ xs.length ∧ 0 < k then
    (mkPV g (z.map .s)).bind fun e => if e.cells.length = k ∧ e.cells.all oneB = true then some (unit,M.set i (.row true k ver (setRange xs off (List.replicate len e)))) else none
   else none
  | _ => none
 | _ => none
theorem r_clr {k:Nat} {g:Option Nat} {z:List Value} {x:CX}:wpOps C (⟨d,.clr k g z x,none⟩ :: os) K M t = b2 (clrO M k g z (ev t x)) (kont2 C os K t d):=by rw [QP rfl];rfl
theorem Ql4 {k:Nat} {g:Option Nat} {z:List Value} {i ver off len:Nat}:clrO M k g z (.os i ver off len) = clrR M k g z i ver off len M[i]?:=by
 simp only [clrO]
 unfold clrR
 cases M[i]? with
 | none => rfl
 | some b =>
  cases b with
  | row w k v xs => cases w <;> rfl
  | _ => rfl
theorem Qkf {z:Value} {i ver off len:Nat} {xs:List PV} (hl:off + len ≤ xs.length) (hz:oneB (.s z) = true) :
  clrR M 1 none [z] i ver off len (some (.row true 1 ver xs)) = some (unit,M.set i (.row true 1 ver (xs.take off ++ (List.replicate len (.s z) ++ xs.drop (off + len))))):=by
 have hc:(PV.s z).cells = [.s z]:=by cases z <;> first|rfl|(simp [oneB] at hz)
 simp only [clrR]
 rw [if_pos ⟨(by first|rfl|trivial),(by first|rfl|trivial),hl,by decide⟩]
 simp only [List.map_cons,List.map_nil,mkPV,Option.bind_some,hc,List.length_cons,List.length_nil,List.all_cons,List.all_nil,hz,Bool.and_self]
 rw [if_pos ⟨by first|rfl|trivial,by first|rfl|trivial⟩]
 unfold Nac.setRange
 rw [List.length_replicate,List.append_assoc]
theorem isS_s {v:Value}:isS (.s v) = oneB (.s v):=rfl
def Qae (z:Value) (ok:Bool) (q:Int × Int):Option Blk → Option PV
 | some (.map es) => if keys2 es then some (if ok then .tup [.s ((find2 q es).getD z),.B (find2 q es).isSome] else .s ((find2 q es).getD z)) else none
 | _ => none
def Qbw (M:List Blk) (z:Value) (ok:Bool):PV → PV → Option PV
 | .om i,.agg [.s (.int .i64 a),.s (.int .i64 b)] => Qae z ok (a,b) M[i]?
 | _,_ => none
theorem QhX {ρ:CX → PV} {z:Value} {ok:Bool} {m key:CX}:res M ρ (.look2 z ok m key) = (Qbw M z ok (ρ m) (ρ key)).map (·,M):=by
 simp only [res]
 generalize ρ m = pm;generalize ρ key = pk
 unfold Qbw Qae
 repeat' split
 all_goals first|rfl|(simp_all;done)|skip
theorem Qlw {z:Value} {ok:Bool} {m key:CX}:wpOps C (⟨d,.look2 z ok m key,none⟩ :: os) K M t = b1 (Qbw M z ok (ev t m) (ev t key)) (kont C os K M t d):=Qz rfl QhX
theorem Qhv {z:Value} {ok:Bool} {i:Nat} {a b:Int}:Qbw M z ok (.om i) (.agg [.s (.int .i64 a),.s (.int .i64 b)]) = Qae z ok (a,b) M[i]?:=rfl
theorem QgW {z:Value} {q:Int × Int} {es:List (Value × Value)} (h:keys2 es = true):Qae z true q (some (.map es)) = some (.tup [.s ((find2 q es).getD z),.B (find2 q es).isSome]):=by
 simp only [Qae,h,if_true]
def Qbp (M:List Blk) (i:Nat) (q:Int × Int) (u:Value):Option Blk → Option (PV × List Blk)
 | some (.map es) => if keys2 es then some (unit,M.set i (.map (upd2 q u es))) else none
 | _ => none
def Qdc (M:List Blk) (pm pk pv:PV):Option (PV × List Blk) :=
 match pm,pk,pv with
 | .om i,.agg [.s (.int .i64 a),.s (.int .i64 b)],.s u => match M[i]? with
  | some (.map es) => if keys2 es then some (unit,M.set i (.map (upd2 (a,b) u es))) else none
  | _ => none
 | _,_,_ => none
theorem QmM {m key v:CX}:wpOps C (⟨d,.mupd2 m key v,none⟩ :: os) K M t = b2 (Qdc M (ev t m) (ev t key) (ev t v)) (kont2 C os K t d):=by rw [QP rfl];rfl
theorem Qij {i:Nat} {a b:Int} {u:Value}:Qdc M (.om i) (.agg [.s (.int .i64 a),.s (.int .i64 b)]) (.s u) = Qbp M i (a,b) u M[i]?:=by
 simp only [Qdc]
 unfold Qbp
 cases M[i]? with
 | none => rfl
 | some b => cases b <;> rfl
theorem QgJ {i:Nat} {q:Int × Int} {u:Value} {es:List (Value × Value)} (h:keys2 es = true):Qbp M i q u (some (.map es)) = some (unit,M.set i (.map (upd2 q u es))):=by
 simp only [Qbp,h,if_true]
theorem Qk4 {i ver:Nat} {T:TypeId}:view M (.bp i ver T) = .bp i ver T:=rfl
theorem QiT {i ver:Nat} {T:TypeId}:view1 M (.bp i ver T) = .bp i ver T:=rfl
theorem Ql7 {i ver len:Nat} {e:TypeId}:view M (.ot i ver len e) = .ot i ver len e:=rfl
theorem QjV {i ver len:Nat} {e:TypeId}:view1 M (.ot i ver len e) = .ot i ver len e:=rfl
theorem Qjo {i ver len:Nat} {e:TypeId}:lenOf (.ot i ver len e) = some len:=rfl
theorem QjP {i ver:Nat} {T:TypeId}:(PV.bp i ver T).cells = [.bp i ver T]:=rfl
theorem QjI {i ver len:Nat} {e:TypeId}:(PV.ot i ver len e).cells = [.ot i ver len e]:=rfl
theorem Qmv {i ver:Nat} {T:TypeId}:oneB (.bp i ver T) = true:=rfl
theorem Qlm {i ver len:Nat} {e:TypeId}:oneB (.ot i ver len e) = true:=rfl
theorem QjK {a:Option Addr}:oneB (.s (.pointer a)) = true:=rfl
theorem Qk1 {i ver:Nat} {T:TypeId}:refs (.bp i ver T) = [i]:=rfl
theorem QmD {i ver len:Nat} {e:TypeId}:refs (.ot i ver len e) = [i]:=rfl
theorem Qog {i ver n:Nat} {T:TypeId}:(PV.bp i ver T).low n = (i < n):=by simp [PV.low]
theorem Qor {i ver len n:Nat} {e:TypeId}:(PV.ot i ver len e).low n = (i < n):=by simp [PV.low]
end Go.Nac
namespace Go.Nac
variable {C:CallR} {n0:Nat} {Q:Post} {K:List Blk → List PV → Prop} {M:List Blk} {t:List PV} {d:Option Nat} {os:List COper}
def mrngR (M:List Blk) (i:Nat):Option Blk → Option (PV × List Blk)
 | some (.map es) => if es.all (fun e => QbK e.1) then some (.oi i,M.set i (.siter (.mp es none))) else none
 | _ => none
def mrngO (M:List Blk):PV → Option (PV × List Blk)
 | .om i => mrngR M i M[i]?
 | _ => none
theorem Qn0 {x:CX}:wpOps C (⟨d,.mrng x,none⟩ :: os) K M t = b2 (mrngO M (ev t x)) (kont2 C os K t d):=by
 rw [QP rfl]
 apply Ye
 simp only [res,mrngO]
 generalize ev t x = vx
 cases vx <;> rfl
theorem Qjy {i:Nat}:mrngO M (.om i) = mrngR M i M[i]?:=rfl
theorem Qhs {i:Nat} {es:List (Value × Value)} (h:es.all (fun e => QbK e.1) = true):mrngR M i (some (.map es)) = some (.oi i,M.set i (.siter (.mp es none))):=if_pos h
def mentR:Option Blk → Option PV
 | some (.siter (.mp _ (some e))) => some (.tup [.s e.1,.s e.2])
 | _ => none
def mentV (M:List Blk):PV → Option PV
 | .oi i => mentR M[i]?
 | _ => none
theorem Qni {x:CX}:wpOps C (⟨d,.ment x,none⟩ :: os) K M t = b1 (mentV M (ev t x)) (kont C os K M t d):=Qz rfl (by
 simp only [res,mentV]
 generalize ev t x = vx
 cases vx <;> first|rfl|skip
 unfold mentR
 repeat' split
 all_goals first|rfl|(simp_all;done))
theorem QjF {i:Nat}:mentV M (.oi i) = mentR M[i]?:=rfl
theorem QjW {l:List (Value × Value)} {e:Value × Value}:mentR (some (.siter (.mp l (some e)))) = some (.tup [.s e.1,.s e.2]):=rfl
def nextP (C:CallR) (ops:List COper) (Q:Post) (d:Nat) (M:List Blk) (t:List PV) (p:PV):Prop :=
 ∃ i left cur,p = .oi i ∧ M[i]? = some (.siter (.mp left cur)) ∧ (left = [] → wpOps C ops (Q .normal) M (put t (some d) (.tup [.B false]))) ∧
  ∀ a e b,left = a ++ e :: b → wpOps C ops (Q .normal) (M.set i (.siter (.mp (a ++ b) (some e)))) (put t (some d) (.tup [.B true,.s e.1,.s e.2]))
theorem QiW {d x:Nat}:Wp C n0 (.mnext d x os) Q M t = nextP C os Q d M t (ev t (.t x)):=rfl
theorem Qeu {p p':PV} {d:Nat} (h:p = p'):nextP C os Q d M t p = nextP C os Q d M t p':=by rw [h]
theorem QjZ {i d:Nat} {left:List (Value × Value)} {cur:Option (Value × Value)} (hi:M[i]? = some (.siter (.mp left cur))) (h0:left = [] → wpOps C os (Q .normal) M (put t (some d) (.tup [.B false])))
  (h1:∀ a e b,left = a ++ e :: b → wpOps C os (Q .normal) (M.set i (.siter (.mp (a ++ b) (some e)))) (put t (some d) (.tup [.B true,.s e.1,.s e.2]))):nextP C os Q d M t (.oi i) :=
 ⟨i,left,cur,rfl,hi,h0,h1⟩
end Go.Nac
namespace Go.Nac
def rng (n least most:Int):Int:=if n < least ∨ most < n then 3 else 0
def trn (a b c:Int):Bool:=decide ((a < b ∧ c < b) ∨ (b < a ∧ b < c))
def fst0:List Int → Int
 | [] => 0
 | x :: r => if x = 0 then fst0 r else x
theorem Y8 (l:List Int) (k:Nat) (x:Int) (h:l[k]? = some x):fst0 (l.drop k) = if x = 0 then fst0 (l.drop (k + 1)) else x:=by
 obtain ⟨h1,h2⟩:=List.getElem?_eq_some_iff.1 h
 rw [List.drop_eq_getElem_cons h1,h2];rfl
def Yc (n:Int):Bool:=decide (¬ rng n (-32768) 32768 = 0)
def QZ (l:List Int):Int:=if 40000 < l.length then 5 else if (l.filter Yc).length = 0 then 0 else 3
def prev (l:List Rev) (j k:Nat):Option Rev:=if k < j then none else l[k - j]?
def ordB (p:Option Rev) (r:Rev):Bool:=match p with|some q => decide (r.at_ ≤ q.at_)|none => false
def shpB (pp p:Option Rev) (r:Rev):Bool :=
 match p with
 | none => false
 | some q => decide (r.ld = q.ld) || (match pp with | some z => !trn z.ld q.ld r.ld | none => false)
def errAt (pp p:Option Rev) (r:Rev):Int :=
 fst0 [rng r.at_ 0 39999,rng r.ld (-32768) 32768,if ordB p r = true then 11 else 0,if shpB pp p r = true then 2 else 0]
def Vg (pp p:Option Rev):List Rev → Int
 | [] => 0
 | r :: rs => if errAt pp p r = 0 then Vg p (some r) rs else errAt pp p r
def Qt (l:List Rev):Int:=if 40000 < l.length then 5 else Vg none none l
theorem QaW {l:List Rev} {k:Nat} {r:Rev} (h:l[k]? = some r) :
  Vg (prev l 2 k) (prev l 1 k) (l.drop k) = if errAt (prev l 2 k) (prev l 1 k) r = 0 then Vg (prev l 2 (k + 1)) (prev l 1 (k + 1)) (l.drop (k + 1)) else errAt (prev l 2 k) (prev l 1 k) r:=by
 obtain ⟨h1,h2⟩:=List.getElem?_eq_some_iff.1 h
 have e1:prev l 1 (k + 1) = some r:=by simp [prev,h]
 have e2:prev l 2 (k + 1) = prev l 1 k:=by
  unfold prev
  by_cases hk:k < 1
  ·rw [if_pos hk,if_pos (by omega)]
  ·rw [if_neg hk,if_neg (by omega)];congr 1
 rw [List.drop_eq_getElem_cons h1,h2,Vg,e1,e2]
theorem Qb1 {l:List Rev} {k:Nat} {a b:Option Rev} (h:l.length ≤ k):Vg a b (l.drop k) = 0:=by
 rw [List.drop_eq_nil_of_le h];rfl
theorem Qb4 {pp p:Option Rev} {r:Rev} (h:¬ fst0 [rng r.at_ 0 39999,rng r.ld (-32768) 32768] = 0):fst0 [rng r.at_ 0 39999,rng r.ld (-32768) 32768] = errAt pp p r:=by
 simp only [errAt,fst0] at h ⊢
 split at h
 ·split at h
  ·exact absurd rfl h
  ·rename_i h1 h2;simp [h1,h2]
 ·rename_i h1;simp [h1]
theorem YF {pp p:Option Rev} {r:Rev} (h:fst0 [rng r.at_ 0 39999,rng r.ld (-32768) 32768] = 0):errAt pp p r = fst0 [if ordB p r = true then 11 else 0,if shpB pp p r = true then 2 else 0]:=by
 simp only [errAt,fst0] at h ⊢
 split at h
 ·split at h
  ·rename_i h1 h2;simp [h1,h2]
  ·rename_i h1 h2;exact absurd h h2
 ·rename_i h1;exact absurd h h1
theorem Ja {α:Type} {l:List α} {k:Nat} {x:α} (p:α → Bool) (h:l[k]? = some x):(l.take (k + 1)).filter p = (l.take k).filter p ++ if p x = true then [x] else []:=by
 obtain ⟨h1,h2⟩:=List.getElem?_eq_some_iff.1 h
 rw [List.take_succ_eq_append_getElem h1,h2,List.filter_append]
 congr 1
 by_cases hp:p x = true
 ·rw [List.filter_cons_of_pos hp,if_pos hp];rfl
 ·rw [List.filter_cons_of_neg hp,if_neg hp];rfl
def QN (out:List Rev) (p:Rev):List Rev :=
 match out.reverse with
 | [] => [p]
 | a :: r => if a.ld = p.ld then out else
  match r with
  | [] => out ++ [p]
  | b :: _ => if trn b.ld a.ld p.ld = true then out ++ [p] else out.dropLast ++ [p]
def QJ (l:List Rev):List Rev:=l.foldl QN []
def points (l:List Int):List Rev:=l.zipIdx.map fun p => ⟨p.2,p.1⟩
end Go.Nac
namespace Go.Nac
theorem JL {α:Type} {o:List α} {a:α} (h:o[o.length - 1]? = some a):∃ r,o.reverse = a :: r ∧ o = r.reverse ++ [a]:=by
 rcases List.eq_nil_or_concat o with rfl|⟨o1,b,rfl⟩
 ·simp at h
 ·simp at h;subst h;exact ⟨o1.reverse,by simp,by simp⟩
theorem QgK {o:List Rev} {p:Rev} (h:o.length = 0):QN o p = o ++ [p]:=by
 have:=List.eq_nil_of_length_eq_zero h;subst this;rfl
theorem Qgl {o:List Rev} {a p:Rev} (ha:o[o.length - 1]? = some a) (h:a.ld = p.ld):QN o p = o:=by
 obtain ⟨r,h1,h2⟩:=JL ha
 simp only [QN,h1,if_pos h]
theorem Qim {o:List Rev} {a p:Rev} (ha:o[o.length - 1]? = some a) (h:¬ a.ld = p.ld) (h1:o.length = 1):QN o p = o ++ [p]:=by
 obtain ⟨r,h2,h3⟩:=JL ha
 have:r = []:=by have:=congrArg List.length h3;simp at this;exact List.eq_nil_of_length_eq_zero (by omega)
 subst this
 simp only [QN,h2,if_neg h]
theorem Qic {o:List Rev} {a b p:Rev} (ha:o[o.length - 1]? = some a) (hb:o[o.length - 2]? = some b) (h2:2 ≤ o.length) (h:¬ a.ld = p.ld) :
  QN o p = if trn b.ld a.ld p.ld = true then o ++ [p] else o.set (o.length - 1) p:=by
 obtain ⟨r,h3,h4⟩:=JL ha
 subst h4
 have hb':r.reverse[r.reverse.length - 1]? = some b:=by
  have e:(r.reverse ++ [a]).length - 2 = r.reverse.length - 1:=by simp
  rw [e] at hb
  rw [List.getElem?_append_left (by simp at h2 ⊢;omega)] at hb
  exact hb
 obtain ⟨r2,h5,h6⟩:=JL hb'
 have h7:r = b :: r2:=by simpa using h5
 subst h7
 simp only [QN,h3,if_neg h]
 congr 1
 simp
end Go.Nac
namespace Go.Nac
def YG (out:List Rev) (p:Rev):List Rev :=
 match out.reverse with
 | [] => out ++ [p]
 | a :: _ => if p.ld = a.ld then out else out ++ [p]
def dedup (l:List Rev):List Rev:=l.foldl YG []
def keepT (p:List Rev) (k:Nat):Bool :=
 decide (k = 0) || decide (k + 1 = p.length) || (match p[k - 1]?,p[k]?,p[k + 1]? with|some a,some b,some c => trn a.ld b.ld c.ld|_,_,_ => false)
def outT (p:List Rev):Nat → List Rev
 | 0 => []
 | k + 1 => outT p k ++ if keepT p k = true then (p[k]?).toList else []
def turning (l:List Rev):List Rev:=outT (dedup l) (dedup l).length
end Go.Nac
namespace Go.Nac
theorem QaT (l m:List Int):fst0 (l ++ m) = if fst0 l = 0 then fst0 m else fst0 l:=by
 induction l with
 | nil => rfl
 | cons x l ih =>
  simp only [List.cons_append,fst0]
  split
  ·exact ih
  ·rfl
def ordC (c:Cyc):Bool:=decide (c.to_ ≤ c.from_) || decide (c.hi ≤ c.lo)
def errC (c:Cyc):Int:=fst0 [rng c.from_ 0 39999,rng c.to_ 0 39999,rng c.lo (-32768) 32768,rng c.hi (-32768) 32768,if ordC c = true then 11 else 0]
def Qv (l:List Cyc):Int:=if 40000 < l.length then 5 else fst0 (l.map errC)
theorem Qne {c:Cyc} (h:¬ fst0 [rng c.from_ 0 39999,rng c.to_ 0 39999,rng c.lo (-32768) 32768,rng c.hi (-32768) 32768] = 0) :
  errC c = fst0 [rng c.from_ 0 39999,rng c.to_ 0 39999,rng c.lo (-32768) 32768,rng c.hi (-32768) 32768]:=by
 have:=QaT [rng c.from_ 0 39999,rng c.to_ 0 39999,rng c.lo (-32768) 32768,rng c.hi (-32768) 32768] [if ordC c = true then 11 else 0]
 rw [if_neg h] at this;exact this
theorem QdR {c:Cyc} (h:fst0 [rng c.from_ 0 39999,rng c.to_ 0 39999,rng c.lo (-32768) 32768,rng c.hi (-32768) 32768] = 0) :
  errC c = if ordC c = true then 11 else 0:=by
 have:=QaT [rng c.from_ 0 39999,rng c.to_ 0 39999,rng c.lo (-32768) 32768,rng c.hi (-32768) 32768] [if ordC c = true then 11 else 0]
 rw [if_pos h] at this
 refine this.trans ?_
 simp only [fst0]
 split <;> simp_all
def powW (x:Int):Nat → Int
 | 0 => 1
 | k + 1 => IntKind.i64.wrap (powW x k * x)
end Go.Nac
namespace Go.Nac
def madd (m:Int × Bool) (n:Int):Int × Bool:=if m.2 = true ∨ 1152921504606846976 - m.1 < n then (m.1,true) else (m.1 + n,false)
def mres (m:Int × Bool):Int × Int:=if m.2 = true then (0,4) else (m.1,0)
def mOk (m:Int × Bool):Prop:=0 ≤ m.1 ∧ m.1 ≤ 1152921504606846976
theorem Qas {m:Int × Bool} {n:Int} (h:mOk m) (hn:0 ≤ n):mOk (madd m n):=by
 unfold mOk madd at *
 split
 ·exact h
 ·rename_i h2;simp only [not_or] at h2;simp only [];omega
def mRow (v:Nat) (m:Int × Bool):Blk:=.row true 2 v [.agg [.I m.1,.B m.2]]
def QoF (c:Cyc):Int:=IntKind.i64.wrap (c.hi - c.lo)
def Vl (e times:Int) (m:Int × Bool) (l:List Cyc):Int × Bool:=l.foldl (fun m c => madd m (times * powW (c.hi - c.lo) e.toNat)) m
def VN (a b:Rev):Int:=max (a.ld - b.ld) (b.ld - a.ld)
def halfs:List Rev → List Int
 | a :: b :: r => VN a b :: halfs (b :: r)
 | _ => []
def V5 (e:Int) (m:Int × Bool) (l:List Rev):Int × Bool:=(halfs l).foldl (fun m x => madd m (powW x e.toNat)) m
theorem Yb {a:Int} (h:-9223372036854775808 ≤ a ∧ a ≤ 9223372036854775807):IntKind.i64.wrap a = a:=Qcy h
theorem pow1 (x:Int) (h:-9223372036854775808 ≤ x ∧ x ≤ 9223372036854775807):powW x 1 = x:=by
 simp only [powW];rw [Int.one_mul];exact Yb h
theorem sq_bd {x:Int} {b:Int} (h0:0 ≤ x) (h:x ≤ b):0 ≤ x * x ∧ x * x ≤ b * b:=⟨Int.mul_nonneg h0 h0,Int.mul_le_mul h h h0 (by omega)⟩
theorem pow2 (x:Int) (h0:0 ≤ x) (h:x ≤ 2147483648):powW x 2 = x * x:=by
 have hb:=sq_bd h0 h
 simp only [powW];rw [Int.one_mul,Yb (a:=x) (by omega),Yb (by omega)]
theorem pow3 (x:Int) (h0:0 ≤ x) (h:x ≤ 1048576):powW x 3 = x * x * x:=by
 have hb:=sq_bd h0 h
 have h3:0 ≤ x * x * x ∧ x * x * x ≤ 1048576 * 1048576 * 1048576:=⟨Int.mul_nonneg hb.1 h0,Int.mul_le_mul hb.2 h h0 (by omega)⟩
 simp only [powW];rw [Int.one_mul,Yb (a:=x) (by omega),Yb (a:=x * x) (by omega),Yb (by omega)]
theorem Qbn {x e:Int} (he:1 ≤ e ∧ e ≤ 3) (h0:0 ≤ x) (h:x ≤ 65536):0 ≤ powW x e.toNat ∧ powW x e.toNat ≤ 281474976710656:=by
 have hb:=sq_bd h0 h
 have h3:0 ≤ x * x * x ∧ x * x * x ≤ 65536 * 65536 * 65536:=⟨Int.mul_nonneg hb.1 h0,Int.mul_le_mul hb.2 h h0 (by omega)⟩
 rcases (by omega:e = 1 ∨ e = 2 ∨ e = 3) with rfl|rfl|rfl
 ·rw [show (1:Int).toNat = 1 from rfl,pow1 x (by omega)];omega
 ·rw [show (2:Int).toNat = 2 from rfl,pow2 x h0 (by omega)];omega
 ·rw [show (3:Int).toNat = 3 from rfl,pow3 x h0 (by omega)];omega
theorem QcC:∀ (l:List Rev) (k:Nat) (p q:Rev),l[k]? = some p → l[k + 1]? = some q → (halfs l)[k]? = some (VN p q)
 | [],k,p,q,h,_ => by simp at h
 | [a],k,p,q,_,h => by simp at h
 | a :: b :: r,0,p,q,h,h' => by simp at h h';subst h;subst h';simp [halfs]
 | a :: b :: r,k + 1,p,q,h,h' => by simp only [halfs,List.getElem?_cons_succ] at *;exact QcC (b :: r) k p q h h'
theorem Qco:∀ (l:List Rev),(halfs l).length = l.length - 1
 | [] => rfl
 | [a] => rfl
 | a :: b :: r => by simp only [halfs,List.length_cons];rw [Qco (b :: r)];simp
end Go.Nac
