/- Running plain code: temporaries as a short list, and equations for simp. -/
import Derived.Test.YtbmicihfhfcpkaaGreatDoorW03
import Derived.OpenShut
import Derived.ChangeArms
import Derived.Below
import Derived.Carry
import Derived.ChangeShapes
import Derived.Laws.Externs
import Derived.Sort.Grow
import Derived.Deep.Draws
set_option linter.unusedVariables false
set_option linter.unusedSimpArgs false
namespace Go.Nac
def lk (i:Nat):List (Nat × PV) → PV
 | [] => .top
 | (j,v) :: r => if i = j then v else lk i r
theorem QoQ {i:Nat}:lk i [] = .top:=nrfl rfl
theorem QlQ {i j:Nat} {v:PV} {r:List (Nat × PV)}:lk i ((j,v) :: r) = if i = j then v else lk i r:=nrfl rfl
def mk (n:Nat) (kvs:List (Nat × PV)):List PV:=(List.range n).map fun i => lk i kvs
theorem QcX {n:Nat} {kvs:List (Nat × PV)}:(mk n kvs).length = n:=by simp [mk]
theorem Qd0 {n i:Nat} {kvs:List (Nat × PV)}:(mk n kvs).getD i .top = if i < n then lk i kvs else .top:=by
 rw [List.getD_eq_getElem?_getD,mk,List.getElem?_map]
 split
 ·rename_i h;rw [List.getElem?_range h];rfl
 ·rename_i h;rw [List.getElem?_eq_none (by simpa using h)];rfl
theorem QdM {n d:Nat} {v:PV} {kvs:List (Nat × PV)}:(mk n kvs).set d v = mk n ((d,v) :: kvs):=by
 apply List.ext_getElem?
 intro i
 by_cases e:i = d
 ·subst e
  by_cases h:i < n
  ·rw [List.getElem?_set_self (by rw [QcX];exact h)]
   simp [mk,h,lk]
  ·rw [List.getElem?_eq_none (by simp [mk];omega),List.getElem?_eq_none (by simp [mk];omega)]
 ·rw [List.getElem?_set_ne (Ne.symm e)]
  simp only [mk,List.getElem?_map,lk]
  by_cases h:i < n
  ·rw [List.getElem?_range h];simp [e]
  ·rw [List.getElem?_eq_none (by simpa using h)];rfl
theorem Qo7 {n d:Nat} {v:PV} {kvs:List (Nat × PV)}:put (mk n kvs) (some d) v = mk n ((d,v) :: kvs):=QdM
theorem ev_mk {n i:Nat} {kvs:List (Nat × PV)}:ev (mk n kvs) (.t i) = if i < n then lk i kvs else .top:=Qd0
theorem Qlq {n:Nat} {ks:List Nat} {kvs:List (Nat × PV)}:keepL ks (mk n kvs) = mk n (ks.map fun k => (k,lk k kvs)):=by
 unfold keepL
 rw [QcX]
 apply List.ext_getElem?
 intro i
 simp only [mk,List.getElem?_map]
 by_cases h:i < n
 ·rw [List.getElem?_range h]
  simp only [Option.map_some,Option.some.injEq]
  have e1:(mk n kvs).getD i .top = lk i kvs:=by rw [Qd0,if_pos h]
  unfold mk at e1
  rw [e1]
  induction ks with
  | nil => simp [lk]
  | cons k ks ih =>
   simp only [List.contains_cons,List.map_cons,lk]
   by_cases e:i = k
   ·subst e;simp
   ·rw [if_neg e,← ih];simp [e]
 ·rw [List.getElem?_eq_none (by simpa using h)];rfl
def keepK (kvs:List (Nat × PV)):List Nat → List (Nat × PV)
 | [] => []
 | k :: ks => (k,lk k kvs) :: keepK kvs ks
theorem Qi4 {kvs:List (Nat × PV)}:keepK kvs [] = []:=nrfl rfl
theorem QbC {kvs:List (Nat × PV)} {k:Nat} {ks:List Nat}:keepK kvs (k :: ks) = (k,lk k kvs) :: keepK kvs ks:=nrfl rfl
theorem Qmu {n:Nat} {ks:List Nat} {kvs:List (Nat × PV)}:keepL ks (mk n kvs) = mk n (keepK kvs ks):=by
 rw [Qlq]
 congr 1
 induction ks with
 | nil => rfl
 | cons k ks ih => rw [QbC,← ih];rfl
theorem Qaq (args:List PV) (n:Nat) (h:args.length ≤ n):args ++ List.replicate (n - args.length) .top = mk n (args.zipIdx.map fun p => (p.2,p.1)):=by
 have key:∀ (as:List PV) (j i:Nat),lk (j + i) ((as.zipIdx j).map fun p => (p.2,p.1)) = as.getD i .top:=by
  intro as
  induction as with
  | nil => intro j i;simp [lk]
  | cons a as ih =>
   intro j i
   simp only [List.zipIdx_cons,List.map_cons,lk]
   cases i with
   | zero => simp
   | succ i => rw [if_neg (by omega),show j + (i + 1) = (j + 1) + i from by omega,ih];simp
 apply List.ext_getElem?
 intro i
 by_cases hi:i < n
 ·simp only [mk,List.getElem?_map]
  rw [List.getElem?_range hi,Option.map_some]
  have:=key args 0 i
  rw [Nat.zero_add] at this
  rw [this,List.getElem?_append,List.getD_eq_getElem?_getD]
  split
  ·rename_i h1;rw [List.getElem?_eq_getElem h1];rfl
  ·rename_i h1;rw [List.getElem?_replicate,if_pos (by omega),List.getElem?_eq_none (by omega)];rfl
 ·rw [List.getElem?_eq_none (by simp;omega),List.getElem?_eq_none (by simp [mk];omega)]
theorem Qr {m n:Nat} {kvs:List (Nat × PV)} (h:lowL m (kvs.map Prod.snd)):lowL m (mk n kvs):=by
 rw [VF]
 intro x hx
 obtain ⟨i,_,rfl⟩:=List.mem_map.1 hx
 clear hx
 induction kvs with
 | nil => simp [lk,PV.low]
 | cons p kvs ih =>
  obtain ⟨j,v⟩:=p
  simp only [List.map_cons,lowL] at h
  simp only [lk]
  split
  ·exact h.1
  ·exact ih h.2
section
variable {C:CallR} {n0:Nat} {Q:Post} {K:(List Blk) → List PV → Prop} {M:(List Blk)} {t:List PV} {d:Option Nat} {os:List COper}
def b1 (o:Option PV) (f:PV → Prop):Prop:=match o with|some v => f v|none => False
def b2 (o:Option (PV × List Blk)) (f:PV → List Blk → Prop):Prop:=match o with|some (v,M) => f v M|none => False
def kont (C:CallR) (os:List COper) (K:(List Blk) → List PV → Prop) (M:List Blk) (t:List PV) (d:Option Nat):PV → Prop:=fun v => wpOps C os K M (put t d v)
def kont2 (C:CallR) (os:List COper) (K:(List Blk) → List PV → Prop) (t:List PV) (d:Option Nat):PV → List Blk → Prop:=fun v M => wpOps C os K M (put t d v)
theorem Qa8 {o o':Option PV} {f:PV → Prop} (h:o = o'):b1 o f = b1 o' f:=by rw [h]
theorem YZ {o o':Option (PV × List Blk)} {f:PV → List Blk → Prop} (h:o = o'):b2 o f = b2 o' f:=by rw [h]
theorem Qnl {v:PV}:b1 (some v) (kont C os K M t d) = wpOps C os K M (put t d v):=nrfl rfl
theorem Qmn {v:PV} {M':List Blk}:b2 (some (v,M')) (kont2 C os K t d) = wpOps C os K M' (put t d v):=nrfl rfl
theorem Qp {o:COp} (h:o.isCall = false) {f:Option PV} (hf:res M (ev t) o = f.map (·,M)):wpOps C (⟨d,o,none⟩ :: os) K M t = b1 f (kont C os K M t d):=by
 rw [Qd4 h,hf]
 cases f <;> rfl
theorem QF {o:COp} (h:o.isCall = false):wpOps C (⟨d,o,none⟩ :: os) K M t = b2 (res M (ev t) o) (kont2 C os K t d):=by
 rw [Qd4 h]
 cases res M (ev t) o <;> rfl
theorem r_mov {x:CX}:wpOps C (⟨d,.mov x,none⟩ :: os) K M t = wpOps C os K M (put t d (ev t x)):=Qp (f:=some (ev t x)) rfl rfl
theorem Qoh {c a b:CX}:wpOps C (⟨d,.pick c a b,none⟩ :: os) K M t = b1 (pickV (ev t c) (ev t a) (ev t b)) (kont C os K M t d):=Qp rfl rfl
theorem QlS {z:List Value} {ps:List (Nat × Nat × CX)}:wpOps C (⟨d,.build z ps,none⟩ :: os) K M t = b1 ((QZ (z.map .s) (ps.map fun p => (p.1,p.2.1,ev t p.2.2))).map .agg) (kont C os K M t d) :=
 Qp rfl (by simp only [res,Option.map_map];rfl)
theorem QoN {g:Option Nat} {x:CX}:wpOps C (⟨d,.load g x,none⟩ :: os) K M t = b1 (Q6 M g (ev t x)) (kont C os K M t d):=Qp rfl rfl
theorem r_bin {op:BinOp} {x y:CX}:wpOps C (⟨d,.bin op x y,none⟩ :: os) K M t = b1 (bin op (ev t x) (ev t y)) (kont C os K M t d):=Qp rfl rfl
theorem QoS {op:BinOp} {x y:CX}:wpOps C (⟨d,.binb op x y,none⟩ :: os) K M t = b1 (binb op (ev t x) (ev t y)) (kont C os K M t d):=Qp rfl rfl
def eqsV (neg:Bool) (lay:List SK):PV → PV → Option PV
 | .agg xs,.agg ys => (QA lay xs ys).map fun b => .B (if neg then !b else b)
 | _,_ => none
theorem r_eqs {neg:Bool} {lay:List SK} {x y:CX}:wpOps C (⟨d,.eqs neg lay x y,none⟩ :: os) K M t = b1 (eqsV neg lay (ev t x) (ev t y)) (kont C os K M t d) :=
 Qp rfl (by
 simp only [res,eqsV]
 generalize ev t x = vx;generalize ev t y = vy
 cases vx <;> cases vy <;> first|rfl|simp only [Option.map_map,Function.comp_def])
theorem r_un {op:UnOp} {x:CX}:wpOps C (⟨d,.un op x,none⟩ :: os) K M t = b1 (un op (ev t x)) (kont C os K M t d):=Qp rfl rfl
theorem Qol {k:IntKind} {x:CX}:wpOps C (⟨d,.conv k x,none⟩ :: os) K M t = b1 (conv k (ev t x)) (kont C os K M t d):=Qp rfl rfl
theorem r_len {x:CX}:wpOps C (⟨d,.len x,none⟩ :: os) K M t = b1 ((lenOf (ev t x)).map fun (n:Nat) => .I (n:Int)) (kont C os K M t d):=Qp rfl (by simp only [res,Option.map_map];rfl)
def lensV:PV → Option PV
 | .s (.string b) => some (.I (b.size:Int))
 | _ => none
theorem QoK {x:CX}:wpOps C (⟨d,.lens x,none⟩ :: os) K M t = b1 (lensV (ev t x)) (kont C os K M t d):=Qp rfl (by
 simp only [res,lensV]
 generalize ev t x = vx
 cases vx <;> first|rfl|(rename_i v;cases v <;> first|rfl|simp only [Option.map_map,Function.comp_def])|(simp only [];split <;> first|rfl|simp only [Option.map_map,Function.comp_def]))
theorem r_max {x:CX} {xs:List CX}:wpOps C (⟨d,.max x xs,none⟩ :: os) K M t = b1 (foldO maxI (ev t x) (xs.map (ev t))) (kont C os K M t d):=Qp rfl rfl
theorem r_min {x:CX} {xs:List CX}:wpOps C (⟨d,.min x xs,none⟩ :: os) K M t = b1 (foldO minI (ev t x) (xs.map (ev t))) (kont C os K M t d):=Qp rfl rfl
theorem r_sop {o:SOp} {xs:List CX}:wpOps C (⟨d,.sop o xs,none⟩ :: os) K M t = b1 (sopV o (xs.map (ev t))) (kont C os K M t d):=Qp rfl rfl
theorem Qng {n:Nat} {x:CX}:wpOps C (⟨d,.arrsl n x,none⟩ :: os) K M t = b1 (Qbx n (ev t x)) (kont C os K M t d):=Qp rfl rfl
def srngO (M:List Blk):PV → Option (PV × List Blk)
 | .s (.string b) => some (.oi M.length,M ++ [.siter b 0])
 | _ => none
theorem Qo3 {x:CX}:wpOps C (⟨d,.srng x,none⟩ :: os) K M t = b2 (srngO M (ev t x)) (kont2 C os K t d):=by
 rw [QF rfl]
 apply YZ
 simp only [res,srngO]
 generalize ev t x = vx
 cases vx <;> first|rfl|(rename_i v;cases v <;> rfl)
def snxtR (M:List Blk) (i:Nat):Option Blk → Option (PV × List Blk)
 | some (.siter s pos) => if pos < s.size then some (.tup [.B true,.I pos,.s (.int .i32 (Utf8.decode s pos).1)],M.set i (.siter s (pos + (Utf8.decode s pos).2))) else some (.tup [.B false],M)
 | _ => none
def snxtO (M:List Blk):PV → Option (PV × List Blk)
 | .oi i => snxtR M i M[i]?
 | _ => none
theorem Qo4 {x:CX}:wpOps C (⟨d,.snxt x,none⟩ :: os) K M t = b2 (snxtO M (ev t x)) (kont2 C os K t d):=by
 rw [QF rfl]
 apply YZ
 simp only [res,snxtO]
 generalize ev t x = vx
 cases vx <;> rfl
def extV (i:Nat):PV → Option PV
 | .tup vs => vs[i]?
 | _ => none
theorem r_ext {i:Nat} {x:CX}:wpOps C (⟨d,.ext i x,none⟩ :: os) K M t = b1 (extV i (ev t x)) (kont C os K M t d):=Qp rfl (by
 simp only [res,extV]
 generalize ev t x = vx
 cases vx <;> first|rfl|(rename_i v;cases v <;> first|rfl|simp only [Option.map_map,Function.comp_def])|(simp only [];split <;> first|rfl|simp only [Option.map_map,Function.comp_def]))
def Qbv (off:Nat) (g:Option Nat):PV → Option PV
 | .agg cs => mkPV g ((cs.drop off).take (g.getD 1))
 | _ => none
theorem Qmc {off:Nat} {g:Option Nat} {x:CX}:wpOps C (⟨d,.field off g x,none⟩ :: os) K M t = b1 (Qbv off g (ev t x)) (kont C os K M t d):=Qp rfl (by
 simp only [res,Qbv]
 generalize ev t x = vx
 cases vx <;> first|rfl|(rename_i v;cases v <;> first|rfl|simp only [Option.map_map,Function.comp_def])|(simp only [];split <;> first|rfl|simp only [Option.map_map,Function.comp_def]))
def idxaV (n k:Nat) (g:Option Nat):PV → Option Nat → Option PV
 | .agg cs,some m => if m < n then mkPV g ((cs.drop (m * k)).take (g.getD 1)) else none
 | _,_ => none
theorem Qn0 {n k:Nat} {g:Option Nat} {x i:CX}:wpOps C (⟨d,.idxa n k g x i,none⟩ :: os) K M t = b1 (idxaV n k g (ev t x) (asNat (ev t i))) (kont C os K M t d):=Qp rfl (by
 simp only [res,idxaV]
 generalize ev t x = vx;generalize asNat (ev t i) = vi
 cases vx <;> cases vi <;> first|rfl|(simp only [];split <;> rfl))
def idxsV:PV → Option Nat → Option PV
 | .s (.string b),some n => (b[n]?).map fun c => .s (.int .u8 c.toNat)
 | _,_ => none
theorem Qpe {x i:CX}:wpOps C (⟨d,.idxs x i,none⟩ :: os) K M t = b1 (idxsV (ev t x) (asNat (ev t i))) (kont C os K M t d):=Qp rfl (by
 simp only [res,idxsV]
 generalize ev t x = vx;generalize asNat (ev t i) = vi
 cases vi <;> cases vx <;> first|rfl|(rename_i v;cases v <;> first|rfl|simp only [Option.map_map,Function.comp_def]))
def Qer:PV → Option PV → Option PV → Option PV
 | .s (.string b),lo,hi => (bounds b.size lo hi).map fun p => .s (.string (b.extract p.1 p.2))
 | _,_,_ => none
theorem Qmx {x:CX} {lo hi:Option CX}:wpOps C (⟨d,.slstr x lo hi,none⟩ :: os) K M t = b1 (Qer (ev t x) (lo.map (ev t)) (hi.map (ev t))) (kont C os K M t d):=Qp rfl (by
 simp only [res,Qer]
 generalize ev t x = vx
 cases vx <;> first|rfl|(rename_i v;cases v <;> first|rfl|simp only [Option.map_map,Function.comp_def])|(simp only [];split <;> first|rfl|simp only [Option.map_map,Function.comp_def]))
def arrpV (M:List Blk) (n:Nat):PV → Option PV
 | .fs xs => if n ≤ xs.length ∧ 0 < n then some (.fp ((xs.take n).flatMap PV.cells)) else none
 | .os i ver off len => if n ≤ len ∧ 0 < n then (held M (.os i ver off len)).map fun _ => .op i ver off 0 else none
 | _ => none
theorem QoR {n:Nat} {x:CX}:wpOps C (⟨d,.arrp n x,none⟩ :: os) K M t = b1 (arrpV M n (ev t x)) (kont C os K M t d):=Qp rfl (by
 simp only [res,arrpV]
 generalize ev t x = vx
 cases vx <;> first|rfl|(simp only [];split <;> simp [Option.map_map,Function.comp_def]))
def nilcV (M:List Blk):PV → Option PV
 | .fp cs => some (.fp cs)
 | .op i ver e j => if QL M i ver then some (.op i ver e j) else none
 | .fn (.func f) a b => some (.fn (.func f) a b)
 | _ => none
theorem Qo9 {x:CX}:wpOps C (⟨d,.nilc x,none⟩ :: os) K M t = b1 (nilcV M (ev t x)) (kont C os K M t d):=Qp rfl (by
 simp only [res,nilcV]
 generalize ev t x = vx
 cases vx <;> first|rfl|(rename_i f _ _;cases f <;> rfl)|(simp only [];split <;> rfl))
theorem Qo1 {f:FuncId} {cap:List CX}:wpOps C (⟨d,.mkfn f cap,none⟩ :: os) K M t = wpOps C os K M (put t d (.fn (.func f) [] (cap.map (ev t)))):=Qp (f:=some (.fn (.func f) [] (cap.map (ev t)))) rfl rfl
def YR (M:List Blk) (k:Nat):PV → Option PV → Option PV → Option PV
 | .fs xs,lo,hi => if sized k xs then (bounds xs.length lo hi).map fun b => .fs ((xs.drop b.1).take (b.2 - b.1)) else none
 | .s (.slice none 0 0),lo,hi => (bounds 0 lo hi).map fun _ => PV.nilS
 | .os i ver off len,lo,hi => if QL M i ver ∧ rowK M i = k then (bounds len lo hi).map fun b => .os i ver (off + b.1) (b.2 - b.1) else none
 | _,_,_ => none
theorem QnS {k:Nat} {x:CX} {lo hi:Option CX}:wpOps C (⟨d,.slice k x lo hi,none⟩ :: os) K M t = b1 (YR M k (ev t x) (lo.map (ev t)) (hi.map (ev t))) (kont C os K M t d):=Qp rfl (by
 simp only [res,YR]
 generalize ev t x = vx
 cases vx
 case fs xs => simp only [];by_cases h:sized k xs = true <;> simp [h,Option.map_map,Function.comp_def]
 case os i ver off len => simp only [];by_cases h:QL M i ver = true ∧ rowK M i = k <;> simp [h,Option.map_map,Function.comp_def]
 case s v =>
  by_cases e:v = .slice none 0 0
  ·subst e;simp only [Option.map_map];rfl
  ·split
   ·rename_i h;cases h
   ·rename_i h;cases h;exact absurd rfl e
   ·rename_i h;cases h
   ·split
    ·rename_i h;cases h
    ·rename_i h;cases h;exact absurd rfl e
    ·rename_i h;cases h
    ·rfl
 all_goals rfl)
def Jy (M:List Blk) (off:Nat):PV → Option PV
 | .fp cs => if off ≤ cs.length then some (.fp (cs.drop off)) else none
 | .op i ver e j => if QL M i ver then some (.op i ver e (j + off)) else none
 | _ => none
theorem Qm9 {off:Nat} {x:CX}:wpOps C (⟨d,.faddr off x,none⟩ :: os) K M t = b1 (Jy M off (ev t x)) (kont C os K M t d):=Qp rfl (by
 simp only [res,Jy]
 generalize ev t x = vx
 cases vx <;> first|rfl|(simp only [];split <;> rfl))
def elemP (k:Nat):Option PV → Option PV
 | some y => if y.cells.length = k then some (.fp y.cells) else none
 | none => none
def rowP (k a ver off len n:Nat):Option Blk → Option PV
 | some (.row _ k' v xs) => if v = ver ∧ k' = k ∧ off + len ≤ xs.length then some (.op a ver (off + n) 0) else none
 | _ => none
def Qaf (M:List Blk) (k:Nat):PV → Option Nat → Option PV
 | .fs xs,some n => elemP k (xs[n]?)
 | .os a ver off len,some n => if n < len then rowP k a ver off len n M[a]? else none
 | _,_ => none
theorem QnH {k:Nat} {x i:CX}:wpOps C (⟨d,.iaddr k x i,none⟩ :: os) K M t = b1 (Qaf M k (ev t x) (asNat (ev t i))) (kont C os K M t d):=Qp rfl (by
 simp only [res,Qaf]
 generalize ev t x = vx;generalize asNat (ev t i) = vi
 cases vx <;> cases vi <;> try rfl
 ·rename_i xs n
  simp only []
  cases xs[n]? with
  | none => rfl
  | some y => simp only [elemP];split <;> rfl
 ·rename_i a _ _ _ _
  simp only [];split
  ·cases M[a]? with
   | none => rfl
   | some b => cases b <;> first | rfl | (simp only [rowP];split <;> rfl)
  ·rfl)
def Jz (M:List Blk) (n k:Nat):PV → Option Nat → Option PV
 | .fp cs,some m => if m < n ∧ n * k ≤ cs.length then some (.fp ((cs.drop (m * k)).take k)) else none
 | .op a ver e j,some m => if m < n ∧ QL M a ver then some (.op a ver e (j + m * k)) else none
 | _,_ => none
theorem QjD {n k:Nat} {x i:CX}:wpOps C (⟨d,.iaddra n k x i,none⟩ :: os) K M t = b1 (Jz M n k (ev t x) (asNat (ev t i))) (kont C os K M t d):=Qp rfl (by
 simp only [res,Jz]
 generalize ev t x = vx;generalize asNat (ev t i) = vi
 cases vx <;> cases vi <;> first|rfl|(simp only [];split <;> rfl))
def lookB (z:Value) (ok:Bool) (sk:SK) (q:Value):Option Blk → Option PV
  | some (.map es) => if keyOk sk q ∧ Vq q es then
          (match find q es with
           | some v => some (if ok then .tup [.s v,.B true] else .s v)
           | none => some (if ok then .tup [.s z,.B false] else .s z))
          else none
  | _ => none
def lookV (M:List Blk) (sk:SK) (z:Value) (ok:Bool):PV → PV → Option PV
 | .om i,.s q => lookB z ok sk q M[i]?
 | _,_ => none
theorem Qn7 {sk:SK} {z:Value} {ok:Bool} {m key:CX}:wpOps C (⟨d,.look sk z ok m key,none⟩ :: os) K M t = b1 (lookV M sk z ok (ev t m) (ev t key)) (kont C os K M t d):=Qp rfl (by
 simp only [res,lookV]
 generalize ev t m = vm;generalize ev t key = vk
 cases vm <;> cases vk <;> try rfl
 rename_i i q
 simp only [lookB]
 cases M[i]? with
 | none => rfl
 | some b => cases b <;> first | rfl | (rename_i es;simp only [];split <;> first | rfl | (cases find q es <;> rfl)))
theorem QoT {k:Nat}:wpOps C (⟨d,.onil k,none⟩ :: os) K M t = wpOps C os K (M ++ [.row true k 0 []]) (put t d (.os M.length 0 0 0)):=by rw [QF rfl];rfl
theorem Qnj:wpOps C (⟨d,.mkmap,none⟩ :: os) K M t = wpOps C os K (M ++ [.map []]) (put t d (.om M.length)):=by rw [QF rfl];rfl
def Qi0 (M:List Blk) (k:Nat):Option PV → Option (PV × List Blk)
 | some e => some (.op M.length 0 0 0,M ++ [.row true k 0 [e]])
 | none => none
theorem QmS {g:Option Nat} {z:List Value}:wpOps C (⟨d,.alloc g z,none⟩ :: os) K M t = b2 (Qi0 M z.length (mkPV g (z.map .s))) (kont2 C os K t d):=by
 rw [QF rfl];simp only [res];cases mkPV g (z.map .s) <;> rfl
def boxO (M:List Blk) (own:Bool) (k:Nat) (v:PV):Option (PV × List Blk) :=
 if v.cells.length = k ∧ k ≠ 0 then
   if own then some (.op M.length 0 0 0,M ++ [.row true k 0 [v]]) else some (.fp (view M v).cells,M)
  else none
theorem r_box {own:Bool} {k:Nat} {x:CX}:wpOps C (⟨d,.box own k x,none⟩ :: os) K M t = b2 (boxO M own k (ev t x)) (kont2 C os K t d):=QF rfl
def bslO (M:List Blk) (own:Bool) (k:Nat) (vs:List PV):Option (PV × List Blk) :=
 if vs.all (fun x => x.cells.length = k) ∧ k ≠ 0 then
   if own then some (.os M.length 0 0 vs.length,M ++ [.row true k 0 vs]) else some (.fs (vs.map (view M)),M)
  else none
theorem r_bsl {own:Bool} {k:Nat} {xs:List CX}:wpOps C (⟨d,.bsl own k xs,none⟩ :: os) K M t = b2 (bslO M own k (xs.map (ev t))) (kont2 C os K t d):=by
 rw [QF rfl];simp only [res,bslO,List.length_map,List.map_map,Function.comp_def]
def Qbm (M:List Blk) (k:Nat):PV → PV → Option (PV × List Blk)
 | .op i ver e j,v => if v.cells.length = k ∧ k ≠ 0 then (Q5 M i ver e j v.cells).map (unit,·) else none
 | _,_ => none
theorem Qnv {k:Nat} {a v:CX}:wpOps C (⟨d,.store k a v,none⟩ :: os) K M t = b2 (Qbm M k (ev t a) (ev t v)) (kont2 C os K t d):=by
 rw [QF rfl];simp only [res,Qbm]
 generalize ev t a = va
 cases va <;> rfl
def mkslO (M:List Blk) (k:Nat) (g:Option Nat) (z:List Value) (bytes:Nat):PV → PV → Option (PV × List Blk)
 | .s (.int .i64 l),.s (.int .i64 c) =>
   if 0 ≤ l ∧ l = c ∧ l ≤ 2 ^ 20 ∧ bytes ≤ 2 ^ 20 ∧ z.length = k ∧ 0 < k then
    (mkPV g (z.map .s)).map fun e => (.os M.length 0 0 l.toNat,M ++ [.row true k 0 (List.replicate l.toNat e)])
   else none
 | _,_ => none
theorem Qob {k:Nat} {g:Option Nat} {z:List Value} {bytes:Nat} {a b:CX}:wpOps C (⟨d,.mksl k g z bytes a b,none⟩ :: os) K M t = b2 (mkslO M k g z bytes (ev t a) (ev t b)) (kont2 C os K t d):=by
 rw [QF rfl];rfl
def appO (M:List Blk) (k bytes:Nat) (vx:PV) (o:Option (List PV)):Option (PV × List Blk) :=
  match o with
  | some ys =>
   if ys.all (QP k) ∧ k ≠ 0 ∧ bytes ≤ 2 ^ 20 then
    match vx with
    | .s (.slice none 0 0) => if ys.length ≤ 2 ^ 20 then some (.os M.length 0 0 ys.length,M ++ [.row true k 0 ys]) else none
    | .os i ver off len => match M[i]? with
     | some (.row true k' v xs) =>
      if v = ver ∧ k' = k ∧ off + len ≤ xs.length ∧ len + ys.length ≤ 2 ^ 20 then
       some (.os i (ver + 1) 0 (len + ys.length),M.set i (.row true k (ver + 1) ((xs.drop off).take len ++ ys)))
      else none
     | _ => none
    | _ => none
   else none
  | none => none
theorem Qhf {k bytes:Nat} {x y:CX}:res M (ev t) (.append k bytes x y) = appO M k bytes (ev t x) (held M (ev t y)):=nrfl rfl
def appR (M:List Blk) (k bytes i ver off len:Nat) (ys:List PV):Option Blk → Option (PV × List Blk)
 | some (.row true k' v xs) => if (ys.all (QP k) ∧ k ≠ 0 ∧ bytes ≤ 2 ^ 20) ∧ v = ver ∧ k' = k ∧ off + len ≤ xs.length ∧ len + ys.length ≤ 2 ^ 20 then
       some (.os i (ver + 1) 0 (len + ys.length),M.set i (.row true k (ver + 1) ((xs.drop off).take len ++ ys))) else none
 | _ => none
theorem Qno {k bytes i ver off len:Nat} {ys:List PV}:appO M k bytes (.os i ver off len) (some ys) = appR M k bytes i ver off len ys M[i]?:=by
 simp only [appO,appR]
 cases M[i]? with
 | none => simp
 | some b =>
  cases b with
  | row w k' v xs =>
   cases w
   ·simp
   ·simp only []
    by_cases h:ys.all (QP k) = true ∧ k ≠ 0 ∧ bytes ≤ 2 ^ 20
    ·rw [if_pos h]
     by_cases h2:v = ver ∧ k' = k ∧ off + len ≤ xs.length ∧ len + ys.length ≤ 2 ^ 20
     ·rw [if_pos h2,if_pos ⟨h,h2⟩]
     ·rw [if_neg h2,if_neg (fun h3 => h2 h3.2)]
    ·rw [if_neg h,if_neg (fun h3 => h h3.1)]
  | _ => simp
theorem Qel {M:List Blk} {k bytes i ver len:Nat} {xs ys:List PV} (hl:len = xs.length) (hy:ys.all (QP k) = true) (hk:k ≠ 0) (hb:bytes ≤ 2 ^ 20) (hs:xs.length + ys.length ≤ 1048576) :
  appR M k bytes i ver 0 len ys (some (.row true k ver xs)) = some (.os i (ver + 1) 0 (len + ys.length),M.set i (.row true k (ver + 1) (xs ++ ys))):=by
 subst hl
 have e:(xs.drop 0).take xs.length = xs:=by simp
 show (if (ys.all (QP k) = true ∧ k ≠ 0 ∧ bytes ≤ 2 ^ 20) ∧ ver = ver ∧ k = k ∧ 0 + xs.length ≤ xs.length ∧ xs.length + ys.length ≤ 2 ^ 20 then some (PV.os i (ver + 1) 0 (xs.length + ys.length),M.set i (Blk.row true k (ver + 1) ((xs.drop 0).take xs.length ++ ys))) else none) = _
 rw [if_pos ⟨⟨hy,hk,hb⟩,rfl,rfl,by omega,by omega⟩,e]
theorem Qeq {M:List Blk} {k bytes:Nat} {ys:List PV} (hy:ys.all (QP k) = true) (hk:k ≠ 0) (hb:bytes ≤ 2 ^ 20) (hs:ys.length ≤ 1048576) :
  appO M k bytes PV.nilS (some ys) = some (.os M.length 0 0 ys.length,M ++ [.row true k 0 ys]):=by
 simp only [appO]
 rw [if_pos ⟨hy,hk,hb⟩,if_pos (by omega)]
theorem Qj4 {k bytes:Nat} {x y:CX}:wpOps C (⟨d,.append k bytes x y,none⟩ :: os) K M t = b2 (appO M k bytes (ev t x) (held M (ev t y))) (kont2 C os K t d):=by
 rw [QF rfl,Qhf]
def ZA:Option (PV × List Blk) → Option (PV × List Blk)
 | some (v,M) => (Qs M v.cells).map fun M' => (view M' v,M')
 | none => none
theorem r_fz {c:COp} {r:Option (PV × List Blk)} (h:res M (ev t) c = r):wpOps C (⟨d,.fz c,none⟩ :: os) K M t = b2 (ZA r) (kont2 C os K t d):=by
 subst h
 apply propext
 show (∃ v M',(∃ v0 M1,res M (ev t) c = some (v0,M1) ∧ Qs M1 v0.cells = some M' ∧ v = view M' v0) ∧ wpOps C os K M' (put t d v)) ↔ _
 cases hr:res M (ev t) c with
 | none => simp [ZA,b2]
 | some p =>
  obtain ⟨v0,M1⟩:=p
  cases hf:Qs M1 v0.cells with
  | none => simp [ZA,b2,hf]
  | some M2 =>
   simp only [ZA,b2,hf,kont2,Option.map_some]
   constructor
   ·rintro ⟨v,M',⟨v1,M3,h1,h2,rfl⟩,h3⟩
    cases h1
    rw [hf] at h2;cases h2
    exact h3
   ·exact fun h => ⟨_,_,⟨_,_,rfl,hf,rfl⟩,h⟩
theorem Qm6 {x:CX}:wpOps C (⟨d,.fz (.mov x),none⟩ :: os) K M t = b2 (ZA (some (ev t x,M))) (kont2 C os K t d):=r_fz rfl
theorem QmX {k bytes:Nat} {x y:CX}:wpOps C (⟨d,.fz (.append k bytes x y),none⟩ :: os) K M t = b2 (ZA (appO M k bytes (ev t x) (held M (ev t y)))) (kont2 C os K t d):=r_fz Qhf
def mupdB (M:List Blk) (i:Nat) (sk:SK) (q u:Value):Option Blk → Option (PV × List Blk)
 | some (.map es) => if keyOk sk q ∧ Vq q es then some (unit,M.set i (.map (upd q u es))) else none
 | _ => none
def mupdO (M:List Blk) (sk:SK):PV → PV → PV → Option (PV × List Blk)
 | .om i,.s q,.s u => mupdB M i sk q u M[i]?
 | _,_,_ => none
theorem Qos {sk:SK} {m key v:CX}:wpOps C (⟨d,.mupd sk m key v,none⟩ :: os) K M t = b2 (mupdO M sk (ev t m) (ev t key) (ev t v)) (kont2 C os K t d):=by
 rw [QF rfl]
 simp only [res,mupdO]
 generalize ev t m = vm;generalize ev t key = vk;generalize ev t v = vv
 cases vm <;> cases vk <;> cases vv <;> rfl
def gK (x:PV) (want:Bool) (C:CallR) (d:Option Nat) (o:COp) (os:List COper) (K:(List Blk) → List PV → Prop) (M:List Blk) (t:List PV):Prop :=
 QbH x want (wpOps C (⟨d,o,none⟩ :: os) K M t) (wpOps C os K M (put t d unit))
theorem QlO {o:COp} {g:Nat} {want:Bool}:wpOps C (⟨d,o,some (g,want)⟩ :: os) K M t = gK (t.getD g .top) want C d o os K M t:=nrfl rfl
theorem Qbc {x x':PV} {want:Bool} {o:COp} (h:x = x'):gK x want C d o os K M t = gK x' want C d o os K M t:=by rw [h]
theorem gK_tt {o:COp}:gK (.B true) true C d o os K M t = wpOps C (⟨d,o,none⟩ :: os) K M t:=by unfold gK;rw [JR];rfl
theorem gK_ff {o:COp}:gK (.B false) false C d o os K M t = wpOps C (⟨d,o,none⟩ :: os) K M t:=by unfold gK;rw [JR];rfl
theorem gK_tf {o:COp}:gK (.B true) false C d o os K M t = wpOps C os K M (put t d unit):=by unfold gK;rw [JR];rfl
theorem gK_ft {o:COp}:gK (.B false) true C d o os K M t = wpOps C os K M (put t d unit):=by unfold gK;rw [JR];rfl
theorem Ql9 {o:COp} {want:Bool}:gK unit want C d o os K M t = wpOps C os K M (put t d unit):=by unfold gK;rw [QeS]
theorem Qq {c want:Bool} {o:COp} (h1:c = true → gK (.B true) want C d o os K M t) (h2:c = false → gK (.B false) want C d o os K M t):gK (.B c) want C d o os K M t:=by
 cases c
 ·exact h2 rfl
 ·exact h1 rfl
def cK (x:PV) (C:CallR) (n0:Nat) (a b:CCode) (Q:Post) (M:List Blk) (t:List PV):Prop:=J4 x true (Wp C n0 a Q M t) (Wp C n0 b Q M t)
theorem QoL {c:CX} {a b:CCode}:Wp C n0 (.cond c a b) Q M t = cK (ev t c) C n0 a b Q M t:=by rw [Ql3];rfl
theorem QaZ {x x':PV} {a b:CCode} (h:x = x'):cK x C n0 a b Q M t = cK x' C n0 a b Q M t:=by rw [h]
theorem cK_t {a b:CCode}:cK (.B true) C n0 a b Q M t = Wp C n0 a Q M t:=by unfold cK;rw [QdH];rfl
theorem cK_f {a b:CCode}:cK (.B false) C n0 a b Q M t = Wp C n0 b Q M t:=by unfold cK;rw [QdH];rfl
theorem Qg {c:Bool} {a b:CCode} (h1:c = true → cK (.B true) C n0 a b Q M t) (h2:c = false → cK (.B false) C n0 a b Q M t):cK (.B c) C n0 a b Q M t:=by
 cases c
 ·exact h2 rfl
 ·exact h1 rfl
def callP (C:CallR) (lo:Bool) (g:Callee) (args:List PV) (M:List Blk) (k:PV → List Blk → Prop):Prop:=∃ v M',(lo = false → M' = M) ∧ C g args M v M' ∧ k v M'
theorem QoJ {lo:Bool} {g:FuncId} {args:List CX}:wpOps C (⟨d,.call lo (.inr g) args,none⟩ :: os) K M t = callP C lo (.fn g) (args.map (argV M (ev t))) M (kont2 C os K t d):=by
 apply propext
 show (∃ v M',((lo = false → M' = M) ∧ C (.fn g) (args.map (argV M (ev t))) M v M') ∧ wpOps C os K M' (put t d v)) ↔ _
 exact ⟨fun ⟨v,M',⟨h1,h2⟩,h3⟩ => ⟨v,M',h1,h2,h3⟩,fun ⟨v,M',h1,h2,h3⟩ => ⟨v,M',⟨h1,h2⟩,h3⟩⟩
def callV (C:CallR) (lo:Bool) (f:PV) (args:List PV) (M:List Blk) (k:PV → List Blk → Prop):Prop :=
 match f with
 | .fn (.func g) first cap => callP C lo (.fn g) (first ++ args ++ cap) M k
 | .yl i => callP C lo (.yl i) args M k
 | _ => False
theorem Qmb {lo:Bool} {x:CX} {args:List CX}:wpOps C (⟨d,.call lo (.inl x) args,none⟩ :: os) K M t = callV C lo (ev t x) (args.map (argV M (ev t))) M (kont2 C os K t d):=by
 apply propext
 show (∃ v M',((lo = false → M' = M) ∧ (match ev t x with
   | .fn (.func g) first cap => C (.fn g) (first ++ args.map (argV M (ev t)) ++ cap) M v M'
   | .yl i => C (.yl i) (args.map (argV M (ev t))) M v M'
   | _ => False)) ∧ wpOps C os K M' (put t d v)) ↔ _
 unfold callV
 split
 ·exact ⟨fun ⟨v,M',⟨h1,h2⟩,h3⟩ => ⟨v,M',h1,h2,h3⟩,fun ⟨v,M',h1,h2,h3⟩ => ⟨v,M',⟨h1,h2⟩,h3⟩⟩
 ·exact ⟨fun ⟨v,M',⟨h1,h2⟩,h3⟩ => ⟨v,M',h1,h2,h3⟩,fun ⟨v,M',h1,h2,h3⟩ => ⟨v,M',⟨h1,h2⟩,h3⟩⟩
 ·simp
theorem QjH {lo:Bool} {g:FuncId} {first cap args:List PV} {k:PV → List Blk → Prop}:callV C lo (.fn (.func g) first cap) args M k = callP C lo (.fn g) (first ++ args ++ cap) M k:=nrfl rfl
theorem Qlv {lo:Bool} {i:Nat} {args:List PV} {k:PV → List Blk → Prop}:callV C lo (.yl i) args M k = callP C lo (.yl i) args M k:=nrfl rfl
theorem Qb {lo:Bool} {g:Callee} {args:List PV} {k:PV → List Blk → Prop} {r:PV} (h:C g args M r M) (hk:k r M):callP C lo g args M k:=⟨r,M,fun _ => rfl,h,hk⟩
theorem Q0 {g:Callee} {args:List PV} {k:PV → List Blk → Prop} {r:PV} {M':List Blk} (h:C g args M r M') (hk:k r M'):callP C true g args M k:=⟨r,M',(fun h => by cases h),h,hk⟩
theorem QkL {v:PV} {M':List Blk}:kont2 C os K t d v M' = wpOps C os K M' (put t d v):=nrfl rfl
theorem QmN {ks:List Nat}:Wp C n0 (.keep ks) Q M t = Q .normal M (keepL ks t):=nrfl rfl
def fixP (Q:Post) (i:Nat) (v:PV) (t:List PV):Option (List Blk) → Prop
 | some M' => Q .normal M' (t.set i (view M' v))
 | none => False
theorem QoH {i:Nat}:Wp C n0 (.fix i) Q M t = fixP Q i (t.getD i .top) t (Qs M (t.getD i .top).cells):=by
 apply propext
 show (∃ M',Qs M (t.getD i .top).cells = some M' ∧ Q .normal M' (t.set i (view M' (t.getD i .top)))) ↔ _
 cases Qs M (t.getD i .top).cells with
 | none => simp [fixP]
 | some M' => simp [fixP]
theorem Qhk {i:Nat} {v:PV} {M':List Blk}:fixP Q i v t (some M') = Q .normal M' (t.set i (view M' v)):=nrfl rfl
def Again {α:Type} (n:Nat) (I:α → Prop) (σ:α → List Blk) (τ:α → List (Nat × PV)) (μ:α → Nat) (x:α) (M:List Blk) (t:List PV):Prop:=∃ y,I y ∧ μ y < μ x ∧ M = σ y ∧ t = mk n (τ y)
theorem again {α:Type} {n:Nat} {I:α → Prop} {σ:α → List Blk} {τ:α → List (Nat × PV)} {μ:α → Nat} {x:α} (y:α) (h1:I y) (h2:μ y < μ x) (h3:M = σ y) (h4:t = mk n (τ y)):Again n I σ τ μ x M t:=⟨y,h1,h2,h3,h4⟩
theorem again' {α:Type} {n:Nat} {I:α → Prop} {σ:α → List Blk} {τ:α → List (Nat × PV)} {μ:α → Nat} {x:α} {kvs:List (Nat × PV)} (y:α) (h1:I y) (h2:μ y < μ x) (h3:M = σ y) (h4:kvs = τ y):Again n I σ τ μ x M (mk n kvs):=⟨y,h1,h2,h3,by rw [h4]⟩
theorem Qn {c:CCode} {n:Nat} {kvs:List (Nat × PV)} {α:Type} (x0:α) (I:α → Prop) (σ:α → List Blk) (τ:α → List (Nat × PV)) (μ:α → Nat) (h0:I x0) (hM:M = σ x0) (ht:kvs = τ x0)
  (h:∀ x,I x → Wp C n0 c (thenK (Again n I σ τ μ x) Q) (σ x) (mk n (τ x))):Wp C n0 (.loop c) Q M (mk n kvs):=by
 subst hM;subst ht
 exact QkS I σ (fun x => mk n (τ x)) μ h x0 h0
end
theorem Qdy {n:Nat} {rs:List (Nat × Option (Option Nat))} {r:PV} {M N:List Blk} {t:List PV} {vs:List PV} {e:Ex} (he:match e with|.ret|.normal => True|_ => False) (hM:lowM M.length M) (hn:n = M.length)
  (hv:resOf (M ++ N) t rs = some vs) (hr:mkRes M.length (M ++ N) vs = r) (hl:r.low M.length):Q9 n rs r M e (M ++ N) t:=by
 subst hn
 exact ⟨he,M.length,Nat.le_refl _,by simp,by simpa using hM,by simp,vs,hv,.inl hr.symm,hl⟩
theorem Qic {n:Nat} {rs:List (Nat × Option (Option Nat))} {r:PV} {M:List Blk} {t:List PV} {vs:List PV} {e:Ex} (he:match e with|.ret|.normal => True|_ => False) (hM:lowM M.length M) (hn:n = M.length)
  (hv:resOf M t rs = some vs) (hr:mkRes M.length M vs = r) (hl:r.low M.length):Q9 n rs r M e M t:=by
 have:=Qdy (N:=[]) (r:=r) (rs:=rs) (t:=t) (vs:=vs) he hM hn (by simpa using hv) (by simpa using hr) hl
 simpa using this
end Go.Nac
namespace Go.Nac
section
variable {M:List Blk} {k:IntKind} {a b:Int} {p q:Bool} {x y z:PV} {xs ys cs:List PV}
theorem QjI:lenOf (.fs xs) = some xs.length:=nrfl rfl
theorem Qj7 {i v o n:Nat}:lenOf (.os i v o n) = some n:=nrfl rfl
theorem Qhy:lenOf (.s (.slice none 0 0)) = some 0:=nrfl rfl
theorem Qm1 {s:ByteArray}:lensV (.s (.string s)) = some (.I (s.size:Int)):=nrfl rfl
theorem Qms:bin .add (.s (.int k a)) (.s (.int k b)) = some (.s (.int k (k.wrap (a + b)))):=by simp [bin,isSh,Vv]
theorem Qnf:bin .sub (.s (.int k a)) (.s (.int k b)) = some (.s (.int k (k.wrap (a - b)))):=by simp [bin,isSh,Vv]
theorem QmE:bin .mul (.s (.int k a)) (.s (.int k b)) = some (.s (.int k (k.wrap (a * b)))):=by simp [bin,isSh,Vv]
theorem QmV:bin .quo (.s (.int k a)) (.s (.int k b)) = if b = 0 then none else some (.s (.int k (k.wrap (a.tdiv b)))):=by simp only [bin,isSh,Vv,Bool.false_eq_true,if_false,if_true];split <;> rfl
theorem Qme:bin .rem (.s (.int k a)) (.s (.int k b)) = if b = 0 then none else some (.s (.int k (a.tmod b))):=by simp only [bin,isSh,Vv,Bool.false_eq_true,if_false,if_true];split <;> rfl
theorem Ql1:bin .eql (.s (.int k a)) (.s (.int k b)) = some (.B (decide (a = b))):=by simp only [bin,isSh,Vv,Bool.false_eq_true,if_false,if_true,Option.map_some];congr
theorem Qmq:bin .neq (.s (.int k a)) (.s (.int k b)) = some (.B (decide (¬ a = b))):=by
 simp only [bin,isSh,Vv,Bool.false_eq_true,if_false,if_true,Option.map_some,Option.some.injEq,PV.s.injEq,Value.bool.injEq]
 by_cases h:a = b <;> simp [h]
theorem Ql2:bin .lss (.s (.int k a)) (.s (.int k b)) = some (.B (decide (a < b))):=by simp [bin,isSh,Vv]
theorem QlE:bin .leq (.s (.int k a)) (.s (.int k b)) = some (.B (decide (a ≤ b))):=by simp [bin,isSh,Vv]
theorem QlA:bin .gtr (.s (.int k a)) (.s (.int k b)) = some (.B (decide (b < a))):=by simp [bin,isSh,Vv]
theorem Qnu:bin .geq (.s (.int k a)) (.s (.int k b)) = some (.B (decide (b ≤ a))):=by simp [bin,isSh,Vv]
theorem Qlx {b:ByteArray}:srngO M (.s (.string b)) = some (.oi M.length,M ++ [.siter b 0]):=nrfl rfl
theorem QhA {n:Nat} (h:n ≤ cs.length) (h1:0 < n) (h2:(cs.take n).all oneB = true):Qbx n (.fp cs) = some (.fs (cs.take n)):=if_pos ⟨h,h1,h2⟩
theorem Qkb {i:Nat}:snxtO M (.oi i) = snxtR M i M[i]?:=nrfl rfl
theorem QgY {i pos:Nat} {s:ByteArray} (h:pos < s.size):snxtR M i (some (.siter s pos)) = some (.tup [.B true,.I pos,.s (.int .i32 (Utf8.decode s pos).1)],M.set i (.siter s (pos + (Utf8.decode s pos).2))):=if_pos h
theorem QgW {i pos:Nat} {s:ByteArray} (h:¬ pos < s.size):snxtR M i (some (.siter s pos)) = some (.tup [.B false],M):=if_neg h
theorem QkA {fk:FloatKind}:sopV (.itf fk) [.s (.int k a)] = some (.s (.float fk (fk.nearest a))):=nrfl rfl
theorem Qm0 {fk:FloatKind} {u:Nat}:sopV (.ff fk) [.s (.float fk u)] = some (.s (.float fk u)):=by simp only [sopV,if_true]
theorem Qfp {fk:FloatKind} {u:Nat}:(PV.s (.float fk u)).cells = [.s (.float fk u)]:=nrfl rfl
theorem QhF {fk:FloatKind}:(PV.nan fk).cells = [.nan fk]:=nrfl rfl
theorem QgR {fk:FloatKind} {u:Nat}:oneB (.s (.float fk u)) = true:=nrfl rfl
theorem Qk5 {fk:FloatKind}:oneB (.nan fk) = true:=nrfl rfl
theorem QgJ {fk:FloatKind} {u:Nat}:view M (.s (.float fk u)) = .s (.float fk u):=nrfl rfl
theorem Qj1 {fk:FloatKind}:view M (.nan fk) = .nan fk:=nrfl rfl
theorem QnB {i:Nat}:view M (.oi i) = .oi i:=nrfl rfl
theorem Qev {fk:FloatKind} {u:Nat}:view1 M (.s (.float fk u)) = .s (.float fk u):=nrfl rfl
theorem QiR {fk:FloatKind}:view1 M (.nan fk) = .nan fk:=nrfl rfl
theorem QgH {n:Nat} {fk:FloatKind} {u:Nat}:outV n M (.s (.float fk u)) = .s (.float fk u):=nrfl rfl
theorem QjN {n:Nat} {fk:FloatKind}:outV n M (.nan fk) = .nan fk:=nrfl rfl
theorem Qgp {n:Nat} {fk:FloatKind} {u:Nat}:out1 n M (.s (.float fk u)) = .s (.float fk u):=nrfl rfl
theorem Qkc:binb .eql (.B p) (.B q) = some (.B (p == q)):=nrfl rfl
theorem QjU:binb .neq (.B p) (.B q) = some (.B (!(p == q))):=nrfl rfl
theorem Qpf:un .neg (.s (.int k a)) = some (.s (.int k (k.wrap (-a)))):=by simp [un]
theorem Qpu:un .not (.B p) = some (.B (!p)):=nrfl rfl
theorem QkH {k':IntKind}:conv k' (.s (.int k a)) = some (.s (.int k' (k'.wrap a))):=nrfl rfl
theorem QlI:pickV (.B true) x y = some x:=nrfl rfl
theorem Qna:pickV (.B false) x y = some y:=nrfl rfl
theorem Qjk:pickV (.B p) (.B true) (.B q) = some (.B (p || q)):=by cases p <;> rfl
theorem Qi7:pickV (.B p) (.B q) (.B false) = some (.B (p && q)):=by cases p <;> rfl
theorem QiS:asNat (.s (.int k a)) = if 0 ≤ a then some a.toNat else none:=nrfl rfl
theorem Qmm {a:Int} (h:-9223372036854775808 ≤ a ∧ a ≤ 9223372036854775807):IntKind.i64.wrap a = a:=QcC h
theorem Qkg {i:Nat}:extV i (.tup xs) = xs[i]?:=nrfl rfl
theorem Qi1 {f:PV → PV → Option PV}:foldO f x [] = some x:=nrfl rfl
theorem Qgr {f:PV → PV → Option PV}:foldO f x (y :: xs) = (f x y).bind fun z => foldO f z xs:=nrfl rfl
theorem Qlu:maxI (.s (.int k a)) (.s (.int k b)) = some (.s (.int k (max a b))):=by
 simp only [maxI,if_true,Option.some.injEq,PV.s.injEq,Value.int.injEq,true_and];omega
theorem Qkl:minI (.s (.int k a)) (.s (.int k b)) = some (.s (.int k (min a b))):=by
 simp only [minI,if_true,Option.some.injEq,PV.s.injEq,Value.int.injEq,true_and];omega
theorem QhB:(PV.agg cs).cells = cs:=nrfl rfl
theorem QnA {v:Value}:(PV.s v).cells = [.s v]:=nrfl rfl
theorem Qjn:(PV.fs cs).cells = [.fs cs]:=nrfl rfl
theorem Qjs {i v o n:Nat}:(PV.os i v o n).cells = [.os i v o n]:=nrfl rfl
theorem Qjl {i v o n:Nat}:(PV.op i v o n).cells = [.op i v o n]:=nrfl rfl
theorem QkT {i:Nat}:(PV.om i).cells = [.om i]:=nrfl rfl
theorem Qkw:(PV.fp cs).cells = [.fp cs]:=nrfl rfl
theorem QjM {f:Fn}:(PV.fn f xs ys).cells = [.fn f xs ys]:=nrfl rfl
theorem Qjq:oneB (.s (.int k a)) = true:=nrfl rfl
theorem Qix:oneB (.s (.bool p)) = true:=nrfl rfl
theorem Qk8 {s:ByteArray}:oneB (.s (.string s)) = true:=nrfl rfl
theorem QjO:oneB (.s (.slice none 0 0)) = true:=nrfl rfl
theorem Qnd:oneB (.fs xs) = true:=nrfl rfl
theorem Qmg {i v o n:Nat}:oneB (.os i v o n) = true:=nrfl rfl
theorem QnP {i v o n:Nat}:oneB (.op i v o n) = true:=nrfl rfl
theorem QnE {i:Nat}:oneB (.om i) = true:=nrfl rfl
theorem Qi8 {n:Nat}:QP n x = (x.cells.length == n && x.cells.all oneB):=nrfl rfl
theorem QhI:mkPV none [x] = some x:=nrfl rfl
theorem QcG {n:Nat} (h:xs.length = n):mkPV (some n) xs = some (.agg xs):=by simp [mkPV,h]
theorem Qhs {n:Nat} (h:n ≤ cs.length):Q6 M (some n) (.fp cs) = some (.agg (cs.take n)):=by
 simp only [Q6,Option.getD_some];exact QcG (by simp;omega)
theorem Qf4:Q6 M none (.fp (x :: cs)) = some x:=by simp [Q6,mkPV]
def Qbr (ver e j n:Nat):Option Blk → Option (List PV)
 | some (.row _ _ v xs) =>
  if v = ver then
   match xs[e]? with
   | some x => if j + n ≤ x.cells.length then some ((x.cells.drop j).take n) else
     if j + n ≤ ((xs.drop e).flatMap PV.cells).length then some ((((xs.drop e).flatMap PV.cells).drop j).take n) else none
   | none => none
  else none
 | _ => none
theorem QgG {i ver e j n:Nat}:V5 M i ver e j n = Qbr ver e j n M[i]?:=by
 unfold V5
 cases M[i]? with
 | none => rfl
 | some b => cases b <;> rfl
theorem Qhi {g:Option Nat} {i ver e j:Nat}:Q6 M g (.op i ver e j) = (Qbr ver e j (g.getD 1) M[i]?).bind fun cs => mkPV g cs:=by
 rw [← QgG];rfl
def J8 (xs:List PV) (e j n:Nat):Option PV → Option (List PV)
 | some x => if j + n ≤ x.cells.length then some ((x.cells.drop j).take n) else
   if j + n ≤ ((xs.drop e).flatMap PV.cells).length then some ((((xs.drop e).flatMap PV.cells).drop j).take n) else none
 | none => none
theorem QiZ {w:Bool} {kk ver e j n:Nat}:Qbr ver e j n (some (.row w kk ver xs)) = J8 xs e j n xs[e]?:=by
 simp only [Qbr,if_true]
 cases xs[e]? <;> rfl
theorem QeL {e j n:Nat} (h:j + n ≤ x.cells.length):J8 xs e j n (some x) = some ((x.cells.drop j).take n):=by simp only [J8,if_pos h]
def putR (M:List Blk) (i ver e j:Nat) (vs:List PV):Option Blk → Option (List Blk)
  | some (.row true k v xs) =>
    if v = ver then
      match xs[e]? with
      | some x => if j + vs.length ≤ x.cells.length ∧ vs.all oneB then
          (match x with
           | .agg cs => some (M.set i (.row true k v (xs.set e (.agg (setRange cs j vs)))))
           | _ => match vs with
             | [y] => match y with
               | .agg _ => none
               | y => some (M.set i (.row true k v (xs.set e y)))
             | _ => none)
          else none
      | none => none
    else none
  | _ => none
theorem QbU {i ver e j:Nat} {vs:List PV}:Q5 M i ver e j vs = putR M i ver e j vs M[i]?:=by
 unfold Q5
 cases M[i]? with
 | none => rfl
 | some b => cases b with
  | row w => cases w <;> rfl
  | _ => rfl
theorem QjC {kk i ver e j:Nat} {vs:List PV} (hx:xs[e]? = some (.agg cs)) (h:j + vs.length ≤ cs.length) (h1:vs.all oneB = true) :
  putR M i ver e j vs (some (.row true kk ver xs)) = some (M.set i (.row true kk ver (xs.set e (.agg (setRange cs j vs))))):=by
 unfold putR
 simp only [if_true,hx]
 exact if_pos ⟨h,h1⟩
theorem Qdu {kk i ver e:Nat} {v:PV} (hx:xs[e]? = some x) (hx1:oneB x = true) (h1:oneB v = true) :
  putR M i ver e 0 [v] (some (.row true kk ver xs)) = some (M.set i (.row true kk ver (xs.set e v))):=by
 unfold putR
 simp only [if_true,hx]
 have hc:0 + [v].length ≤ x.cells.length:=by cases x <;> first|(cases hx1;done)|(simp [PV.cells])
 rw [if_pos ⟨hc,by simp [h1]⟩]
 cases x <;> first|(cases hx1;done)|skip
 all_goals (cases v <;> first|(cases h1;done)|rfl)
theorem Qis {kk i ver:Nat} {v:PV} (hx1:oneB x = true) (h1:oneB v = true) :
  putR M i ver 0 0 [v] (some (.row true kk ver [x])) = some (M.set i (.row true kk ver [v])):=by
 rw [Qdu (x:=x) rfl hx1 h1];rfl
def putE (M:List Blk) (i k ver e j:Nat) (xs vs:List PV):Option PV → Option (List Blk)
 | some x => putR M i ver 0 j vs (some (.row true k ver [x])) |>.bind fun _ => putR M i ver e j vs (some (.row true k ver xs))
 | none => none
theorem Qcw {i kk ver e j:Nat} {vs:List PV}:putR M i ver e j vs (some (.row true kk ver xs)) = putE M i kk ver e j xs vs xs[e]?:=by
 cases h:xs[e]? with
 | none => simp only [putR,if_true,h,putE]
 | some x =>
  simp only [putE]
  simp only [putR,if_true,h,List.getElem?_cons_zero]
  split
  ·split
   ·rfl
   ·split
    ·split <;> first|rfl|(rename_i h1 _ _ _ _ h2;exact absurd rfl (h2 _))
    ·rfl
  ·rfl
theorem Qll {kk i ver e j:Nat} {vs:List PV} (h:j + vs.length ≤ cs.length) (h1:vs.all oneB = true) (hx:xs[e]? = some (.agg cs)) :
  putE M i kk ver e j xs vs (some (.agg cs)) = some (M.set i (.row true kk ver (xs.set e (.agg (setRange cs j vs))))):=by
 rw [← hx,← Qcw,QjC hx h h1]
theorem Qj3 {kk i ver e:Nat} {v:PV} (hx1:oneB x = true) (h1:oneB v = true) (hx:xs[e]? = some x) :
  putE M i kk ver e 0 xs [v] (some x) = some (M.set i (.row true kk ver (xs.set e v))):=by
 rw [← hx,← Qcw,Qdu hx hx1 h1]
theorem Qhz {kk i ver e j:Nat} (h:y.cells.length = kk) (hk:kk ≠ 0):Qbm M kk (.op i ver e j) y = (putR M i ver e j y.cells M[i]?).map (unit,·):=by
 rw [← QbU];simp only [Qbm];rw [if_pos ⟨h,hk⟩]
theorem QeC {n:Nat}:Qi0 M n (some x) = some (.op M.length 0 0 0,M ++ [.row true n 0 [x]]):=nrfl rfl
theorem Qkr {n:Nat} (h:x.cells.length = n) (hn:n ≠ 0):boxO M true n x = some (.op M.length 0 0 0,M ++ [.row true n 0 [x]]):=by simp [boxO,h,hn]
theorem Qm7 {n:Nat} (h:x.cells.length = n) (hn:n ≠ 0):boxO M false n x = some (.fp (view M x).cells,M):=by simp [boxO,h,hn]
theorem Qef {n:Nat} (h:xs.all (fun x => x.cells.length = n) = true) (hn:n ≠ 0):bslO M true n xs = some (.os M.length 0 0 xs.length,M ++ [.row true n 0 xs]):=by
 simp only [bslO];rw [if_pos ⟨h,hn⟩];rfl
theorem QiF {n:Nat} (hn:n ≠ 0):bslO M true n [] = some (.os M.length 0 0 0,M ++ [.row true n 0 []]):=Qef (by simp) hn
theorem QkV {n:Nat} (hn:n ≠ 0):bslO M false n [] = some (.fs [],M):=by simp [bslO,hn]
theorem QmM {n:Nat} (h:xs.all (fun x => x.cells.length = n) = true) (hn:n ≠ 0):bslO M false n xs = some (.fs (xs.map (view M)),M):=by
 simp only [bslO];rw [if_pos ⟨h,hn⟩];rfl
theorem Qg5 {kk bytes:Nat} {g:Option Nat} {zv:List Value} (h0:0 ≤ a) (h1:a ≤ 1048576) (hb:bytes ≤ 1048576) (hz:zv.length = kk) (hk:0 < kk) :
  mkslO M kk g zv bytes (.s (.int .i64 a)) (.s (.int .i64 a)) = (mkPV g (zv.map .s)).map fun e => (.os M.length 0 0 a.toNat,M ++ [.row true kk 0 (List.replicate a.toNat e)]):=by
 exact if_pos ⟨h0,rfl,by omega,by omega,hz,hk⟩
theorem Qh1 {n m:Nat}:Qaf M n (.fs xs) (some m) = elemP n xs[m]?:=nrfl rfl
theorem Qf8 {n:Nat} (h:x.cells.length = n):elemP n (some x) = some (.fp x.cells):=by simp [elemP,h]
theorem QiO {n m i ver off len:Nat} (h:m < len):Qaf M n (.os i ver off len) (some m) = rowP n i ver off len m M[i]?:=by simp [Qaf,h]
theorem Qhh {n i ver off len m:Nat} {w:Bool} (h:off + len ≤ xs.length):rowP n i ver off len m (some (.row w n ver xs)) = some (.op i ver (off + m) 0):=by simp [rowP,h]
theorem QhS {off:Nat} (h:off ≤ cs.length):Jy M off (.fp cs) = some (.fp (cs.drop off)):=by simp [Jy,h]
def liveR (ver:Nat):Option Blk → Bool
 | some (.row _ _ v _) => v == ver
 | _ => false
theorem V9 {i ver:Nat}:QL M i ver = liveR ver M[i]?:=by
 unfold QL
 cases M[i]? with
 | none => rfl
 | some b => cases b <;> rfl
theorem QfY {ver kk:Nat} {w:Bool}:liveR ver (some (.row w kk ver xs)) = true:=by simp [liveR]
theorem Qii {off i ver e j:Nat}:Jy M off (.op i ver e j) = if liveR ver M[i]? = true then some (.op i ver e (j + off)) else none:=by simp only [Jy,V9]
theorem Qj2:nilcV M (.fp cs) = some (.fp cs):=nrfl rfl
theorem Qlc {i ver e j:Nat}:nilcV M (.op i ver e j) = if liveR ver M[i]? = true then some (.op i ver e j) else none:=by simp only [nilcV,V9]
theorem Qld {f:FuncId}:nilcV M (.fn (.func f) xs ys) = some (.fn (.func f) xs ys):=nrfl rfl
theorem Qgz {off:Nat}:Qbv off none (.agg cs) = mkPV none ((cs.drop off).take 1):=nrfl rfl
theorem QeQ {off n:Nat}:Qbv off (some n) (.agg cs) = mkPV (some n) ((cs.drop off).take n):=nrfl rfl
theorem Qh8 {n:Nat} {lo hi:Option PV} (h:sized n xs = true):YR M n (.fs xs) lo hi = (bounds xs.length lo hi).map fun b => .fs ((xs.drop b.1).take (b.2 - b.1)):=by simp [YR,h]
theorem QhZ {n:Nat}:sized n [] = true:=nrfl rfl
theorem natZ:((0:Nat):Int) = 0:=nrfl rfl
theorem natO:((1:Nat):Int) = 1:=nrfl rfl
theorem min10:min (1:Int) 0 = 0:=nrfl rfl
theorem QgS {n:Nat} {lo hi:Option PV}:YR M n (.s (.slice none 0 0)) lo hi = (bounds 0 lo hi).map fun _ => PV.nilS:=nrfl rfl
def rowKR:Option Blk → Nat
 | some (.row _ k _ _) => k
 | _ => 0
theorem Qmf {i:Nat}:rowK M i = rowKR M[i]?:=by
 unfold rowK
 cases M[i]? with
 | none => rfl
 | some b => cases b <;> rfl
def Qbp (i ver off len n:Nat) (lo hi:Option PV):Option Blk → Option PV
 | some (.row _ k v _) => if v = ver ∧ k = n then (bounds len lo hi).map fun b => .os i ver (off + b.1) (b.2 - b.1) else none
 | _ => none
theorem Qhl {n i ver off len:Nat} {lo hi:Option PV}:YR M n (.os i ver off len) lo hi = Qbp i ver off len n lo hi M[i]?:=by
 simp only [YR,V9,Qmf]
 cases M[i]? with
 | none => rfl
 | some b => cases b <;> simp [liveR,rowKR,Qbp]
theorem Qgh {n i ver off len:Nat} {lo hi:Option PV} {w:Bool}:Qbp i ver off len n lo hi (some (.row w n ver xs)) = (bounds len lo hi).map fun b => .os i ver (off + b.1) (b.2 - b.1):=by simp [Qbp]
theorem Qf1 {n k a ver e j m:Nat}:Jz M n k (.op a ver e j) (some m) = if m < n ∧ liveR ver M[a]? = true then some (.op a ver e (j + m * k)) else none:=by simp only [Jz,V9]
theorem Qgt {n k m:Nat}:Jz M n k (.fp cs) (some m) = if m < n ∧ n * k ≤ cs.length then some (.fp ((cs.drop (m * k)).take k)) else none:=nrfl rfl
theorem QjX {n:Nat}:arrpV M n (.fs xs) = if n ≤ xs.length ∧ 0 < n then some (.fp ((xs.take n).flatMap PV.cells)) else none:=nrfl rfl
theorem Vs {M:List Blk} {k bytes i ver len:Nat} {xs ys:List PV} (hl:len ≤ xs.length) (hy:ys.all (QP k) = true) (hk:k ≠ 0) (hb:bytes ≤ 2 ^ 20) (hs:len + ys.length ≤ 1048576) :
  appR M k bytes i ver 0 len ys (some (.row true k ver xs)) = some (.os i (ver + 1) 0 (len + ys.length),M.set i (.row true k (ver + 1) (xs.take len ++ ys))):=by
 show (if (ys.all (QP k) = true ∧ k ≠ 0 ∧ bytes ≤ 2 ^ 20) ∧ ver = ver ∧ k = k ∧ 0 + len ≤ xs.length ∧ len + ys.length ≤ 2 ^ 20 then some (PV.os i (ver + 1) 0 (len + ys.length),M.set i (Blk.row true k (ver + 1) ((xs.drop 0).take len ++ ys))) else none) = _
 rw [if_pos ⟨⟨hy,hk,hb⟩,rfl,rfl,by omega,by omega⟩];simp
theorem QiP {n:Nat} {lo hi:Option PV}:bounds n lo hi = (hiN n hi).bind fun h => (loN lo).bind fun l => if l ≤ h ∧ h ≤ n then some (l,h) else none:=nrfl rfl
theorem Qkz {n:Nat}:hiN n none = some n:=nrfl rfl
theorem Qkn {n:Nat} {v:PV}:hiN n (some v) = asNat v:=nrfl rfl
theorem Qlm:loN none = some 0:=nrfl rfl
theorem QjY {v:PV}:loN (some v) = asNat v:=nrfl rfl
theorem Ql7:held M (.fs xs) = some xs:=nrfl rfl
theorem Qlb:held M (.s (.slice none 0 0)) = some []:=nrfl rfl
def heldR (ver off len:Nat):Option Blk → Option (List PV)
 | some (.row _ _ v xs) => if v = ver ∧ off + len ≤ xs.length then some ((xs.drop off).take len) else none
 | _ => none
theorem Qcj {i ver off len:Nat}:held M (.os i ver off len) = heldR ver off len M[i]?:=by
 unfold held
 simp only [heldR]
 cases M[i]? with
 | none => rfl
 | some b => cases b <;> rfl
theorem QhV {ver kk len:Nat} {w:Bool} (h:len = xs.length):heldR ver 0 len (some (.row w kk ver xs)) = some xs:=by subst h;simp [heldR]
theorem Qgd {ver kk off len:Nat} {w:Bool} (h:off + len ≤ xs.length):heldR ver off len (some (.row w kk ver xs)) = some ((xs.drop off).take len):=by simp [heldR,h]
theorem Qks {n i ver off len:Nat}:arrpV M n (.os i ver off len) = if n ≤ len ∧ 0 < n then (heldR ver off len M[i]?).map fun _ => .op i ver off 0 else none:=by simp only [arrpV,Qcj]
def viewR (i ver off len:Nat):Option Blk → PV
 | some (.row false _ v xs) => if v = ver ∧ off + len ≤ xs.length then .fs ((xs.drop off).take len) else .os i ver off len
 | _ => .os i ver off len
theorem Qlj:view M (.s (.int k a)) = .s (.int k a):=nrfl rfl
theorem Qhw:view M (.B p) = .B p:=nrfl rfl
theorem QkJ {s:ByteArray}:view M (.s (.string s)) = .s (.string s):=nrfl rfl
theorem QkF:view M (.s (.slice none 0 0)) = .fs []:=nrfl rfl
theorem QmL:view M (.fs xs) = .fs xs:=nrfl rfl
theorem QnK:view M (.fp xs) = .fp xs:=nrfl rfl
theorem QnT {i:Nat}:view M (.om i) = .om i:=nrfl rfl
theorem Qne {i v e j:Nat}:view M (.op i v e j) = .op i v e j:=nrfl rfl
theorem QlX {i:Nat}:view M (.yl i) = .yl i:=nrfl rfl
theorem QlV {f:Fn}:view M (.fn f xs ys) = .fn f xs ys:=nrfl rfl
theorem Qjm:view M (.tup xs) = .tup xs:=nrfl rfl
theorem Qkk:view M .top = .top:=nrfl rfl
theorem Qj6:view M (.agg cs) = .agg (cs.map (view1 M)):=nrfl rfl
theorem Qho:view1 M (.s (.int k a)) = .s (.int k a):=nrfl rfl
theorem QgL:view1 M (.B p) = .B p:=nrfl rfl
theorem QiV {s:ByteArray}:view1 M (.s (.string s)) = .s (.string s):=nrfl rfl
theorem QhC:view1 M (.s (.slice none 0 0)) = .fs []:=nrfl rfl
theorem QkI:view1 M (.fs xs) = .fs xs:=nrfl rfl
theorem QfU {i ver off len:Nat}:view M (.os i ver off len) = viewR i ver off len M[i]?:=by
 simp only [view,view1]
 cases M[i]? with
 | none => rfl
 | some b => cases b with
  | row w => cases w <;> rfl
  | _ => rfl
theorem QjJ {i ver off len:Nat}:view1 M (.os i ver off len) = viewR i ver off len M[i]?:=by rw [← QfU];rfl
theorem QgP {i ver off len kk v:Nat}:viewR i ver off len (some (.row true kk v xs)) = .os i ver off len:=nrfl rfl
theorem QiE {i ver kk len:Nat} (h:len = xs.length):viewR i ver 0 len (some (.row false kk ver xs)) = .fs xs:=by subst h;simp [viewR]
theorem Qop {ρ:CX → PV} {n:Nat}:argV M ρ (.t n) = view M (ρ (.t n)):=nrfl rfl
theorem QoE {ρ:CX → PV} {v:Value}:argV M ρ (.k v) = .s v:=nrfl rfl
theorem Qpb {ρ:CX → PV} {f:FuncId}:argV M ρ (.f f) = view M (ρ (.f f)):=nrfl rfl
def frzR (M:List Blk) (i:Nat):Option Blk → Option (List Blk)
 | some (.row _ k v xs) => some (M.set i (.row false k v xs))
 | _ => none
theorem QdO {i ver off len:Nat}:Qs M [.os i ver off len] = frzR M i M[i]?:=by
 simp only [Qs,freeze]
 cases M[i]? with
 | none => rfl
 | some b => cases b <;> rfl
theorem Qdx:Qs M [.fs xs] = some M:=nrfl rfl
theorem Qdd:Qs M [.s (.slice none 0 0)] = some M:=nrfl rfl
theorem Qkj {i kk v:Nat} {w:Bool}:frzR M i (some (.row w kk v xs)) = some (M.set i (.row false kk v xs)):=nrfl rfl
theorem Qes:ZA (some (x,M)) = (Qs M x.cells).map fun M' => (view M' x,M'):=nrfl rfl
theorem QeH:QA [] [] [] = some true:=nrfl rfl
theorem QeR {ks:List SK}:QA (.int :: ks) (.s (.int k a) :: xs) (.s (.int k b) :: ys) = (QA ks xs ys).map fun r => decide (a = b) && r:=by
 simp only [QA,eqSK,if_true,bind,Option.bind_some,pure]
 cases QA ks xs ys with
 | none => rfl
 | some r => simp only [Option.bind_some,Option.map_some];congr
theorem Qeo {ks:List SK}:QA (.bool :: ks) (.B p :: xs) (.B q :: ys) = (QA ks xs ys).map fun r => (p == q) && r:=by
 simp only [QA,eqSK,bind,Option.bind_some,pure]
 cases QA ks xs ys <;> rfl
theorem Qla {neg:Bool} {lay:List SK}:eqsV neg lay (.agg xs) (.agg ys) = (QA lay xs ys).map fun r => .B (if neg = true then !r else r):=nrfl rfl
theorem QnM {C:CallR} {n0:Nat} {Q:Post} {t:List PV} (hM:lowM M.length M) (hn:n0 ≤ M.length) (ht:lowL M.length t) (hq:Q .normal M t):Wp C n0 .cut Q M t:=by
 refine ⟨M.length,hn,Nat.le_refl _,?_,ht,?_⟩ <;> rw [List.take_length] <;> assumption
def nilAt (j:Nat):Option PV → Bool
 | some x => match x.cells[j]? with
  | some (.s (.slice none 0 0)) => true
  | _ => false
 | none => false
def ownR (M:List Blk) (a ver e j k:Nat):Option Blk → Option (List Blk)
 | some (.row w kk v xs) => if nilAt j xs[e]? = true then (putR M a ver e j [.os M.length 0 0 0] (some (.row w kk v xs))).map (· ++ [.row true k 0 []]) else none
 | _ => none
def ownO (M:List Blk) (j k:Nat):PV → Option (List Blk)
 | .op a ver e j0 => ownR M a ver e (j0 + j) k M[a]?
 | _ => none
def ownP (Q:Post) (t:List PV):Option (List Blk) → Prop
 | some M' => Q .normal M' t
 | none => False
theorem Qot {C:CallR} {n0:Nat} {Q:Post} {t:List PV} {i j k:Nat}:Wp C n0 (.own i j k) Q M t = ownP Q t (ownO M j k (t.getD i .top)):=by
 apply propext
 show (∃ M',Jr M (t.getD i .top) j k = some M' ∧ Q .normal M' t) ↔ _
 have:Jr M (t.getD i .top) j k = ownO M j k (t.getD i .top):=by
  generalize t.getD i .top = p
  cases p <;> try rfl
  rename_i a ver e j0
  simp only [Jr,ownO]
  cases hb:M[a]? with
  | none => rfl
  | some b =>
   cases b <;> try rfl
   rename_i w kk v xs
   simp only [ownR,← hb,← QbU]
   cases hx:xs[e]? with
   | none => rfl
   | some x =>
    simp only [Option.map_some,Option.bind_some]
    by_cases hn:nilAt (j0 + j) (some x) = true
    ·rw [if_pos hn]
     simp only [nilAt] at hn
     split at hn
     ·rename_i h3;rw [h3];rfl
     ·cases hn
    ·rw [if_neg hn]
     split
     ·rename_i h3;exfalso;apply hn;simp only [nilAt];rw [h3];rfl
     ·rfl
 rw [this]
 cases ownO M j k (t.getD i .top) with
 | none => simp [ownP]
 | some M' => simp [ownP]
theorem QiQ {Q:Post} {t:List PV} {M':List Blk}:ownP Q t (some M') = Q .normal M' t:=nrfl rfl
theorem Qny {a ver e j0 j k:Nat}:ownO M j k (.op a ver e j0) = ownR M a ver e (j0 + j) k M[a]?:=nrfl rfl
theorem Qlp {a ver k:Nat} {kk:Nat}:ownR M a ver 0 0 k (some (.row true kk ver [.s (.slice none 0 0)])) = some (M.set a (.row true kk ver [.os M.length 0 0 0]) ++ [.row true k 0 []]):=by
 show (putR M a ver 0 0 [.os M.length 0 0 0] _).map _ = _
 rw [Qis rfl rfl];rfl
section
variable {C:CallR} {d:Option Nat} {os:List (COper × Option Nat)} {tr:List Foot} {K:List Foot → List Blk → List PV → Prop} {t:List PV}
def dK (C:CallR) (os:List (COper × Option Nat)) (tr:List Foot) (fp:Foot) (K:List Foot → List Blk → List PV → Prop) (n:Nat) (M:List Blk) (t:List PV):Prop:=M.length = n ∧ wpD C os (tr ++ [fp]) K M t
theorem dK_eq {fp:Foot} {n:Nat}:dK C os tr fp K n M t = (M.length = n ∧ wpD C os (tr ++ [fp]) K M t):=nrfl rfl
theorem d_op {o:COp}:wpD C ((⟨d,o,none⟩,none) :: os) tr K M t = wpOps C [⟨d,o,none⟩] (dK C os tr (fpOp (ev t) o) K M.length) M t:=by
 apply propext
 constructor
 ·rintro ⟨_,v,M',h1,h2,h3⟩
  exact ⟨v,M',h1,h2,h3⟩
 ·rintro ⟨v,M',h1,h2,h3⟩
  exact ⟨rfl,v,M',h1,h2,h3⟩
theorem d_nil:wpD C [] tr K M t = K tr M t:=nrfl rfl
def QdF (C:CallR) (os:List (COper × Option Nat)) (tr:List Foot) (K:List Foot → List Blk → List PV → Prop) (M:List Blk) (t:List PV) (d:Option Nat) (i n:Nat):Option PV → Option Blk → Prop
 | some e,some (.row false 0 0 []) => wpD C os (tr ++ [some ([],[i])]) K (M.set i (.row true n 1 [e])) (put t d (.op i 1 0 0))
 | _,_ => False
theorem Ql6 {g:Option Nat} {z:List Value} {r:Nat}:wpD C ((⟨d,.alloc g z,none⟩,some r) :: os) tr K M t = QdF C os tr K M t d (M.length - r) z.length (mkPV g (z.map .s)) M[M.length - r]?:=by
 apply propext
 constructor
 ·rintro ⟨_,v,M',⟨o,k,xs,h1,h2,rfl,rfl⟩,h4,h5⟩
  simp only [Vz,Option.map_eq_some_iff] at h1
  obtain ⟨e,h6,h7⟩:=h1
  cases h7
  rw [h6,h2]
  exact h5
 ·intro h
  cases he:mkPV g (z.map .s) with
  | none => rw [he] at h;exact h.elim
  | some e =>
   rw [he] at h
   cases hb:M[M.length - r]? with
   | none => rw [hb] at h;exact h.elim
   | some b =>
    rw [hb] at h
    unfold QdF at h
    split at h
    ·rename_i h1 h2
     cases h1;cases h2
     exact ⟨rfl,_,_,⟨true,z.length,[_],by simp only [Vz,he];rfl,hb,rfl,rfl⟩,by simp,h⟩
    ·exact h.elim
theorem QeD {i n:Nat}:QdF C os tr K M t d i n (some x) (some (.row false 0 0 [])) = wpD C os (tr ++ [some ([],[i])]) K (M.set i (.row true n 1 [x])) (put t d (.op i 1 0 0)):=nrfl rfl
def bslD (C:CallR) (os:List (COper × Option Nat)) (tr:List Foot) (K:List Foot → List Blk → List PV → Prop) (M:List Blk) (t:List PV) (d:Option Nat) (i k:Nat) (vs:List PV):Option Blk → Prop
 | some (.row false 0 0 []) => if vs.all (fun x => x.cells.length = k) ∧ k ≠ 0 then wpD C os (tr ++ [some ([],[i])]) K (M.set i (.row true k 1 vs)) (put t d (.os i 1 0 vs.length)) else False
 | _ => False
theorem d_bsl {k r:Nat} {xs:List CX}:wpD C ((⟨d,.bsl true k xs,none⟩,some r) :: os) tr K M t = bslD C os tr K M t d (M.length - r) k (xs.map (ev t)) M[M.length - r]?:=by
 apply propext
 constructor
 ·rintro ⟨_,v,M',⟨o,k',ys,h1,h2,rfl,rfl⟩,h4,h5⟩
  simp only [Vz] at h1
  split at h1
  ·rename_i hc
   cases h1
   rw [h2]
   show (if _ then _ else _)
   rw [if_pos hc.2]
   simpa [fpD] using h5
  ·cases h1
 ·intro h
  cases hb:M[M.length - r]? with
  | none => rw [hb] at h;exact h.elim
  | some b =>
   rw [hb] at h
   unfold bslD at h
   split at h
   ·rename_i h2
    cases h2
    split at h
    ·rename_i hc
     exact ⟨rfl,_,_,⟨false,k,xs.map (ev t),if_pos ⟨rfl,hc⟩,hb,rfl,rfl⟩,by simp,by simpa [fpD] using h⟩
    ·exact h.elim
   ·exact h.elim
theorem QjZ {i k:Nat} (hk:k ≠ 0):bslD C os tr K M t d i k [] (some (.row false 0 0 [])) = wpD C os (tr ++ [some ([],[i])]) K (M.set i (.row true k 1 [])) (put t d (.os i 1 0 0)):=by
 show (if _ then _ else _) = _
 rw [if_pos ⟨by simp,hk⟩];rfl
theorem Qly:hole = .row false 0 0 []:=nrfl rfl
theorem QlN {i v e j:Nat}:refs (.op i v e j) = [i]:=nrfl rfl
theorem Qnm {i v e j:Nat}:refs (.os i v e j) = [i]:=nrfl rfl
theorem Qns {i:Nat}:refs (.om i) = [i]:=nrfl rfl
theorem Qnt {i:Nat}:refs (.oi i) = [i]:=nrfl rfl
theorem QnO:refs (.fs xs) = []:=nrfl rfl
theorem Qm4:refs (.fp xs) = []:=nrfl rfl
theorem Qpl {v:Value}:refs (.s v) = []:=nrfl rfl
end
theorem Qij {n:Nat}:mkRes n M [x] = outV n M x:=nrfl rfl
theorem Qiw {n:Nat}:mkRes n M (x :: y :: xs) = .tup ((x :: y :: xs).map (outV n M)):=nrfl rfl
theorem QkE {n:Nat}:outV n M (.s (.int k a)) = .s (.int k a):=nrfl rfl
theorem QiY {n:Nat}:outV n M (.B p) = .B p:=nrfl rfl
theorem Qlo {n:Nat} {s:ByteArray}:outV n M (.s (.string s)) = .s (.string s):=nrfl rfl
theorem QkY {n:Nat}:outV n M (.s (.slice none 0 0)) = .fs []:=nrfl rfl
theorem Qlz {n:Nat}:outV n M (.fs xs) = .fs xs:=nrfl rfl
theorem QjQ {n:Nat}:outV n M (.agg cs) = .agg (cs.map (out1 n M)):=nrfl rfl
theorem QlW {n:Nat} {f:Fn}:outV n M (.fn f xs ys) = .fn f xs ys:=nrfl rfl
theorem Qk1 {n:Nat}:out1 n M (.s (.int k a)) = .s (.int k a):=nrfl rfl
theorem QiG {n:Nat}:out1 n M (.B p) = .B p:=nrfl rfl
theorem Qjx {n:Nat} {s:ByteArray}:out1 n M (.s (.string s)) = .s (.string s):=nrfl rfl
theorem Qmd {n:Nat}:out1 n M (.fs xs) = .fs xs:=nrfl rfl
theorem QkM {n:Nat}:out1 n M (.s (.slice none 0 0)) = .fs []:=nrfl rfl
def orTop:Option (List PV) → PV
 | some xs => .fs xs
 | none => .top
theorem QfJ {n i ver off len:Nat} (h:n ≤ i):out1 n M (.os i ver off len) = orTop (heldR ver off len M[i]?):=by
 rw [← Qcj];simp only [out1];rw [if_pos h];cases held M (.os i ver off len) <;> rfl
theorem Qmh {n i ver off len:Nat} (h:n ≤ i):outV n M (.os i ver off len) = orTop (heldR ver off len M[i]?):=QfJ h
theorem QgK:orTop (some xs) = .fs xs:=nrfl rfl
theorem QiW {t:List PV}:resOf M t [] = some []:=nrfl rfl
theorem QgV {t:List PV} {i:Nat} {r:List (Nat × Option (Option Nat))}:resOf M t ((i,none) :: r) = (resOf M t r).map (t.getD i .top :: ·):=nrfl rfl
def consO:Option PV → Option (List PV) → Option (List PV)
 | some v,some vs => some (v :: vs)
 | _,_ => none
theorem Qgu {t:List PV} {i:Nat} {g:Option Nat} {r:List (Nat × Option (Option Nat))}:resOf M t ((i,some g) :: r) = consO (Q6 M g (t.getD i .top)) (resOf M t r):=by
 simp only [resOf,res,ev]
 cases Q6 M g (t.getD i .top) <;> cases resOf M t r <;> rfl
theorem Qgo {vs:List PV}:consO (some x) (some vs) = some (x :: vs):=nrfl rfl
theorem QjF {C:CallR} {n0 n:Nat} {Q:Post} {kvs:List (Nat × PV)} {f:CX} {ps:List Nat} {A B:CCode} {g:FuncId} {cap:List PV} {M':List Blk} {t':List PV} {ps':List Nat} {A' B':CCode}
  (hf:ev (mk n kvs) f = .fn (.func g) [] cap) (hc:C (.fn g) (.yl M.length :: cap) (M ++ [.loop .ready none (mk n kvs) ps A B]) (.tup []) (M' ++ [.loop .ready none t' ps' A' B']))
  (hl:M'.length = M.length) (hlow:lowM M.length M') (hq:Q .normal M' (mk n kvs)):Wp C n0 (.rangeFunc f ps A B) Q M (mk n kvs) :=
 ⟨g,[],cap,M',.ready,none,t',ps',A',B',hf,hc,hl,hlow,by decide,hq⟩
def QiD (C:CallR) (m i n:Nat) (kvs:List (Nat × PV)) (ps:List Nat) (A B:CCode) (r:PV) (M':List Blk) (M1:List Blk) (t1:List PV):Prop :=
 (∃ ts' ps' a' b',M1[i]? = some (.loop .ready none ts' ps' a' b')) ∧ Wp C m B (Yk m i ps A B (mk n kvs) r M') (M1.set i (.loop .busy none (mk n kvs) ps A B)) t1
theorem Qoi {C:CallR} {m i n:Nat} {kvs:List (Nat × PV)} {ps:List Nat} {A B:CCode} {r:PV} {M' M1:List Blk} {t1:List PV} {ts':List PV} {ps':List Nat} {a' b':CCode} (h:M1[i]? = some (.loop .ready none ts' ps' a' b'))
  (hw:Wp C m B (Yk m i ps A B (mk n kvs) r M') (M1.set i (.loop .busy none (mk n kvs) ps A B)) t1):QiD C m i n kvs ps A B r M' M1 t1:=⟨⟨_,_,_,_,h⟩,hw⟩
theorem Qkh {F:Prog} {X:XRel} {i n p:Nat} {kvs:List (Nat × PV)} {A B:CCode} {r:PV} {M':List Blk} (hi:M[i]? = some (.loop .ready none (mk n kvs) [p] A B))
  (h:lowM M.length M → lowL M.length [x] → Wp (ACall F X) M.length A (thenK (QiD (ACall F X) M.length i n kvs [p] A B r M') (fun _ _ _ => False)) M (mk n ((p,x) :: kvs))):ACall F X (.yl i) [x] M r M':=by
 refine QkG hi rfl fun h1 h2 => ?_
 have:=h h1 h2
 simp only [List.zip_cons_cons,List.zip_nil_right,List.foldl_cons,List.foldl_nil,QdM]
 exact this
theorem low_s {n:Nat} {v:Value}:(PV.s v).low n = True:=by simp [PV.low]
theorem QlU {n:Nat}:(PV.agg cs).low n = lowL n cs:=by simp [PV.low]
theorem QlC {n:Nat}:(PV.tup cs).low n = lowL n cs:=by simp [PV.low]
theorem Qn5 {n:Nat}:(PV.fs cs).low n = lowL n cs:=by simp [PV.low]
theorem Qov {n:Nat}:(PV.fp cs).low n = lowL n cs:=by simp [PV.low]
theorem Qn2 {n i v o l:Nat}:(PV.os i v o l).low n = (i < n):=by simp [PV.low]
theorem Qoo {n i v o l:Nat}:(PV.op i v o l).low n = (i < n):=by simp [PV.low]
theorem Qn3 {n i:Nat}:(PV.om i).low n = (i < n):=by simp [PV.low]
theorem QoC {n:Nat} {f:Fn}:(PV.fn f xs ys).low n = (lowL n xs ∧ lowL n ys):=by simp [PV.low]
theorem QmO {n:Nat} {fk:FloatKind}:(PV.nan fk).low n = True:=by simp [PV.low]
theorem Qpg {n i:Nat}:(PV.oi i).low n = (i < n):=by simp [PV.low]
theorem Qn4 {n i:Nat}:(PV.yl i).low n = (i < n):=by simp [PV.low]
theorem Ql4 {n:Nat}:PV.top.low n = True:=by simp [PV.low]
theorem Qki {n:Nat}:lowL n [] = True:=by simp [lowL]
theorem Qik {n:Nat}:lowL n (x :: xs) = (x.low n ∧ lowL n xs):=by simp [lowL]
def Clean (x:PV):Prop:=∀ n,x.low n
theorem Qhc {α:Type} {f:α → PV} {n:Nat} {l:List α} (h:∀ a,(f a).low n):lowL n (l.map f) = True:=eq_true (Vr f l h)
theorem Qm {C:CallR} {n0:Nat} {Q:Post} {N:List Blk} {t:List PV} (hM:lowM M.length M) (hn:n0 = M.length) (j:Nat) (hj:j ≤ N.length) (hN:lowM (M.length + j) (N.take j)) (ht:lowL (M.length + j) t) (hq:Q .normal (M ++ N.take j) t) :
  Wp C n0 .cut Q (M ++ N) t:=by
 subst hn
 refine ⟨M.length + j,by omega,by simp;omega,?_,ht,?_⟩
 ·rw [takeM];exact (VP _ _).2 ⟨Zv (by omega) hM,hN⟩
 ·rw [takeM];exact hq
theorem Qku {n:Nat} {rs:List (Nat × Option (Option Nat))} {r:PV} {N:List Blk} {t:List PV} {e:Ex} (he:(match e with|.ret|.normal => True|_ => False)) (hM:lowM M.length M) (hn:n = M.length)
  (h:(resOf (M ++ N) t rs).map (mkRes M.length (M ++ N)) = some r) (hl:r.low M.length):Q9 n rs r M e (M ++ N) t:=by
 cases hv:resOf (M ++ N) t rs with
 | none => rw [hv] at h;cases h
 | some vs => rw [hv] at h;exact Qdy he hM hn hv (Option.some.inj h) hl
theorem QQ {n:Nat} {rs:List (Nat × Option (Option Nat))} {r:PV} {t:List PV} {e:Ex} (he:(match e with|.ret|.normal => True|_ => False)) (hM:lowM M.length M) (hn:n = M.length)
  (h:(resOf M t rs).map (mkRes M.length M) = some r) (hl:r.low M.length):Q9 n rs r M e M t:=by
 cases hv:resOf M t rs with
 | none => rw [hv] at h;cases h
 | some vs => rw [hv] at h;exact Qic he hM hn hv (Option.some.inj h) hl
theorem pfN {n:Nat} {rs:List (Nat × Option (Option Nat))} {r:PV} {M N:List Blk} {t:List PV} {e:Ex} (hM:lowM M.length M) (h:(resOf (M ++ N) t rs).map (mkRes M.length (M ++ N)) = some r) (hl:r.low M.length) (he:(match e with |.ret|.normal => True|_ => False):=by trivial) (hn:n = M.length:=by rfl):Q9 n rs r M e (M ++ N) t:=Qku he hM hn h hl
theorem pf0 {n:Nat} {rs:List (Nat × Option (Option Nat))} {r:PV} {M:List Blk} {t:List PV} {e:Ex} (hM:lowM M.length M) (h:(resOf M t rs).map (mkRes M.length M) = some r) (hl:r.low M.length) (he:(match e with |.ret|.normal => True|_ => False):=by trivial) (hn:n = M.length:=by rfl):Q9 n rs r M e M t:=QQ he hM hn h hl
theorem QkU {n:Nat} {rs:List (Nat × Option (Option Nat))} {N:List Blk} {t:List PV} {e:Ex} (he:(match e with|.ret|.normal => True|_ => False)) (hM:lowM M.length M) (hn:n = M.length)
  (h:resOf (M ++ N) t rs = some [PV.nilS]):Q9 n rs PV.nilS M e (M ++ N) t:=by
 subst hn
 exact ⟨he,M.length,Nat.le_refl _,by simp,by simpa using hM,by simp,_,h,.inr ⟨rfl,rfl⟩,by simp [PV.low]⟩
theorem Qnp {rs:List (Nat × Option (Option Nat))} {N:List Blk} {t:List PV} {e:Ex} {j k v off len:Nat} (he:(match e with|.ret|.normal => True|_ => False)) (hM:lowM M.length M)
  (hv:resOf (M ++ N) t rs = some [.os (M.length + j) v off len]) (hj:N[j]? = some (.row true k v xs)) (hx:lowL M.length xs):QaC M.length rs (.os M.length v off len) (M ++ [.row true k v xs]) e (M ++ N) t:=by
 refine ⟨he,by simp,by simpa using hM,M.length + j,v,off,len,k,xs,hv,by omega,by rw [getMj];exact hj,hx,rfl,by simp⟩
theorem QiK {n:Nat}:lowM n [] = True:=eq_true Y4
theorem Qf3 {n:Nat} {b:Blk} {bs:List Blk}:lowM n (b :: bs) = (b.low n ∧ lowM n bs):=propext (Qas b bs)
theorem Qhm {n:Nat}:lowL n (xs ++ ys) = (lowL n xs ∧ lowL n ys):=propext (QaK xs ys)
theorem Qjy {w:Bool} {kk v n:Nat}:(Blk.row w kk v xs).low n = lowL n xs:=nrfl rfl
theorem QgZ {s:ByteArray} {p n:Nat}:(Blk.siter s p).low n = True:=nrfl rfl
theorem Qlr {es:List (Value × Value)} {n:Nat}:(Blk.map es).low n = True:=nrfl rfl
theorem Q1 {α β:Type} {l:List α} {i:Nat} {x:α} {f:α → β} (h:l[i]? = some x):(l.take (i + 1)).map f = (l.take i).map f ++ [f x]:=by
 obtain ⟨h1,h2⟩:=List.getElem?_eq_some_iff.1 h
 rw [List.take_succ_eq_append_getElem h1,h2,List.map_append];rfl
theorem mk0 (n:Nat):[] ++ List.replicate (n - ([]:List PV).length) .top = mk n []:=Qaq [] n (Nat.zero_le _)
theorem mk1 (n:Nat) (h:1 ≤ n) (a:PV):[a] ++ List.replicate (n - [a].length) .top = mk n [(0,a)]:=Qaq [a] n h
theorem mk2 (n:Nat) (h:2 ≤ n) (a b:PV):[a,b] ++ List.replicate (n - [a,b].length) .top = mk n [(0,a),(1,b)]:=Qaq [a,b] n h
theorem mk3 (n:Nat) (h:3 ≤ n) (a b c:PV):[a,b,c] ++ List.replicate (n - [a,b,c].length) .top = mk n [(0,a),(1,b),(2,c)]:=Qaq [a,b,c] n h
theorem mk4 (n:Nat) (h:4 ≤ n) (a b c d:PV):[a,b,c,d] ++ List.replicate (n - [a,b,c,d].length) .top = mk n [(0,a),(1,b),(2,c),(3,d)]:=Qaq [a,b,c,d] n h
theorem ZP:(match Ex.ret with|.ret|.normal => True|_ => False):=trivial
theorem Zq:(match Ex.normal with|.ret|.normal => True|_ => False):=trivial
end
end Go.Nac
namespace Go.Nac
structure Rev where
 at_:Int
 ld:Int
 deriving DecidableEq
def Qc (x:Rev):PV:=.agg [.I x.at_,.I x.ld]
theorem QD (x:Rev):Qc x = .agg [.I x.at_,.I x.ld]:=nrfl rfl
theorem Qa (x:Rev):(Qc x).cells = [.I x.at_,.I x.ld]:=nrfl rfl
theorem QM {n:Nat} (x:Rev):(Qc x).low n = True:=eq_true (by simp [Qc,PV.low,lowL])
theorem Qe {n:Nat} (l:List Rev):lowL n (l.map Qc) = True:=eq_true (Vr _ _ fun r => by simp [Qc,PV.low,lowL])
theorem Yd (l:List Rev):(l.map Qc).all (QP 2) = true:=by rw [List.all_eq_true];intro x hx;obtain ⟨y,_,rfl⟩:=List.mem_map.1 hx;rfl
theorem J5 (l:List Rev):sized 2 (l.map Qc) = true:=by unfold sized;rw [List.all_eq_true];intro x hx;obtain ⟨y,_,rfl⟩:=List.mem_map.1 hx;rfl
structure Cyc where
 from_:Int
 to_:Int
 lo:Int
 hi:Int
 deriving DecidableEq
def Qw (x:Cyc):PV:=.agg [.I x.from_,.I x.to_,.I x.lo,.I x.hi]
theorem Qj (x:Cyc):(Qw x).cells = [.I x.from_,.I x.to_,.I x.lo,.I x.hi]:=nrfl rfl
theorem Qfd {n:Nat} (x:Cyc):(Qw x).low n = True:=eq_true (by simp [Qw,PV.low,lowL])
theorem Qu {n:Nat} (l:List Cyc):lowL n (l.map Qw) = True:=eq_true (Vr _ _ fun r => by simp [Qw,PV.low,lowL])
structure Life where
 cap:Int
 exp:Int
 deriving DecidableEq
def Zn (x:Life):PV:=.agg [.I x.cap,.I x.exp]
theorem Vx (x:Life):Zn x = .agg [.I x.cap,.I x.exp]:=nrfl rfl
theorem Q2 (x:Life):(Zn x).cells = [.I x.cap,.I x.exp]:=nrfl rfl
theorem QdP {n:Nat} (x:Life):(Zn x).low n = True:=eq_true (by simp [Zn,PV.low,lowL])
theorem QeZ {n:Nat} (l:List Life):lowL n (l.map Zn) = True:=eq_true (Vr _ _ fun r => by simp [Zn,PV.low,lowL])
structure Cls where
 num:Int
 cnt:Int
 deriving DecidableEq
def Qja (x:Cls):PV:=.agg [.I x.num,.I x.cnt]
theorem Qff {n:Nat} (x:Cls):(Qja x).low n = True:=eq_true (by simp [Qja,PV.low,lowL])
structure Pnt where
 x:Int
 y:Int
 deriving DecidableEq
def Qh3 (x:Pnt):PV:=.agg [.I x.x,.I x.y]
theorem Qe2 {n:Nat} (x:Pnt):(Qh3 x).low n = True:=eq_true (by simp [Qh3,PV.low,lowL])
theorem ZV {n:Nat} (l:List Int):lowL n (l.map PV.I) = True:=eq_true (Vr _ _ fun r => by simp [PV.low])
end Go.Nac
namespace Go.Nac
def QfF (F:Prog) (X:XRel) (g:FuncId) (cap:List PV) (xs:List PV):Prop :=
 ∀ (i:Nat) (N:Nat → List Blk),(∀ k,k ≤ xs.length → (N k).length = (N 0).length ∧ lowM (N k).length (N k)) →
  (∀ k x E,xs[k]? = some x → ACall F X (.yl i) [x] (N k ++ E) (.B true) (N (k + 1) ++ E)) → ACall F X (.fn g) (.yl i :: cap) (N 0) (.tup []) (N xs.length)
def Qds (N:List Blk):Post:=fun e M' _ => e = .normal ∧ ∃ T,M' = N ++ T
theorem Qal {N M':List Blk} {t:List PV} (T:List Blk) (h:M' = N ++ T):Qds N .normal M' t:=⟨rfl,T,h⟩
def Qh7 (C:CallR) (m i:Nat) (L LB:Blk) (B:CCode) (N M1:List Blk) (t1:List PV):Prop:=M1[i]? = some L ∧ Wp C m B (Qds N) (M1.set i LB) t1
theorem QoD {C:CallR} {m i:Nat} {L LB:Blk} {B:CCode} {N M1:List Blk} {t1:List PV} (h:M1[i]? = some L) (hw:Wp C m B (Qds N) (M1.set i LB) t1):Qh7 C m i L LB B N M1 t1:=⟨h,hw⟩
theorem Qgc {F:Prog} {X:XRel} {g:FuncId} {cap xs:List PV} (hg:QfF F X g cap xs) {n0 n p:Nat} {Q:Post} {kvs:List (Nat × PV)} {f:CX} {A B:CCode} {M:List Blk} (R:Nat → List Blk)
  (hM:lowM M.length M) (hf:ev (mk n kvs) f = .fn (.func g) [] cap) (hlen:∀ k,(R k).length = (R 0).length) (hlow:∀ k,k ≤ xs.length → lowM (M.length + (R 0).length) (R k)) (ht:lowL (M.length + (R 0).length) (kvs.map Prod.snd))
  (hy:∀ k x E L LB,xs[k]? = some x → lowM (M.length + ((R k).length + (1 + E.length))) E →
   Wp (ACall F X) (M.length + ((R k).length + (1 + E.length))) A (thenK (Qh7 (ACall F X) (M.length + ((R k).length + (1 + E.length))) (M.length + (R k).length) L LB B (M ++ (R (k + 1) ++ LB :: E))) (fun _ _ _ => False)) (M ++ (R k ++ L :: E)) (mk n ((p,x) :: kvs)))
  (hq:Q .normal (M ++ R xs.length) (mk n kvs)):Wp (ACall F X) n0 (.rangeFunc f [p] A B) Q (M ++ R 0) (mk n kvs):=by
 have hlowR:∀ k,k ≤ xs.length → lowM (M.length + (R 0).length) (M ++ R k):=fun k hk => (VP _ _).2 ⟨Zv (by omega) hM,hlow k hk⟩
 have key:=hg (M.length + (R 0).length) (fun k => (M ++ R k) ++ [.loop .ready none (mk n kvs) [p] A B]) (fun k hk => ?_) (fun k x E hx => ?_)
 ·refine QjF (M':=M ++ R xs.length) (A':=A) (B':=B) (ps':=[p]) (t':=mk n kvs) hf ?_ ?_ ?_ hq
  ·rw [List.length_append];exact key
  ·simp [hlen]
  ·rw [List.length_append];exact hlowR _ (Nat.le_refl _)
 ·have e:((M ++ R k) ++ [Blk.loop .ready none (mk n kvs) [p] A B]).length = M.length + (R 0).length + 1:=by simp [hlen k];omega
  refine ⟨by rw [e];simp;omega,?_⟩
  rw [e]
  refine (VP _ _).2 ⟨Zv (by omega) (hlowR k hk),?_⟩
  refine (Qas _ _).2 ⟨?_,Y4⟩
  exact QR (by omega) _ (Qr ht)
 ·have hkx:k < xs.length:=(List.getElem?_eq_some_iff.1 hx).1
  have hi:((M ++ R k) ++ [Blk.loop .ready none (mk n kvs) [p] A B] ++ E)[M.length + (R 0).length]? = some (.loop .ready none (mk n kvs) [p] A B):=by
   rw [List.append_assoc,List.getElem?_append_right (by simp [hlen k]),List.length_append,hlen k,Nat.sub_self];rfl
  refine Qkh hi fun h1 h2 => ?_
  have e:((M ++ R k) ++ [Blk.loop .ready none (mk n kvs) [p] A B] ++ E).length = M.length + ((R k).length + (1 + E.length)):=by simp;omega
  rw [e] at h1 ⊢
  have hE:lowM (M.length + ((R k).length + (1 + E.length))) E:=((VP _ _).1 h1).2
  have:=hy k x E (.loop .ready none (mk n kvs) [p] A B) (.loop .busy none (mk n kvs) [p] A B) hx hE
  have e2:(M ++ R k) ++ [Blk.loop .ready none (mk n kvs) [p] A B] ++ E = M ++ (R k ++ Blk.loop .ready none (mk n kvs) [p] A B :: E):=by simp
  rw [e2,← hlen k]
  refine Zw (fun _ _ _ _ _ h => h) A (V4 ?_ (fun _ _ _ h => h)) this
  rintro M1 t1 ⟨g1,g2⟩
  refine Qoi g1 (Zw (fun _ _ _ _ _ h => h) B ?_ g2)
  rintro ex M' t ⟨rfl,T,rfl⟩
  have hN:(M ++ (R (k + 1) ++ Blk.loop .busy none (mk n kvs) [p] A B :: E)).length = M.length + ((R k).length + (1 + E.length)):=by simp [hlen (k + 1),hlen k];omega
  have hidx:∀ (b:Blk) (S:List Blk),(M ++ (R (k + 1) ++ b :: S))[M.length + (R k).length]? = some b:=by
   intro b S
   rw [getMj,List.getElem?_append_right (by simp [hlen (k + 1),hlen k]),hlen (k + 1),hlen k,Nat.sub_self];rfl
  refine ⟨⟨mk n kvs,[p],A,B,?_⟩,⟨M.length + ((R k).length + (1 + E.length)),Nat.le_refl _,by rw [List.length_append,hN];omega,?_,?_⟩,rfl⟩
  ·rw [show (M ++ (R (k + 1) ++ Blk.loop .busy none (mk n kvs) [p] A B :: E)) ++ T = M ++ (R (k + 1) ++ Blk.loop .busy none (mk n kvs) [p] A B :: (E ++ T)) from by simp]
   exact hidx _ _
  ·rw [List.take_left' hN]
   refine (VP _ _).2 ⟨Zv (by omega) hM,(VP _ _).2 ⟨Zv (by rw [hlen k];omega) (hlow (k + 1) hkx),(Qas _ _).2 ⟨?_,hE⟩⟩⟩
   exact QR (by rw [hlen k];omega) _ (Qr ht)
  ·rw [List.take_left' hN,setMj,List.set_append_right _ _ (by simp [hlen (k + 1),hlen k]),hlen (k + 1),hlen k,Nat.sub_self]
   simp
end Go.Nac
namespace Go.Nac
section
variable {M:List Blk} {k:IntKind} {a:Int}
theorem ZZ {i:Nat} {sk:SK} {z q:Value} {ok:Bool}:lookV M sk z ok (.om i) (.s q) = lookB z ok sk q M[i]?:=nrfl rfl
theorem ZW {sk:SK} {z q:Value} {es:List (Value × Value)} (h1:keyOk sk q = true) (h2:Vq q es = true):lookB z false sk q (some (.map es)) = some (.s ((find q es).getD z)):=by
 simp only [lookB,h1,h2,and_self,if_true]
 cases find q es <;> rfl
theorem ZX {sk:SK} {z q:Value} {es:List (Value × Value)} (h1:keyOk sk q = true) (h2:Vq q es = true):lookB z true sk q (some (.map es)) = some (.tup [.s ((find q es).getD z),.B (find q es).isSome]):=by
 simp only [lookB,h1,h2,and_self,if_true]
 cases find q es <;> rfl
theorem ZU {i:Nat} {sk:SK} {q u:Value}:mupdO M sk (.om i) (.s q) (.s u) = mupdB M i sk q u M[i]?:=nrfl rfl
theorem ZB {i:Nat} {sk:SK} {q u:Value} {es:List (Value × Value)} (h1:keyOk sk q = true) (h2:Vq q es = true):mupdB M i sk q u (some (.map es)) = some (unit,M.set i (.map (upd q u es))):=by
 simp only [mupdB,h1,h2,and_self,if_true]
theorem Zs:keyOk .int (.int k a) = true:=nrfl rfl
theorem Zu {s:ByteArray}:keyOk .str (.string s) = true:=nrfl rfl
theorem Zp:oneB (.s (.map none)) = true:=nrfl rfl
section
variable {C:CallR} {K:(List Blk) → List PV → Prop} {t:List PV} {d:Option Nat} {os:List COper} {xs ys:List PV}
def capnV:PV → Option PV
 | .s (.slice none 0 0) => some (.I 0)
 | _ => none
theorem Ju {x:CX}:wpOps C (⟨d,.capn x,none⟩ :: os) K M t = b1 (capnV (ev t x)) (kont C os K M t d):=Qp rfl (by
 simp only [res,capnV]
 generalize ev t x = vx
 split
 ·rfl
 ·split
  ·rename_i h;exact absurd rfl h
  ·rfl)
theorem Zl:capnV (.s (.slice none 0 0)) = some (.I 0):=nrfl rfl
def appzO (M:List Blk) (k:Nat) (g:Option Nat) (z:List Value) (bytes:Nat):PV → PV → Option (PV × List Blk)
 | .s (.slice none 0 0),.s (.int .i64 l) =>
   if 0 < l ∧ l ≤ 2 ^ 20 ∧ bytes ≤ 2 ^ 20 ∧ z.length = k ∧ 0 < k then
    (mkPV g (z.map .s)).map fun e => (.os M.length 0 0 l.toNat,M ++ [.row true k 0 (List.replicate l.toNat e)])
   else none
 | _,_ => none
theorem Jx {k:Nat} {g:Option Nat} {z:List Value} {bytes:Nat} {x n:CX}:wpOps C (⟨d,.appz k g z bytes x n,none⟩ :: os) K M t = b2 (appzO M k g z bytes (ev t x) (ev t n)) (kont2 C os K t d):=by
 rw [QF rfl];rfl
theorem V8 {kk bytes:Nat} {g:Option Nat} {zv:List Value} (h0:0 < a) (h1:a ≤ 1048576) (hb:bytes ≤ 1048576) (hz:zv.length = kk) (hk:0 < kk) :
  appzO M kk g zv bytes (.s (.slice none 0 0)) (.s (.int .i64 a)) = (mkPV g (zv.map .s)).map fun e => (.os M.length 0 0 a.toNat,M ++ [.row true kk 0 (List.replicate a.toNat e)]):=by
 exact if_pos ⟨h0,by omega,by omega,hz,hk⟩
def copyR (M:List Blk) (k i ver off len:Nat) (ys:List PV):Option Blk → Option (PV × List Blk)
 | some (.row true k' v xs) => if v = ver ∧ k' = k ∧ off + len ≤ xs.length ∧ ys.all (QP k) ∧ k ≠ 0 then
     some (.I ((Nat.min ys.length len:Nat):Int),M.set i (.row true k ver (setRange xs off (ys.take len)))) else none
 | _ => none
def copyO (M:List Blk) (k:Nat):PV → Option (List PV) → Option (PV × List Blk)
 | .os i ver off len,some ys => copyR M k i ver off len ys M[i]?
 | _,_ => none
theorem Js {k:Nat} {x y:CX}:wpOps C (⟨d,.copy k x y,none⟩ :: os) K M t = b2 (copyO M k (ev t x) (held M (ev t y))) (kont2 C os K t d):=by
 rw [QF rfl]
 simp only [res]
 generalize ev t x = vx;generalize held M (ev t y) = vy
 cases vx <;> cases vy <;> first|rfl|skip
theorem ZY {kk i ver off len:Nat}:copyO M kk (.os i ver off len) (some ys) = copyR M kk i ver off len ys M[i]?:=nrfl rfl
theorem Zm {kk i ver len:Nat} (hl:len = xs.length) (hy:ys.length = len) (ho:ys.all (QP kk) = true) (hk:kk ≠ 0) :
  copyR M kk i ver 0 len ys (some (.row true kk ver xs)) = some (.I (len:Int),M.set i (.row true kk ver ys)):=by
 show (if _ then _ else _) = _
 rw [if_pos ⟨rfl,rfl,by omega,ho,hk⟩]
 have e1:ys.take len = ys:=List.take_of_length_le (by omega)
 have e2:setRange xs 0 ys = ys:=by simp [setRange];omega
 rw [e1,e2,hy];simp
end
end
end Go.Nac
namespace Go.Nac
section
variable {C:CallR} {K:(List Blk) → List PV → Prop} {M:List Blk} {t:List PV} {d:Option Nat} {os:List COper} {xs ys:List PV}
theorem ev_g {g:Nat} {cs:List Value}:ev t (.g g cs) = .fp (cs.map .s):=nrfl rfl
theorem QoZ {ρ:CX → PV} {g:Nat} {cs:List Value}:argV M ρ (.g g cs) = view M (ρ (.g g cs)):=nrfl rfl
def QbN (neg:Bool):PV → Option PV
 | .err => some (.B neg)
 | .s .nilIface => some (.B (!neg))
 | _ => none
theorem Qnc {neg:Bool} {x:CX}:wpOps C (⟨d,.isnil neg x,none⟩ :: os) K M t = b1 (QbN neg (ev t x)) (kont C os K M t d):=Qp rfl (by
 simp only [res,QbN];generalize ev t x = vx;split <;> split <;> simp_all)
theorem QgA {neg:Bool}:QbN neg .err = some (.B neg):=nrfl rfl
theorem QgM {neg:Bool}:QbN neg (.s .nilIface) = some (.B (!neg)):=nrfl rfl
def b2sV:Option (List PV) → Option PV
 | some ys => (strOf ys).map fun s => .s (.string s)
 | none => none
def noStr:PV → Bool
 | .s (.string _) => false
 | _ => true
def b2sO (M:List Blk) (x:PV):Option PV:=if noStr x = true then b2sV (held M x) else none
theorem r_b2s {x:CX}:wpOps C (⟨d,.b2s x,none⟩ :: os) K M t = b1 (b2sO M (ev t x)) (kont C os K M t d):=Qp rfl (by
 simp only [res,b2sO]
 generalize ev t x = vx
 have key:((held M vx).bind strOf).map (fun s => (PV.s (.string s),M)) = (b2sV (held M vx)).map (·,M):=by
  cases held M vx with
  | none => rfl
  | some ys => simp only [b2sV,Option.bind_some,Option.map_map];rfl
 split
 ·rfl
 ·rename_i hno
  rw [if_pos (by cases vx <;> first|rfl|(rename_i v;cases v <;> first|rfl|exact absurd rfl (hno _)))]
  exact key)
theorem Qmz:b2sO M (.fs xs) = (strOf xs).map fun s => .s (.string s):=nrfl rfl
theorem QnL {i v o n:Nat}:b2sO M (.os i v o n) = b2sV (held M (.os i v o n)):=nrfl rfl
theorem Qj9:b2sO M (.s (.slice none 0 0)) = some (.s (.string ⟨#[]⟩)):=nrfl rfl
theorem QhJ:b2sV (some ys) = (strOf ys).map fun s => .s (.string s):=nrfl rfl
theorem Qe0 (b:ByteArray):strOf (Qi b) = some b:=by
 have key:∀ l:List UInt8,strOf (l.map fun u => .s (.int .u8 u.toNat)) = some ⟨l.toArray⟩:=by
  intro l
  induction l with
  | nil => rfl
  | cons u l ih =>
   show (strOf (l.map _)).map _ = _
   rw [ih]
   simp
 unfold Qi
 rw [key]
theorem QjP {b:ByteArray}:held M (.s (.string b)) = some (Qi b):=nrfl rfl
theorem Qeu {n:Nat} (b:ByteArray):lowL n (Qi b) = True:=eq_true (Vr _ _ fun r => by simp [PV.low])
def s2bO (M:List Blk) (own:Bool):PV → Option (PV × List Blk)
 | .s (.string b) => if own = true then some (.os M.length 0 0 b.size,M ++ [.row true 1 0 (Qi b)]) else some (.fs (Qi b),M)
 | _ => none
theorem r_s2b {own:Bool} {x:CX}:wpOps C (⟨d,.s2b own x,none⟩ :: os) K M t = b2 (s2bO M own (ev t x)) (kont2 C os K t d):=by
 rw [QF rfl]
 simp only [res,s2bO]
 generalize ev t x = vx
 split <;> split <;> simp_all
theorem QjT {b:ByteArray}:s2bO M true (.s (.string b)) = some (.os M.length 0 0 b.size,M ++ [.row true 1 0 (Qi b)]):=nrfl rfl
theorem QlP {b:ByteArray}:s2bO M false (.s (.string b)) = some (.fs (Qi b),M):=nrfl rfl
def ownB (ver:Nat):Option Blk → Bool
 | some (.row true _ v _) => v == ver
 | _ => false
theorem QiL {i ver:Nat}:QbM M i ver = ownB ver M[i]?:=by
 unfold QbM
 cases M[i]? with
 | none => rfl
 | some b => cases b with
  | row w => cases w <;> rfl
  | _ => rfl
theorem Qk3 {ver k:Nat}:ownB ver (some (.row true k ver xs)) = true:=by simp [ownB]
def markO (M:List Blk):PV → Option (PV × List Blk)
 | .os i ver off len => if ownB ver M[i]? = true ∧ 0 < len then some (.os i ver off len,M) else none
 | _ => none
theorem Qfz {x:CX}:res M (ev t) (.mark x) = markO M (ev t x):=by
 simp only [res,markO,QiL]
 generalize ev t x = vx
 cases vx <;> rfl
theorem QoW {x:CX}:wpOps C (⟨d,.mark x,none⟩ :: os) K M t = b2 (markO M (ev t x)) (kont2 C os K t d):=by
 rw [QF rfl,Qfz]
theorem Qkd {x:CX}:wpOps C (⟨d,.fz (.mark x),none⟩ :: os) K M t = b2 (ZA (markO M (ev t x))) (kont2 C os K t d):=r_fz Qfz
theorem Qjt {i ver off len:Nat}:markO M (.os i ver off len) = if ownB ver M[i]? = true ∧ 0 < len then some (.os i ver off len,M) else none:=nrfl rfl
theorem QoP {f:FuncId} {ys:List CX}:wpOps C (⟨d,.mkbm f ys,none⟩ :: os) K M t = wpOps C os K M (put t d (.fn (.func f) (ys.map (ev t)) [])):=Qp (f:=some (.fn (.func f) (ys.map (ev t)) [])) rfl rfl
def Qd6 (C:CallR) (g:FuncId) (args:List PV) (M:List Blk) (k:PV → List Blk → Prop):Prop:=∃ v,lowL 0 args ∧ (∀ N,C (.fn g) args N v N) ∧ k v M
theorem QlF {g:FuncId} {args:List CX}:wpOps C (⟨d,.pcall (.inr g) args,none⟩ :: os) K M t = Qd6 C g (args.map (argV [] (ev t))) M (kont2 C os K t d):=by
 apply propext
 show (∃ v M',(M' = M ∧ lowL 0 (args.map (argV [] (ev t))) ∧ ∀ N,C (.fn g) (args.map (argV [] (ev t))) N v N) ∧ wpOps C os K M' (put t d v)) ↔ _
 exact ⟨fun ⟨v,M',⟨h1,h2,h3⟩,h4⟩ => ⟨v,h2,h3,h1 ▸ h4⟩,fun ⟨v,h1,h2,h3⟩ => ⟨v,M,⟨rfl,h1,h2⟩,h3⟩⟩
def QdY (C:CallR) (f:PV) (args:List PV) (M:List Blk) (k:PV → List Blk → Prop):Prop :=
 match f with
 | .fn (.func g) first cap => lowL 0 first ∧ lowL 0 cap ∧ ∃ v,lowL 0 args ∧ (∀ N,C (.fn g) (first ++ args ++ cap) N v N) ∧ k v M
 | _ => False
theorem QjK {x:CX} {args:List CX}:wpOps C (⟨d,.pcall (.inl x) args,none⟩ :: os) K M t = QdY C (ev t x) (args.map (argV [] (ev t))) M (kont2 C os K t d):=by
 apply propext
 show (∃ v M',(M' = M ∧ lowL 0 (args.map (argV [] (ev t))) ∧ ∀ N,(match ev t x with
   | .fn (.func g) first cap => lowL 0 first ∧ lowL 0 cap ∧ C (.fn g) (first ++ args.map (argV [] (ev t)) ++ cap) N v N
   | _ => False)) ∧ wpOps C os K M' (put t d v)) ↔ _
 unfold QdY
 split
 ·exact ⟨fun ⟨v,M',⟨h1,h2,h3⟩,h4⟩ => ⟨(h3 M).1,(h3 M).2.1,v,h2,fun N => (h3 N).2.2,h1 ▸ h4⟩,fun ⟨g1,g2,v,h1,h2,h3⟩ => ⟨v,M,⟨rfl,h1,fun N => ⟨g1,g2,h2 N⟩⟩,h3⟩⟩
 ·constructor
  ·rintro ⟨v,M',⟨h1,h2,h3⟩,h4⟩;exact (h3 M).elim
  ·exact fun h => h.elim
theorem Qir {g:FuncId} {args:List PV} {k:PV → List Blk → Prop}:QdY C (.fn (.func g) [] []) args M k = Qd6 C g args M k:=by
 apply propext
 show (lowL 0 [] ∧ lowL 0 [] ∧ ∃ v,lowL 0 args ∧ (∀ N,C (.fn g) ([] ++ args ++ []) N v N) ∧ k v M) ↔ _
 simp [Qd6,lowL]
def Qoe (C:CallR) (fv:PV) (args:List PV) (M:List Blk) (k:PV → List Blk → Prop):Prop :=
 ∃ v i b,J7 fv = [i] ∧ lowL 0 args ∧ (∀ N:List Blk,N.length = M.length → N[i]? = M[i]? → QbQ C fv args N v (N.set i b)) ∧ k v (M.set i b)
theorem Qmk {x:CX} {args:List CX}:wpOps C (⟨d,.fcall x args,none⟩ :: os) K M t = Qoe C (ev t x) (args.map (argV [] (ev t))) M (kont2 C os K t d):=by
 apply propext
 constructor
 ·rintro ⟨v,M',⟨i,b,h1,rfl,h3,h4⟩,h5⟩;exact ⟨v,i,b,h1,h3,h4,h5⟩
 ·rintro ⟨v,i,b,h1,h3,h4,h5⟩;exact ⟨v,_,⟨i,b,h1,rfl,h3,h4⟩,h5⟩
def Jq:Nat → List Blk
 | 0 => []
 | k + 1 => hole :: Jq k
theorem QiN (k:Nat):Jq k = List.replicate k hole:=by
 induction k with
 | zero => rfl
 | succ k ih => rw [List.replicate_succ,← ih];rfl
theorem Qi5 {n0 k:Nat} {Q:Post}:Wp C n0 (.holes k) Q M t = Q .normal (M ++ Jq k) t:=by rw [QjS,QiN]
theorem QeT:Jq 0 = []:=nrfl rfl
theorem Qey {k:Nat}:Jq (k + 1) = .row false 0 0 [] :: Jq k:=nrfl rfl
theorem Qfk {ks:List SK} {a b:ByteArray}:QA (.str :: ks) (.s (.string a) :: xs) (.s (.string b) :: ys) = (QA ks xs ys).map fun r => (a == b) && r:=by
 simp only [QA,eqSK,bind,Option.bind_some,pure]
 cases QA ks xs ys <;> rfl
theorem Qi6:PV.err.cells = [.err]:=nrfl rfl
theorem Qj5:oneB .err = true:=nrfl rfl
theorem Qka:view M .err = .err:=nrfl rfl
theorem Qil:view1 M .err = .err:=nrfl rfl
theorem Qiz:view M (.s .nilIface) = .s .nilIface:=nrfl rfl
theorem QkK {n:Nat}:outV n M .err = .err:=nrfl rfl
theorem QmP {n:Nat}:PV.err.low n = True:=by simp [PV.low]
end
end Go.Nac
set_option linter.unusedSectionVars false
namespace Go.Nac
def Opens (P:Program) (t:TypeId) {α:Type} (f:α → List PV) (ok:α → Prop):Prop :=
 ∀ (H:Type) (enc:TypeId × Value → H) (W:World) (L:Loc) (n:Nat) (cs:List Value) (x:DataW H × List MemPlace),
  DataW.trod enc P W 0 (fun _ => true) true n t cs = some x → ∃ a,ok a ∧ LRel [] L W (f a) cs
theorem Qit {z:Int} (h:(Lit.int .i64 z).wf = true):-9223372036854775808 ≤ z ∧ z ≤ 9223372036854775807:=bounds_i64 h
theorem QfS {M:List Blk} {L:Loc} {w:World} {α:Type} (f:α → List PV) {k:Nat} (hf:∀ a,(f a).length = k) (g:Nat → List Value) :
  ∀ (l:List α) (o:Nat),(∀ i a,l[i]? = some a → LRel M L w (f a) (g (o + i))) → LRel M L w (l.flatMap f) ((List.range l.length).flatMap fun i => g (o + i))
 | [],_,_ => .nil
 | a :: l,o,h => by
  rw [List.flatMap_cons,List.length_cons,List.range_succ_eq_map,List.flatMap_cons,List.flatMap_map]
  refine LRel.append (by simpa using h 0 a rfl) ?_
  have:=QfS f hf g l (o + 1) fun i b hb => by
   have:=h (i + 1) b (by simpa using hb)
   rwa [show o + (i + 1) = o + 1 + i by omega] at this
  have e:(fun i => g (o + 1 + i)) = fun i => g (o + (i + 1)):=by funext i;congr 1;omega
  rw [e] at this
  exact this
theorem Qkv {g:Nat → List Value} {k n:Nat} (hk:0 < k) (hg:∀ i,i < n → (g i).length = k) {m:Nat} {v:Value} (h:((List.range n).flatMap g)[m]? = some v) :
  ∃ i j,i < n ∧ j < k ∧ m = i * k + j ∧ (g i)[j]? = some v:=by
 induction n with
 | zero => simp at h
 | succ n ih =>
  have hl:((List.range n).flatMap g).length = n * k:=by
   clear ih h
   have hg':∀ i,i < n → (g i).length = k:=fun i hi => hg i (by omega)
   clear hg
   induction n with
   | zero => simp
   | succ n ih =>
    rw [List.range_succ,List.flatMap_append,List.length_append,ih fun i hi => hg' i (by omega)]
    simp [hg' n (by omega),Nat.succ_mul]
  rw [List.range_succ,List.flatMap_append] at h
  by_cases hm:m < n * k
  ·rw [List.getElem?_append_left (by omega)] at h
   obtain ⟨i,j,h1,h2,h3,h4⟩:=ih (fun i hi => hg i (by omega)) h
   exact ⟨i,j,by omega,h2,h3,h4⟩
  ·rw [List.getElem?_append_right (by omega),hl] at h
   simp only [List.flatMap_cons,List.flatMap_nil,List.append_nil] at h
   have:=(List.getElem?_eq_some_iff.1 h).1
   rw [hg n (by omega)] at this
   exact ⟨n,m - n * k,by omega,this,by omega,h⟩
theorem Qlf {α β:Type} {f:α → Option β}:∀ {l:List α} {r:List β},l.mapM f = some r → r.length = l.length ∧ ∀ (i:Nat) (a:α),l[i]? = some a → f a = r[i]?
 | l,r,h => ⟨by simpa using mapM_some_length h,fun i a hi => mapM_some_get h i a hi⟩
theorem Qfe {P:Program} {t e:TypeId} (ht:P.underlying t = some (.slice e)) {k:Nat} (he:P.cellsOf e = k) (hk:0 < k) {α:Type} {f:α → List PV} {ok:α → Prop}
  (g:α → PV) (hg:∀ a,(g a).cells = f a) (hf:∀ a,(f a).length = k) (h:Opens P e f ok):Opens P t (fun l:List α => [.fs (l.map g)]) (fun l => ∀ a ∈ l,ok a):=by
 intro H enc W L n cs x hx
 have hcells:∀ l:List α,∀ x ∈ l.map g,x.cells.length = k:=by
  intro l x hx
  obtain ⟨a,_,rfl⟩:=List.mem_map.1 hx
  rw [hg,hf]
 rcases DataW.trod_slice ht hx with ⟨rfl,_⟩|⟨a,len,cap,elems,rest,m,_,rfl,_,hb,hl,hm,hlen,hel,_,_⟩
 ·exact ⟨[],by simp,.cons _ _ _ _ (.fs _ _ _ _ k [] rfl (by simp) (by simp) .nil (by simp)) .nil⟩
 ·have each:∀ i,i < len → ∃ cs',W.cells? 0 (a.add (i * k)) k = some cs' ∧ ∃ b,ok b ∧ LRel [] L W (f b) cs':=by
   intro i hi
   have h1:=hel i hi
   rw [he,List.getElem?_eq_getElem (by omega),Option.bind_eq_some_iff] at h1
   obtain ⟨cs',h2,h3⟩:=h1
   exact ⟨cs',h2,h H enc W L _ _ _ h3⟩
  let G:Nat → List Value:=fun i => (W.cells? 0 (a.add (i * k)) k).getD []
  have pick:∀ i,i < len → ∃ b,ok b ∧ LRel [] L W (f b) (G i):=by
   intro i hi
   obtain ⟨cs',h1,h2⟩:=each i hi
   show ∃ b,ok b ∧ LRel [] L W (f b) ((W.cells? 0 (a.add (i * k)) k).getD [])
   rw [h1];exact h2
  have choose:∀ n,n ≤ len → ∃ l:List α,l.length = n ∧ (∀ b ∈ l,ok b) ∧ ∀ i b,l[i]? = some b → LRel [] L W (f b) (G i):=by
   intro n hn
   induction n with
   | zero => exact ⟨[],rfl,by simp,by simp⟩
   | succ n ih =>
    obtain ⟨l,h1,h2,h3⟩:=ih (by omega)
    obtain ⟨b,h4,h5⟩:=pick n (by omega)
    refine ⟨l ++ [b],by simp [h1],?_,?_⟩
    ·intro c hc
     rcases List.mem_append.1 hc with hc|hc
     ·exact h2 c hc
     ·rw [List.mem_singleton.1 hc];exact h4
    ·intro i c hc
     by_cases hi:i < l.length
     ·rw [List.getElem?_append_left hi] at hc;exact h3 i c hc
     ·have:i = n:=by have:=(List.getElem?_eq_some_iff.1 hc).1;simp at this;omega
      subst this
      rw [List.getElem?_append_right (by omega),h1,Nat.sub_self] at hc
      simp at hc;subst hc;exact h5
  obtain ⟨l,hl1,hl2,hl3⟩:=choose len (Nat.le_refl _)
  have hG:∀ i,i < len → (G i).length = k:=by
   intro i hi
   obtain ⟨b,_,hb⟩:=pick i hi
   rw [← hb.length,hf]
  refine ⟨l,hl2,.cons _ _ _ _ (.fs _ _ _ _ k ((List.range l.length).flatMap G) (by simp [hl1]) (by simp;omega) (hcells l) ?_ ?_) .nil⟩
  ·have e:(l.map g).flatMap PV.cells = l.flatMap f:=by
    rw [List.flatMap_map];simp only [hg]
   rw [e]
   have:=QfS (M:=[]) (L:=L) (w:=W) f hf G l 0 (fun i b hb => by simpa using hl3 i b hb)
   simpa using this
  ·intro hne
   have h0:0 < len:=by
    rw [← hl1]
    cases l with
    | nil => simp at hne
    | cons => simp
   have cell:∀ i j v,i < len → j < k → (G i)[j]? = some v → W.cell? ((a.add (i * k)).add j) = some v:=by
    intro i j v hi hj hv
    obtain ⟨cs',h1,_⟩:=each i hi
    have hGi:G i = cs':=by show (W.cells? 0 (a.add (i * k)) k).getD [] = cs';rw [h1];rfl
    rw [hGi] at hv
    unfold World.cells? at h1
    split at h1
    ·have:=(Qlf h1).2 j j (by simp [hj])
     rw [this,hv]
    ·cases h1
   obtain ⟨v0,hv0⟩:∃ v,(G 0)[0]? = some v:=⟨_,List.getElem?_eq_getElem (by rw [hG 0 h0];exact hk)⟩
   have hc0:=cell 0 0 v0 h0 hk hv0
   simp only [Nat.zero_mul,Addr.add,if_true] at hc0
   have hsp:a.spot = none:=by
    unfold World.cell? at hc0
    split at hc0
    ·split at hc0
     ·cases hc0
     ·rename_i hs;simpa using hs
    ·cases hc0
   have hblk:a.block < W.heap.size:=World.block_lt_of_cell? W a hc0
   obtain ⟨ab,ao,as⟩:=a
   simp only at hsp
   subst hsp
   refine ⟨ab,ao,rfl,hblk,fun ⟨i,b,p,hi,_⟩ => by simp at hi,fun m v hmv => ?_⟩
   rw [hl1] at hmv
   obtain ⟨i,j,h1,h2,rfl,h3⟩:=Qkv hk hG hmv
   have:=cell i j v h1 h2 h3
   have e:(Addr.add (Addr.add ⟨ab,ao,none⟩ (i * k)) j) = ⟨ab,ao + (i * k + j),none⟩:=by
    unfold Addr.add
    split <;> split <;> simp_all <;> omega
   rw [← e];exact this
theorem QdI {P:Program} {t:TypeId} {fs:Array Field} (ht:P.underlying t = some (.struct fs)) {H:Type} {enc:TypeId × Value → H} {W:World} {n:Nat} {cs:List Value} {x:DataW H × List MemPlace}
  (h:DataW.trod enc P W 0 (fun _ => true) true n t cs = some x) (hc:P.cellsOf t = fs.size) (hf:∀ (i:Nat) (f:Field),fs[i]? = some f → f.offset = i ∧ P.cellsOf f.type = 1) :
  cs.length = fs.size ∧ ∀ (i:Nat) (f:Field),fs[i]? = some f → ∃ v m y,cs[i]? = some v ∧ DataW.trod enc P W 0 (fun _ => true) true m f.type [v] = some y:=by
 obtain ⟨xs,m,_,_,hl,hxl,hx⟩:=DataW.trod_struct ht h
 refine ⟨hl.trans hc,fun i f hi => ?_⟩
 have h1:=hx i f hi
 have hlt:=(Array.getElem?_eq_some_iff.1 hi).1
 rw [(hf i f hi).1,(hf i f hi).2,List.getElem?_eq_getElem (by omega)] at h1
 have hlt2:i < cs.length:=by omega
 rw [List.drop_eq_getElem_cons hlt2] at h1
 exact ⟨cs[i],m,_,List.getElem?_eq_getElem hlt2,h1⟩
theorem Qhp {P:Program} {t:TypeId} {f0 f1:Field} (ht:P.underlying t = some (.struct #[f0,f1])) (hc:P.cellsOf t = 2) (h0:f0.offset = 0 ∧ P.cellsOf f0.type = 1 ∧ P.underlying f0.type = some (.int .i64))
  (h1:f1.offset = 1 ∧ P.cellsOf f1.type = 1 ∧ P.underlying f1.type = some (.int .i64)) :
  Opens P t (fun r:Rev => [.I r.at_,.I r.ld]) (fun r => (-9223372036854775808 ≤ r.at_ ∧ r.at_ ≤ 9223372036854775807) ∧ (-9223372036854775808 ≤ r.ld ∧ r.ld ≤ 9223372036854775807)):=by
 intro H enc W L n cs x h
 obtain ⟨hl,hf⟩:=QdI ht h hc (by
  intro i f hi
  match i,hi with
  | 0,hi => simp at hi;subst hi;exact ⟨h0.1,h0.2.1⟩
  | 1,hi => simp at hi;subst hi;exact ⟨h1.1,h1.2.1⟩
  | n + 2,hi => simp at hi)
 obtain ⟨v0,m0,y0,e0,g0⟩:=hf 0 f0 rfl
 obtain ⟨v1,m1,y1,e1,g1⟩:=hf 1 f1 rfl
 obtain ⟨z0,k0,_,w0⟩:=DataW.trod_int h0.2.2 g0
 obtain ⟨z1,k1,_,w1⟩:=DataW.trod_int h1.2.2 g1
 cases k0;cases k1
 obtain ⟨c0,c1,rfl⟩:∃ a b,cs = [a,b]:=by
  match cs,hl with
  | [a,b],_ => exact ⟨a,b,rfl⟩
 simp at e0 e1;subst e0;subst e1
 exact ⟨⟨z0,z1⟩,⟨Qit w0,Qit w1⟩,.cons _ _ _ _ (.s _ rfl) (.cons _ _ _ _ (.s _ rfl) .nil)⟩
theorem Opens.arg {P:Program} {t:TypeId} {α:Type} {f:α → List PV} {ok:α → Prop} (h:Opens P t f ok) (g:α → PV) (hg:∀ a,f a = [g a]) {H:Type} {enc:TypeId × Value → H} {W:World} {v:Value} {d:DataW H} {ps:List MemPlace}
  (hv:v.cells.toList = [v]) (ht:DataW.Trod enc P W 0 (fun _ => true) true t v d ps) (L:Loc):∃ a,ok a ∧ VRel [] L W (g a) v:=by
 obtain ⟨n,hn⟩:=ht
 obtain ⟨a,h1,h2⟩:=h H enc W L n _ _ hn
 rw [hg,hv] at h2
 cases h2 with|cons _ _ _ _ h3 _ => exact ⟨a,h1,h3⟩
open Go.RowKit in
theorem QgI [Env] {P:Program} (hmix:P.follows .mixedOrders = true) {F:Prog} {X:XRel} (hF:∀ f cf,F f = some cf → okFn P f cf = true) (hX:∀ f args M r M',X f args M r M' → Conc P (.fn f) args M r M') {f:FuncId} (hroot:(F f).isSome = true) {args:List PV} (h:∀ M,ACall F X (.fn f) args M (.B true) M)
  {W:World} {cargs:Array Value} (hG:∀ g cs,Env.glb g = some cs → ∃ el,W.heap[g]? = some (.cells cs.toArray el (0,0))) (A:LRel [] (fun _ => none) W args cargs.toList):Calls P f cargs W fun e W' => e = .returned (.bool true) ∧ Below W.heap.size W W':=by
 refine (Qez hmix hF hX hroot (h []) (L:=fun _ => none) ⟨fun i b hi => by simp at hi,fun i j bi bj p q hi => by simp at hi,fun g cs h => ⟨hG g cs h,fun ⟨i,b,p,hi,_⟩ => by simp at hi⟩⟩ A).mono fun e W' he => ?_
 cases e with
 | returned v =>
  obtain ⟨L',E,S,R⟩:=he
  refine ⟨?_,E.os,E.tape,E.output,E.size,fun k hk => (E.frame k hk fun ⟨i,b,p,hi,_⟩ => by simp at hi).1⟩
  cases R with
  | s _ _ => rfl
 | _ => exact he.elim
end Go.Nac
namespace Go.Nac
theorem Opens.one {P:Program} {t:TypeId} {α:Type} {f:α → List PV} {ok:α → Prop} (h:Opens P t f ok) (g:α → PV) (hg:∀ a,f a = [g a]) {H:Type} {enc:TypeId × Value → H} {W:World} {L:Loc} {n:Nat} {v:Value} {x:DataW H × List MemPlace}
  (ht:DataW.trod enc P W 0 (fun _ => true) true n t [v] = some x):∃ a,ok a ∧ VRel [] L W (g a) v:=by
 obtain ⟨a,h1,h2⟩:=h H enc W L n _ _ ht
 rw [hg] at h2
 cases h2 with|cons _ _ _ _ h3 _ => exact ⟨a,h1,h3⟩
end Go.Nac
namespace Go.Nac
end Go.Nac
namespace Go.Nac
def YV (P:Program) (fs:List Field):Nat:=(fs.map fun f => P.cellsOf f.type).sum
def YH (P:Program) (fs:List Field) (off:Nat) {α:Type} (f:α → List PV) (ok:α → Prop):Prop :=
 ∀ (H:Type) (enc:TypeId × Value → H) (W:World) (L:Loc) (cs:List Value),cs.length = YV P fs →
  (∀ (i:Nat) (fd:Field),fs[i]? = some fd → ∃ m y,DataW.trod enc P W 0 (fun _ => true) true m fd.type ((cs.drop (fd.offset - off)).take (P.cellsOf fd.type)) = some y) → ∃ a,ok a ∧ LRel [] L W (f a) cs
theorem YH.nil {P:Program} {off:Nat}:YH P [] off (fun _:Unit => []) (fun _ => True):=by
 intro H enc W L cs hl _
 have:cs = []:=List.eq_nil_of_length_eq_zero (by simpa [YV] using hl)
 subst this;exact ⟨(),trivial,.nil⟩
theorem YH.cons {P:Program} {fd:Field} {fs:List Field} {off k:Nat} {α β:Type} {f:α → List PV} {g:β → List PV} {ok:α → Prop} {ok':β → Prop}
  (h:Opens P fd.type f ok) (ho:fd.offset = off) (hk:P.cellsOf fd.type = k) (hge:∀ x ∈ fs,off + k ≤ x.offset) (hs:YH P fs (off + k) g ok') :
  YH P (fd :: fs) off (fun p:α × β => f p.1 ++ g p.2) (fun p => ok p.1 ∧ ok' p.2):=by
 intro H enc W L cs hl hf
 have hl':cs.length = k + YV P fs:=by rw [hl];simp [YV,hk]
 obtain ⟨m,y,h0⟩:=hf 0 fd rfl
 rw [ho,Nat.sub_self,List.drop_zero,hk] at h0
 obtain ⟨a,o1,r1⟩:=h H enc W L m _ _ h0
 obtain ⟨b,o2,r2⟩:=hs H enc W L (cs.drop k) (by simp;omega) (by
  intro i fd' hi
  obtain ⟨m,y,h1⟩:=hf (i + 1) fd' (by simpa using hi)
  have hg:=hge fd' (List.mem_of_getElem? hi)
  refine ⟨m,y,?_⟩
  rw [List.drop_drop,show k + (fd'.offset - (off + k)) = fd'.offset - off by omega];exact h1)
 refine ⟨(a,b),⟨o1,o2⟩,?_⟩
 have:=LRel.append r1 r2
 rwa [List.take_append_drop] at this
theorem Opens.struct {P:Program} {t:TypeId} {fs:Array Field} (ht:P.underlying t = some (.struct fs)) (hc:P.cellsOf t = YV P fs.toList) {α:Type} {f:α → List PV} {ok:α → Prop} (h:YH P fs.toList 0 f ok):Opens P t f ok:=by
 intro H enc W L n cs x hx
 obtain ⟨xs,m,_,_,hl,hxl,hf⟩:=DataW.trod_struct ht hx
 refine h H enc W L cs (hl.trans hc) fun i fd hi => ?_
 rw [Array.getElem?_toList] at hi
 have h1:=hf i fd hi
 have hlt:=(Array.getElem?_eq_some_iff.1 hi).1
 rw [List.getElem?_eq_getElem (by omega)] at h1
 exact ⟨m,_,h1⟩
theorem Opens.map {P:Program} {t:TypeId} {α β:Type} {f:α → List PV} {ok:α → Prop} (h:Opens P t f ok) (φ:α → β) {g:β → List PV} (hg:∀ a,f a = g (φ a)) {ok':β → Prop} (hok:∀ a,ok a → ok' (φ a)):Opens P t g ok':=by
 intro H enc W L n cs x hx
 obtain ⟨a,h1,h2⟩:=h H enc W L n cs x hx
 exact ⟨φ a,hok a h1,by rw [← hg];exact h2⟩
end Go.Nac
namespace Go.Nac
end Go.Nac
namespace Go.Nac
variable [Env]
open Ieee
end Go.Nac
namespace Go.Nac
variable [Env]
section
variable {P:Program} {R:CCode → Code → Prop} {M:List Blk} {L:Loc} {w w':World}
theorem Qio (S:Sim R M L w) (hb:RowKit.Below w.heap.size w w') (hd:Env.mono → w.drawn ≤ w'.drawn):Evo M L w M L w' ∧ Sim R M L w':=by
 have old:∀ b,b < w.heap.size → w'.heap[b]? = w.heap[b]?:=hb.block
 have E:Evo M L w M L w':=⟨hb.os,hb.tape,hb.output,hd,hb.size,fun b hlt hno => ⟨old b hlt,hno⟩,fun i b hi => ⟨b,hi,by
  cases b with
  | row => exact ⟨Nat.le_refl _,fun _ => ⟨rfl,rfl,rfl,fun bb oo c el g1 g2 => ⟨c,g2.congr (old bb g2.lt),rfl⟩⟩⟩
  | map => exact rfl
  | loop => exact ⟨rfl,rfl,rfl,rfl,rfl⟩
  | siter => exact rfl⟩⟩
 exact ⟨E,fun i b hi => (S.mem i b hi).evo E rfl fun p hp => old _ ((S.mem i b hi).lt hp),S.inj,S.envE E⟩
theorem Yb {f:FuncId} {args:List PV} {r:PV}
  (h:∀ (L:Loc) (w:World) (cargs:Array Value),Sim (RO P) M L w → LRel M L w args cargs.toList →
   (callFunc f cargs).run P w = .ok (.enter f cargs) w ∧ Calls P f cargs w fun e w' => ∃ v,e = .returned v ∧ RowKit.Below w.heap.size w w' ∧ (Env.mono → w.drawn ≤ w'.drawn) ∧ VRel M L w' r v):Conc P (.fn f) args M r M:=by
 intro L w cargs S A
 obtain ⟨h1,h2⟩:=h L w cargs S A
 refine .inl ⟨h1,h2.mono ?_⟩
 rintro e w' ⟨v,rfl,hb,hd,hv⟩
 obtain ⟨E,S'⟩:=Qio S hb hd
 exact ⟨L,E,S',hv⟩
theorem Qb6 (B:Nat) (w:World):RowKit.Below B w w:=RowKit.Below.refl B w
theorem Qg3 (B:Nat) (w:World) (n:Nat):RowKit.Below B w (w.drewN n):=⟨rfl,rfl,rfl,Nat.le_refl _,fun _ _ => rfl⟩
theorem Qgg (w:World) (n:Nat) (os:Array Obj):RowKit.Below w.heap.size w (Sort.grow (w.drewN n) os):=by
 refine ⟨rfl,rfl,rfl,by simp [Sort.grow,World.drewN],fun k hk => ?_⟩
 show (w.heap ++ os)[k]? = _
 rw [Array.getElem?_append_left hk]
theorem Qf2 (S:Sim R M L w) {xs:List PV} {vs:List Value} {n cap k b o:Nat} (hn:n = xs.length) (hc:xs.length ≤ cap) (hk:∀ x ∈ xs,x.cells.length = k) (h:LRel M L w' (xs.flatMap PV.cells) vs)
  (hb:w.heap.size ≤ b) (hlt:b < w'.heap.size) (hm:∀ m v,vs[m]? = some v → w'.cell? ⟨b,o + m,none⟩ = some v):VRel M L w' (.fs xs) (.slice (some ⟨b,o,none⟩) n cap) :=
 .fs xs _ n cap k vs hn hc hk h fun _ => ⟨b,o,rfl,hlt,fun ho => by have:=ho.lt S;omega,hm⟩
end
end Go.Nac
namespace Go.Nac
end Go.Nac
namespace Go.Nac
section
variable {C:CallR} {d:Option Nat} {os:List COper} {K:List Blk → List PV → Prop} {M:List Blk} {t:List PV}
end
end Go.Nac
namespace Go.Nac
variable {C:CallR} {K:List Blk → List PV → Prop} {M:List Blk} {t:List PV} {d:Option Nat} {os:List COper}
theorem Qjo {T:TypeId} {z:List Value}:wpOps C (⟨d,.balloc T z,none⟩ :: os) K M t = b2 (some (.bp M.length 0 T,M ++ [.row true z.length 0 [.agg (z.map .s)]])) (kont2 C os K t d):=by
 rw [QF rfl];rfl
def untyV (M:List Blk):PV → Option PV
 | .bp i ver _ => if QL M i ver then some (.op i ver 0 0) else none
 | _ => none
theorem Qpm {x:CX}:wpOps C (⟨d,.unty x,none⟩ :: os) K M t = b1 (untyV M (ev t x)) (kont C os K M t d):=Qp rfl (by
 simp only [res,untyV]
 generalize ev t x = vx
 cases vx <;> first|rfl|(simp only [];split <;> rfl))
theorem Qjz {i ver:Nat} {T:TypeId}:untyV M (.bp i ver T) = if liveR ver M[i]? = true then some (.op i ver 0 0) else none:=by simp only [untyV,V9]
def usdV (M:List Blk):PV → Option PV
 | .s (.slice none 0 0) => some (.s (.pointer none))
 | .ot i ver len _ => if QL M i ver then some (.op i ver 0 0) else none
 | _ => none
theorem r_usd {x:CX}:wpOps C (⟨d,.usd x,none⟩ :: os) K M t = b1 (usdV M (ev t x)) (kont C os K M t d):=Qp rfl (by
 simp only [res,usdV]
 generalize ev t x = vx
 cases vx with
 | s v =>
  by_cases h:v = .slice none 0 0
  ·subst h;rfl
  ·split
   ·rename_i e;cases e;exact absurd rfl h
   ·rename_i e;cases e
   ·split
    ·rename_i e;cases e;exact absurd rfl h
    ·rename_i e;cases e
    ·rfl
 | ot i ver len e => simp only [];split <;> rfl
 | _ => rfl)
theorem Qjv:usdV M (.s (.slice none 0 0)) = some (.s (.pointer none)):=rfl
theorem Qm2 {i ver len:Nat} {e:TypeId}:usdV M (.ot i ver len e) = if liveR ver M[i]? = true then some (.op i ver 0 0) else none:=by simp only [usdV,V9]
def tappR (M:List Blk) (e bytes i ver len:Nat) (e':TypeId) (ys:List PV):Option Blk → Option (PV × List Blk)
 | some (.row true k' v xs) => if v = ver ∧ k' = 1 ∧ len ≤ xs.length ∧ len + ys.length ≤ 2 ^ 20 ∧ e' = e then some (.ot i (ver + 1) (len + ys.length) e,M.set i (.row true 1 (ver + 1) (xs.take len ++ ys))) else none
 | _ => none
def tappO (M:List Blk) (e:TypeId) (bytes:Nat) (vx:PV) (o:Option (List PV)):Option (PV × List Blk) :=
 match o with
 | some ys =>
  if ys.all (QP 1) ∧ 0 < ys.length ∧ bytes ≤ 2 ^ 20 then
   match vx with
   | .s (.slice none 0 0) => if ys.length ≤ 2 ^ 20 then some (.ot M.length 0 ys.length e,M ++ [.row true 1 0 ys]) else none
   | .ot i ver len e' => match M[i]? with
    | some (.row true k' v xs) =>
     if v = ver ∧ k' = 1 ∧ len ≤ xs.length ∧ len + ys.length ≤ 2 ^ 20 ∧ e' = e then
      some (.ot i (ver + 1) (len + ys.length) e,M.set i (.row true 1 (ver + 1) (xs.take len ++ ys)))
     else none
    | _ => none
   | _ => none
  else none
 | none => none
theorem QnY {e:TypeId} {bytes:Nat} {x y:CX}:wpOps C (⟨d,.tapp e bytes x y,none⟩ :: os) K M t = b2 (tappO M e bytes (ev t x) (held M (ev t y))) (kont2 C os K t d):=by rw [QF rfl];rfl
theorem Qh4 {e:TypeId} {bytes:Nat} {ys:List PV} (ha:ys.all (QP 1) = true) (hp:0 < ys.length) (hb:bytes ≤ 1048576) (hs:ys.length ≤ 1048576) :
  tappO M e bytes (.s (.slice none 0 0)) (some ys) = some (.ot M.length 0 ys.length e,M ++ [.row true 1 0 ys]):=by
 simp only [tappO]
 rw [if_pos ⟨ha,hp,by omega⟩,if_pos (by omega)]
theorem Qky {e e':TypeId} {bytes i ver len:Nat} {ys:List PV} (ha:ys.all (QP 1) = true) (hp:0 < ys.length) (hb:bytes ≤ 1048576) :
  tappO M e bytes (.ot i ver len e') (some ys) = tappR M e bytes i ver len e' ys M[i]?:=by
 simp only [tappO]
 rw [if_pos ⟨ha,hp,by omega⟩]
 unfold tappR
 cases M[i]? with
 | none => rfl
 | some b =>
  cases b with
  | row w k v xs => cases w <;> rfl
  | _ => rfl
theorem Qip {e:TypeId} {bytes i ver len:Nat} {xs ys:List PV} (hl:len = xs.length) (hs:xs.length + ys.length ≤ 1048576) :
  tappR M e bytes i ver len e ys (some (.row true 1 ver xs)) = some (.ot i (ver + 1) (len + ys.length) e,M.set i (.row true 1 (ver + 1) (xs ++ ys))):=by
 subst hl
 simp only [tappR]
 rw [if_pos ⟨(by first|rfl|trivial),(by first|rfl|trivial),Nat.le_refl _,by omega,(by first|rfl|trivial)⟩,List.take_length]
def ustrR (M:List Blk) (e:TypeId) (i ver:Nat) (l:Int) (i' ver' len:Nat) (e':TypeId):Option Blk → Option (PV × List Blk)
 | some (.row true k v xs) =>
  if i = i' ∧ ver = ver' ∧ e = e' ∧ l = len ∧ v = ver ∧ k = 1 ∧ len ≤ xs.length ∧ len ≤ 2 ^ 24 ∧ (xs.take len).all Z1 = true then
   (strOf (xs.take len)).map fun s => (.s (.string s),M.set i (.row false 1 (ver + 1) []))
  else none
 | _ => none
def ustrO (M:List Blk) (e:TypeId) (p n s:PV):Option (PV × List Blk) :=
 match p,n,s with
 | .s (.pointer none),.s (.int .i64 0),_ => some (.s (.string ⟨#[]⟩),M)
 | .op i ver 0 0,.s (.int .i64 l),.ot i' ver' len e' => match M[i]? with
  | some (.row true k v xs) =>
   if i = i' ∧ ver = ver' ∧ e = e' ∧ l = len ∧ v = ver ∧ k = 1 ∧ len ≤ xs.length ∧ len ≤ 2 ^ 24 ∧ (xs.take len).all Z1 = true then
    (strOf (xs.take len)).map fun s => (.s (.string s),M.set i (.row false 1 (ver + 1) []))
   else none
  | _ => none
 | _,_,_ => none
theorem QoX {e:TypeId} {p n s:CX}:wpOps C (⟨d,.ustr e p n s,none⟩ :: os) K M t = b2 (ustrO M e (ev t p) (ev t n) (ev t s)) (kont2 C os K t d):=by rw [QF rfl];rfl
theorem Qhu {e:TypeId} {s:PV}:ustrO M e (.s (.pointer none)) (.I 0) s = some (.s (.string ⟨#[]⟩),M):=rfl
theorem Qkf {e e':TypeId} {i ver i' ver' len:Nat} {l:Int}:ustrO M e (.op i ver 0 0) (.s (.int .i64 l)) (.ot i' ver' len e') = ustrR M e i ver l i' ver' len e' M[i]?:=by
 simp only [ustrO]
 unfold ustrR
 cases M[i]? with
 | none => rfl
 | some b =>
  cases b with
  | row w k v xs => cases w <;> rfl
  | _ => rfl
theorem Qhx (b:ByteArray):(Qi b).all Z1 = true:=by
 unfold Qi
 rw [List.all_eq_true]
 intro x hx
 obtain ⟨u,_,rfl⟩:=List.mem_map.1 hx
 have:=u.toNat_lt
 simp only [Z1,Bool.and_eq_true,decide_eq_true_eq]
 omega
theorem Qfq {e:TypeId} {i ver:Nat} {b:ByteArray} {l:Int} {len:Nat} (hl:l = b.size) (hn:len = b.size) (h24:b.size ≤ 16777216) (hst:strOf (Qi b) = some b) :
  ustrR M e i ver l i ver len e (some (.row true 1 ver (Qi b))) = some (.s (.string b),M.set i (.row false 1 (ver + 1) [])):=by
 subst hl;subst hn
 have hlen:(Qi b).length = b.size:=by simp [Qi]
 simp only [ustrR]
 have ht:(Qi b).take b.size = Qi b:=List.take_of_length_le (by omega)
 rw [ht,if_pos ⟨(by first|rfl|trivial),(by first|rfl|trivial),(by first|rfl|trivial),(by first|rfl|trivial),(by first|rfl|trivial),(by first|rfl|trivial),by omega,by omega,Qhx b⟩,hst];rfl
def QbT (M:List Blk) (n i ver e:Nat):Option Blk → Option (PV × List Blk)
 | some (.row true k v xs) =>
  if v = ver ∧ k = n ∧ 0 < n then
   match xs[e]? with
   | some (.agg cs) => if cs.all isS then some (.fs cs,M.set i (.row false k v xs)) else none
   | _ => none
  else none
 | _ => none
def Qeh (M:List Blk) (n:Nat):PV → Option (PV × List Blk)
 | .op i ver e 0 => match M[i]? with
  | some (.row true k v xs) =>
   if v = ver ∧ k = n ∧ 0 < n then
    match xs[e]? with
    | some (.agg cs) => if cs.all isS then some (.fs cs,M.set i (.row false k v xs)) else none
    | _ => none
   else none
  | _ => none
 | _ => none
theorem QmR {n:Nat} {x:CX}:wpOps C (⟨d,.arrfz n x,none⟩ :: os) K M t = b2 (Qeh M n (ev t x)) (kont2 C os K t d):=by rw [QF rfl];rfl
theorem Qg9 {n i ver e:Nat}:Qeh M n (.op i ver e 0) = QbT M n i ver e M[i]?:=by
 simp only [Qeh]
 unfold QbT
 cases M[i]? with
 | none => rfl
 | some b =>
  cases b with
  | row w k v xs => cases w <;> rfl
  | _ => rfl
theorem Qgl {n i ver:Nat} {cs:List PV} (hn:0 < n) (hc:cs.all isS = true):QbT M n i ver 0 (some (.row true n ver [.agg cs])) = some (.fs cs,M.set i (.row false n ver [.agg cs])):=by
 simp only [QbT]
 rw [if_pos ⟨(by first|rfl|trivial),(by first|rfl|trivial),hn⟩]
 simp only [List.getElem?_cons_zero,hc,if_true]
def clrR (M:List Blk) (k:Nat) (g:Option Nat) (z:List Value) (i ver off len:Nat):Option Blk → Option (PV × List Blk)
 | some (.row true k' v xs) =>
  if v = ver ∧ k' = k ∧ off + len ≤ xs.length ∧ 0 < k then
   (mkPV g (z.map .s)).bind fun e => if e.cells.length = k ∧ e.cells.all oneB = true then some (unit,M.set i (.row true k ver (setRange xs off (List.replicate len e)))) else none
  else none
 | _ => none
def clrO (M:List Blk) (k:Nat) (g:Option Nat) (z:List Value):PV → Option (PV × List Blk)
 | .fs [] => some (unit,M)
 | .s (.slice none 0 0) => some (unit,M)
 | .os i ver off len => match M[i]? with
  | some (.row true k' v xs) =>
   if v = ver ∧ k' = k ∧ off + len ≤ xs.length ∧ 0 < k then
    (mkPV g (z.map .s)).bind fun e => if e.cells.length = k ∧ e.cells.all oneB = true then some (unit,M.set i (.row true k ver (setRange xs off (List.replicate len e)))) else none
   else none
  | _ => none
 | _ => none
theorem r_clr {k:Nat} {g:Option Nat} {z:List Value} {x:CX}:wpOps C (⟨d,.clr k g z x,none⟩ :: os) K M t = b2 (clrO M k g z (ev t x)) (kont2 C os K t d):=by rw [QF rfl];rfl
theorem QlH {k:Nat} {g:Option Nat} {z:List Value} {i ver off len:Nat}:clrO M k g z (.os i ver off len) = clrR M k g z i ver off len M[i]?:=by
 simp only [clrO]
 unfold clrR
 cases M[i]? with
 | none => rfl
 | some b =>
  cases b with
  | row w k v xs => cases w <;> rfl
  | _ => rfl
theorem Qj0 {z:Value} {i ver off len:Nat} {xs:List PV} (hl:off + len ≤ xs.length) (hz:oneB (.s z) = true) :
  clrR M 1 none [z] i ver off len (some (.row true 1 ver xs)) = some (unit,M.set i (.row true 1 ver (xs.take off ++ (List.replicate len (.s z) ++ xs.drop (off + len))))):=by
 have hc:(PV.s z).cells = [.s z]:=by cases z <;> first|rfl|(simp [oneB] at hz)
 simp only [clrR]
 rw [if_pos ⟨(by first|rfl|trivial),(by first|rfl|trivial),hl,by decide⟩]
 simp only [List.map_cons,List.map_nil,mkPV,Option.bind_some,hc,List.length_cons,List.length_nil,List.all_cons,List.all_nil,hz,Bool.and_self]
 rw [if_pos ⟨by first|rfl|trivial,by first|rfl|trivial⟩]
 unfold Nac.setRange
 rw [List.length_replicate,List.append_assoc]
theorem isS_s {v:Value}:isS (.s v) = oneB (.s v):=rfl
def Qav (z:Value) (ok:Bool) (q:Int × Int):Option Blk → Option PV
 | some (.map es) => if keys2 es then some (if ok then .tup [.s ((find2 q es).getD z),.B (find2 q es).isSome] else .s ((find2 q es).getD z)) else none
 | _ => none
def Qca (M:List Blk) (z:Value) (ok:Bool):PV → PV → Option PV
 | .om i,.agg [.s (.int .i64 a),.s (.int .i64 b)] => Qav z ok (a,b) M[i]?
 | _,_ => none
theorem QiT {ρ:CX → PV} {z:Value} {ok:Bool} {m key:CX}:res M ρ (.look2 z ok m key) = (Qca M z ok (ρ m) (ρ key)).map (·,M):=by
 simp only [res]
 generalize ρ m = pm;generalize ρ key = pk
 unfold Qca Qav
 repeat' split
 all_goals first|rfl|(simp_all;done)|skip
theorem QmI {z:Value} {ok:Bool} {m key:CX}:wpOps C (⟨d,.look2 z ok m key,none⟩ :: os) K M t = b1 (Qca M z ok (ev t m) (ev t key)) (kont C os K M t d):=Qp rfl QiT
theorem Qg8 {z:Value} {ok:Bool} {i:Nat} {a b:Int}:Qca M z ok (.om i) (.agg [.s (.int .i64 a),.s (.int .i64 b)]) = Qav z ok (a,b) M[i]?:=rfl
theorem Qiy {z:Value} {q:Int × Int} {es:List (Value × Value)} (h:keys2 es = true):Qav z true q (some (.map es)) = some (.tup [.s ((find2 q es).getD z),.B (find2 q es).isSome]):=by
 simp only [Qav,h,if_true]
def QbZ (M:List Blk) (i:Nat) (q:Int × Int) (u:Value):Option Blk → Option (PV × List Blk)
 | some (.map es) => if keys2 es then some (unit,M.set i (.map (upd2 q u es))) else none
 | _ => none
def Qem (M:List Blk) (pm pk pv:PV):Option (PV × List Blk) :=
 match pm,pk,pv with
 | .om i,.agg [.s (.int .i64 a),.s (.int .i64 b)],.s u => match M[i]? with
  | some (.map es) => if keys2 es then some (unit,M.set i (.map (upd2 (a,b) u es))) else none
  | _ => none
 | _,_,_ => none
theorem Qml {m key v:CX}:wpOps C (⟨d,.mupd2 m key v,none⟩ :: os) K M t = b2 (Qem M (ev t m) (ev t key) (ev t v)) (kont2 C os K t d):=by rw [QF rfl];rfl
theorem QhR {i:Nat} {a b:Int} {u:Value}:Qem M (.om i) (.agg [.s (.int .i64 a),.s (.int .i64 b)]) (.s u) = QbZ M i (a,b) u M[i]?:=by
 simp only [Qem]
 unfold QbZ
 cases M[i]? with
 | none => rfl
 | some b => cases b <;> rfl
theorem Qi9 {i:Nat} {q:Int × Int} {u:Value} {es:List (Value × Value)} (h:keys2 es = true):QbZ M i q u (some (.map es)) = some (unit,M.set i (.map (upd2 q u es))):=by
 simp only [QbZ,h,if_true]
theorem QmZ {i ver:Nat} {T:TypeId}:view M (.bp i ver T) = .bp i ver T:=rfl
theorem Qjp {i ver:Nat} {T:TypeId}:view1 M (.bp i ver T) = .bp i ver T:=rfl
theorem QnN {i ver len:Nat} {e:TypeId}:view M (.ot i ver len e) = .ot i ver len e:=rfl
theorem QjB {i ver len:Nat} {e:TypeId}:view1 M (.ot i ver len e) = .ot i ver len e:=rfl
theorem QkQ {i ver len:Nat} {e:TypeId}:lenOf (.ot i ver len e) = some len:=rfl
theorem QjL {i ver:Nat} {T:TypeId}:(PV.bp i ver T).cells = [.bp i ver T]:=rfl
theorem Qk7 {i ver len:Nat} {e:TypeId}:(PV.ot i ver len e).cells = [.ot i ver len e]:=rfl
theorem QmJ {i ver:Nat} {T:TypeId}:oneB (.bp i ver T) = true:=rfl
theorem Qnq {i ver len:Nat} {e:TypeId}:oneB (.ot i ver len e) = true:=rfl
theorem Qjg {a:Option Addr}:oneB (.s (.pointer a)) = true:=rfl
theorem Qmy {i ver:Nat} {T:TypeId}:refs (.bp i ver T) = [i]:=rfl
theorem QlB {i ver len:Nat} {e:TypeId}:refs (.ot i ver len e) = [i]:=rfl
theorem Qn9 {i ver n:Nat} {T:TypeId}:(PV.bp i ver T).low n = (i < n):=by simp [PV.low]
theorem Qn1 {i ver len n:Nat} {e:TypeId}:(PV.ot i ver len e).low n = (i < n):=by simp [PV.low]
end Go.Nac
namespace Go.Nac
def rng (n least most:Int):Int:=if n < least ∨ most < n then 3 else 0
def trn (a b c:Int):Bool:=decide ((a < b ∧ c < b) ∨ (b < a ∧ b < c))
def fst0:List Int → Int
 | [] => 0
 | x :: r => if x = 0 then fst0 r else x
theorem Qah (l:List Int) (k:Nat) (x:Int) (h:l[k]? = some x):fst0 (l.drop k) = if x = 0 then fst0 (l.drop (k + 1)) else x:=by
 obtain ⟨h1,h2⟩:=List.getElem?_eq_some_iff.1 h
 rw [List.drop_eq_getElem_cons h1,h2];rfl
def Zo (n:Int):Bool:=decide (¬ rng n (-32768) 32768 = 0)
def QI (l:List Int):Int:=if 40000 < l.length then 5 else if (l.filter Zo).length = 0 then 0 else 3
def prev (l:List Rev) (j k:Nat):Option Rev:=if k < j then none else l[k - j]?
def ordB (p:Option Rev) (r:Rev):Bool:=match p with|some q => decide (r.at_ ≤ q.at_)|none => false
def shpB (pp p:Option Rev) (r:Rev):Bool :=
 match p with
 | none => false
 | some q => decide (r.ld = q.ld) || (match pp with | some z => !trn z.ld q.ld r.ld | none => false)
def errAt (pp p:Option Rev) (r:Rev):Int :=
 fst0 [rng r.at_ 0 39999,rng r.ld (-32768) 32768,if ordB p r = true then 11 else 0,if shpB pp p r = true then 2 else 0]
def QJ (pp p:Option Rev):List Rev → Int
 | [] => 0
 | r :: rs => if errAt pp p r = 0 then QJ p (some r) rs else errAt pp p r
def Qh (l:List Rev):Int:=if 40000 < l.length then 5 else QJ none none l
theorem QaN {l:List Rev} {k:Nat} {r:Rev} (h:l[k]? = some r) :
  QJ (prev l 2 k) (prev l 1 k) (l.drop k) = if errAt (prev l 2 k) (prev l 1 k) r = 0 then QJ (prev l 2 (k + 1)) (prev l 1 (k + 1)) (l.drop (k + 1)) else errAt (prev l 2 k) (prev l 1 k) r:=by
 obtain ⟨h1,h2⟩:=List.getElem?_eq_some_iff.1 h
 have e1:prev l 1 (k + 1) = some r:=by simp [prev,h]
 have e2:prev l 2 (k + 1) = prev l 1 k:=by
  unfold prev
  by_cases hk:k < 1
  ·rw [if_pos hk,if_pos (by omega)]
  ·rw [if_neg hk,if_neg (by omega)];congr 1
 rw [List.drop_eq_getElem_cons h1,h2,QJ,e1,e2]
theorem QbL {l:List Rev} {k:Nat} {a b:Option Rev} (h:l.length ≤ k):QJ a b (l.drop k) = 0:=by
 rw [List.drop_eq_nil_of_le h];rfl
theorem Qcq {pp p:Option Rev} {r:Rev} (h:¬ fst0 [rng r.at_ 0 39999,rng r.ld (-32768) 32768] = 0):fst0 [rng r.at_ 0 39999,rng r.ld (-32768) 32768] = errAt pp p r:=by
 simp only [errAt,fst0] at h ⊢
 split at h
 ·split at h
  ·exact absurd rfl h
  ·rename_i h1 h2;simp [h1,h2]
 ·rename_i h1;simp [h1]
theorem YK {pp p:Option Rev} {r:Rev} (h:fst0 [rng r.at_ 0 39999,rng r.ld (-32768) 32768] = 0):errAt pp p r = fst0 [if ordB p r = true then 11 else 0,if shpB pp p r = true then 2 else 0]:=by
 simp only [errAt,fst0] at h ⊢
 split at h
 ·split at h
  ·rename_i h1 h2;simp [h1,h2]
  ·rename_i h1 h2;exact absurd h h2
 ·rename_i h1;exact absurd h h1
theorem Je {α:Type} {l:List α} {k:Nat} {x:α} (p:α → Bool) (h:l[k]? = some x):(l.take (k + 1)).filter p = (l.take k).filter p ++ if p x = true then [x] else []:=by
 obtain ⟨h1,h2⟩:=List.getElem?_eq_some_iff.1 h
 rw [List.take_succ_eq_append_getElem h1,h2,List.filter_append]
 congr 1
 by_cases hp:p x = true
 ·rw [List.filter_cons_of_pos hp,if_pos hp];rfl
 ·rw [List.filter_cons_of_neg hp,if_neg hp];rfl
def Qz (out:List Rev) (p:Rev):List Rev :=
 match out.reverse with
 | [] => [p]
 | a :: r => if a.ld = p.ld then out else
  match r with
  | [] => out ++ [p]
  | b :: _ => if trn b.ld a.ld p.ld = true then out ++ [p] else out.dropLast ++ [p]
def Qv (l:List Rev):List Rev:=l.foldl Qz []
def points (l:List Int):List Rev:=l.zipIdx.map fun p => ⟨p.2,p.1⟩
end Go.Nac
namespace Go.Nac
theorem JP {α:Type} {o:List α} {a:α} (h:o[o.length - 1]? = some a):∃ r,o.reverse = a :: r ∧ o = r.reverse ++ [a]:=by
 rcases List.eq_nil_or_concat o with rfl|⟨o1,b,rfl⟩
 ·simp at h
 ·simp at h;subst h;exact ⟨o1.reverse,by simp,by simp⟩
theorem Qhg {o:List Rev} {p:Rev} (h:o.length = 0):Qz o p = o ++ [p]:=by
 have:=List.eq_nil_of_length_eq_zero h;subst this;rfl
theorem Qgs {o:List Rev} {a p:Rev} (ha:o[o.length - 1]? = some a) (h:a.ld = p.ld):Qz o p = o:=by
 obtain ⟨r,h1,h2⟩:=JP ha
 simp only [Qz,h1,if_pos h]
theorem QiC {o:List Rev} {a p:Rev} (ha:o[o.length - 1]? = some a) (h:¬ a.ld = p.ld) (h1:o.length = 1):Qz o p = o ++ [p]:=by
 obtain ⟨r,h2,h3⟩:=JP ha
 have:r = []:=by have:=congrArg List.length h3;simp at this;exact List.eq_nil_of_length_eq_zero (by omega)
 subst this
 simp only [Qz,h2,if_neg h]
theorem Qin {o:List Rev} {a b p:Rev} (ha:o[o.length - 1]? = some a) (hb:o[o.length - 2]? = some b) (h2:2 ≤ o.length) (h:¬ a.ld = p.ld) :
  Qz o p = if trn b.ld a.ld p.ld = true then o ++ [p] else o.set (o.length - 1) p:=by
 obtain ⟨r,h3,h4⟩:=JP ha
 subst h4
 have hb':r.reverse[r.reverse.length - 1]? = some b:=by
  have e:(r.reverse ++ [a]).length - 2 = r.reverse.length - 1:=by simp
  rw [e] at hb
  rw [List.getElem?_append_left (by simp at h2 ⊢;omega)] at hb
  exact hb
 obtain ⟨r2,h5,h6⟩:=JP hb'
 have h7:r = b :: r2:=by simpa using h5
 subst h7
 simp only [Qz,h3,if_neg h]
 congr 1
 simp
end Go.Nac
namespace Go.Nac
def YM (out:List Rev) (p:Rev):List Rev :=
 match out.reverse with
 | [] => out ++ [p]
 | a :: _ => if p.ld = a.ld then out else out ++ [p]
def dedup (l:List Rev):List Rev:=l.foldl YM []
def keepT (p:List Rev) (k:Nat):Bool :=
 decide (k = 0) || decide (k + 1 = p.length) || (match p[k - 1]?,p[k]?,p[k + 1]? with|some a,some b,some c => trn a.ld b.ld c.ld|_,_,_ => false)
def outT (p:List Rev):Nat → List Rev
 | 0 => []
 | k + 1 => outT p k ++ if keepT p k = true then (p[k]?).toList else []
def turning (l:List Rev):List Rev:=outT (dedup l) (dedup l).length
end Go.Nac
namespace Go.Nac
def ordC (c:Cyc):Bool:=decide (c.to_ ≤ c.from_) || decide (c.hi ≤ c.lo)
def errC (c:Cyc):Int:=fst0 [rng c.from_ 0 39999,rng c.to_ 0 39999,rng c.lo (-32768) 32768,rng c.hi (-32768) 32768,if ordC c = true then 11 else 0]
def QN (l:List Cyc):Int:=if 40000 < l.length then 5 else fst0 (l.map errC)
def powW (x:Int):Nat → Int
 | 0 => 1
 | k + 1 => IntKind.i64.wrap (powW x k * x)
end Go.Nac
namespace Go.Nac
def madd (m:Int × Bool) (n:Int):Int × Bool:=if m.2 = true ∨ 1152921504606846976 - m.1 < n then (m.1,true) else (m.1 + n,false)
def mres (m:Int × Bool):Int × Int:=if m.2 = true then (0,4) else (m.1,0)
def mOk (m:Int × Bool):Prop:=0 ≤ m.1 ∧ m.1 ≤ 1152921504606846976
theorem QaE {m:Int × Bool} {n:Int} (h:mOk m) (hn:0 ≤ n):mOk (madd m n):=by
 unfold mOk madd at *
 split
 ·exact h
 ·rename_i h2;simp only [not_or] at h2;simp only [];omega
def mRow (v:Nat) (m:Int × Bool):Blk:=.row true 2 v [.agg [.I m.1,.B m.2]]
def QpI (c:Cyc):Int:=IntKind.i64.wrap (c.hi - c.lo)
def Vc (e times:Int) (m:Int × Bool) (l:List Cyc):Int × Bool:=l.foldl (fun m c => madd m (times * powW (c.hi - c.lo) e.toNat)) m
def VD (a b:Rev):Int:=max (a.ld - b.ld) (b.ld - a.ld)
def halfs:List Rev → List Int
 | a :: b :: r => VD a b :: halfs (b :: r)
 | _ => []
def VN (e:Int) (m:Int × Bool) (l:List Rev):Int × Bool:=(halfs l).foldl (fun m x => madd m (powW x e.toNat)) m
theorem YI {a:Int} (h:-9223372036854775808 ≤ a ∧ a ≤ 9223372036854775807):IntKind.i64.wrap a = a:=QcC h
theorem pow1 (x:Int) (h:-9223372036854775808 ≤ x ∧ x ≤ 9223372036854775807):powW x 1 = x:=by
 simp only [powW];rw [Int.one_mul];exact YI h
theorem sq_bd {x:Int} {b:Int} (h0:0 ≤ x) (h:x ≤ b):0 ≤ x * x ∧ x * x ≤ b * b:=⟨Int.mul_nonneg h0 h0,Int.mul_le_mul h h h0 (by omega)⟩
theorem pow2 (x:Int) (h0:0 ≤ x) (h:x ≤ 2147483648):powW x 2 = x * x:=by
 have hb:=sq_bd h0 h
 simp only [powW];rw [Int.one_mul,YI (a:=x) (by omega),YI (by omega)]
theorem pow3 (x:Int) (h0:0 ≤ x) (h:x ≤ 1048576):powW x 3 = x * x * x:=by
 have hb:=sq_bd h0 h
 have h3:0 ≤ x * x * x ∧ x * x * x ≤ 1048576 * 1048576 * 1048576:=⟨Int.mul_nonneg hb.1 h0,Int.mul_le_mul hb.2 h h0 (by omega)⟩
 simp only [powW];rw [Int.one_mul,YI (a:=x) (by omega),YI (a:=x * x) (by omega),YI (by omega)]
theorem Qb0 {x e:Int} (he:1 ≤ e ∧ e ≤ 3) (h0:0 ≤ x) (h:x ≤ 65536):0 ≤ powW x e.toNat ∧ powW x e.toNat ≤ 281474976710656:=by
 have hb:=sq_bd h0 h
 have h3:0 ≤ x * x * x ∧ x * x * x ≤ 65536 * 65536 * 65536:=⟨Int.mul_nonneg hb.1 h0,Int.mul_le_mul hb.2 h h0 (by omega)⟩
 rcases (by omega:e = 1 ∨ e = 2 ∨ e = 3) with rfl|rfl|rfl
 ·rw [show (1:Int).toNat = 1 from rfl,pow1 x (by omega)];omega
 ·rw [show (2:Int).toNat = 2 from rfl,pow2 x h0 (by omega)];omega
 ·rw [show (3:Int).toNat = 3 from rfl,pow3 x h0 (by omega)];omega
theorem QcE:∀ (l:List Rev) (k:Nat) (p q:Rev),l[k]? = some p → l[k + 1]? = some q → (halfs l)[k]? = some (VD p q)
 | [],k,p,q,h,_ => by simp at h
 | [a],k,p,q,_,h => by simp at h
 | a :: b :: r,0,p,q,h,h' => by simp at h h';subst h;subst h';simp [halfs]
 | a :: b :: r,k + 1,p,q,h,h' => by simp only [halfs,List.getElem?_cons_succ] at *;exact QcE (b :: r) k p q h h'
theorem QcY:∀ (l:List Rev),(halfs l).length = l.length - 1
 | [] => rfl
 | [a] => rfl
 | a :: b :: r => by simp only [halfs,List.length_cons];rw [QcY (b :: r)];simp
end Go.Nac
namespace Go.Nac
theorem Y8 (l:List Int):fst0 l = 0 ↔ ∀ x ∈ l,x = 0:=by
 induction l with
 | nil => simp [fst0]
 | cons x l ih =>
  simp only [fst0,List.mem_cons,forall_eq_or_imp]
  split
  ·rename_i h;simp [h,ih]
  ·rename_i h;simp [h]
theorem Vb {n a b:Int}:rng n a b = 0 ↔ a ≤ n ∧ n ≤ b:=by unfold rng;split <;> omega
def goodC (c:Cyc):Prop:=(0 ≤ c.from_ ∧ c.from_ ≤ 39999) ∧ (0 ≤ c.to_ ∧ c.to_ ≤ 39999) ∧ (-32768 ≤ c.lo ∧ c.lo ≤ 32768) ∧ (-32768 ≤ c.hi ∧ c.hi ≤ 32768) ∧ c.from_ < c.to_ ∧ c.lo < c.hi
theorem QhP {c:Cyc}:errC c = 0 ↔ goodC c:=by
 unfold errC goodC
 rw [Y8]
 simp only [List.mem_cons,List.not_mem_nil,or_false,forall_eq_or_imp,forall_eq,Vb,ordC,Bool.or_eq_true,decide_eq_true_eq]
 constructor
 ·rintro ⟨h1,h2,h3,h4,h5⟩
  refine ⟨h1,h2,h3,h4,?_⟩
  split at h5 <;> omega
 ·rintro ⟨h1,h2,h3,h4,h5,h6⟩
  refine ⟨h1,h2,h3,h4,?_⟩
  rw [if_neg (by omega)]
theorem Qau {l:List Cyc}:QN l = 0 ↔ l.length ≤ 40000 ∧ ∀ c ∈ l,goodC c:=by
 unfold QN
 split
 ·constructor
  ·intro h;cases h
  ·intro h;omega
 ·rw [Y8]
  simp only [List.mem_map,forall_exists_index,and_imp,forall_apply_eq_imp_iff₂,QhP]
  constructor
  ·intro h;exact ⟨by omega,h⟩
  ·intro h;exact h.2
def goodR (r:Rev):Prop:=(0 ≤ r.at_ ∧ r.at_ ≤ 39999) ∧ (-32768 ≤ r.ld ∧ r.ld ≤ 32768)
def nextR (pp p:Option Rev) (r:Rev):Prop:=(∀ q,p = some q → q.at_ < r.at_ ∧ r.ld ≠ q.ld ∧ ∀ z,pp = some z → trn z.ld q.ld r.ld = true)
theorem QbX {pp p:Option Rev} {r:Rev}:errAt pp p r = 0 ↔ goodR r ∧ nextR pp p r:=by
 unfold errAt goodR nextR
 rw [Y8]
 simp only [List.mem_cons,List.not_mem_nil,or_false,forall_eq_or_imp,forall_eq,Vb]
 have e1:(if ordB p r = true then (11:Int) else 0) = 0 ↔ ∀ q,p = some q → q.at_ < r.at_:=by
  cases p with
  | none => simp [ordB]
  | some q => simp [ordB]
 have e2:(if shpB pp p r = true then (2:Int) else 0) = 0 ↔ ∀ q,p = some q → r.ld ≠ q.ld ∧ ∀ z,pp = some z → trn z.ld q.ld r.ld = true:=by
  cases p with
  | none => simp [shpB]
  | some q =>
   cases pp with
   | none => simp [shpB]
   | some z => simp [shpB]
 rw [e1,e2]
 constructor
 ·rintro ⟨h1,h2,h3,h4⟩
  exact ⟨⟨h1,h2⟩,fun q hq => ⟨h3 q hq,h4 q hq⟩⟩
 ·rintro ⟨⟨h1,h2⟩,h3⟩
  exact ⟨h1,h2,fun q hq => (h3 q hq).1,fun q hq => (h3 q hq).2⟩
def V1 (pp p:Option Rev):List Rev → Prop
 | [] => True
 | r :: rs => goodR r ∧ nextR pp p r ∧ V1 p (some r) rs
theorem QaV:∀ (l:List Rev) (pp p:Option Rev),QJ pp p l = 0 ↔ V1 pp p l
 | [],pp,p => by simp [QJ,V1]
 | r :: rs,pp,p => by
  simp only [QJ,V1]
  by_cases h:errAt pp p r = 0
  ·rw [if_pos h,QaV rs]
   have:=QbX.1 h
   exact ⟨fun k => ⟨this.1,this.2,k⟩,fun k => k.2.2⟩
  ·rw [if_neg h]
   exact ⟨fun k => absurd k h,fun k => absurd (QbX.2 ⟨k.1,k.2.1⟩) h⟩
theorem Vp {l:List Rev}:Qh l = 0 ↔ l.length ≤ 40000 ∧ V1 none none l:=by
 unfold Qh
 split
 ·constructor
  ·intro h;cases h
  ·intro h;omega
 ·rw [QaV]
  exact ⟨fun h => ⟨by omega,h⟩,fun h => h.2⟩
theorem Ve:∀ (l:List Rev) (pp p:Option Rev),V1 pp p l → ∀ r ∈ l,goodR r
 | [],_,_,_,r,hr => by cases hr
 | x :: xs,pp,p,h,r,hr => by
  rcases List.mem_cons.1 hr with rfl|hr
  ·exact h.1
  ·exact Ve xs _ _ h.2.2 r hr
theorem QeA {l:List Int}:(l.filter Zo).length = 0 ↔ ∀ x ∈ l,-32768 ≤ x ∧ x ≤ 32768:=by
 rw [List.length_eq_zero_iff,List.filter_eq_nil_iff]
 constructor
 ·intro h x hx
  have:=h x hx
  simp only [Zo,decide_eq_true_eq,Classical.not_not] at this
  exact Vb.1 this
 ·intro h x hx
  simp only [Zo,decide_eq_true_eq,Classical.not_not]
  exact Vb.2 (h x hx)
theorem Yr {l:List Int}:QI l = 0 ↔ l.length ≤ 40000 ∧ ∀ x ∈ l,-32768 ≤ x ∧ x ≤ 32768:=by
 unfold QI
 split
 ·constructor
  ·intro h;cases h
  ·intro h;omega
 ·rw [← QeA]
  split
  ·rename_i h;simp [h];omega
  ·rename_i h;simp [h]
end Go.Nac
namespace Go.Nac
def Q3 (l:List Cyc) (e:Int):Int × Int:=if fst0 [QN l,rng e 1 3] = 0 then mres (Vc e 1 (0,false) l) else (0,fst0 [QN l,rng e 1 3])
def JF (l:List Rev) (e:Int):Int × Int:=if fst0 [Qh l,rng e 1 3] = 0 then mres (VN e (0,false) l) else (0,fst0 [Qh l,rng e 1 3])
theorem Q4 {a b:Int} (h:fst0 [a,b] = 0):a = 0 ∧ b = 0:=by
 have:=(Y8 _).1 h
 exact ⟨this a (by simp),this b (by simp)⟩
end Go.Nac
