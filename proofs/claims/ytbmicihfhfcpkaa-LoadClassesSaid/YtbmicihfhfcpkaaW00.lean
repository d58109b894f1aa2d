/- A plain reading of loaded functions: values, memory as a list of blocks, and what code does to them. -/
import GoSem.Dispatch
import Derived.Attr
import Derived.AtR
import Derived.Laws.Cells
import Derived.Laws.World
import Derived.Maps.RangeRun
import Derived.Laws.StructEq
import Derived.Laws.Append
import Derived.ChangeKeysEq
import Derived.Laws.Rows
set_option linter.unusedVariables false
namespace Go.Nac
inductive PV where
 | top
 | s (v:Value)
 | agg (cs:List PV)
 | tup (vs:List PV)
 | fs (xs:List PV)
 | fp (cs:List PV)
 | os (i ver off len:Nat)
 | op (i ver e j:Nat)
 | om (i:Nat)
 | fn (f:Fn) (first cap:List PV)
 | yl (i:Nat)
 | nan (k:FloatKind)
 | oi (i:Nat)
 | bp (i ver:Nat) (T:TypeId)
 | ot (i ver len:Nat) (e:TypeId)
 | err
 deriving Inhabited
abbrev PV.I (n:Int):PV:=.s (.int .i64 n)
abbrev PV.B (b:Bool):PV:=.s (.bool b)
abbrev PV.nilS:PV:=.s (.slice none 0 0)
def PV.cells:PV → List PV
 | .agg cs => cs
 | .top => []
 | v => [v]
def oneB:PV → Bool
 | .top => false
 | .s (.agg _) => false
 | .s (.tuple _) => false
 | .agg _ => false
 | .tup _ => false
 | _ => true
def QX (k:Nat) (e:PV):Bool:=e.cells.length == k && e.cells.all oneB
def mkPV:Option Nat → List PV → Option PV
 | none,[c] => some c
 | none,_ => none
 | some k,cs => if cs.length = k then some (.agg cs) else none
class Env where
 glb:Nat → Option (List Value)
 mono:Prop
inductive CX where
 | t (n:Nat)
 | k (v:Value)
 | f (f:FuncId)
 | g (g:Nat) (cs:List Value)
 deriving Inhabited
abbrev CX.i (n:Int):CX:=.k (.int .i64 n)
def ev (t:List PV):CX → PV
 | .t n => t.getD n .top
 | .k v => .s v
 | .f f => .fn (.func f) [] []
 | .g _ cs => .fp (cs.map .s)
inductive SK where
 | int | str | bool | flt
 deriving DecidableEq,Inhabited
inductive SOp where
 | fbin (op:BinOp)
 | ff (k:FloatKind)
 | fi (k:IntKind)
 | itf (k:FloatKind)
 | fneg
 deriving Inhabited
inductive COp where
 | bad
 | mov (x:CX)
 | onil (k:Nat)
 | pick (c a b:CX)
 | alloc (g:Option Nat) (z:List Value)
 | box (own:Bool) (k:Nat) (x:CX)
 | build (z:List Value) (parts:List (Nat × Nat × CX))
 | bsl (own:Bool) (k:Nat) (xs:List CX)
 | load (g:Option Nat) (x:CX)
 | store (k:Nat) (a v:CX)
 | nilc (x:CX)
 | bin (op:BinOp) (x y:CX)
 | binb (op:BinOp) (x y:CX)
 | eqs (neg:Bool) (lay:List SK) (x y:CX)
 | un (op:UnOp) (x:CX)
 | conv (k:IntKind) (x:CX)
 | arrp (n:Nat) (x:CX)
 | mkfn (f:FuncId) (cap:List CX)
 | mkmap
 | mksl (k:Nat) (g:Option Nat) (z:List Value) (bytes:Nat) (len cap:CX)
 | slice (k:Nat) (x:CX) (lo hi:Option CX)
 | slstr (x:CX) (lo hi:Option CX)
 | faddr (off:Nat) (x:CX)
 | field (off:Nat) (g:Option Nat) (x:CX)
 | iaddr (k:Nat) (x i:CX)
 | iaddra (n k:Nat) (x i:CX)
 | idxs (x i:CX)
 | idxa (n k:Nat) (g:Option Nat) (x i:CX)
 | look (sk:SK) (z:Value) (ok:Bool) (m key:CX)
 | mupd (sk:SK) (m key v:CX)
 | ext (i:Nat) (x:CX)
 | len (x:CX)
 | lens (x:CX)
 | append (k bytes:Nat) (x y:CX)
 | copy (k:Nat) (x y:CX)
 | capn (x:CX)
 | appz (k:Nat) (g:Option Nat) (z:List Value) (bytes:Nat) (x n:CX)
 | max (x:CX) (xs:List CX)
 | min (x:CX) (xs:List CX)
 | call (loud:Bool) (f:CX ⊕ FuncId) (args:List CX)
 | fz (c:COp)
 | sop (o:SOp) (xs:List CX)
 | srng (x:CX)
 | snxt (x:CX)
 | arrsl (n:Nat) (x:CX)
 | isnil (neg:Bool) (x:CX)
 | b2s (x:CX)
 | s2b (own:Bool) (x:CX)
 | mark (x:CX)
 | mkbm (f:FuncId) (xs:List CX)
 | pcall (f:CX ⊕ FuncId) (args:List CX)
 | fcall (f:CX) (args:List CX)
 | balloc (T:TypeId) (z:List Value)
 | unty (x:CX)
 | tapp (e:TypeId) (bytes:Nat) (x y:CX)
 | usd (x:CX)
 | ustr (e:TypeId) (p n s:CX)
 | arrfz (n:Nat) (x:CX)
 | clr (k:Nat) (g:Option Nat) (z:List Value) (x:CX)
 | look2 (z:Value) (ok:Bool) (m key:CX)
 | mupd2 (m key v:CX)
 | mrng (x:CX)
 | ment (x:CX)
 deriving Inhabited
structure COper where
 dst:Option Nat
 op:COp
 guard:Option (Nat × Bool)
 deriving Inhabited
inductive CCode where
 | skip
 | region (ops:List COper)
 | seq (a b:CCode)
 | cond (c:CX) (a b:CCode)
 | block (id:Nat) (c:CCode)
 | scope (c:CCode)
 | loop (c:CCode)
 | rangeFunc (f:CX) (params:List Nat) (assign body:CCode)
 | exit (id:Nat)
 | goto (l:Nat)
 | label (l:Nat)
 | ret
 | forget (ts:List Nat)
 | frz (t:Nat)
 | keep (ts:List Nat)
 | fix (t:Nat)
 | own (t j k:Nat)
 | holes (k:Nat)
 | regionD (ops:List (COper × Option Nat)) (pairs:List (Nat × Nat))
 | mnext (d x:Nat) (ops:List COper)
 | cut
 | bad
 deriving Inhabited
inductive Ex where
 | normal
 | exit (id:Nat)
 | goto (l:Nat)
 | ret
inductive Iter where
 | str (s:ByteArray) (pos:Nat)
 | mp (left:List (Value × Value)) (cur:Option (Value × Value))
 deriving Inhabited
inductive Blk where
 | row (wr:Bool) (k ver:Nat) (xs:List PV)
 | map (es:List (Value × Value))
 | loop (state:LoopState) (pend:Option Ex) (tmps:List PV) (params:List Nat) (assign body:CCode)
 | siter (it:Iter)
 deriving Inhabited
inductive Callee where
 | fn (f:FuncId)
 | yl (i:Nat)
abbrev CallR:=Callee → List PV → (List Blk) → PV → (List Blk) → Prop
structure CFunc where
 nparams:Nat
 ntmps:Nat
 results : List (Nat × Option (Option Nat))   -- a temporary; or a cell behind one
 body:CCode
 hands : Bool := false   -- the row that it hands out is its caller's to write
 deriving Inhabited
def VD (op:BinOp) (k:IntKind) (a b:Int):Option Value :=
 match op with
 | .add => some (.int k (k.wrap (a + b)))
 | .sub => some (.int k (k.wrap (a - b)))
 | .mul => some (.int k (k.wrap (a * b)))
 | .quo => if b = 0 then none else some (.int k (k.wrap (a.tdiv b)))
 | .rem => if b = 0 then none else some (.int k (a.tmod b))
 | .eql => some (.bool (a == b))
 | .neq => some (.bool (a != b))
 | .lss => some (.bool (a < b))
 | .leq => some (.bool (a ≤ b))
 | .gtr => some (.bool (a > b))
 | .geq => some (.bool (a ≥ b))
 | .and => some (.int k (k.wrap ((BitVec.ofInt k.bits a &&& BitVec.ofInt k.bits b).toNat:Nat)))
 | .or => some (.int k (k.wrap ((BitVec.ofInt k.bits a ||| BitVec.ofInt k.bits b).toNat:Nat)))
 | .xor => some (.int k (k.wrap ((BitVec.ofInt k.bits a ^^^ BitVec.ofInt k.bits b).toNat:Nat)))
 | _ => none
def shInt (op:BinOp) (k:IntKind) (a b:Int):Option Value :=
 match op with
 | .shl => if b < 0 then none else some (.int k (k.wrap (a * 2 ^ (min b.toNat k.bits))))
 | .shr => if b < 0 then none else some (.int k (a.fdiv (2 ^ (min b.toNat k.bits))))
 | _ => none
def isSh (op:BinOp):Bool :=
 match op with
 | .shl => true
 | .shr => true
 | _ => false
def Qbm (op:BinOp) (x y:ByteArray):Option Value :=
 match op with
 | .add => if x.size + y.size ≤ 2 ^ 40 then some (.string (x ++ y)) else none
 | .eql => some (.bool (x.toList == y.toList))
 | .neq => some (.bool (!(x.toList == y.toList)))
 | .lss => some (.bool (Op.bytesLess x.toList y.toList))
 | .leq => some (.bool (Op.bytesLess x.toList y.toList || x.toList == y.toList))
 | .gtr => some (.bool (!(Op.bytesLess x.toList y.toList || x.toList == y.toList)))
 | .geq => some (.bool (!(Op.bytesLess x.toList y.toList)))
 | _ => none
def QaB (op:BinOp) (x y:Bool):Option Value :=
 match op with
 | .eql => some (.bool (x == y))
 | .neq => some (.bool (!(x == y)))
 | _ => none
def VK:Value → Value → Option Bool
 | .int k a,.int k' b => if k = k' then some (a == b) else none
 | .bool a,.bool b => some (a == b)
 | .string a,.string b => some (a == b)
 | _,_ => none
def eqSK:SK → Value → Value → Option Bool
 | .int,.int k a,.int k' b => if k = k' then some (a == b) else none
 | .bool,.bool a,.bool b => some (a == b)
 | .str,.string a,.string b => some (a == b)
 | .flt,.float k a,.float k' b => if k = k' then some (k.format.order a b == some .eq) else none
 | _,_,_ => none
def QL:List SK → List PV → List PV → Option Bool
 | [],[],[] => some true
 | k :: ks,.s x :: xs,.s y :: ys => do
  let a ← eqSK k x y
  let b ← QL ks xs ys
  pure (a && b)
 | _,_,_ => none
def bin (op:BinOp):PV → PV → Option PV
 | .s (.int k a),.s (.int k' b) => if isSh op = true then (shInt op k a b).map .s else if k = k' then (VD op k a b).map .s else none
 | .s (.string a),.s (.string b) => (Qbm op a b).map .s
 | _,_ => none
def binb (op:BinOp):PV → PV → Option PV
 | .s (.bool a),.s (.bool b) => (QaB op a b).map .s
 | _,_ => none
def un (op:UnOp):PV → Option PV
 | .s (.int k n) => match op with | .neg => some (.s (.int k (k.wrap (0 - n)))) | _ => none
 | .s (.bool b) => match op with | .not => some (.B (!b)) | _ => none
 | _ => none
def conv (k:IntKind):PV → Option PV
 | .s (.int _ n) => some (.s (.int k (k.wrap n)))
 | _ => none
def Zv (op:BinOp) (k:FloatKind) (x y:Nat):Option (Option Nat) :=
 match op with
 | .add => some (k.format.add x y)
 | .sub => some (k.format.sub x y)
 | .mul => some (k.format.mul x y)
 | .quo => some (k.format.div x y)
 | _ => none
def fCmp (op:BinOp) (c:Option Ordering):Option Bool :=
 match op with
 | .eql => some (c == some .eq)
 | .neq => some (c != some .eq)
 | .lss => some (c == some .lt)
 | .leq => some (c == some .lt || c == some .eq)
 | .gtr => some (c == some .gt)
 | .geq => some (c == some .gt || c == some .eq)
 | _ => none
def fKind:PV → Option FloatKind
 | .s (.float k _) => some k
 | .nan k => some k
 | _ => none
def sopV:SOp → List PV → Option PV
 | .fbin op,[x,y] =>
  match x,y with
  | .s (.float k a),.s (.float k' b) =>
   if k = k' then
    match Zv op k a b with
    | some (some r) => some (.s (.float k r))
    | some none => some (.nan k)
    | none => (fCmp op (k.format.order a b)).map .B
   else none
  | x,y =>
   match fKind x,fKind y with
   | some k,some k' => if k = k' then (if (Zv op k 0 0).isSome then some (.nan k) else (fCmp op none).map .B) else none
   | _,_ => none
 | .ff d,[.s (.float k b)] =>
  if k = d then some (.s (.float d b)) else
  match k.decode b with
  | .nan _ _ => some (.nan d)
  | .infinity s => some (.s (.float d (d.encode (.infinity s))))
  | .number s m e => if (d.decode (d.encode (.number s m e))).isInfinity then none else some (.s (.float d (d.encode (.number s m e))))
 | .ff d,[.nan k] => some (.nan d)
 | .fi d,[.s (.float k b)] =>
  match (k.decode b).toInt .zero with
  | some n => if d.min ≤ n ∧ n ≤ d.max then some (.s (.int d n)) else none
  | none => none
 | .itf d,[.s (.int _ n)] => some (.s (.float d (d.nearest n)))
 | _,_ => none
def setRange (cs:List PV) (off:Nat) (vs:List PV):List PV:=cs.take off ++ vs ++ cs.drop (off + vs.length)
def Zt (M:(List Blk)) (i ver e j n:Nat):Option (List PV) :=
 match M[i]? with
 | some (.row _ _ v xs) =>
  if v = ver then
   match xs[e]? with
   | some x => if j + n ≤ x.cells.length then some ((x.cells.drop j).take n) else
     if j + n ≤ ((xs.drop e).flatMap PV.cells).length then some ((((xs.drop e).flatMap PV.cells).drop j).take n) else none
   | none => none
  else none
 | _ => none
def Vd (M:(List Blk)) (i ver e j:Nat) (vs:List PV):Option (List Blk) :=
  match M[i]? with
  | some (.row true k v xs) =>
    if v = ver then
      match xs[e]? with
      | some x => if j + vs.length ≤ x.cells.length ∧ vs.all oneB then
          (match x with
           | .agg cs => some (M.set i (.row true k v (xs.set e (.agg (setRange cs j vs)))))
           | _ => match vs with
             | [y] => match y with
               | .agg _ => none
               | y => some (M.set i (.row true k v (xs.set e y)))
             | _ => none)
          else none
      | none => none
    else none
  | _ => none
def Vh (M:List Blk) (g:Option Nat):PV → Option PV
 | .fp cs => mkPV g (cs.take (g.getD 1))
 | .op i ver e j => (Zt M i ver e j (g.getD 1)).bind fun cs => mkPV g cs
 | _ => none
def QT (M:List Blk) (i ver:Nat):Bool :=
 match M[i]? with
 | some (.row _ _ v _) => v == ver
 | _ => false
def QH (b:ByteArray):List PV:=b.data.toList.map fun u => .s (.int .u8 u.toNat)
def strOf:List PV → Option ByteArray
 | [] => some ⟨#[]⟩
 | .s (.int .u8 n) :: r => (strOf r).map fun s => ⟨(UInt8.ofNat n.toNat :: s.data.toList).toArray⟩
 | _ => none
def QbH (M:List Blk) (i ver:Nat):Bool :=
 match M[i]? with
 | some (.row true _ v _) => v == ver
 | _ => false
def held (M:(List Blk)):PV → Option (List PV)
 | .fs xs => some xs
 | .s (.slice none 0 0) => some []
 | .s (.string b) => some (QH b)
 | .os i ver off len =>
  match M[i]? with
  | some (.row _ _ v xs) => if v = ver ∧ off + len ≤ xs.length then some ((xs.drop off).take len) else none
  | _ => none
 | _ => none
def lenOf:PV → Option Nat
 | .fs xs => some xs.length
 | .s (.slice none 0 0) => some 0
 | .os _ _ _ len => some len
 | .ot _ _ len _ => some len
 | _ => none
def view1 (M:(List Blk)):PV → PV
 | .os i ver off len =>
  match M[i]? with
  | some (.row false _ v xs) => if v = ver ∧ off + len ≤ xs.length then .fs ((xs.drop off).take len) else .os i ver off len
  | _ => .os i ver off len
 | .s (.slice none 0 0) => .fs []
 | v => v
def view (M:(List Blk)):PV → PV
 | .agg cs => .agg (cs.map (view1 M))
 | v => view1 M v
def out1 (n:Nat) (M:(List Blk)):PV → PV
 | .os i ver off len =>
  if n ≤ i then
   match held M (.os i ver off len) with
   | some xs => .fs xs
   | none => .top
  else view1 M (.os i ver off len)
 | .s (.slice none 0 0) => .fs []
 | v => v
def outV (n:Nat) (M:(List Blk)):PV → PV
 | .agg cs => .agg (cs.map (out1 n M))
 | v => out1 n M v
mutual
def PV.low (n:Nat):PV → Prop
 | .top => True
 | .s _ => True
 | .agg cs => lowL n cs
 | .tup cs => lowL n cs
 | .fs cs => lowL n cs
 | .fp cs => lowL n cs
 | .os i _ _ _ => i < n
 | .op i _ _ _ => i < n
 | .om i => i < n
 | .fn _ a b => lowL n a ∧ lowL n b
 | .yl i => i < n
 | .nan _ => True
 | .err => True
 | .oi i => i < n
 | .bp i _ _ => i < n
 | .ot i _ _ _ => i < n
def lowL (n:Nat):List PV → Prop
 | [] => True
 | x :: xs => x.low n ∧ lowL n xs
end
def Blk.low (n:Nat):Blk → Prop
 | .row _ _ _ xs => lowL n xs
 | .map _ => True
 | .loop _ _ ts _ _ _ => lowL n ts
 | .siter _ => True
def lowM (n:Nat) (M:(List Blk)):Prop:=∀ b ∈ M,b.low n
def freeze (M:(List Blk)) (i:Nat):Option (List Blk) :=
 match M[i]? with
 | some (.row _ k v xs) => some (M.set i (.row false k v xs))
 | _ => none
def QF (M:(List Blk)):List PV → Option (List Blk)
 | [] => some M
 | .os i _ _ _ :: r => (freeze M i).bind fun M => QF M r
 | _ :: r => QF M r
def asNat:PV → Option Nat
 | .s (.int _ n) => if 0 ≤ n then some n.toNat else none
 | _ => none
def hiN (len:Nat):Option PV → Option Nat
 | none => some len
 | some v => asNat v
def loN:Option PV → Option Nat
 | none => some 0
 | some v => asNat v
def bounds (len:Nat) (lo hi:Option PV):Option (Nat × Nat) :=
 (hiN len hi).bind fun h => (loN lo).bind fun l => if l ≤ h ∧ h ≤ len then some (l,h) else none
def sized (k:Nat) (xs:List PV):Bool:=xs.all fun x => x.cells.length == k
def rowK (M:List Blk) (i:Nat):Nat :=
 match M[i]? with
 | some (.row _ k _ _) => k
 | _ => 0
def QbK:Value → Bool
 | .int _ _ => true
 | _ => false
def keyOk:SK → Value → Bool
 | .int,.int _ _ => true
 | .str,.string _ => true
 | .bool,.bool _ => true
 | _,_ => false
def Ve (a b:Value):Bool:=(VK a b).getD false
def find (k:Value):List (Value × Value) → Option Value
 | [] => none
 | (a,v) :: r => if Ve k a then some v else find k r
def upd (k v:Value):List (Value × Value) → List (Value × Value)
 | [] => [(k,v)]
 | (a,u) :: r => if Ve k a then (k,v) :: r else (a,u) :: upd k v r
def Q7 (k:Value) (es:List (Value × Value)):Bool:=es.all fun e => (VK k e.1).isSome
def put (t:List PV) (dst:Option Nat) (v:PV):List PV :=
 match dst with|some d => t.set d v|none => t
def unit:PV:=.s (.tuple #[])
def Q5 (cs:List PV):List (Nat × Nat × PV) → Option (List PV)
 | [] => some cs
 | (off,size,v) :: r => if v.cells.length = size ∧ size ≠ 0 ∧ off + size ≤ cs.length then Q5 (setRange cs off v.cells) r else none
def kpv (q:Int × Int):Value:=.agg #[.int .i64 q.1,.int .i64 q.2]
def pairK:Value → Option (Int × Int)
 | .agg ⟨[.int .i64 a,.int .i64 b]⟩ => some (a,b)
 | _ => none
def find2 (q:Int × Int):List (Value × Value) → Option Value
 | [] => none
 | (a,v) :: r => if pairK a = some q then some v else find2 q r
def upd2 (q:Int × Int) (v:Value):List (Value × Value) → List (Value × Value)
 | [] => [(kpv q,v)]
 | (a,u) :: r => if pairK a = some q then (kpv q,v) :: r else (a,u) :: upd2 q v r
def keys2 (es:List (Value × Value)):Bool:=es.all fun e => (pairK e.1).isSome
def pickV:PV → PV → PV → Option PV
 | .s (.bool b),x,y => some (if b then x else y)
 | _,_,_ => none
def fMaxB (k:FloatKind) (x y:Nat):Option Nat :=
 match k.format.order x y with
 | none => none
 | some .lt => some y
 | some .gt => some x
 | some .eq => some (if (k.decode x).neg then y else x)
def fMinB (k:FloatKind) (x y:Nat):Option Nat :=
 match k.format.order x y with
 | none => none
 | some .lt => some x
 | some .gt => some y
 | some .eq => some (if (k.decode x).neg then x else y)
def maxI:PV → PV → Option PV
 | .s (.int k a),.s (.int k' b) => if k = k' then some (.s (.int k (if b > a then b else a))) else none
 | .s (.float k a),.s (.float _ b) => (fMaxB k a b).map fun c => .s (.float k c)
 | _,_ => none
def minI:PV → PV → Option PV
 | .s (.int k a),.s (.int k' b) => if k = k' then some (.s (.int k (if b < a then b else a))) else none
 | .s (.float k a),.s (.float _ b) => (fMinB k a b).map fun c => .s (.float k c)
 | _,_ => none
def foldO (f:PV → PV → Option PV):PV → List PV → Option PV
 | x,[] => some x
 | x,y :: r => (f x y).bind fun z => foldO f z r
def QbN (n:Nat):PV → Option PV
 | .fp cs => if n ≤ cs.length ∧ 0 < n ∧ (cs.take n).all oneB = true then some (.fs (cs.take n)) else none
 | _ => none
def Yf:PV → Bool
 | .s (.int .u8 n) => decide (0 ≤ n) && decide (n < 256)
 | _ => false
def isS:PV → Bool
 | .s v => oneB (.s v)
 | _ => false
def res (M:(List Blk)) (ρ:CX → PV):COp → Option (PV × (List Blk))
  | .bad => none
  | .mov x => some (ρ x,M)
  | .onil k => some (.os M.length 0 0 0,M ++ [.row true k 0 []])
  | .pick c a b => (pickV (ρ c) (ρ a) (ρ b)).map (·,M)
  | .alloc g z => (mkPV g (z.map .s)).map fun e => (.op M.length 0 0 0,M ++ [.row true z.length 0 [e]])
  | .box own k x =>
    if (ρ x).cells.length = k ∧ k ≠ 0 then
      if own then some (.op M.length 0 0 0,M ++ [.row true k 0 [ρ x]]) else some (.fp (view M (ρ x)).cells,M)
    else none
  | .build z parts => (Q5 (z.map .s) (parts.map fun p => (p.1,p.2.1,ρ p.2.2))).map fun cs => (.agg cs,M)
  | .bsl own k xs =>
    if (xs.map ρ).all (fun x => x.cells.length = k) ∧ k ≠ 0 then
      if own then some (.os M.length 0 0 xs.length,M ++ [.row true k 0 (xs.map ρ)]) else some (.fs (xs.map fun x => view M (ρ x)),M)
    else none
  | .load g x => (Vh M g (ρ x)).map (·,M)
  | .store k a v =>
    match ρ a with
    | .op i ver e j => if (ρ v).cells.length = k ∧ k ≠ 0 then (Vd M i ver e j (ρ v).cells).map (unit,·) else none
    | _ => none
  | .nilc x =>
    match ρ x with
    | .fp cs => some (.fp cs,M)
    | .op i ver e j => if QT M i ver then some (.op i ver e j,M) else none
    | .fn (.func f) a b => some (.fn (.func f) a b,M)
    | _ => none
  | .bin op x y => (bin op (ρ x) (ρ y)).map (·,M)
  | .binb op x y => (binb op (ρ x) (ρ y)).map (·,M)
  | .eqs neg lay x y =>
    match ρ x,ρ y with
    | .agg xs,.agg ys => (QL lay xs ys).map fun b => (.B (if neg then !b else b),M)
    | _,_ => none
  | .un op x => (un op (ρ x)).map (·,M)
  | .conv k x => (conv k (ρ x)).map (·,M)
  | .arrp n x =>
    match ρ x with
    | .fs xs => if n ≤ xs.length ∧ 0 < n then some (.fp ((xs.take n).flatMap PV.cells),M) else none
    | .os i ver off len => if n ≤ len ∧ 0 < n then (held M (.os i ver off len)).map fun _ => (.op i ver off 0,M) else none
    | _ => none
  | .mkfn f cap => some (.fn (.func f) [] (cap.map ρ),M)
  | .mkmap => some (.om M.length,M ++ [.map []])
  | .mksl k g z bytes len cap =>
    match ρ len,ρ cap with
    | .s (.int .i64 l),.s (.int .i64 c) =>
      if 0 ≤ l ∧ l = c ∧ l ≤ 2 ^ 20 ∧ bytes ≤ 2 ^ 20 ∧ z.length = k ∧ 0 < k then
        (mkPV g (z.map .s)).map fun e => (.os M.length 0 0 l.toNat,M ++ [.row true k 0 (List.replicate l.toNat e)])
      else none
    | _,_ => none
  | .slice k x lo hi =>
    match ρ x with
    | .fs xs => if sized k xs then (bounds xs.length (lo.map ρ) (hi.map ρ)).map fun b => (.fs ((xs.drop b.1).take (b.2 - b.1)),M) else none
    | .s (.slice none 0 0) => (bounds 0 (lo.map ρ) (hi.map ρ)).map fun _ => (PV.nilS,M)
    | .os i ver off len => if QT M i ver ∧ rowK M i = k then (bounds len (lo.map ρ) (hi.map ρ)).map fun b => (.os i ver (off + b.1) (b.2 - b.1),M) else none
    | _ => none
  | .slstr x lo hi =>
    match ρ x with
    | .s (.string b) => (bounds b.size (lo.map ρ) (hi.map ρ)).map fun p => (.s (.string (b.extract p.1 p.2)),M)
    | _ => none
  | .faddr off x =>
    match ρ x with
    | .fp cs => if off ≤ cs.length then some (.fp (cs.drop off),M) else none
    | .op i ver e j => if QT M i ver then some (.op i ver e (j + off),M) else none
    | _ => none
  | .field off g x =>
    match ρ x with
    | .agg cs => (mkPV g ((cs.drop off).take (g.getD 1))).map (·,M)
    | _ => none
  | .iaddr k x i =>
    match ρ x,asNat (ρ i) with
    | .fs xs,some n => match xs[n]? with | some y => if y.cells.length = k then some (.fp y.cells,M) else none | none => none
    | .os a ver off len,some n => if n < len then (match M[a]? with
        | some (.row _ k' v xs) => if v = ver ∧ k' = k ∧ off + len ≤ xs.length then some (.op a ver (off + n) 0,M) else none
        | _ => none) else none
    | _,_ => none
  | .iaddra n k x i =>
    match ρ x,asNat (ρ i) with
    | .fp cs,some m => if m < n ∧ n * k ≤ cs.length then some (.fp ((cs.drop (m * k)).take k),M) else none
    | .op a ver e j,some m => if m < n ∧ QT M a ver then some (.op a ver e (j + m * k),M) else none
    | _,_ => none
  | .idxs x i =>
    match ρ x,asNat (ρ i) with
    | .s (.string b),some n => (b[n]?).map fun c => (.s (.int .u8 c.toNat),M)
    | _,_ => none
  | .idxa n k g x i =>
    match ρ x,asNat (ρ i) with
    | .agg cs,some m => if m < n then (mkPV g ((cs.drop (m * k)).take (g.getD 1))).map (·,M) else none
    | _,_ => none
  | .look sk z ok m key =>
    match ρ m,ρ key with
    | .om i,.s q => match M[i]? with
      | some (.map es) => if keyOk sk q ∧ Q7 q es then
          (match find q es with
           | some v => some (if ok then .tup [.s v,.B true] else .s v,M)
           | none => some (if ok then .tup [.s z,.B false] else .s z,M))
          else none
      | _ => none
    | _,_ => none
  | .mupd sk m key v =>
    match ρ m,ρ key,ρ v with
    | .om i,.s q,.s u => match M[i]? with
      | some (.map es) => if keyOk sk q ∧ Q7 q es then some (unit,M.set i (.map (upd q u es))) else none
      | _ => none
    | _,_,_ => none
  | .ext i x =>
    match ρ x with
    | .tup vs => (vs[i]?).map (·,M)
    | _ => none
  | .len x => (lenOf (ρ x)).map fun (n:Nat) => (.I (n:Int),M)
  | .lens x =>
    match ρ x with
    | .s (.string b) => some (.I (b.size:Int),M)
    | _ => none
  | .append k bytes x y =>
    match held M (ρ y) with
    | some ys =>
      if ys.all (QX k) ∧ k ≠ 0 ∧ bytes ≤ 2 ^ 20 then
        match ρ x with
        | .s (.slice none 0 0) => if ys.length ≤ 2 ^ 20 then some (.os M.length 0 0 ys.length,M ++ [.row true k 0 ys]) else none
        | .os i ver off len => match M[i]? with
          | some (.row true k' v xs) =>
            if v = ver ∧ k' = k ∧ off + len ≤ xs.length ∧ len + ys.length ≤ 2 ^ 20 then
              some (.os i (ver + 1) 0 (len + ys.length),M.set i (.row true k (ver + 1) ((xs.drop off).take len ++ ys)))
            else none
          | _ => none
        | _ => none
      else none
    | none => none
  | .copy k x y =>
    match ρ x,held M (ρ y) with
    | .os i ver off len,some ys => match M[i]? with
      | some (.row true k' v xs) =>
        if v = ver ∧ k' = k ∧ off + len ≤ xs.length ∧ ys.all (QX k) ∧ k ≠ 0 then
          some (.I ((Nat.min ys.length len:Nat):Int),M.set i (.row true k ver (setRange xs off (ys.take len))))
        else none
      | _ => none
    | _,_ => none
  | .capn x =>
    match ρ x with
    | .s (.slice none 0 0) => some (.I 0,M)
    | _ => none
  | .appz k g z bytes x n =>
    match ρ x,ρ n with
    | .s (.slice none 0 0),.s (.int .i64 l) =>
      if 0 < l ∧ l ≤ 2 ^ 20 ∧ bytes ≤ 2 ^ 20 ∧ z.length = k ∧ 0 < k then
        (mkPV g (z.map .s)).map fun e => (.os M.length 0 0 l.toNat,M ++ [.row true k 0 (List.replicate l.toNat e)])
      else none
    | _,_ => none
  | .max x xs => (foldO maxI (ρ x) (xs.map ρ)).map (·,M)
  | .min x xs => (foldO minI (ρ x) (xs.map ρ)).map (·,M)
  | .call _ _ _ => none
  | .fz _ => none
  | .sop o xs => (sopV o (xs.map ρ)).map (·,M)
  | .srng x =>
    match ρ x with
    | .s (.string b) => some (.oi M.length,M ++ [.siter (.str b 0)])
    | _ => none
  | .snxt x =>
    match ρ x with
    | .oi i => match M[i]? with
      | some (.siter (.str s pos)) =>
        if pos < s.size then some (.tup [.B true,.I (pos:Int),.s (.int .i32 (Utf8.decode s pos).1)],M.set i (.siter (.str s (pos + (Utf8.decode s pos).2))))
        else some (.tup [.B false],M)
      | _ => none
    | _ => none
  | .arrsl n x => (QbN n (ρ x)).map (·,M)
  | .isnil neg x =>
    match ρ x with
    | .err => some (.B neg,M)
    | .s .nilIface => some (.B (!neg),M)
    | _ => none
  | .b2s x =>
    match ρ x with
    | .s (.string _) => none
    | p => ((held M p).bind strOf).map fun s => (.s (.string s),M)
  | .s2b own x =>
    match ρ x with
    | .s (.string b) => if own then some (.os M.length 0 0 b.size,M ++ [.row true 1 0 (QH b)]) else some (.fs (QH b),M)
    | _ => none
  | .mark x =>
    match ρ x with
    | .os i ver off len => if QbH M i ver = true ∧ 0 < len then some (.os i ver off len,M) else none
    | _ => none
  | .mkbm f xs => some (.fn (.func f) (xs.map ρ) [],M)
  | .pcall _ _ => none
  | .fcall _ _ => none
  | .balloc T z => some (.bp M.length 0 T,M ++ [.row true z.length 0 [.agg (z.map .s)]])
  | .unty x =>
    match ρ x with
    | .bp i ver _ => if QT M i ver then some (.op i ver 0 0,M) else none
    | _ => none
  | .tapp e bytes x y =>
    match held M (ρ y) with
    | some ys =>
      if ys.all (QX 1) ∧ 0 < ys.length ∧ bytes ≤ 2 ^ 20 then
        match ρ x with
        | .s (.slice none 0 0) => if ys.length ≤ 2 ^ 20 then some (.ot M.length 0 ys.length e,M ++ [.row true 1 0 ys]) else none
        | .ot i ver len e' => match M[i]? with
          | some (.row true k' v xs) =>
            if v = ver ∧ k' = 1 ∧ len ≤ xs.length ∧ len + ys.length ≤ 2 ^ 20 ∧ e' = e then
              some (.ot i (ver + 1) (len + ys.length) e,M.set i (.row true 1 (ver + 1) (xs.take len ++ ys)))
            else none
          | _ => none
        | _ => none
      else none
    | none => none
  | .usd x =>
    match ρ x with
    | .s (.slice none 0 0) => some (.s (.pointer none),M)
    | .ot i ver len _ => if QT M i ver then some (.op i ver 0 0,M) else none
    | _ => none
  | .ustr e p n s =>
    match ρ p,ρ n,ρ s with
    | .s (.pointer none),.s (.int .i64 0),_ => some (.s (.string ⟨#[]⟩),M)
    | .op i ver 0 0,.s (.int .i64 l),.ot i' ver' len e' => match M[i]? with
      | some (.row true k v xs) =>
        if i = i' ∧ ver = ver' ∧ e = e' ∧ l = len ∧ v = ver ∧ k = 1 ∧ len ≤ xs.length ∧ len ≤ 2 ^ 24 ∧ (xs.take len).all Yf = true then
          (strOf (xs.take len)).map fun s => (.s (.string s),M.set i (.row false 1 (ver + 1) []))
        else none
      | _ => none
    | _,_,_ => none
  | .arrfz n x =>
    match ρ x with
    | .op i ver e 0 => match M[i]? with
      | some (.row true k v xs) =>
        if v = ver ∧ k = n ∧ 0 < n then
          match xs[e]? with
          | some (.agg cs) => if cs.all isS then some (.fs cs,M.set i (.row false k v xs)) else none
          | _ => none
        else none
      | _ => none
    | _ => none
  | .clr k g z x =>
    match ρ x with
    | .fs [] => some (unit,M)
    | .s (.slice none 0 0) => some (unit,M)
    | .os i ver off len => match M[i]? with
      | some (.row true k' v xs) =>
        if v = ver ∧ k' = k ∧ off + len ≤ xs.length ∧ 0 < k then
          (mkPV g (z.map .s)).bind fun e => if e.cells.length = k ∧ e.cells.all oneB = true then some (unit,M.set i (.row true k ver (setRange xs off (List.replicate len e)))) else none
        else none
      | _ => none
    | _ => none
  | .look2 z ok m key =>
    match ρ m,ρ key with
    | .om i,.agg [.s (.int .i64 a),.s (.int .i64 b)] => match M[i]? with
      | some (.map es) => if keys2 es then some ((if ok then .tup [.s ((find2 (a,b) es).getD z),.B (find2 (a,b) es).isSome] else .s ((find2 (a,b) es).getD z)),M) else none
      | _ => none
    | _,_ => none
  | .mupd2 m key v =>
    match ρ m,ρ key,ρ v with
    | .om i,.agg [.s (.int .i64 a),.s (.int .i64 b)],.s u => match M[i]? with
      | some (.map es) => if keys2 es then some (unit,M.set i (.map (upd2 (a,b) u es))) else none
      | _ => none
    | _,_,_ => none
  | .mrng x =>
    match ρ x with
    | .om i => match M[i]? with
      | some (.map es) => if es.all (fun e => QbK e.1) then some (.oi i,M.set i (.siter (.mp es none))) else none
      | _ => none
    | _ => none
  | .ment x =>
    match ρ x with
    | .oi i => match M[i]? with
      | some (.siter (.mp _ (some e))) => some (.tup [.s e.1,.s e.2],M)
      | _ => none
    | _ => none
def argV (M:List Blk) (ρ:CX → PV):CX → PV
 | .k v => .s v
 | x => view M (ρ x)
def refs1:PV → List Nat
 | .os i _ _ _ => [i]
 | .op i _ _ _ => [i]
 | .om i => [i]
 | .oi i => [i]
 | .bp i _ _ => [i]
 | .ot i _ _ _ => [i]
 | _ => []
def refs:PV → List Nat
 | .agg cs => cs.flatMap refs1
 | v => refs1 v
def Qaq:PV → List Nat
 | .fn _ first cap => (first ++ cap).flatMap refs
 | _ => []
def QbS (C:CallR) (fv:PV) (args:List PV) (N:List Blk) (v:PV) (N':List Blk):Prop :=
 match fv with
 | .fn (.func g) first cap => C (.fn g) (first ++ args ++ cap) N v N'
 | _ => False
def Res (C:CallR) (o:COp) (M:(List Blk)) (ρ:CX → PV) (v:PV) (M':(List Blk)):Prop :=
 match o with
 | .call loud f args => (loud = false → M' = M) ∧
  match f with
  | .inr g => C (.fn g) (args.map (argV M ρ)) M v M'
  | .inl x => match ρ x with
   | .fn (.func g) first cap => C (.fn g) (first ++ args.map (argV M ρ) ++ cap) M v M'
   | .yl i => C (.yl i) (args.map (argV M ρ)) M v M'
   | _ => False
 | .pcall f args => M' = M ∧ lowL 0 (args.map (argV [] ρ)) ∧ ∀ N,
  match f with
  | .inr g => C (.fn g) (args.map (argV [] ρ)) N v N
  | .inl x => match ρ x with
   | .fn (.func g) first cap => lowL 0 first ∧ lowL 0 cap ∧ C (.fn g) (first ++ args.map (argV [] ρ) ++ cap) N v N
   | _ => False
 | .fcall f args => ∃ i b,Qaq (ρ f) = [i] ∧ M' = M.set i b ∧ lowL 0 (args.map (argV [] ρ)) ∧ ∀ N:List Blk,N.length = M.length → N[i]? = M[i]? →
  QbS C (ρ f) (args.map (argV [] ρ)) N v (N.set i b)
 | .fz c => ∃ v0 M1,res M ρ c = some (v0,M1) ∧ QF M1 v0.cells = some M' ∧ v = view M' v0
 | o => res M ρ o = some (v,M')
def wanted:PV → Bool → Option Bool
 | .s (.bool b),want => some (b == want)
 | .s (.tuple _),_ => some false
 | _,_ => none
def wpOp (C:CallR) (o:COper) (K:(List Blk) → List PV → Prop) (M:(List Blk)) (t:List PV):Prop :=
 match o.guard with
 | none => ∃ v M',Res C o.op M (ev t) v M' ∧ K M' (put t o.dst v)
 | some (g,want) => ∃ b,wanted (t.getD g .top) want = some b ∧
   (if b = true then ∃ v M',Res C o.op M (ev t) v M' ∧ K M' (put t o.dst v) else K M (put t o.dst unit))
def wpOps (C:CallR):List COper → ((List Blk) → List PV → Prop) → (List Blk) → List PV → Prop
 | [],K,M,t => K M t
 | o :: os,K,M,t => wpOp C o (wpOps C os K) M t
def hole:Blk:=.row false 0 0 []
def VH (ρ:CX → PV):COp → Option (Bool × Nat × List PV)
 | .alloc g z => (mkPV g (z.map .s)).map fun e => (true,z.length,[e])
 | .box own k x => if own = true ∧ (ρ x).cells.length = k ∧ k ≠ 0 then some (true,k,[ρ x]) else none
 | .bsl own k xs => if own = true ∧ (xs.map ρ).all (fun x => x.cells.length = k) ∧ k ≠ 0 then some (false,k,xs.map ρ) else none
 | .onil k => some (false,k,[])
 | _ => none
def fpOp (ρ:CX → PV):COp → Option (List Nat × List Nat)
 | .load _ x => some (refs (ρ x),[])
 | .nilc x => some (refs (ρ x),[])
 | .arrp _ x => some (refs (ρ x),[])
 | .slice _ x _ _ => some (refs (ρ x),[])
 | .b2s x => some (refs (ρ x),[])
 | .faddr _ x => some (refs (ρ x),[])
 | .iaddr _ x _ => some (refs (ρ x),[])
 | .iaddra _ _ x _ => some (refs (ρ x),[])
 | .look _ _ _ m _ => some (refs (ρ m),[])
 | .box own _ x => if own then none else some (refs (ρ x),[])
 | .bsl own _ xs => if own then none else some (xs.flatMap fun x => refs (ρ x),[])
 | .store _ a _ => some ([],refs (ρ a))
 | .append _ _ x y => some (refs (ρ y),refs (ρ x))
 | .copy _ x y => some (refs (ρ y),refs (ρ x))
 | .mupd _ m _ _ => some ([],refs (ρ m))
 | .fcall f _ => some (Qaq (ρ f),Qaq (ρ f))
 | .fz c => match c with
  | .append _ _ x y => some (refs (ρ y),refs (ρ x))
  | _ => none
 | _ => none
abbrev Foot:=Option (List Nat × List Nat)
def fpD (n:Nat) (ρ:CX → PV) (o:COper × Option Nat):Foot :=
 match o.2 with
 | some r => some ([],[n - r])
 | none => fpOp ρ o.1.op
def resD (C:CallR) (p:Option Nat) (c:COp) (M:List Blk) (ρ:CX → PV) (v:PV) (M':List Blk):Prop :=
 match p with
 | none => Res C c M ρ v M'
 | some r => ∃ o k xs,VH ρ c = some (o,k,xs) ∧ M[M.length - r]? = some hole ∧
   v = (if o = true then .op (M.length - r) 1 0 0 else .os (M.length - r) 1 0 xs.length) ∧ M' = M.set (M.length - r) (.row true k 1 xs)
def Zn (a b:List Nat):Prop:=∀ x ∈ a,∀ y ∈ b,x ≠ y
def Yp:Foot → Foot → Prop
 | some (r1,w1),some (r2,w2) => Zn w1 r2 ∧ Zn w1 w2 ∧ Zn r1 w2
 | _,_ => False
def Yd (pairs:List (Nat × Nat)) (tr:List Foot):Prop:=∀ p ∈ pairs,Yp (tr.getD p.1 none) (tr.getD p.2 none)
def wpD (C:CallR):List (COper × Option Nat) → List Foot → (List Foot → List Blk → List PV → Prop) → List Blk → List PV → Prop
 | [],tr,K,M,t => K tr M t
 | o :: os,tr,K,M,t => o.1.guard = none ∧ ∃ v M',resD C o.2 o.1.op M (ev t) v M' ∧ M'.length = M.length ∧ wpD C os (tr ++ [fpD M.length (ev t) o]) K M' (put t o.1.dst v)
abbrev Post:=Ex → (List Blk) → List PV → Prop
def thenK (K:(List Blk) → List PV → Prop) (Q:Post):Post
 | .normal,M,t => K M t
 | e,M,t => Q e M t
def VM (id:Nat) (Q:Post):Post
 | .exit j,M,t => if j = id then Q .normal M t else Q (.exit j) M t
 | e,M,t => Q e M t
def Yr (Q:Post):Post
 | .goto _,_,_ => False
 | e,M,t => Q e M t
def Qn4 (B:Post → (List Blk) → List PV → Prop) (Q:Post) (M:(List Blk)) (t:List PV):Prop :=
 ∀ R:(List Blk) → List PV → Prop,(∀ M t,B (thenK R Q) M t → R M t) → R M t
def Ju (M:List Blk) (p:PV) (j k:Nat):Option (List Blk) :=
 match p with
 | .op a ver e j0 =>
  match M[a]? with
  | some (.row _ _ _ xs) =>
   match (xs[e]?.map PV.cells).bind (·[j0 + j]?) with
   | some (.s (.slice none 0 0)) => (Vd M a ver e (j0 + j) [.os M.length 0 0 0]).map (· ++ [.row true k 0 []])
   | _ => none
  | _ => none
 | _ => none
def Qb8:List Nat → List PV → List PV
 | [],t => t
 | i :: r,t => Qb8 r (t.set i .top)
def keepL (ks:List Nat) (t:List PV):List PV:=(List.range t.length).map fun i => if ks.contains i then t.getD i .top else .top
def Wp (C:CallR) (n0:Nat):CCode → Post → (List Blk) → List PV → Prop
 | .skip,Q,M,t => Q .normal M t
 | .region ops,Q,M,t => wpOps C ops (Q .normal) M t
 | .seq a b,Q,M,t => Wp C n0 a (thenK (Wp C n0 b Q) Q) M t
 | .cond c a b,Q,M,t => ∃ x,ev t c = .B x ∧ (if x then Wp C n0 a Q M t else Wp C n0 b Q M t)
 | .block id c,Q,M,t => Wp C n0 c (VM id Q) M t
 | .scope c,Q,M,t => Wp C n0 c (Yr Q) M t
 | .loop c,Q,M,t => Qn4 (fun Q M t => Wp C n0 c Q M t) Q M t
 | .rangeFunc f ps a b,Q,M,t =>
  ∃ g first cap M' st pend t' ps' a' b',ev t f = .fn (.func g) first cap ∧
   C (.fn g) (first ++ [.yl M.length] ++ cap) (M ++ [.loop .ready none t ps a b]) (.tup []) (M' ++ [.loop st pend t' ps' a' b']) ∧ M'.length = M.length ∧ lowM M.length M' ∧ st ≠ .busy ∧
   Q (pend.getD .normal) M' t
 | .exit id,Q,M,t => Q (.exit id) M t
 | .goto l,Q,M,t => Q (.goto l) M t
 | .label _,Q,M,t => Q .normal M t
 | .ret,Q,M,t => Q .ret M t
 | .forget ts,Q,M,t => Q .normal M (Qb8 ts t)
 | .frz i,Q,M,t => ∃ M',QF M (t.getD i .top).cells = some M' ∧ Q .normal M' t
 | .keep ks,Q,M,t => Q .normal M (keepL ks t)
 | .fix i,Q,M,t => ∃ M',QF M (t.getD i .top).cells = some M' ∧ Q .normal M' (t.set i (view M' (t.getD i .top)))
 | .own i j k,Q,M,t => ∃ M',Ju M (t.getD i .top) j k = some M' ∧ Q .normal M' t
 | .holes k,Q,M,t => Q .normal (M ++ List.replicate k hole) t
 | .regionD ops pairs,Q,M,t => wpD C ops [] (fun tr M t => Yd pairs tr ∧ Q .normal M t) M t
 | .mnext d x ops,Q,M,t => ∃ i left cur,t.getD x .top = .oi i ∧ M[i]? = some (.siter (.mp left cur)) ∧
   (left = [] → wpOps C ops (Q .normal) M (put t (some d) (.tup [.B false]))) ∧
   ∀ a e b,left = a ++ e :: b → wpOps C ops (Q .normal) (M.set i (.siter (.mp (a ++ b) (some e)))) (put t (some d) (.tup [.B true,.s e.1,.s e.2]))
 | .cut,Q,M,t => ∃ n,n0 ≤ n ∧ n ≤ M.length ∧ lowM n (M.take n) ∧ lowL n t ∧ Q .normal (M.take n) t
 | .bad,_,_,_ => False
def resOf (M:(List Blk)) (t:List PV):List (Nat × Option (Option Nat)) → Option (List PV)
 | [] => some []
 | (i,none) :: r => (resOf M t r).map (t.getD i .top :: ·)
 | (i,some g) :: r =>
  match res M (ev t) (.load g (.t i)),resOf M t r with
  | some (v,_),some vs => some (v :: vs)
  | _,_ => none
def mkRes (n:Nat) (M:(List Blk)):List PV → PV
 | [v] => outV n M v
 | vs => .tup (vs.map (outV n M))
abbrev Prog:=FuncId → Option CFunc
def VC (n:Nat) (rs:List (Nat × Option (Option Nat))) (r:PV) (M2:(List Blk)):Post:=fun e M' t =>
 (match e with|.ret|.normal => True|_ => False) ∧ ∃ m,n ≤ m ∧ m ≤ M'.length ∧ lowM m (M'.take m) ∧ M2 = M'.take m ∧
  ∃ vs,resOf M' t rs = some vs ∧ (r = mkRes m M' vs ∨ r = PV.nilS ∧ vs = [PV.nilS]) ∧ r.low m
def Qat (n:Nat) (rs:List (Nat × Option (Option Nat))) (r:PV) (M2:(List Blk)):Post:=fun e M' t =>
 (match e with|.ret|.normal => True|_ => False) ∧ n ≤ M'.length ∧ lowM n (M'.take n) ∧
  ∃ i v off len k xs,resOf M' t rs = some [.os i v off len] ∧ n ≤ i ∧ M'[i]? = some (.row true k v xs) ∧ lowL n xs ∧
   r = .os n v off len ∧ M2 = M'.take n ++ [.row true k v xs]
def Yl (n i:Nat) (ps:List Nat) (a b:CCode) (ts:List PV) (r:PV) (M2:(List Blk)):Post:=fun e M' _ =>
 (∃ ts' ps' a' b',M'[i]? = some (.loop .busy none ts' ps' a' b')) ∧ (∃ m,n ≤ m ∧ m ≤ M'.length ∧ lowM m (M'.take m) ∧
  M2 = (M'.take m).set i (.loop (match e with|.normal => .ready|_ => .done) (match e with|.normal => none|e => some e) ts ps a b)) ∧
  r = .B (match e with|.normal => true|_ => false)
abbrev XRel:=FuncId → List PV → List Blk → PV → List Blk → Prop
def Qii (F:Prog) (X:XRel) (C:CallR):Prop :=
 (∀ f cf args M r M',F f = some cf → args.length = cf.nparams →
  (lowM M.length M → lowL M.length args → Wp C M.length cf.body (VC M.length cf.results r M') M (args ++ List.replicate (cf.ntmps - args.length) .top)) → C (.fn f) args M r M') ∧
 (∀ f cf args M r M',F f = some cf → args.length = cf.nparams →
  (lowM M.length M → lowL M.length args → Wp C M.length cf.body (Qat M.length cf.results r M') M (args ++ List.replicate (cf.ntmps - args.length) .top)) → C (.fn f) args M r M') ∧
 (∀ f args M r M',X f args M r M' → C (.fn f) args M r M') ∧
 (∀ i args M r M' ps a b ts,M[i]? = some (.loop .ready none ts ps a b) → args.length = ps.length →
  (lowM M.length M → lowL M.length args →
   Wp C M.length a (thenK (fun M1 t1 => (∃ ts' ps' a' b',M1[i]? = some (.loop .ready none ts' ps' a' b')) ∧
    Wp C M.length b (Yl M.length i ps a b ts r M') (M1.set i (.loop .busy none ts ps a b)) t1) (fun _ _ _ => False))
   M ((ps.zip args).foldl (fun t p => t.set p.1 p.2) ts)) →
  C (.yl i) args M r M')
def ACall (F:Prog) (X:XRel):CallR:=fun f args M r M' => ∀ C,Qii F X C → C f args M r M'
end Go.Nac
namespace Go.Nac
theorem nrfl {α:Sort _} {a b:α} (h:a = b):a = b:=by cases h;rfl
theorem Zq {K K':(List Blk) → List PV → Prop} {Q Q':Post} (hk:∀ M t,K M t → K' M t) (hq:∀ e M t,Q e M t → Q' e M t) :
  ∀ e M t,thenK K Q e M t → thenK K' Q' e M t:=by
 intro e M t h
 cases e with
 | normal => exact hk _ _ h
 | _ => exact hq _ _ _ h
theorem QeR {id:Nat} {Q Q':Post} (hq:∀ e M t,Q e M t → Q' e M t):∀ e M t,VM id Q e M t → VM id Q' e M t:=by
 intro e M t h
 cases e with
 | exit j => simp only [VM] at *;split at h <;> rename_i hj <;> simp [hj] <;> exact hq _ _ _ h
 | _ => exact hq _ _ _ h
theorem Qe6 {Q Q':Post} (hq:∀ e M t,Q e M t → Q' e M t):∀ e M t,Yr Q e M t → Yr Q' e M t:=by
 intro e M t h
 cases e with
 | goto l => exact h.elim
 | _ => exact hq _ _ _ h
theorem Qbh {C C':CallR} (hC:∀ f a M r M',C f a M r M' → C' f a M r M') {o:COp} {M:(List Blk)} {ρ:CX → PV} {v:PV} {M':(List Blk)}
  (h:Res C o M ρ v M'):Res C' o M ρ v M':=by
 cases o with
 | call loud f args =>
  refine ⟨h.1,?_⟩
  have h2:=h.2
  cases f with
  | inr g => exact hC _ _ _ _ _ h2
  | inl x =>
   simp only at h2 ⊢
   split at h2
   ·exact hC _ _ _ _ _ h2
   ·exact hC _ _ _ _ _ h2
   ·exact h2.elim
 | fcall f args =>
  obtain ⟨i,b,h1,h2,h3,h4⟩:=h
  refine ⟨i,b,h1,h2,h3,fun N h5 h6 => ?_⟩
  have h7:=h4 N h5 h6
  unfold QbS at h7 ⊢
  split at h7
  ·exact hC _ _ _ _ _ h7
  ·exact h7.elim
 | pcall f args =>
  refine ⟨h.1,h.2.1,fun N => ?_⟩
  have h2:=h.2.2 N
  cases f with
  | inr g => exact hC _ _ _ _ _ h2
  | inl x =>
   simp only at h2 ⊢
   split at h2
   ·exact ⟨h2.1,h2.2.1,hC _ _ _ _ _ h2.2.2⟩
   ·exact h2.elim
 | _ => exact h
theorem QiC {C C':CallR} (hC:∀ f a M r M',C f a M r M' → C' f a M r M') {K K':(List Blk) → List PV → Prop} (hk:∀ M t,K M t → K' M t)
  {o:COper} {M:(List Blk)} {t:List PV} (h:wpOp C o K M t):wpOp C' o K' M t:=by
 unfold wpOp at *
 split at h
 ·obtain ⟨v,M',h1,h2⟩:=h
  exact ⟨v,M',Qbh hC h1,hk _ _ h2⟩
 ·obtain ⟨b,h0,h⟩:=h
  refine ⟨b,h0,?_⟩
  split at h
  ·rename_i hb
   obtain ⟨v,M',h1,h2⟩:=h
   rw [if_pos hb]
   exact ⟨v,M',Qbh hC h1,hk _ _ h2⟩
  ·rename_i hb
   rw [if_neg hb]
   exact hk _ _ h
theorem JN {C C':CallR} (hC:∀ f a M r M',C f a M r M' → C' f a M r M') {K K':(List Blk) → List PV → Prop} (hk:∀ M t,K M t → K' M t)
  (os:List COper):∀ {M:(List Blk)} {t:List PV},wpOps C os K M t → wpOps C' os K' M t:=by
 induction os with
 | nil => exact fun h => hk _ _ h
 | cons o os ih => exact fun h => QiC hC (fun M t h => ih h) h
theorem QhN {C C':CallR} (hC:∀ f a M r M',C f a M r M' → C' f a M r M') {p:Option Nat} {c:COp} {M:List Blk} {ρ:CX → PV} {v:PV} {M':List Blk} (h:resD C p c M ρ v M'):resD C' p c M ρ v M':=by
 cases p with
 | none => exact Qbh hC h
 | some r => exact h
theorem QiK {C C':CallR} (hC:∀ f a M r M',C f a M r M' → C' f a M r M') {K K':List Foot → List Blk → List PV → Prop} (hk:∀ tr M t,K tr M t → K' tr M t)
  (os:List (COper × Option Nat)):∀ {tr:List Foot} {M:List Blk} {t:List PV},wpD C os tr K M t → wpD C' os tr K' M t:=by
 induction os with
 | nil => exact fun h => hk _ _ _ h
 | cons o os ih => exact fun h => by obtain ⟨h0,v,M',h1,h2,h3⟩:=h;exact ⟨h0,v,M',QhN hC h1,h2,ih h3⟩
theorem ZJ {C C':CallR} {n0:Nat} (hC:∀ f a M r M',C f a M r M' → C' f a M r M') (c:CCode) :
  ∀ {Q Q':Post},(∀ e M t,Q e M t → Q' e M t) → ∀ {M t},Wp C n0 c Q M t → Wp C' n0 c Q' M t:=by
 induction c with
 | skip => exact fun hq _ _ h => hq _ _ _ h
 | region ops => exact fun hq _ _ h => JN hC (fun M t h => hq _ _ _ h) ops h
 | seq a b iha ihb => exact fun hq _ _ h => iha (Zq (fun M t h => ihb hq h) hq) h
 | cond c a b iha ihb =>
  intro Q Q' hq M t h
  obtain ⟨x,hx,h⟩:=h
  refine ⟨x,hx,?_⟩
  cases x
  ·exact ihb hq h
  ·exact iha hq h
 | scope c ih => exact fun hq _ _ h => ih (Qe6 hq) h
 | block id c ih => exact fun hq _ _ h => ih (QeR hq) h
 | loop c ih =>
  intro Q Q' hq M t h R hR
  refine h R fun M t hb => hR M t ?_
  exact ih (Zq (fun _ _ h => h) hq) hb
 | rangeFunc f ps a b _ _ =>
  intro Q Q' hq M t h
  obtain ⟨g,first,cap,M',st,pend,t',ps',a',b',h1,h2,h3,h4,h5,h6⟩:=h
  exact ⟨g,first,cap,M',st,pend,t',ps',a',b',h1,hC _ _ _ _ _ h2,h3,h4,h5,hq _ _ _ h6⟩
 | exit id => exact fun hq _ _ h => hq _ _ _ h
 | goto l => exact fun hq _ _ h => hq _ _ _ h
 | label l => exact fun hq _ _ h => hq _ _ _ h
 | ret => exact fun hq _ _ h => hq _ _ _ h
 | forget ts => exact fun hq _ _ h => hq _ _ _ h
 | frz i => exact fun hq _ _ h => by obtain ⟨M',h1,h2⟩:=h;exact ⟨M',h1,hq _ _ _ h2⟩
 | keep ks => exact fun hq _ _ h => hq _ _ _ h
 | fix i => exact fun hq _ _ h => by obtain ⟨M',h1,h2⟩:=h;exact ⟨M',h1,hq _ _ _ h2⟩
 | own i j k => exact fun hq _ _ h => by obtain ⟨M',h1,h2⟩:=h;exact ⟨M',h1,hq _ _ _ h2⟩
 | holes k => exact fun hq _ _ h => hq _ _ _ h
 | regionD ops pairs => exact fun hq _ _ h => QiK hC (fun tr M t h => ⟨h.1,hq _ _ _ h.2⟩) ops h
 | mnext d x ops =>
  intro Q Q' hq M t h
  obtain ⟨i,left,cur,h1,h2,h3,h4⟩:=h
  exact ⟨i,left,cur,h1,h2,fun e => JN hC (fun M t h => hq _ _ _ h) ops (h3 e),fun a e b hl => JN hC (fun M t h => hq _ _ _ h) ops (h4 a e b hl)⟩
 | cut => exact fun hq _ _ h => by obtain ⟨n,h1,h2,h3,h4,h5⟩:=h;exact ⟨n,h1,h2,h3,h4,hq _ _ _ h5⟩
 | bad => exact fun _ _ _ h => h
theorem QgG {C:CallR} {n0:Nat} {c:CCode} {Q:Post} {M:(List Blk)} {t:List PV}
  (h:Wp C n0 c (thenK (fun M t => Wp C n0 (.loop c) Q M t) Q) M t):Wp C n0 (.loop c) Q M t:=by
 intro R hR
 refine hR M t ?_
 exact ZJ (fun _ _ _ _ _ h => h) c (Zq (fun M t h => h R hR) (fun _ _ _ h => h)) h
theorem QkC {C:CallR} {n0:Nat} {c:CCode} {Q:Post} {α:Type} (I:α → Prop) (σ:α → (List Blk)) (τ:α → List PV) (μ:α → Nat)
  (h:∀ x,I x → Wp C n0 c (thenK (fun M t => ∃ y,I y ∧ μ y < μ x ∧ M = σ y ∧ t = τ y) Q) (σ x) (τ x)) :
  ∀ x,I x → Wp C n0 (.loop c) Q (σ x) (τ x):=by
 have key:∀ n x,I x → μ x < n → Wp C n0 (.loop c) Q (σ x) (τ x):=by
  intro n
  induction n with
  | zero => intro x _ h;omega
  | succ n ih =>
   intro x hx hn
   refine QgG (ZJ (fun _ _ _ _ _ h => h) c (Zq ?_ (fun _ _ _ h => h)) (h x hx))
   rintro M t ⟨y,hy,hm,rfl,rfl⟩
   exact ih y hy (by omega)
 exact fun x hx => key _ x hx (Nat.lt_succ_self _)
theorem Qe {F:Prog} {X:XRel} {f:FuncId} {cf:CFunc} {args:List PV} {M:(List Blk)} {r:PV} {M':(List Blk)}
  (hf:F f = some cf) (hn:args.length = cf.nparams)
  (h:lowM M.length M → lowL M.length args → Wp (ACall F X) M.length cf.body (VC M.length cf.results r M') M (args ++ List.replicate (cf.ntmps - args.length) .top)) :
  ACall F X (.fn f) args M r M':=fun C hC =>
 hC.1 f cf args M r M' hf hn fun h1 h2 => ZJ (fun _ _ _ _ _ h => h C hC) _ (fun _ _ _ h => h) (h h1 h2)
theorem QhF {F:Prog} {X:XRel} {f:FuncId} {cf:CFunc} {args:List PV} {M:(List Blk)} {r:PV} {M':(List Blk)}
  (hf:F f = some cf) (hn:args.length = cf.nparams)
  (h:lowM M.length M → lowL M.length args → Wp (ACall F X) M.length cf.body (Qat M.length cf.results r M') M (args ++ List.replicate (cf.ntmps - args.length) .top)) :
  ACall F X (.fn f) args M r M':=fun C hC =>
 hC.2.1 f cf args M r M' hf hn fun h1 h2 => ZJ (fun _ _ _ _ _ h => h C hC) _ (fun _ _ _ h => h) (h h1 h2)
theorem QkF {F:Prog} {X:XRel} {i:Nat} {args:List PV} {M:(List Blk)} {r:PV} {M':(List Blk)} {ps:List Nat} {a b:CCode} {ts:List PV}
  (hi:M[i]? = some (.loop .ready none ts ps a b)) (hn:args.length = ps.length)
  (h:lowM M.length M → lowL M.length args →
   Wp (ACall F X) M.length a (thenK (fun M1 t1 => (∃ ts' ps' a' b',M1[i]? = some (.loop .ready none ts' ps' a' b')) ∧
    Wp (ACall F X) M.length b (Yl M.length i ps a b ts r M') (M1.set i (.loop .busy none ts ps a b)) t1) (fun _ _ _ => False))
   M ((ps.zip args).foldl (fun t p => t.set p.1 p.2) ts)) :
  ACall F X (.yl i) args M r M':=fun C hC =>
 hC.2.2.2 i args M r M' ps a b ts hi hn fun h1 h2 =>
  ZJ (fun _ _ _ _ _ h => h C hC) _ (Zq (fun M t h => ⟨h.1,ZJ (fun _ _ _ _ _ h => h C hC) _ (fun _ _ _ h => h) h.2⟩) (fun _ _ _ h => h)) (h h1 h2)
theorem QaO {n:Nat} (xs ys:List PV):lowL n (xs ++ ys) ↔ lowL n xs ∧ lowL n ys:=by
 induction xs with
 | nil => simp [lowL]
 | cons x xs ih => simp [lowL,ih,and_assoc]
theorem VU {n:Nat} (xs:List PV):lowL n xs ↔ ∀ x ∈ xs,x.low n:=by
 induction xs with
 | nil => simp [lowL]
 | cons x xs ih => simp [lowL,ih]
theorem Zm {α:Type} {n:Nat} (f:α → PV) (l:List α) (h:∀ x,(f x).low n):lowL n (l.map f):=by
 rw [VU];intro x hx;obtain ⟨y,_,rfl⟩:=List.mem_map.1 hx;exact h y
theorem VJ {n:Nat} (xs ys:(List Blk)):lowM n (xs ++ ys) ↔ lowM n xs ∧ lowM n ys:=by
 simp only [lowM,List.mem_append]
 exact ⟨fun h => ⟨fun b hb => h b (.inl hb),fun b hb => h b (.inr hb)⟩,fun h b hb => hb.elim (h.1 b) (h.2 b)⟩
theorem YQ {n:Nat}:lowM n []:=fun _ h => by simp at h
theorem Qag {n:Nat} (b:Blk) (xs:(List Blk)):lowM n (b :: xs) ↔ b.low n ∧ lowM n xs:=by
 simp [lowM]
mutual
theorem low_mono {n m:Nat} (h:n ≤ m):∀ x:PV,x.low n → x.low m
 | .top,_ => trivial
 | .s _,_ => trivial
 | .agg cs,k => Q0 h cs k
 | .tup cs,k => Q0 h cs k
 | .fs cs,k => Q0 h cs k
 | .fp cs,k => Q0 h cs k
 | .os i _ _ _,k => Nat.lt_of_lt_of_le k h
 | .op i _ _ _,k => Nat.lt_of_lt_of_le k h
 | .om i,k => Nat.lt_of_lt_of_le k h
 | .fn _ a b,k => ⟨Q0 h a k.1,Q0 h b k.2⟩
 | .yl i,k => Nat.lt_of_lt_of_le k h
 | .nan _,_ => trivial
 | .err,_ => trivial
 | .oi i,k => Nat.lt_of_lt_of_le k h
 | .bp i _ _,k => Nat.lt_of_lt_of_le k h
 | .ot i _ _ _,k => Nat.lt_of_lt_of_le k h
theorem Q0 {n m:Nat} (h:n ≤ m):∀ xs:List PV,lowL n xs → lowL m xs
 | [],_ => trivial
 | x :: xs,k => ⟨low_mono h x k.1,Q0 h xs k.2⟩
end
theorem Blk.low_mono {n m:Nat} (h:n ≤ m) (b:Blk) (k:b.low n):b.low m:=by
 cases b with
 | row _ _ _ xs => exact Q0 h xs k
 | map _ => trivial
 | loop _ _ ts _ _ _ => exact Q0 h ts k
 | siter _ => trivial
theorem ZP {n m:Nat} (h:n ≤ m) {M:(List Blk)} (k:lowM n M):lowM m M:=fun b hb => b.low_mono h (k b hb)
end Go.Nac
namespace Go.Nac
section
variable {C:CallR} {n0:Nat} {Q:Post} {K:(List Blk) → List PV → Prop} {M:(List Blk)} {t:List PV}
def bindP (r:Option (PV × (List Blk))) (f:PV → (List Blk) → Prop):Prop:=match r with|some (v,M) => f v M|none => False
theorem Qbc {c:CCode} {M':(List Blk)} {t':List PV} (h:M = M') (h':t = t'):Wp C n0 c Q M t = Wp C n0 c Q M' t':=by rw [h,h']
theorem Jh {os:List COper} {M':(List Blk)} {t':List PV} (h:M = M') (h':t = t'):wpOps C os K M t = wpOps C os K M' t':=by rw [h,h']
theorem Je {e:Ex} {M':(List Blk)} {t':List PV} (h:M = M') (h':t = t'):thenK K Q e M t = thenK K Q e M' t':=by rw [h,h']
theorem YR {e:Ex} {M':(List Blk)} {t':List PV} {id:Nat} (h:M = M') (h':t = t'):VM id Q e M t = VM id Q e M' t':=by rw [h,h']
def COp.isCall:COp → Bool
 | .bad .. => false
 | .mov .. => false
 | .onil .. => false
 | .pick .. => false
 | .alloc .. => false
 | .box .. => false
 | .build .. => false
 | .bsl .. => false
 | .load .. => false
 | .store .. => false
 | .nilc .. => false
 | .bin .. => false
 | .binb .. => false
 | .eqs .. => false
 | .un .. => false
 | .conv .. => false
 | .arrp .. => false
 | .mkfn .. => false
 | .mkmap .. => false
 | .mksl .. => false
 | .slice .. => false
 | .slstr .. => false
 | .faddr .. => false
 | .field .. => false
 | .iaddr .. => false
 | .iaddra .. => false
 | .idxs .. => false
 | .idxa .. => false
 | .look .. => false
 | .mupd .. => false
 | .ext .. => false
 | .len .. => false
 | .lens .. => false
 | .append .. => false
 | .copy .. => false
 | .capn .. => false
 | .appz .. => false
 | .max .. => false
 | .min .. => false
 | .call .. => true
 | .fz .. => true
 | .sop .. => false
 | .srng .. => false
 | .mrng .. => false
 | .ment .. => false
 | .snxt .. => false
 | .arrsl .. => false
 | .isnil .. => false
 | .b2s .. => false
 | .s2b .. => false
 | .mark .. => false
 | .mkbm .. => false
 | .pcall .. => true
 | .fcall .. => true
 | _ => false
theorem Qm5 {o:COp} (h:o.isCall = false) {ρ:CX → PV} {v:PV} {M':(List Blk)}:Res C o M ρ v M' ↔ res M ρ o = some (v,M'):=by
 cases o <;> first|(simp [COp.isCall] at h;done)|rfl
theorem Qhi:wpOps C [] K M t = K M t:=nrfl rfl
theorem QdN {d:Option Nat} {o:COp} {os:List COper} (h:o.isCall = false) :
  wpOps C (⟨d,o,none⟩ :: os) K M t = bindP (res M (ev t) o) (fun v M' => wpOps C os K M' (put t d v)):=by
 apply propext
 show (∃ v M',Res C o M (ev t) v M' ∧ wpOps C os K M' (put t d v)) ↔ _
 simp only [Qm5 h]
 cases hr:res M (ev t) o with
 | none => simp [bindP]
 | some p =>
  obtain ⟨v,M'⟩:=p
  simp only [bindP,Option.some.injEq,Prod.mk.injEq]
  constructor
  ·rintro ⟨a,b,⟨rfl,rfl⟩,h⟩;exact h
  ·exact fun h => ⟨_,_,⟨rfl,rfl⟩,h⟩
def J3 (x:PV) (want:Bool) (a b:Prop):Prop:=∃ c,x = .B c ∧ if c = want then a else b
theorem QdB {c want:Bool} {a b:Prop}:J3 (.B c) want a b = (if c = want then a else b):=by
 apply propext
 unfold J3
 constructor
 ·rintro ⟨c',h,k⟩
  simp only [PV.s.injEq,Value.bool.injEq] at h
  subst h;exact k
 ·exact fun k => ⟨c,rfl,k⟩
def QbW (x:PV) (want:Bool) (a b:Prop):Prop:=∃ c,wanted x want = some c ∧ if c = true then a else b
theorem JE {c want:Bool} {a b:Prop}:QbW (.B c) want a b = (if c = want then a else b):=by
 apply propext
 unfold QbW
 constructor
 ·rintro ⟨c',h,k⟩
  simp only [wanted,Option.some.injEq] at h
  subst h
  by_cases e:c = want
  ·rw [if_pos e];rw [if_pos (by simpa using e)] at k;exact k
  ·rw [if_neg e];rw [if_neg (by simpa using e)] at k;exact k
 ·intro k
  refine ⟨c == want,rfl,?_⟩
  by_cases e:c = want
  ·rw [if_pos e] at k;rw [if_pos (by simpa using e)];exact k
  ·rw [if_neg e] at k;rw [if_neg (by simpa using e)];exact k
theorem Qeo {want:Bool} {a b:Prop}:QbW unit want a b = b:=by
 apply propext
 exact ⟨fun ⟨c,h,k⟩ => by simp only [unit,wanted,Option.some.injEq] at h;subst h;simpa using k,fun k => ⟨false,rfl,by simpa using k⟩⟩
theorem Qmh:Wp C n0 .skip Q M t = Q .normal M t:=nrfl rfl
theorem Qg0 {ops:List COper}:Wp C n0 (.region ops) Q M t = wpOps C ops (Q .normal) M t:=nrfl rfl
theorem QnN {a b:CCode}:Wp C n0 (.seq a b) Q M t = Wp C n0 a (thenK (Wp C n0 b Q) Q) M t:=nrfl rfl
theorem Qlx {c:CX} {a b:CCode}:Wp C n0 (.cond c a b) Q M t = J3 (ev t c) true (Wp C n0 a Q M t) (Wp C n0 b Q M t):=by
 apply propext
 show (∃ x,ev t c = .B x ∧ (if x then Wp C n0 a Q M t else Wp C n0 b Q M t)) ↔ _
 unfold J3
 rfl
theorem QjM {id:Nat} {c:CCode}:Wp C n0 (.block id c) Q M t = Wp C n0 c (VM id Q) M t:=nrfl rfl
theorem Qjz {c:CCode}:Wp C n0 (.scope c) Q M t = Wp C n0 c (Yr Q) M t:=nrfl rfl
theorem QcS:Yr Q .normal M t = Q .normal M t:=nrfl rfl
theorem Qeg {id:Nat}:Yr Q (.exit id) M t = Q (.exit id) M t:=nrfl rfl
theorem QfP:Yr Q .ret M t = Q .ret M t:=nrfl rfl
theorem QlJ {id:Nat}:Wp C n0 (.exit id) Q M t = Q (.exit id) M t:=nrfl rfl
theorem QlP {id:Nat}:Wp C n0 (.goto id) Q M t = Q (.goto id) M t:=nrfl rfl
theorem Qj8 {id:Nat}:Wp C n0 (.label id) Q M t = Q .normal M t:=nrfl rfl
theorem Qos:Wp C n0 .ret Q M t = Q .ret M t:=nrfl rfl
theorem QkI {k:Nat}:Wp C n0 (.holes k) Q M t = Q .normal (M ++ List.replicate k hole) t:=nrfl rfl
theorem Qgg {ops:List (COper × Option Nat)} {pairs:List (Nat × Nat)}:Wp C n0 (.regionD ops pairs) Q M t = wpD C ops [] (fun tr M t => Yd pairs tr ∧ Q .normal M t) M t:=nrfl rfl
theorem Qc2:thenK K Q .normal M t = K M t:=nrfl rfl
theorem QfS {id:Nat}:thenK K Q (.exit id) M t = Q (.exit id) M t:=nrfl rfl
theorem QgO:thenK K Q .ret M t = Q .ret M t:=nrfl rfl
theorem Qgf {l:Nat}:thenK K Q (.goto l) M t = Q (.goto l) M t:=nrfl rfl
theorem QcT {id:Nat}:VM id Q .normal M t = Q .normal M t:=nrfl rfl
theorem QfZ {id:Nat}:VM id Q .ret M t = Q .ret M t:=nrfl rfl
theorem Qe4 {id l:Nat}:VM id Q (.goto l) M t = Q (.goto l) M t:=nrfl rfl
theorem Qeq {id j:Nat}:VM id Q (.exit j) M t = (if j = id then Q .normal M t else Q (.exit j) M t):=nrfl rfl
theorem QkS {v:PV}:put t none v = t:=nrfl rfl
theorem ev_k {v:Value}:ev t (.k v) = .s v:=nrfl rfl
theorem ev_f {f:FuncId}:ev t (.f f) = .fn (.func f) [] []:=nrfl rfl
end
theorem getM0 {M rs:(List Blk)}:(M ++ rs)[M.length]? = rs[0]?:=by rw [List.getElem?_append_right (Nat.le_refl _),Nat.sub_self]
theorem getMj {M rs:(List Blk)} {j:Nat}:(M ++ rs)[M.length + j]? = rs[j]?:=by rw [List.getElem?_append_right (Nat.le_add_right _ _),Nat.add_sub_cancel_left]
theorem setM0 {M rs:(List Blk)} {b:Blk}:(M ++ rs).set M.length b = M ++ rs.set 0 b:=by rw [List.set_append_right _ _ (Nat.le_refl _),Nat.sub_self]
theorem setMj {M rs:(List Blk)} {j:Nat} {b:Blk}:(M ++ rs).set (M.length + j) b = M ++ rs.set j b:=by rw [List.set_append_right _ _ (Nat.le_add_right _ _),Nat.add_sub_cancel_left]
theorem takeM {M rs:(List Blk)} {j:Nat}:(M ++ rs).take (M.length + j) = M ++ rs.take j:=by rw [List.take_append];simp [List.take_of_length_le]
theorem Qcy {x:Int} (h:-9223372036854775808 ≤ x ∧ x ≤ 9223372036854775807):IntKind.i64.wrap x = x:=by simp [IntKind.wrap,IntKind.bits,IntKind.signed];omega
end Go.Nac
set_option linter.unusedSectionVars false
set_option linter.unusedSimpArgs false
namespace Go.Nac
def Unf (n:Nat) (z:Nat × Nat):Prop:=z.1 = z.2 ∨ n ≤ z.1
theorem unf0 (n:Nat):Unf n (0,0):=.inl rfl
theorem Unf.size {n m:Nat} {z:Nat × Nat} (h:Unf n z) (e:m = n):Unf m z:=e ▸ h
def RowAt (w:World) (b:Nat) (c:Array Value) (el:TypeId):Prop:=∃ z,w.heap[b]? = some (.cells c el z) ∧ Unf c.size z
theorem RowAt.mk0 {w:World} {b:Nat} {c:Array Value} {el:TypeId} (h:w.heap[b]? = some (.cells c el (0,0))):RowAt w b c el:=⟨_,h,unf0 _⟩
theorem RowAt.lt {w:World} {b:Nat} {c:Array Value} {el:TypeId} (h:RowAt w b c el):b < w.heap.size:=by obtain ⟨z,h,_⟩:=h;exact (Array.getElem?_eq_some_iff.1 h).1
theorem RowAt.congr {w w':World} {b:Nat} {c:Array Value} {el:TypeId} (h:RowAt w b c el) (e:w'.heap[b]? = w.heap[b]?):RowAt w' b c el:=by obtain ⟨z,h,h2⟩:=h;exact ⟨z,e.trans h,h2⟩
theorem RowAt.uniq {w:World} {b:Nat} {c c':Array Value} {el el':TypeId} (h:RowAt w b c el) (h':RowAt w b c' el'):c = c' ∧ el = el':=by
 obtain ⟨z,h,_⟩:=h;obtain ⟨z',h',_⟩:=h';rw [h] at h';cases h';exact ⟨rfl,rfl⟩
theorem RowAt.cell {w:World} {b:Nat} {c:Array Value} {el:TypeId} (h:RowAt w b c el) (m:Nat):w.cell? ⟨b,m,none⟩ = c[m]?:=by obtain ⟨z,h,_⟩:=h;simp [World.cell?,h]
theorem RowAt.unfrozen {w:World} {b:Nat} {c:Array Value} {el:TypeId} (h:RowAt w b c el) {m:Nat} (hm:m < c.size):w.frozen? ⟨b,m,none⟩ = false:=by
 obtain ⟨z,h,h2⟩:=h
 simp only [World.frozen?,h]
 rw [Bool.eq_false_iff]
 intro e
 simp at e
 rcases h2 with h2|h2 <;> omega
abbrev Loc:=Nat → Option (Nat × Nat)
def Blk.live:Blk → Bool
 | .row w _ _ _ => w
 | _ => true
def Owned (M:List Blk) (L:Loc) (b:Nat):Prop:=∃ i blk p,M[i]? = some blk ∧ blk.live = true ∧ L i = some p ∧ p.1 = b
def aggV:Value → Bool
 | .agg _ => true
 | _ => false
mutual
inductive VRel (M:List Blk) (L:Loc) (w:World):PV → Value → Prop
 | top (v:Value):VRel M L w .top v
 | s (v:Value) (h:aggV v = false):VRel M L w (.s v) v
 | agg (cs:List PV) (vs:Array Value) (h:LRel M L w cs vs.toList):VRel M L w (.agg cs) (.agg vs)
 | tup (cs:List PV) (vs:Array Value) (h:LRel M L w cs vs.toList):VRel M L w (.tup cs) (.tuple vs)
 | fs (xs:List PV) (a:Option Addr) (n cap k:Nat) (vs:List Value) (hn:n = xs.length) (hc:xs.length ≤ cap) (hk:∀ x ∈ xs,x.cells.length = k)
   (h:LRel M L w (xs.flatMap PV.cells) vs)
   (hm:xs ≠ [] → ∃ b o,a = some ⟨b,o,none⟩ ∧ b < w.heap.size ∧ ¬ Owned M L b ∧ ∀ m v,vs[m]? = some v → w.cell? ⟨b,o + m,none⟩ = some v) :
   VRel M L w (.fs xs) (.slice a n cap)
 | fp (cs:List PV) (b o:Nat) (vs:List Value) (h:LRel M L w cs vs) (hlt:b < w.heap.size) (hb:¬ Owned M L b)
   (hm:∀ m v,vs[m]? = some v → w.cell? ⟨b,o + m,none⟩ = some v):VRel M L w (.fp cs) (.pointer (some ⟨b,o,none⟩))
 | os (i ver off len:Nat) (wr:Bool) (k:Nat) (xs:List PV) (a:Option Addr) (cap:Nat) (hi:M[i]? = some (.row wr k ver xs)) (hx:off + len ≤ xs.length) (hc:len ≤ cap)
   (hm:cap ≠ 0 → ∃ b o c el,L i = some (b,o) ∧ a = some ⟨b,o + off * k,none⟩ ∧ RowAt w b c el ∧ o + (off + cap) * k ≤ c.size) :
   VRel M L w (.os i ver off len) (.slice a len cap)
 | os' (i ver off len:Nat) (wr:Bool) (k v':Nat) (xs:List PV) (a:Option Addr) (c:Nat) (hi:M[i]? = some (.row wr k v' xs)) (hv:ver < v'):VRel M L w (.os i ver off len) (.slice a len c)
 | op (i ver e j:Nat) (wr:Bool) (k:Nat) (xs:List PV) (b o:Nat) (hi:M[i]? = some (.row wr k ver xs)) (he:e < xs.length) (hL:L i = some (b,o)) :
   VRel M L w (.op i ver e j) (.pointer (some ⟨b,o + e * k + j,none⟩))
 | op' (i ver e j:Nat) (wr:Bool) (k v':Nat) (xs:List PV) (a:Option Addr) (hi:M[i]? = some (.row wr k v' xs)) (hv:ver < v'):VRel M L w (.op i ver e j) (.pointer a)
 | om (i:Nat) (es:List (Value × Value)) (b o:Nat) (hi:M[i]? = some (.map es)) (hL:L i = some (b,o)):VRel M L w (.om i) (.map (some b))
 | om' (i:Nat) (it:Iter) (c:Option Nat) (hi:M[i]? = some (.siter it)):VRel M L w (.om i) (.map c)
 | fn (f:Fn) (a c:List PV) (va vc:Array Value) (ha:LRel M L w a va.toList) (hc:LRel M L w c vc.toList):VRel M L w (.fn f a c) (.func f va vc)
 | yl (i:Nat) (st:LoopState) (pd:Option Ex) (ts:List PV) (ps:List Nat) (x y:CCode) (b o:Nat) (hi:M[i]? = some (.loop st pd ts ps x y)) (hL:L i = some (b,o)) :
   VRel M L w (.yl i) (.func (.yield b) #[] #[])
 | nan (k:FloatKind) (b:Nat) (h:(k.decode b).isNaN = true):VRel M L w (.nan k) (.float k b)
 | err (t:TypeId) (v:Value):VRel M L w .err (.iface t v)
 | oi (i:Nat) (it:Iter) (b o:Nat) (hi:M[i]? = some (.siter it)) (hL:L i = some (b,o)):VRel M L w (.oi i) (.pointer (some ⟨b,0,none⟩))
 | bp (i ver:Nat) (T:TypeId) (wr:Bool) (k:Nat) (xs:List PV) (b:Nat) (c:Array Value) (hi:M[i]? = some (.row wr k ver xs)) (hx:0 < xs.length) (hL:L i = some (b,0)) (hr:RowAt w b c T) (hs:c.size = k):VRel M L w (.bp i ver T) (.pointer (some ⟨b,0,none⟩))
 | bp' (i ver:Nat) (T:TypeId) (wr:Bool) (k v':Nat) (xs:List PV) (a:Option Addr) (hi:M[i]? = some (.row wr k v' xs)) (hv:ver < v'):VRel M L w (.bp i ver T) (.pointer a)
 | ot (i ver len:Nat) (e:TypeId) (wr:Bool) (xs:List PV) (b cap:Nat) (c:Array Value) (hi:M[i]? = some (.row wr 1 ver xs)) (hx:len ≤ xs.length) (h0:0 < len) (hc:len ≤ cap) (hL:L i = some (b,0)) (hr:RowAt w b c e) (hs:cap ≤ c.size) :
   VRel M L w (.ot i ver len e) (.slice (some ⟨b,0,none⟩) len cap)
 | ot' (i ver len:Nat) (e:TypeId) (wr:Bool) (k v':Nat) (xs:List PV) (a:Option Addr) (cap:Nat) (hi:M[i]? = some (.row wr k v' xs)) (hv:ver < v'):VRel M L w (.ot i ver len e) (.slice a len cap)
inductive LRel (M:List Blk) (L:Loc) (w:World):List PV → List Value → Prop
 | nil:LRel M L w [] []
 | cons (x:PV) (v:Value) (xs:List PV) (vs:List Value) (h:VRel M L w x v) (hs:LRel M L w xs vs):LRel M L w (x :: xs) (v :: vs)
end
section
variable {M:List Blk} {L:Loc} {w:World}
theorem LRel.length {xs:List PV} {vs:List Value} (h:LRel M L w xs vs):xs.length = vs.length:=by
 induction xs generalizing vs with
 | nil => cases h;rfl
 | cons x xs ih => cases h with | cons _ v _ vs h hs => simp [ih hs]
theorem LRel.get {xs:List PV} {vs:List Value} (h:LRel M L w xs vs) {i:Nat} {x:PV} (hx:xs[i]? = some x):∃ v,vs[i]? = some v ∧ VRel M L w x v:=by
 induction xs generalizing vs i with
 | nil => simp at hx
 | cons y xs ih =>
  cases h with
  | cons _ v _ vs h hs =>
   cases i with
   | zero => simp at hx;subst hx;exact ⟨v,rfl,h⟩
   | succ i => simpa using ih hs (by simpa using hx)
theorem LRel.append {xs ys:List PV} {vs us:List Value} (h:LRel M L w xs vs) (k:LRel M L w ys us):LRel M L w (xs ++ ys) (vs ++ us):=by
 induction xs generalizing vs with
 | nil => cases h;exact k
 | cons x xs ih => cases h with | cons _ v _ vs h hs => exact .cons _ _ _ _ h (ih hs)
theorem LRel.split {xs ys:List PV} {vs:List Value} (h:LRel M L w (xs ++ ys) vs):∃ v1 v2,vs = v1 ++ v2 ∧ LRel M L w xs v1 ∧ LRel M L w ys v2:=by
 induction xs generalizing vs with
 | nil => exact ⟨[],vs,rfl,.nil,h⟩
 | cons x xs ih =>
  cases h with
  | cons _ v _ vs h hs =>
   obtain ⟨v1,v2,rfl,h1,h2⟩:=ih hs
   exact ⟨v :: v1,v2,rfl,.cons _ _ _ _ h h1,h2⟩
theorem LRel.drop {xs:List PV} {vs:List Value} (h:LRel M L w xs vs) (n:Nat):LRel M L w (xs.drop n) (vs.drop n):=by
 induction n generalizing xs vs with
 | zero => exact h
 | succ n ih =>
  cases h with
  | nil => exact .nil
  | cons _ _ _ _ _ hs => exact ih hs
theorem LRel.take {xs:List PV} {vs:List Value} (h:LRel M L w xs vs) (n:Nat):LRel M L w (xs.take n) (vs.take n):=by
 induction n generalizing xs vs with
 | zero => exact .nil
 | succ n ih =>
  cases h with
  | nil => exact .nil
  | cons _ _ _ _ h hs => exact .cons _ _ _ _ h (ih hs)
theorem LRel.map_s (vs:List Value) (h:∀ v ∈ vs,aggV v = false):LRel M L w (vs.map .s) vs:=by
 induction vs with
 | nil => exact .nil
 | cons v vs ih => exact .cons _ _ _ _ (.s v (h v (by simp))) (ih fun x hx => h x (by simp [hx]))
theorem LRel.tops (vs:List Value):LRel M L w (List.replicate vs.length .top) vs:=by
 induction vs with
 | nil => exact .nil
 | cons v vs ih => exact .cons _ _ _ _ (.top v) ih
theorem LRel.set {xs:List PV} {vs:List Value} (h:LRel M L w xs vs) (i:Nat) {x:PV} {v:Value} (hx:VRel M L w x v):LRel M L w (xs.set i x) (vs.set i v):=by
 induction xs generalizing vs i with
 | nil => cases h;exact .nil
 | cons y xs ih =>
  cases h with
  | cons _ u _ us h hs =>
   cases i with
   | zero => exact .cons _ _ _ _ hx hs
   | succ i => exact .cons _ _ _ _ h (ih hs i)
theorem LRel.all {xs:List PV} {vs:List Value} (hl:xs.length = vs.length) (h:∀ (i:Nat) (x:PV) (v:Value),xs[i]? = some x → vs[i]? = some v → VRel M L w x v):LRel M L w xs vs:=by
 induction xs generalizing vs with
 | nil => cases vs with | nil => exact .nil | cons => simp at hl
 | cons x xs ih =>
  cases vs with
  | nil => simp at hl
  | cons v vs => exact .cons _ _ _ _ (h 0 x v rfl rfl) (ih (by simpa using hl) fun i x v h1 h2 => h (i + 1) x v (by simpa using h1) (by simpa using h2))
theorem VRel.cells {p:PV} {c:Value} (h:VRel M L w p c) (hp:p.cells ≠ []):LRel M L w p.cells c.cells.toList:=by
 have one:∀ {p:PV} {c:Value},VRel M L w p c → p.cells = [p] → aggV c = false → LRel M L w p.cells c.cells.toList:=by
  intro p c h hp hc
  rw [hp]
  cases c <;> first|(simp [aggV] at hc;done)|exact .cons _ _ _ _ h .nil
 cases h with
 | top => simp [PV.cells] at hp
 | s _ h => exact one (.s c h) rfl h
 | agg cs vs h => exact h
 | tup cs vs h => exact one (.tup cs vs h) rfl rfl
 | fs xs a n cap k vs hn hc hk h hm => exact one (.fs xs a n cap k vs hn hc hk h hm) rfl rfl
 | fp cs b o vs h hlt hb hm => exact one (.fp cs b o vs h hlt hb hm) rfl rfl
 | os i ver off len wr k xs a cap hi hx hc hm => exact one (.os i ver off len wr k xs a cap hi hx hc hm) rfl rfl
 | os' i ver off len wr k v' xs a c hi hv => exact one (.os' i ver off len wr k v' xs a c hi hv) rfl rfl
 | op i ver e j wr k xs b o hi he hL => exact one (.op i ver e j wr k xs b o hi he hL) rfl rfl
 | op' i ver e j wr k v' xs a hi hv => exact one (.op' i ver e j wr k v' xs a hi hv) rfl rfl
 | om i es b o hi hL => exact one (.om i es b o hi hL) rfl rfl
 | fn f a c va vc ha hc => exact one (.fn f a c va vc ha hc) rfl rfl
 | yl i st pd ts ps x y b o hi hL => exact one (.yl i st pd ts ps x y b o hi hL) rfl rfl
 | nan k b h => exact one (.nan k b h) rfl rfl
 | err t v => exact one (.err t v) rfl rfl
 | om' i it v hi => exact one (.om' i it v hi) rfl rfl
 | oi i it b o hi hL => exact one (.oi i it b o hi hL) rfl rfl
 | bp i ver T wr k xs b c hi hx hL hr hs => exact one (.bp i ver T wr k xs b c hi hx hL hr hs) rfl rfl
 | bp' i ver T wr k v' xs a hi hv => exact one (.bp' i ver T wr k v' xs a hi hv) rfl rfl
 | ot i ver len e wr xs b cap c hi hx h0 hc hL hr hs => exact one (.ot i ver len e wr xs b cap c hi hx h0 hc hL hr hs) rfl rfl
 | ot' i ver len e wr k v' xs a cap hi hv => exact one (.ot' i ver len e wr k v' xs a cap hi hv) rfl rfl
theorem VRel.one {p:PV} {c:Value} (h:VRel M L w p c) (hp:oneB p = true):c.oneCell' = true:=by
 cases h with
 | s _ h => cases c <;> first | rfl | (simp [oneB] at hp)
 | top => simp [oneB] at hp
 | agg => simp [oneB] at hp
 | tup => simp [oneB] at hp
 | _ => rfl
theorem LRel.one {xs:List PV} {vs:List Value} (h:LRel M L w xs vs) (hp:xs.all oneB = true):∀ v ∈ vs,v.oneCell' = true:=by
 induction xs generalizing vs with
 | nil => cases h;simp
 | cons x xs ih =>
  cases h with
  | cons _ v _ vs h hs =>
   simp only [List.all_cons,Bool.and_eq_true] at hp
   intro u hu
   rcases List.mem_cons.1 hu with rfl|hu
   ·exact h.one hp.1
   ·exact ih hs hp.2 u hu
end
structure MpOk (left:List (Value × Value)) (cur:Option (Value × Value)) (since:Nat) (seen:Array Nat) (c0:Nat) (ents:Array MapEntry) (clock:Nat):Prop where
 left_:(leftOf ents seen).toList.map (fun e => (e.key,e.val)) = left
 old:∀ e ∈ ents.toList,e.born < since
 since_:since ≤ c0
 clk:since ≤ clock
 dup:(ents.toList.map (·.born)).Nodup
 one:∀ e ∈ ents.toList,aggV e.key = false ∧ aggV e.val = false
 cur_:∀ p,cur = some p → ∃ e ∈ ents.toList,∃ s:Array Nat,seen = s.push e.born ∧ p = (e.key,e.val) ∧ c0 = clock
def Qay:Option Ex → Option Code → Prop
 | none,none => True
 | some (.exit i),some (.exit j) => i = j
 | some (.goto i),some (.goto j) => i = j
 | some .ret,some .ret => True
 | _,_ => False
def BRel (R:CCode → Code → Prop) (M:List Blk) (L:Loc) (w:World) (i:Nat):Blk → Prop
 | .row _ k _ xs => (∀ x ∈ xs,x.cells.length = k) ∧
   (∀ b o,L i = some (b,o) → ∃ c el vs,RowAt w b c el ∧ LRel M L w (xs.flatMap PV.cells) vs ∧ ∀ m v,vs[m]? = some v → c[o + m]? = some v) ∧
   (L i = none → xs = [])
 | .map es => ∃ b o ents clock,L i = some (b,o) ∧ w.heap[b]? = some (.map ents clock) ∧ ents.toList.map (fun e => (e.key,e.val)) = es ∧ (∀ e ∈ es,aggV e.2 = false) ∧ (∀ e ∈ ents.toList,e.born < clock) ∧ (ents.toList.map (·.born)).Nodup
 | .loop st pd ts ps a b => ∃ k o r,L i = some (k,o) ∧ w.heap[k]? = some (.loop r) ∧ r.state = st ∧ Qay pd r.pending ∧ r.params.toList = ps ∧ LRel M L w ts r.tmps.toList ∧ R a r.assign ∧ R b r.body
 | .siter (.str s pos) => ∃ b o,L i = some (b,o) ∧ w.heap[b]? = some (.stringIter s pos)
 | .siter (.mp left cur) => ∃ b o,L i = some (b,o) ∧ ∃ bm since seen c0 ents clock,w.heap[b]? = some (.mapIter (some bm) since seen c0) ∧ bm < w.heap.size ∧ ¬ Owned M L bm ∧ w.heap[bm]? = some (.map ents clock) ∧
   MpOk left cur since seen c0 ents clock
structure Sim [Env] (R:CCode → Code → Prop) (M:List Blk) (L:Loc) (w:World):Prop where
 mem:∀ i b,M[i]? = some b → BRel R M L w i b
 inj:∀ i j bi bj p q,M[i]? = some bi → M[j]? = some bj → bi.live = true → i ≠ j → L i = some p → L j = some q → p.1 ≠ q.1
 env:∀ g cs,Env.glb g = some cs → (∃ el,w.heap[g]? = some (.cells cs.toArray el (0,0))) ∧ ¬ Owned M L g
def BEvo (L L':Loc) (w w':World) (i:Nat):Blk → Blk → Prop
 | .row _ k ver xs,.row _ k' ver' xs' => ver ≤ ver' ∧ (ver = ver' → k' = k ∧ xs'.length = xs.length ∧ L' i = L i ∧
   ∀ b o c el,L i = some (b,o) → RowAt w b c el → ∃ c',RowAt w' b c' el ∧ c'.size = c.size)
 | .map _,.map _ => L' i = L i
 | .loop _ _ ts ps a b,.loop _ _ ts' ps' a' b' => L' i = L i ∧ ts' = ts ∧ ps' = ps ∧ a' = a ∧ b' = b
 | .siter _,.siter _ => L' i = L i
 | .map _,.siter _ => True
 | _,_ => False
structure Evo [Env] (M:List Blk) (L:Loc) (w:World) (M':List Blk) (L':Loc) (w':World):Prop where
 os:w'.os = w.os
 tape:w'.tape = w.tape
 output:w'.output = w.output
 drawn:Env.mono → w.drawn ≤ w'.drawn
 size:w.heap.size ≤ w'.heap.size
 frame:∀ b,b < w.heap.size → ¬ Owned M L b → w'.heap[b]? = w.heap[b]? ∧ ¬ Owned M' L' b
 blk:∀ i b,M[i]? = some b → ∃ b',M'[i]? = some b' ∧ BEvo L L' w w' i b b'
theorem BEvo.refl (L:Loc) (w:World) (i:Nat) (b:Blk):BEvo L L w w i b b:=by
 cases b with
 | row => exact ⟨Nat.le_refl _,fun _ => ⟨rfl,rfl,rfl,fun _ _ c _ _ h => ⟨c,h,rfl⟩⟩⟩
 | map => rfl
 | loop => exact ⟨rfl,rfl,rfl,rfl,rfl⟩
 | siter => rfl
theorem Evo.refl [Env] (M:List Blk) (L:Loc) (w:World):Evo M L w M L w :=
 ⟨rfl,rfl,rfl,fun _ => Nat.le_refl _,Nat.le_refl _,fun b _ h => ⟨rfl,h⟩,fun i b h => ⟨b,h,.refl ..⟩⟩
theorem BEvo.trans {L L' L'':Loc} {w w' w'':World} {i:Nat} {b b' b'':Blk} (h:BEvo L L' w w' i b b') (k:BEvo L' L'' w' w'' i b' b''):BEvo L L'' w w'' i b b'':=by
 cases b with
 | row _ kk ver xs =>
  cases b' with
  | row _ kk' ver' xs' =>
   cases b'' with
   | row _ kk'' ver'' xs'' =>
    refine ⟨Nat.le_trans h.1 k.1,fun e => ?_⟩
    have e1:ver = ver':=by have:=h.1;have:=k.1;omega
    have e2:ver' = ver'':=by omega
    obtain ⟨h1,h2,h3,h4⟩:=h.2 e1
    obtain ⟨k1,k2,k3,k4⟩:=k.2 e2
    refine ⟨k1.trans h1,k2.trans h2,k3.trans h3,fun b o c el hL hb => ?_⟩
    obtain ⟨c',hc',hs'⟩:=h4 b o c el hL hb
    obtain ⟨c'',hc'',hs''⟩:=k4 b o c' el (h3.trans hL) hc'
    exact ⟨c'',hc'',hs''.trans hs'⟩
   | _ => exact k.elim
  | _ => exact h.elim
 | map =>
  cases b' with
  | map =>
   cases b'' with
   | map => exact Eq.trans k h
   | siter => exact trivial
   | _ => exact k.elim
  | siter =>
   cases b'' with
   | siter => exact trivial
   | _ => exact k.elim
  | _ => exact h.elim
 | loop =>
  cases b' with
  | loop =>
   cases b'' with
   | loop =>
    obtain ⟨a1,a2,a3,a4,a5⟩:=h
    obtain ⟨b1,b2,b3,b4,b5⟩:=k
    exact ⟨b1.trans a1,b2.trans a2,b3.trans a3,b4.trans a4,b5.trans a5⟩
   | _ => exact k.elim
  | _ => exact h.elim
 | siter =>
  cases b' with
  | siter =>
   cases b'' with
   | siter => exact Eq.trans k h
   | _ => exact k.elim
  | _ => exact h.elim
theorem Evo.trans [Env] {M M' M'':List Blk} {L L' L'':Loc} {w w' w'':World} (h:Evo M L w M' L' w') (k:Evo M' L' w' M'' L'' w''):Evo M L w M'' L'' w'' where
 os:=k.os.trans h.os
 tape:=k.tape.trans h.tape
 output:=k.output.trans h.output
 drawn:=fun m => Nat.le_trans (h.drawn m) (k.drawn m)
 size:=Nat.le_trans h.size k.size
 frame:=fun b hb ho => by
  obtain ⟨h1,h2⟩:=h.frame b hb ho
  obtain ⟨k1,k2⟩:=k.frame b (Nat.lt_of_lt_of_le hb h.size) h2
  exact ⟨k1.trans h1,k2⟩
 blk:=fun i b hb => by
  obtain ⟨b',h1,h2⟩:=h.blk i b hb
  obtain ⟨b'',k1,k2⟩:=k.blk i b' h1
  exact ⟨b'',k1,h2.trans k2⟩
section
variable [Env] {M M':List Blk} {L L':Loc} {w w':World} (E:Evo M L w M' L' w')
include E
theorem Evo.cell {b o:Nat} {v:Value} (hlt:b < w.heap.size) (hb:¬ Owned M L b) (hc:w.cell? ⟨b,o,none⟩ = some v):w'.cell? ⟨b,o,none⟩ = some v:=by
 have:=(E.frame b hlt hb).1
 unfold World.cell? at *
 simp only at *
 rw [this];exact hc
theorem Evo.row {i k ver:Nat} {wr:Bool} {xs:List PV} (hi:M[i]? = some (.row wr k ver xs)):∃ wr' k' ver' xs',M'[i]? = some (.row wr' k' ver' xs') ∧ BEvo L L' w w' i (.row wr k ver xs) (.row wr' k' ver' xs'):=by
 obtain ⟨b',h1,h2⟩:=E.blk i _ hi
 cases b' with
 | row wr' k' ver' xs' => exact ⟨_,_,_,_,h1,h2⟩
 | _ => exact h2.elim
mutual
theorem VRel.evo:∀ {p:PV} {c:Value},VRel M L w p c → VRel M' L' w' p c
 | _,_,.top v => .top v
 | _,_,.s v h => .s v h
 | _,_,.agg cs vs h => .agg cs vs (LRel.evo h)
 | _,_,.tup cs vs h => .tup cs vs (LRel.evo h)
 | _,_,.fs xs a n cap k vs hn hc hk h hm => .fs xs a n cap k vs hn hc hk (LRel.evo h) fun hne => by
   obtain ⟨b,o,ha,hlt,hb,hv⟩:=hm hne
   exact ⟨b,o,ha,Nat.lt_of_lt_of_le hlt E.size,(E.frame b hlt hb).2,fun m v hmv => E.cell hlt hb (hv m v hmv)⟩
 | _,_,.fp cs b o vs h hlt hb hm => .fp cs b o vs (LRel.evo h) (Nat.lt_of_lt_of_le hlt E.size) (E.frame b hlt hb).2 fun m v hmv => E.cell hlt hb (hm m v hmv)
 | _,_,.os i ver off len wr k xs a cap hi hx hc hm => by
   obtain ⟨wr',k',ver',xs',h1,h2,h3⟩:=E.row hi
   by_cases e:ver = ver'
   ·subst e
    obtain ⟨rfl,e2,e3,e4⟩:=h3 rfl
    refine .os i ver off len wr' k' xs' a cap h1 (by omega) hc fun hne => ?_
    obtain ⟨b,o,c,el,g1,g2,g3,g4⟩:=hm hne
    obtain ⟨c',g5,g6⟩:=e4 b o c el g1 g3
    exact ⟨b,o,c',el,e3.trans g1,g2,g5,by rw [g6];exact g4⟩
   ·exact .os' i ver off len wr' k' ver' xs' a cap h1 (by omega)
 | _,_,.os' i ver off len wr k v' xs a c hi hv => by
   obtain ⟨wr',k',ver',xs',h1,h2,h3⟩:=E.row hi
   exact .os' i ver off len wr' k' ver' xs' a c h1 (by omega)
 | _,_,.op i ver e j wr k xs b o hi he hL => by
   obtain ⟨wr',k',ver',xs',h1,h2,h3⟩:=E.row hi
   by_cases e:ver = ver'
   ·subst e
    obtain ⟨rfl,e2,e3,e4⟩:=h3 rfl
    exact .op i ver _ j wr' k' xs' b o h1 (by omega) (e3.trans hL)
   ·exact .op' i ver _ j wr' k' ver' xs' _ h1 (by omega)
 | _,_,.op' i ver e j wr k v' xs a hi hv => by
   obtain ⟨wr',k',ver',xs',h1,h2,h3⟩:=E.row hi
   exact .op' i ver _ j wr' k' ver' xs' a h1 (by omega)
 | _,_,.om i es b o hi hL => by
   obtain ⟨b',h1,h2⟩:=E.blk i _ hi
   cases b' with
   | map es' => exact .om i es' b o h1 (Eq.trans h2 hL)
   | siter it => exact .om' i it (some b) h1
   | _ => exact h2.elim
 | _,_,.om' i it v hi => by
   obtain ⟨b',h1,h2⟩:=E.blk i _ hi
   cases b' with
   | siter it' => exact .om' i it' v h1
   | _ => exact h2.elim
 | _,_,.fn f a c va vc ha hc => .fn f a c va vc (LRel.evo ha) (LRel.evo hc)
 | _,_,.yl i st pd ts ps x y b o hi hL => by
   obtain ⟨b',h1,h2⟩:=E.blk i _ hi
   cases b' with
   | loop st' pd' ts' ps' x' y' => exact .yl i st' pd' ts' ps' x' y' b o h1 (Eq.trans h2.1 hL)
   | _ => exact h2.elim
 | _,_,.nan k b h => .nan k b h
 | _,_,.err t v => .err t v
 | _,_,.oi i it b o hi hL => by
   obtain ⟨b',h1,h2⟩:=E.blk i _ hi
   cases b' with
   | siter it' => exact .oi i it' b o h1 (Eq.trans h2 hL)
   | _ => exact h2.elim
 | _,_,.bp i ver T wr k xs b c hi hx hL hr hs => by
   obtain ⟨wr',k',ver',xs',h1,h2,h3⟩:=E.row hi
   by_cases e:ver = ver'
   ·subst e
    obtain ⟨rfl,e2,e3,e4⟩:=h3 rfl
    obtain ⟨c',g5,g6⟩:=e4 b 0 c T hL hr
    exact .bp i ver T wr' k' xs' b c' h1 (by omega) (e3.trans hL) g5 (by omega)
   ·exact .bp' i ver T wr' k' ver' xs' _ h1 (by omega)
 | _,_,.bp' i ver T wr k v' xs a hi hv => by
   obtain ⟨wr',k',ver',xs',h1,h2,h3⟩:=E.row hi
   exact .bp' i ver T wr' k' ver' xs' _ h1 (by omega)
 | _,_,.ot i ver len e wr xs b cap c hi hx h0 hc hL hr hs => by
   obtain ⟨wr',k',ver',xs',h1,h2,h3⟩:=E.row hi
   by_cases ee:ver = ver'
   ·subst ee
    obtain ⟨rfl,e2,e3,e4⟩:=h3 rfl
    obtain ⟨c',g5,g6⟩:=e4 b 0 c e hL hr
    exact .ot i ver len e wr' xs' b cap c' h1 (by omega) h0 hc (e3.trans hL) g5 (by omega)
   ·exact .ot' i ver len e wr' k' ver' xs' _ _ h1 (by omega)
 | _,_,.ot' i ver len e wr k v' xs a cap hi hv => by
   obtain ⟨wr',k',ver',xs',h1,h2,h3⟩:=E.row hi
   exact .ot' i ver len e wr' k' ver' xs' _ _ h1 (by omega)
theorem LRel.evo:∀ {xs:List PV} {vs:List Value},LRel M L w xs vs → LRel M' L' w' xs vs
 | _,_,.nil => .nil
 | _,_,.cons x v xs vs h hs => .cons x v xs vs (VRel.evo h) (LRel.evo hs)
end
end
end Go.Nac
namespace Go.Nac
variable [Env]
section
variable {R:CCode → Code → Prop} {M:List Blk} {L:Loc} {w w':World}
structure Same (w w':World):Prop where
 os:w'.os = w.os
 tape:w'.tape = w.tape
 output:w'.output = w.output
 drawn:w.drawn ≤ w'.drawn
theorem BRel.evo {M':List Blk} {L':Loc} (E:Evo M L w M' L' w') {j:Nat} {b:Blk} (hL:L' j = L j)
  (hh:∀ p,L j = some p → w'.heap[p.1]? = w.heap[p.1]?) (h:BRel R M L w j b):BRel R M' L' w' j b:=by
 cases b with
 | row wr k ver xs =>
  obtain ⟨h1,h2,h3⟩:=h
  refine ⟨h1,fun b o hb => ?_,fun hb => h3 (hL ▸ hb)⟩
  rw [hL] at hb
  obtain ⟨c,el,vs,g1,g2,g3⟩:=h2 b o hb
  exact ⟨c,el,vs,g1.congr (hh _ hb),LRel.evo E g2,g3⟩
 | map es =>
  obtain ⟨b,o,ents,clock,h1,h2,h3⟩:=h
  exact ⟨b,o,ents,clock,hL.trans h1,(hh _ h1).trans h2,h3⟩
 | loop st pd ts ps x y =>
  obtain ⟨k,o,r,h1,h2,h3,h4,h5,h6,h7,h8⟩:=h
  exact ⟨k,o,r,hL.trans h1,(hh _ h1).trans h2,h3,h4,h5,LRel.evo E h6,h7,h8⟩
 | siter it =>
  cases it with
  | str s pos =>
   obtain ⟨b,o,h1,h2⟩:=h
   exact ⟨b,o,hL.trans h1,(hh _ h1).trans h2⟩
  | mp left cur =>
   obtain ⟨b,o,h1,bm,since,seen,c0,ents,clock,h2,h3,h4,h5,h6⟩:=h
   obtain ⟨f1,f2⟩:=E.frame bm h3 h4
   exact ⟨b,o,hL.trans h1,bm,since,seen,c0,ents,clock,(hh _ h1).trans h2,Nat.lt_of_lt_of_le h3 E.size,f2,f1.trans h5,h6⟩
theorem BRel.lt {j:Nat} {b:Blk} (h:BRel R M L w j b) {p:Nat × Nat} (hp:L j = some p):p.1 < w.heap.size:=by
 have key:∀ {k:Nat} {o:Obj},w.heap[k]? = some o → k < w.heap.size:=fun h => (Array.getElem?_eq_some_iff.1 h).1
 cases b with
 | row => obtain ⟨c,el,vs,g1,_⟩:=h.2.1 p.1 p.2 hp;exact g1.lt
 | map => obtain ⟨b,o,_,_,h1,h2,_⟩:=h;rw [h1] at hp;cases hp;exact key h2
 | loop => obtain ⟨b,o,_,h1,h2,_⟩:=h;rw [h1] at hp;cases hp;exact key h2
 | siter it =>
  cases it with
  | str => obtain ⟨b,o,h1,h2⟩:=h;rw [h1] at hp;cases hp;exact key h2
  | mp => obtain ⟨b,o,h1,_,_,_,_,_,_,h2,_⟩:=h;rw [h1] at hp;cases hp;exact key h2
theorem Owned.lt (S:Sim R M L w) {b:Nat} (h:Owned M L b):b < w.heap.size:=by
 obtain ⟨i,blk,p,h1,h2,h3,rfl⟩:=h
 exact (S.mem i blk h1).lt h3
theorem Evo.heap (hw:Same w w') (hh:w'.heap = w.heap):Evo M L w M L w' :=
 ⟨hw.os,hw.tape,hw.output,fun _ => hw.drawn,by rw [hh];exact Nat.le_refl _,fun b _ h => ⟨by rw [hh],h⟩,fun i b h => ⟨b,h,by
  have:BEvo L L w w' i b b:=by
   cases b with
   | row => exact ⟨Nat.le_refl _,fun _ => ⟨rfl,rfl,rfl,fun _ _ c _ _ h => ⟨c,h.congr (by rw [hh]),rfl⟩⟩⟩
   | map => rfl
   | loop => exact ⟨rfl,rfl,rfl,rfl,rfl⟩
   | siter => rfl
  exact this⟩⟩
theorem Sim.envE (S:Sim R M L w) {M':List Blk} {L':Loc} (E:Evo M L w M' L' w'):∀ g cs,Env.glb g = some cs → (∃ el,w'.heap[g]? = some (.cells cs.toArray el (0,0))) ∧ ¬ Owned M' L' g:=by
 intro g cs h
 obtain ⟨⟨el,h1⟩,h2⟩:=S.env g cs h
 obtain ⟨h3,h4⟩:=E.frame g (Array.getElem?_eq_some_iff.1 h1).1 h2
 exact ⟨⟨el,h3.trans h1⟩,h4⟩
theorem Sim.heap (S:Sim R M L w) (hw:Same w w') (hh:w'.heap = w.heap):Sim R M L w' :=
 ⟨fun i b h => (S.mem i b h).evo (Evo.heap hw hh) rfl fun p _ => by rw [hh],S.inj,fun g cs h => by rw [hh];exact S.env g cs h⟩
def Loc.upd (L:Loc) (i:Nat) (p:Option (Nat × Nat)):Loc:=fun j => if j = i then p else L j
theorem Loc.upd_self (L:Loc) (i:Nat) (p:Option (Nat × Nat)):L.upd i p i = p:=by simp [Loc.upd]
theorem Loc.upd_ne (L:Loc) {i j:Nat} (p:Option (Nat × Nat)) (h:j ≠ i):L.upd i p j = L j:=by simp [Loc.upd,h]
theorem YN {M:List Blk} {blk b:Blk} {i:Nat} (h:(M ++ [blk])[i]? = some b):M[i]? = some b ∧ i < M.length ∨ i = M.length ∧ b = blk:=by
 rcases Nat.lt_or_ge i M.length with hi|hi
 ·rw [List.getElem?_append_left hi] at h;exact .inl ⟨h,hi⟩
 ·rw [List.getElem?_append_right hi] at h
  have:i - M.length = 0:=by
   rcases Nat.eq_zero_or_pos (i - M.length) with h0|h0
   ·exact h0
   ·rw [List.getElem?_eq_none (by simp;omega)] at h;cases h
  rw [this] at h
  exact .inr ⟨by omega,by simpa using h.symm⟩
theorem push (S:Sim R M L w) (blk:Blk) (o:Option Obj) (hw:Same w w')
  (hh:w'.heap = match o with|some o => w.heap.push o|none => w.heap)
  (hb:∀ M' L',M' = M ++ [blk] → L' = L.upd M.length (o.map fun _ => (w.heap.size,0)) → Evo M L w M' L' w' → BRel R M' L' w' M.length blk) :
  Evo M L w (M ++ [blk]) (L.upd M.length (o.map fun _ => (w.heap.size,0))) w' ∧ Sim R (M ++ [blk]) (L.upd M.length (o.map fun _ => (w.heap.size,0))) w':=by
 have old:∀ b,b < w.heap.size → w'.heap[b]? = w.heap[b]?:=by
  intro b hlt
  rw [hh]
  cases o with
  | none => rfl
  | some o => simp only;rw [Array.getElem?_push_lt hlt];exact (Array.getElem?_eq_getElem hlt).symm
 have size:w.heap.size ≤ w'.heap.size:=by
  rw [hh];cases o with
  | none => exact Nat.le_refl _
  | some o => simp
 have E:Evo M L w (M ++ [blk]) (L.upd M.length (o.map fun _ => (w.heap.size,0))) w':=by
  refine ⟨hw.os,hw.tape,hw.output,fun _ => hw.drawn,size,fun b hlt hno => ⟨old b hlt,?_⟩,fun i b hi => ?_⟩
  ·rintro ⟨i,bl,p,h1,h2,h3,h4⟩
   rcases YN h1 with ⟨h1,hi⟩|⟨rfl,rfl⟩
   ·rw [Loc.upd_ne _ _ (by omega)] at h3
    exact hno ⟨i,bl,p,h1,h2,h3,h4⟩
   ·rw [Loc.upd_self] at h3
    cases o with
    | none => simp at h3
    | some o => simp at h3;subst h3;simp at h4;omega
  ·have hi':i < M.length:=(List.getElem?_eq_some_iff.1 hi).1
   refine ⟨b,by rw [List.getElem?_append_left hi'];exact hi,?_⟩
   have hL:(L.upd M.length (o.map fun _ => (w.heap.size,0))) i = L i:=Loc.upd_ne _ _ (by omega)
   cases b with
   | row => exact ⟨Nat.le_refl _,fun _ => ⟨rfl,rfl,hL,fun bb oo c el g1 g2 => ⟨c,g2.congr (old bb g2.lt),rfl⟩⟩⟩
   | map => exact hL
   | loop => exact ⟨hL,rfl,rfl,rfl,rfl⟩
   | siter => exact hL
 refine ⟨E,⟨fun i b hi => ?_,fun i j bi bj p q hi hj hl hne hp hq => ?_,S.envE E⟩⟩
 ·rcases YN hi with ⟨hi,hlt⟩|⟨rfl,rfl⟩
  ·exact (S.mem i b hi).evo E (Loc.upd_ne _ _ (by omega)) fun p hp => old _ ((S.mem i b hi).lt hp)
  ·exact hb _ _ rfl rfl E
 ·rcases YN hi with ⟨hi',hil⟩|⟨ei,eb⟩ <;> rcases YN hj with ⟨hj',hjl⟩|⟨ej,ec⟩
  ·rw [Loc.upd_ne _ _ (by omega)] at hp hq
   exact S.inj i j bi bj p q hi' hj' hl hne hp hq
  ·subst ej
   rw [Loc.upd_ne _ _ (by omega)] at hp
   rw [Loc.upd_self] at hq
   have:=(S.mem i bi hi').lt hp
   cases o with
   | none => simp at hq
   | some o => simp at hq;subst hq;simp;omega
  ·subst ei
   rw [Loc.upd_self] at hp
   rw [Loc.upd_ne _ _ (by omega)] at hq
   have:=(S.mem j bj hj').lt hq
   cases o with
   | none => simp at hp
   | some o => simp at hp;subst hp;simp;omega
  ·exact absurd (ei.trans ej.symm) hne
theorem Z8 {M:List Blk} {i j:Nat} {b c:Blk} (hi:i < M.length) (h:(M.set i b)[j]? = some c):j = i ∧ c = b ∨ j ≠ i ∧ M[j]? = some c:=by
 by_cases e:j = i
 ·subst e;rw [List.getElem?_set_self hi] at h;exact .inl ⟨rfl,by simpa using h.symm⟩
 ·rw [List.getElem?_set_ne (fun h => e h.symm)] at h;exact .inr ⟨e,h⟩
theorem change (S:Sim R M L w) {i:Nat} {blk blk':Blk} (hi:M[i]? = some blk) (L':Loc) (hL:∀ j,j ≠ i → L' j = L j) (hw:Same w w')
  (hlive:blk.live = true ∨ blk'.live = false)
  (hsize:w.heap.size ≤ w'.heap.size)
  (hheap:∀ b,b < w.heap.size → (∀ p,blk.live = true → L i = some p → p.1 ≠ b) → w'.heap[b]? = w.heap[b]?)
  (hplace:∀ p,L' i = some p → (∃ q,L i = some q ∧ q.1 = p.1) ∨ w.heap.size ≤ p.1)
  (hB:BEvo L L' w w' i blk blk')
  (hb:Evo M L w (M.set i blk') L' w' → BRel R (M.set i blk') L' w' i blk') :
  Evo M L w (M.set i blk') L' w' ∧ Sim R (M.set i blk') L' w':=by
 have hlt:i < M.length:=(List.getElem?_eq_some_iff.1 hi).1
 have keep:∀ j b p,j ≠ i → M[j]? = some b → L j = some p → w'.heap[p.1]? = w.heap[p.1]?:=by
  intro j b p hj hb hp
  refine hheap _ ((S.mem j b hb).lt hp) fun q hl hq => ?_
  exact S.inj i j blk b q p hi hb hl (fun h => hj h.symm) hq hp
 have E:Evo M L w (M.set i blk') L' w':=by
  refine ⟨hw.os,hw.tape,hw.output,fun _ => hw.drawn,hsize,fun b hb hno => ⟨hheap b hb fun p hl hp e => hno ⟨i,blk,p,hi,hl,hp,e⟩,?_⟩,fun j b hj => ?_⟩
  ·rintro ⟨j,bl,p,h1,h2,h3,h4⟩
   rcases Z8 hlt h1 with ⟨rfl,rfl⟩|⟨hne,h1⟩
   ·rcases hplace p h3 with ⟨q,hq,e⟩|hp
    ·rcases hlive with hl|hl
     ·exact hno ⟨j,blk,q,hi,hl,hq,e.trans h4⟩
     ·rw [hl] at h2;cases h2
    ·omega
   ·rw [hL j hne] at h3;exact hno ⟨j,bl,p,h1,h2,h3,h4⟩
  ·by_cases e:j = i
   ·subst e
    rw [hi] at hj;cases hj
    exact ⟨blk',List.getElem?_set_self hlt,hB⟩
   ·refine ⟨b,by rw [List.getElem?_set_ne (fun h => e h.symm)];exact hj,?_⟩
    cases b with
    | row wr k ver xs => exact ⟨Nat.le_refl _,fun _ => ⟨rfl,rfl,hL j e,fun bb oo c el g1 g2 => ⟨c,g2.congr (keep j _ _ e hj g1),rfl⟩⟩⟩
    | map => exact hL j e
    | loop => exact ⟨hL j e,rfl,rfl,rfl,rfl⟩
    | siter => exact hL j e
 refine ⟨E,⟨fun j b hj => ?_,fun j l bj bl p q hj hl hlv hne hp hq => ?_,S.envE E⟩⟩
 ·rcases Z8 hlt hj with ⟨rfl,rfl⟩|⟨hne,hj⟩
  ·exact hb E
  ·exact (S.mem j b hj).evo E (hL j hne) fun p hp => keep j b p hne hj hp
 ·rcases Z8 hlt hj with ⟨ej,eb⟩|⟨hnj,hj'⟩ <;> rcases Z8 hlt hl with ⟨el,ec⟩|⟨hnl,hl'⟩
  ·exact absurd (ej.trans el.symm) hne
  ·subst ej;subst eb
   rw [hL l hnl] at hq
   rcases hplace p hp with ⟨p',hp',e⟩|hp'
   ·rw [← e]
    rcases hlive with hv|hv
    ·exact S.inj j l blk bl p' q hi hl' hv hne hp' hq
    ·rw [hv] at hlv;cases hlv
   ·have:=(S.mem l bl hl').lt hq;omega
  ·subst el;subst ec
   rw [hL j hnj] at hp
   rcases hplace q hq with ⟨q',hq',e⟩|hq'
   ·rw [← e];exact S.inj j l bj blk p q' hj' hi hlv hne hp hq'
   ·have:=(S.mem j bj hj').lt hp;omega
  ·rw [hL j hnj] at hp;rw [hL l hnl] at hq
   exact S.inj j l bj bl p q hj' hl' hlv hne hp hq
end
def V0 (ents:Array MapEntry) (clock:Nat):Prop:=(∀ e ∈ ents.toList,e.born < clock) ∧ (ents.toList.map (·.born)).Nodup
theorem V0.push {ents:Array MapEntry} {clock:Nat} (h:V0 ents clock) (k v:Value):V0 (ents.push { key:=k,val:=v,born:=clock }) (clock + 1):=by
 obtain ⟨h1,h2⟩:=h
 refine ⟨fun e he => ?_,?_⟩
 ·rw [Array.toList_push] at he
  rcases List.mem_append.1 he with he|he
  ·have:=h1 e he;omega
  ·rw [List.mem_singleton] at he;subst he;exact Nat.lt_succ_self _
 ·rw [Array.toList_push,List.map_append,List.nodup_append]
  refine ⟨h2,by simp,fun a ha b hb => ?_⟩
  obtain ⟨e,he,rfl⟩:=List.mem_map.1 ha
  simp only [List.map_cons,List.map_nil,List.mem_singleton] at hb
  subst hb
  have:=h1 e he;omega
theorem V0.modify {ents:Array MapEntry} {clock:Nat} (h:V0 ents clock) (j:Nat) (f:MapEntry → MapEntry) (hf:∀ e,(f e).born = e.born):V0 (ents.modify j f) clock:=by
 obtain ⟨h1,h2⟩:=h
 have e1:(ents.modify j f).toList.map (·.born) = ents.toList.map (·.born):=by
  rw [Array.toList_modify]
  apply List.ext_getElem?
  intro i
  simp only [List.getElem?_map,List.getElem?_modify]
  cases ents.toList[i]? with
  | none => rfl
  | some e => by_cases hij:j = i <;> simp [hij,hf]
 refine ⟨fun e he => ?_,by rw [e1];exact h2⟩
 have:e.born ∈ (ents.modify j f).toList.map (·.born):=List.mem_map.2 ⟨e,he,rfl⟩
 rw [e1] at this
 obtain ⟨e',he',h3⟩:=List.mem_map.1 this
 have:=h1 e' he';omega
end Go.Nac
namespace Go.Nac
variable [Env]
def okV:Value → Value → Bool
 | .bool a,.bool b => a == b
 | .int k a,.int k' b => k == k' && a == b
 | .string a,.string b => a.data == b.data
 | .slice none 0 0,.slice none 0 0 => true
 | .float k a,.float k' b => k == k' && a == b
 | .nilFunc,.nilFunc => true
 | .nilIface,.nilIface => true
 | .map none,.map none => true
 | .pointer none,.pointer none => true
 | _,_ => false
theorem QhQ {v w:Value} (h:okV v w = true):v = w ∧ aggV v = false:=by
 unfold okV at h
 split at h
 ·simp at h;subst h;exact ⟨rfl,rfl⟩
 ·simp at h;obtain ⟨rfl,rfl⟩:=h;exact ⟨rfl,rfl⟩
 ·rename_i a b
  have:a.data = b.data:=by simpa using h
  exact ⟨by cases a;cases b;simp_all,rfl⟩
 ·exact ⟨rfl,rfl⟩
 ·simp at h;obtain ⟨rfl,rfl⟩:=h;exact ⟨rfl,rfl⟩
 ·exact ⟨rfl,rfl⟩
 ·exact ⟨rfl,rfl⟩
 ·exact ⟨rfl,rfl⟩
 ·exact ⟨rfl,rfl⟩
 ·cases h
def okVs:List Value → List Value → Bool
 | [],[] => true
 | v :: vs,w :: ws => okV v w && okVs vs ws
 | _,_ => false
theorem YL:∀ {vs ws:List Value},okVs vs ws = true → vs = ws ∧ ∀ v ∈ vs,aggV v = false
 | [],[],_ => ⟨rfl,by simp⟩
 | v :: vs,w :: ws,h => by
  simp only [okVs,Bool.and_eq_true] at h
  obtain ⟨rfl,h1⟩:=QhQ h.1
  obtain ⟨rfl,h2⟩:=YL h.2
  exact ⟨rfl,by simp;exact ⟨h1,h2⟩⟩
 | [],_ :: _,h => by simp [okVs] at h
 | _ :: _,[],h => by simp [okVs] at h
def okX:CX → Operand → Bool
 | .t n,.tmp m => n == m
 | .k v,.const w => okV v w
 | .f g,.func h => g == h
 | .g g cs,.global h => g == h && (match Env.glb g with | some ds => okVs cs ds | none => false)
 | _,_ => false
def okXs:List CX → List Operand → Bool
 | [],[] => true
 | x :: xs,y :: ys => okX x y && okXs xs ys
 | _,_ => false
def okXo:Option CX → Option Operand → Bool
 | none,none => true
 | some x,some y => okX x y
 | _,_ => false
section
variable {R:CCode → Code → Prop} {P:Program} {M:List Blk} {L:Loc} {w:World} {ρ:CX → PV} {σ:Operand → Value}
def Good (R:CCode → Code → Prop) (P:Program) (s:Sem Next) (M:List Blk) (L:Loc) (w:World) (v:PV) (M':List Blk):Prop :=
 ∃ cv w' L',(s.run P w = .ok (.value cv) w' ∨ s.run P w = .ok .skip w' ∧ cv = undef) ∧ Evo M L w M' L' w' ∧ Sim R M' L' w' ∧ VRel M' L' w' v cv
def Fit (M:List Blk) (L:Loc) (w:World) (ρ:CX → PV) (σ:Operand → Value):Prop:=∀ x y,okX x y = true → VRel M L w (ρ x) (σ y)
theorem Qg {s:Sem Next} {v:PV} {cv:Value} (S:Sim R M L w) (hr:s.run P w = .ok (.value cv) w) (hv:VRel M L w v cv):Good R P s M L w v M :=
 ⟨cv,w,L,.inl hr,Evo.refl M L w,S,hv⟩
theorem Fit.list (H:Fit M L w ρ σ):∀ {xs:List CX} {ys:List Operand},okXs xs ys = true → LRel M L w (xs.map ρ) (ys.map σ)
 | [],[],_ => .nil
 | x :: xs,y :: ys,h => by
  simp only [okXs,Bool.and_eq_true] at h
  exact .cons _ _ _ _ (H x y h.1) (H.list h.2)
 | [],_ :: _,h => by simp [okXs] at h
 | _ :: _,[],h => by simp [okXs] at h
theorem VRel.s_inv {v c:Value} (h:VRel M L w (.s v) c):c = v:=by cases h;rfl
theorem Qf2 {op:BinOp} {k:IntKind} {a b:Int} {v:Value} (h:VD op k a b = some v) (t:TypeId):(binOp op t (.int k a) (.int k b)).run P w = .ok v w ∧ aggV v = false:=by
  cases op <;> simp only [VD] at h <;> first
    | (cases h;done)
    | (obtain rfl:=Option.some.inj h;exact ⟨by rw [binOp_and];rfl,rfl⟩)
    | (obtain rfl:=Option.some.inj h;exact ⟨by rw [binOp_or];rfl,rfl⟩)
    | (obtain rfl:=Option.some.inj h;exact ⟨by rw [binOp_xor];rfl,rfl⟩)
    | (obtain rfl:=Option.some.inj h;exact ⟨by simp [binOp,Op.intArith,Op.intCmp],rfl⟩)
    | (split at h
       · cases h
       · rename_i hb
         obtain rfl:=Option.some.inj h
         exact ⟨by simp [binOp,Op.intDiv,hb],rfl⟩)
theorem QgL {op:BinOp} {k k':IntKind} {a b:Int} {v:Value} (h:shInt op k a b = some v) (t:TypeId):(binOp op t (.int k a) (.int k' b)).run P w = .ok v w ∧ aggV v = false:=by
  cases op <;> simp only [shInt] at h <;> first
    | (cases h;done)
    | (split at h
       · cases h
       · rename_i hb
         obtain rfl:=Option.some.inj h
         exact ⟨by simp [binOp,Op.shift,hb],rfl⟩)
theorem QaV {op:BinOp} {k k':IntKind} {a b:Int} (t:TypeId) (x y:Operand):(eqGuard op t x y (.int k a) (.int k' b)).run P w = .ok () w:=by
 unfold eqGuard;split <;> rfl
theorem Qec {op:BinOp} {a b:ByteArray} (t:TypeId) (x y:Operand):(eqGuard op t x y (.string a) (.string b)).run P w = .ok () w:=by
 unfold eqGuard;split <;> rfl
theorem Qdm {op:BinOp} {a b:Bool} (t:TypeId) (x y:Operand):(eqGuard op t x y (.bool a) (.bool b)).run P w = .ok () w:=by
 unfold eqGuard;split <;> rfl
theorem Qfz {op:BinOp} {a b:ByteArray} {v:Value} (h:Qbm op a b = some v) (t:TypeId):(binOp op t (.string a) (.string b)).run P w = .ok v w ∧ aggV v = false:=by
  cases op <;> simp only [Qbm] at h <;> first
    | (cases h;done)
    | (obtain rfl:=Option.some.inj h;exact ⟨by simp [binOp,Op.stringOp],rfl⟩)
    | (split at h
       · rename_i hb
         obtain rfl:=Option.some.inj h
         have h2:¬ ((a.size:Int) + (b.size:Int) > 9223372036854775807):=by omega
         have h3:¬ (9223372036854775807 < (a.size:Int) + (b.size:Int)):=by omega
         exact ⟨by simp [binOp,Op.stringOp,IntKind.max,IntKind.signed,IntKind.bits];omega,rfl⟩
       · cases h)
theorem Qep {op:BinOp} {a b:Bool} {v:Value} (h:QaB op a b = some v) (t:TypeId) (ht:P.underlying t = some .bool) :
  (binOp op t (.bool a) (.bool b)).run P w = .ok v w ∧ aggV v = false:=by
 cases op <;> simp only [QaB] at h <;> first
  | (cases h;done)
  | (obtain rfl:=Option.some.inj h;first | exact ⟨run_eql_bool w t a b ht,rfl⟩ | exact ⟨run_neq_bool w t a b ht,rfl⟩)
end
end Go.Nac
namespace Go.Nac
variable [Env]
def eqVs:List SK → List Value → List Value → Option Bool
 | [],[],[] => some true
 | k :: ks,x :: xs,y :: ys => do
  let a ← eqSK k x y
  let b ← eqVs ks xs ys
  pure (a && b)
 | _,_,_ => none
theorem VI:∀ {ks:List SK} {xs ys:List Value} {b:Bool},eqVs ks xs ys = some b → xs.length = ks.length ∧ ys.length = ks.length
 | [],[],[],_,_ => ⟨rfl,rfl⟩
 | k :: ks,x :: xs,y :: ys,b,h => by
  simp only [eqVs] at h
  cases h1:eqSK k x y with
  | none => rw [h1] at h;cases h
  | some a =>
   rw [h1] at h
   cases h2:eqVs ks xs ys with
   | none => rw [h2] at h;cases h
   | some c => have:=VI h2;simp [this.1,this.2]
 | [],[],_ :: _,_,h => by simp [eqVs] at h
 | [],_ :: _,_,_,h => by simp [eqVs] at h
 | _ :: _,[],_,_,h => by simp [eqVs] at h
 | _ :: _,_ :: _,[],_,h => by simp [eqVs] at h
theorem QdO {ks:List SK} {xs ys:List Value} {b:Bool} (n:Nat) (h:eqVs ks xs ys = some b) :
  ∃ b1 b2,eqVs (ks.take n) (xs.take n) (ys.take n) = some b1 ∧ eqVs (ks.drop n) (xs.drop n) (ys.drop n) = some b2 ∧ b = (b1 && b2):=by
 induction n generalizing ks xs ys b with
 | zero => exact ⟨true,b,rfl,h,by simp⟩
 | succ n ih =>
  cases ks with
  | nil =>
   have:=VI h
   have hx:xs = []:=List.eq_nil_of_length_eq_zero this.1
   have hy:ys = []:=List.eq_nil_of_length_eq_zero this.2
   subst hx;subst hy
   exact ⟨true,b,rfl,h,by simp⟩
  | cons k ks =>
   cases xs with
   | nil => simp [eqVs] at h
   | cons x xs =>
    cases ys with
    | nil => simp [eqVs] at h
    | cons y ys =>
     simp only [eqVs] at h
     cases h1:eqSK k x y with
     | none => rw [h1] at h;cases h
     | some a =>
      rw [h1] at h
      cases h2:eqVs ks xs ys with
      | none => rw [h2] at h;cases h
      | some c =>
       rw [h2] at h
       obtain ⟨b1,b2,g1,g2,rfl⟩:=ih h2
       refine ⟨a && b1,b2,by simp [eqVs,h1,g1],g2,?_⟩
       have:(a && (b1 && b2)) = b:=by simpa using h
       rw [← this,Bool.and_assoc]
theorem Qhd {x y:Value} {r:Bool} (h:eqSK .bool x y = some r):∃ a b,x = .bool a ∧ y = .bool b ∧ r = (a == b):=by
 cases x <;> cases y <;> first|(simp [eqSK] at h;done)|(simp only [eqSK,Option.some.injEq] at h;exact ⟨_,_,rfl,rfl,h.symm⟩)
theorem QjG {x y:Value} {r:Bool} (h:eqSK .str x y = some r):∃ a b,x = .string a ∧ y = .string b ∧ r = (a == b):=by
 cases x <;> cases y <;> first|(simp [eqSK] at h;done)|(simp only [eqSK,Option.some.injEq] at h;exact ⟨_,_,rfl,rfl,h.symm⟩)
theorem QjO {x y:Value} {r:Bool} (h:eqSK .int x y = some r):∃ k a b,x = .int k a ∧ y = .int k b ∧ r = (a == b):=by
  cases x <;> cases y <;> first
    | (simp [eqSK] at h;done)
    | (simp only [eqSK] at h
       split at h
       · rename_i e;subst e;exact ⟨_,_,_,rfl,rfl,(Option.some.inj h).symm⟩
       · cases h)
theorem Qi6 {x y:Value} {r:Bool} (h:eqSK .flt x y = some r):∃ k a b,x = .float k a ∧ y = .float k b ∧ r = (k.format.order a b == some .eq):=by
  cases x <;> cases y <;> first
    | (simp [eqSK] at h;done)
    | (simp only [eqSK] at h
       split at h
       · rename_i e;subst e;exact ⟨_,_,_,rfl,rfl,(Option.some.inj h).symm⟩
       · cases h)
def Qu (P:Program) (t:TypeId):Option Nat:=(P.info? t).map (·.size)
def aggT (P:Program) (t:TypeId):Option Bool:=(P.underlying t).map fun d => match d with|.struct _|.array _ _ => true|_ => false
mutual
def eqTy (P:Program):Nat → TypeId → List SK → Bool
 | 0,_,_ => false
 | f + 1,t,ks =>
  match P.underlying t with
  | some .bool => ks == [.bool]
  | some .string => ks == [.str]
  | some (.int _) => ks == [.int]
  | some (.float _) => ks == [.flt]
  | some (.struct fs) => !P.stoodInHeld t && eqFs P f fs.toList 0 ks
  | some (.array n e) => n != 0 && eqAr P f e n ks
  | _ => false
def eqAr (P:Program):Nat → TypeId → Nat → List SK → Bool
 | _,_,0,ks => ks == []
 | 0,_,_ + 1,_ => false
 | f + 1,e,n + 1,ks =>
  match Qu P e with
  | some s => P.cellsOf e == s && 0 < s && (ks.take s).length == s && eqTy P f e (ks.take s) && eqAr P f e n (ks.drop s)
  | none => false
def eqFs (P:Program):Nat → List Field → Nat → List SK → Bool
  | _,[],_,ks => ks == []
  | 0,_ :: _,_,_ => false
  | f + 1,x :: fs,cur,ks =>
    match Qu P x.type with
    | some s => x.name != "_" && x.offset == cur && (ks.take s).length == s && eqTy P f x.type (ks.take s) && eqFs P f fs (cur + s) (ks.drop s)
    | none => false
end
section
variable {P:Program} {w:World}
theorem Ze {t:TypeId} {b:Bool} (h:aggT P t = some b):(isAgg t).run P w = .ok b w:=by
 unfold aggT at h
 cases hu:P.underlying t with
 | none => rw [hu] at h;cases h
 | some d =>
  rw [hu] at h
  simp only [Option.map_some,Option.some.injEq] at h
  simp only [isAgg,Sem.run_bind,run_underlying hu,Result.andThen_ok]
  subst h
  cases d <;> rfl
theorem QB {t:TypeId} {n:Nat} (h:Qu P t = some n):(sizeOf t).run P w = .ok n w:=by
 unfold Qu at h
 cases hi:P.info? t with
 | none => rw [hi] at h;cases h
 | some i =>
  rw [hi] at h
  simp only [Option.map_some,Option.some.injEq] at h
  simp [sizeOf,typeInfo,hi,h]
def valOf (b:Bool) (cs:List Value):Value:=if b then .agg cs.toArray else cs.headD undef
theorem ZG {t:TypeId} {b:Bool} {s off:Nat} {cs:Array Value} (ha:aggT P t = some b) (hs:Qu P t = some s) (h0:b = false → 0 < s) (hlt:off + s ≤ cs.size) :
  (part t cs off).run P w = .ok (valOf b ((cs.toList.drop off).take s)) w:=by
 cases b with
 | true =>
  simp only [part,Sem.run_bind,Ze ha,Result.andThen_ok,if_true,QB hs,Sem.run_pure,valOf]
  congr 2
  apply Array.ext'
  simp [List.extract,Nat.add_sub_cancel_left]
 | false =>
  have hp:=h0 rfl
  have hlt':off < cs.size:=by omega
  have hd:cs.toList.drop off = cs[off] :: cs.toList.drop (off + 1):=by
   rw [List.drop_eq_getElem_cons (by simpa using hlt')];simp
  obtain ⟨s,rfl⟩:∃ m,s = m + 1:=⟨s - 1,by omega⟩
  simp only [part,Sem.run_bind,Ze ha,Result.andThen_ok,if_false,Bool.false_eq_true,Array.getElem?_eq_getElem hlt',Sem.run_pure,valOf,hd,List.take_succ_cons,List.headD_cons]
theorem QcA {f:Nat} {t:TypeId} {ks:List SK} (h:eqTy P f t ks = true):∃ b,aggT P t = some b ∧ (b = false → ks.length = 1):=by
 cases f with
 | zero => simp [eqTy] at h
 | succ f =>
  unfold eqTy at h
  unfold aggT
  split at h <;> rename_i hu <;> first
   | (cases h;done)
   | (rw [hu];exact ⟨_,rfl,fun hb => by first | (cases hb;done) | (have:_ = _:=(by simpa using h:ks = _);subst this;rfl)⟩)
mutual
theorem JC:∀ (f:Nat) (t:TypeId) (ks:List SK) (xs ys:List Value) (r b:Bool) (d:Nat) (w:World),eqTy P f t ks = true → aggT P t = some b → eqVs ks xs ys = some r → f ≤ d →
  (Op.equalIn d t (valOf b xs) (valOf b ys)).run P w = .ok r w
 | 0,_,_,_,_,_,_,_,_,h,_,_,_ => by simp [eqTy] at h
 | f + 1,t,ks,xs,ys,r,b,d,w,h,hb,hv,hd => by
  obtain ⟨d,rfl⟩:∃ m,d = m + 1:=⟨d - 1,by omega⟩
  have one:∀ (k:SK),ks = [k] → ∃ x y,xs = [x] ∧ ys = [y] ∧ eqSK k x y = some r:=by
   intro k hk
   subst hk
   have hl:=VI hv
   match xs,ys,hl with
   | [x],[y],_ =>
    refine ⟨x,y,rfl,rfl,?_⟩
    simp only [eqVs] at hv
    cases h1:eqSK k x y with
    | none => rw [h1] at hv;cases hv
    | some a => rw [h1] at hv;simpa using hv
  unfold eqTy at h
  unfold aggT at hb
  split at h
  ·rename_i hu
   rw [hu] at hb
   obtain rfl:false = b:=by simpa using hb
   obtain ⟨x,y,rfl,rfl,hk⟩:=one .bool (by simpa using h)
   obtain ⟨_,_,rfl,rfl,rfl⟩:=Qhd hk
   exact run_equalIn_bool' w d t _ _ hu
  ·rename_i hu
   rw [hu] at hb
   obtain rfl:false = b:=by simpa using hb
   obtain ⟨x,y,rfl,rfl,hk⟩:=one .str (by simpa using h)
   obtain ⟨_,_,rfl,rfl,rfl⟩:=QjG hk
   exact (run_equalIn_string w d t _ _ hu).trans (by rw [beq_toListBytes])
  ·rename_i k hu
   rw [hu] at hb
   obtain rfl:false = b:=by simpa using hb
   obtain ⟨x,y,rfl,rfl,hk⟩:=one .int (by simpa using h)
   obtain ⟨_,_,_,rfl,rfl,rfl⟩:=QjO hk
   exact run_equalIn_int w d t _ k _ _ hu
  ·rename_i k hu
   rw [hu] at hb
   obtain rfl:false = b:=by simpa using hb
   obtain ⟨x,y,rfl,rfl,hk⟩:=one .flt (by simpa using h)
   obtain ⟨_,_,_,rfl,rfl,rfl⟩:=Qi6 hk
   simp only [valOf,Bool.false_eq_true,if_false,List.headD_cons,Op.equalIn,Sem.run_bind,run_underlying hu,Result.andThen_ok,if_true,Sem.run_pure,Op.floatEq]
  ·rename_i fs hu
   rw [hu] at hb
   obtain rfl:true = b:=by simpa using hb
   simp only [Bool.and_eq_true,Bool.not_eq_true'] at h
   have hf:P.fieldsOf t = fs:=by unfold Program.fieldsOf;rw [hu]
   show (Op.equalIn (d + 1) t (.agg xs.toArray) (.agg ys.toArray)).run P w = _
   rw [run_equalIn_struct w d t _ _ (by rw [hf];exact hu) h.1,hf]
   have:=QdS f fs.toList 0 ks xs ys xs ys r d w h.2 hv rfl rfl (by omega)
   exact this
  ·rename_i n e hu
   rw [hu] at hb
   obtain rfl:true = b:=by simpa using hb
   show (Op.equalIn (d + 1) t (.agg xs.toArray) (.agg ys.toArray)).run P w = _
   simp only [Bool.and_eq_true] at h
   obtain ⟨hn0,h⟩:=h
   cases n with
   | zero => cases hn0
   | succ n =>
    have hi:∃ i,P.info? e = some i:=by
     cases f with
     | zero => simp [eqAr] at h
     | succ f =>
      unfold eqAr at h
      split at h
      ·rename_i s hs
       unfold Qu at hs
       cases hi:P.info? e with
       | none => rw [hi] at hs;cases hs
       | some i => exact ⟨i,rfl⟩
      ·cases h
    obtain ⟨i,hi⟩:=hi
    rw [run_equalIn_array (P:=P) (w:=w) d _ _ hu hi]
    have:=Qd7 f e (n + 1) 0 ks xs ys xs ys r d w h hv (by simp) (by simp) (by omega)
    rw [List.range_eq_range']
    exact this
  ·cases h
theorem Qd7:∀ (f:Nat) (e:TypeId) (n j:Nat) (ks:List SK) (xs ys XS YS:List Value) (r:Bool) (d:Nat) (w:World),eqAr P f e n ks = true → eqVs ks xs ys = some r →
  XS.drop (j * P.cellsOf e) = xs → YS.drop (j * P.cellsOf e) = ys → f ≤ d → (Op.eqItems d e (P.cellsOf e) XS.toArray YS.toArray (List.range' j n)).run P w = .ok r w
 | f,e,0,j,ks,xs,ys,XS,YS,r,d,w,h,hv,hx,hy,hd => by
  have hk:ks = []:=by cases f <;> simpa [eqAr] using h
  subst hk
  have hl:=VI hv
  have h1:xs = []:=List.eq_nil_of_length_eq_zero hl.1
  have h2:ys = []:=List.eq_nil_of_length_eq_zero hl.2
  subst h1;subst h2
  simp only [eqVs] at hv
  obtain rfl:=Option.some.inj hv
  rfl
 | 0,_,_ + 1,_,_,_,_,_,_,_,_,_,h,_,_,_,_ => by simp [eqAr] at h
 | f + 1,e,n + 1,j,ks,xs,ys,XS,YS,r,d,w,h,hv,hx,hy,hd => by
  unfold eqAr at h
  split at h
  ·rename_i s hs
   simp only [Bool.and_eq_true,beq_iff_eq,decide_eq_true_eq] at h
   obtain ⟨⟨⟨⟨hc,hpos⟩,hlen⟩,h1⟩,h2⟩:=h
   obtain ⟨b,hb,hb1⟩:=QcA h1
   obtain ⟨r1,r2,g1,g2,rfl⟩:=QdO s hv
   have hl:=VI g1
   have p:∀ {zs ZS:List Value} (w:World),ZS.drop (j * P.cellsOf e) = zs → (zs.take s).length = (ks.take s).length → (part e ZS.toArray (j * P.cellsOf e)).run P w = .ok (valOf b (zs.take s)) w:=by
    intro zs ZS w hz hzl
    have hlt:j * P.cellsOf e + s ≤ ZS.toArray.size:=by
     subst hz
     rw [hlen] at hzl
     simp at hzl ⊢
     omega
    rw [ZG hb hs (fun _ => hpos) hlt];simp [hz]
   have e1:=JC f e (ks.take s) (xs.take s) (ys.take s) r1 b d w h1 hb g1 (by omega)
   rw [List.range'_succ]
   simp only [Op.eqItems,Sem.run_bind,p w hx hl.1,p w hy hl.2,Result.andThen_ok,e1,Sem.run_ite]
   cases r1 with
   | false => simp
   | true =>
    simp only [Bool.not_true,Bool.false_eq_true,if_false,Bool.true_and]
    exact Qd7 f e n (j + 1) (ks.drop s) (xs.drop s) (ys.drop s) XS YS r2 d w h2 g2 (by rw [← hx,List.drop_drop,Nat.add_mul,hc];congr 1;omega) (by rw [← hy,List.drop_drop,Nat.add_mul,hc];congr 1;omega) (by omega)
  ·cases h
theorem QdS:∀ (f:Nat) (fs:List Field) (cur:Nat) (ks:List SK) (xs ys XS YS:List Value) (r:Bool) (d:Nat) (w:World),eqFs P f fs cur ks = true → eqVs ks xs ys = some r →
  XS.drop cur = xs → YS.drop cur = ys → f ≤ d → (Op.eqFields d XS.toArray YS.toArray fs).run P w = .ok r w
 | f,[],cur,ks,xs,ys,XS,YS,r,d,w,h,hv,hx,hy,hd => by
  have hk:ks = []:=by cases f <;> simpa [eqFs] using h
  subst hk
  have hl:=VI hv
  have h1:xs = []:=List.eq_nil_of_length_eq_zero hl.1
  have h2:ys = []:=List.eq_nil_of_length_eq_zero hl.2
  subst h1;subst h2
  simp only [eqVs] at hv
  obtain rfl:=Option.some.inj hv
  rfl
 | 0,_ :: _,_,_,_,_,_,_,_,_,_,h,_,_,_,_ => by simp [eqFs] at h
 | f + 1,x :: fs,cur,ks,xs,ys,XS,YS,r,d,w,h,hv,hx,hy,hd => by
  unfold eqFs at h
  split at h
  ·rename_i s hs
   simp only [Bool.and_eq_true,bne_iff_ne,beq_iff_eq] at h
   obtain ⟨⟨⟨⟨hn,ho⟩,hlen⟩,h1⟩,h2⟩:=h
   subst ho
   obtain ⟨b,hb,hb1⟩:=QcA h1
   obtain ⟨r1,r2,g1,g2,rfl⟩:=QdO s hv
   have hl:=VI g1
   have hsz:∀ {zs ZS:List Value},ZS.drop x.offset = zs → (zs.take s).length = (ks.take s).length → x.offset + s ≤ ZS.toArray.size ∨ s = 0:=by
    intro zs ZS hz hzl
    subst hz
    rw [hlen] at hzl
    simp at hzl ⊢
    omega
   have pos:b = false → 0 < s:=fun hb' => by have:=hb1 hb';omega
   have p:∀ {zs ZS:List Value} (w:World),ZS.drop x.offset = zs → (zs.take s).length = (ks.take s).length → (part x.type ZS.toArray x.offset).run P w = .ok (valOf b (zs.take s)) w:=by
    intro zs ZS w hz hzl
    rcases hsz hz hzl with hlt|h0
    ·rw [ZG hb hs pos hlt];simp [hz]
    ·subst h0
     cases b with
     | false => exact absurd (pos rfl) (by omega)
     | true =>
      simp only [part,Sem.run_bind,Ze hb,Result.andThen_ok,if_true,QB hs,Sem.run_pure,valOf]
      congr 2
      apply Array.ext'
      simp
   have e1:=JC f x.type (ks.take s) (xs.take s) (ys.take s) r1 b d w h1 hb g1 (by omega)
   simp only [Op.eqFields,if_pos hn,Sem.run_bind,p w hx hl.1,p w hy hl.2,Result.andThen_ok,e1,Sem.run_ite]
   cases r1 with
   | false => simp
   | true =>
    simp only [Bool.not_true,Bool.false_eq_true,if_false,Bool.true_and]
    exact QdS f fs (x.offset + s) (ks.drop s) (xs.drop s) (ys.drop s) XS YS r2 d w h2 g2 (by rw [← hx,List.drop_drop]) (by rw [← hy,List.drop_drop]) (by omega)
  ·cases h
end
theorem Qbo {M:List Blk} {L:Loc}:∀ {ks:List SK} {xs ys:List PV} {vs us:List Value} {b:Bool},QL ks xs ys = some b → LRel M L w xs vs → LRel M L w ys us → eqVs ks vs us = some b
  | [],[],[],_,_,b,h,h1,h2 => by cases h1;cases h2;exact h
  | k :: ks,x :: xs,y :: ys,_,_,b,h,h1,h2 => by
    cases h1 with
    | cons _ v _ vs hx hxs =>
      cases h2 with
      | cons _ u _ us hy hys =>
        cases x <;> cases y <;> first
          | (simp [QL] at h;done)
          | (obtain rfl:=hx.s_inv
             obtain rfl:=hy.s_inv
             simp only [QL] at h
             simp only [eqVs]
             cases h1:eqSK k v u with
             | none => rw [h1] at h;cases h
             | some a =>
               rw [h1] at h
               cases h2:QL ks xs ys with
               | none => rw [h2] at h;cases h
               | some c =>
                 rw [h2] at h
                 rw [Qbo h2 hxs hys]
                 exact h)
  | [],[],_ :: _,_,_,_,h,_,_ => by simp [QL] at h
  | [],_ :: _,_,_,_,_,h,_,_ => by simp [QL] at h
  | _ :: _,[],_,_,_,_,h,_,_ => by simp [QL] at h
  | _ :: _,_ :: _,[],_,_,_,h,_,_ => by simp [QL] at h
end
end Go.Nac
namespace Go.Nac
variable [Env]
def okZ (P:Program) (t:TypeId) (g:Option Nat) (z:List Value):Bool :=
 match (P.info? t).bind (·.zero) with
 | some v =>
  (match g with
  | some k => (match v with | .agg vs => okVs z vs.toList && z.length == k | _ => false)
  | none => okVs z [v])
 | none => false
def okG (P:Program) (t:TypeId) (g:Option Nat):Bool :=
 match aggT P t,Qu P t,g with
 | some true,some n,some k => n == k
 | some false,some n,none => n == 1
 | _,_,_ => false
section
variable {R:CCode → Code → Prop} {P:Program} {M:List Blk} {L:Loc} {w:World} {ρ:CX → PV} {σ:Operand → Value}
theorem Qbf {t:TypeId} {g:Option Nat} (h:okG P t g = true):∃ b,aggT P t = some b ∧ Qu P t = some (g.getD 1) ∧ (b = true ↔ g.isSome = true) ∧ (b = false → g = none):=by
 unfold okG at h
 split at h
 ·rename_i h1 h2;exact ⟨true,h1,by simp at h;subst h;exact h2,by simp,by simp⟩
 ·rename_i h1 h2;exact ⟨false,h1,by simp at h;subst h;exact h2,by simp,by simp⟩
 ·cases h
theorem JG {g:Option Nat} {cs:List PV} {vs:List Value} {p:PV} {b:Bool} (h:mkPV g cs = some p) (hb:b = true ↔ g.isSome = true) (hr:LRel M L w cs vs):VRel M L w p (valOf b vs):=by
 unfold mkPV at h
 split at h
 ·obtain rfl:=Option.some.inj h
  have hf:b = false:=by cases b <;> simp_all
  subst hf
  cases hr with
  | cons _ v _ vs h hs => cases hs;exact h
 ·cases h
 ·split at h
  ·obtain rfl:=Option.some.inj h
   have hf:b = true:=by simpa using hb
   subst hf
   exact .agg _ _ (by simpa [valOf] using hr)
  ·cases h
theorem Yh {g:Option Nat} {cs:List PV} {p:PV} (h:mkPV g cs = some p):cs.length = g.getD 1:=by
 unfold mkPV at h
 split at h
 ·rfl
 ·cases h
 ·split at h
  ·rename_i e;exact e
  ·cases h
theorem g_mov (S:Sim R M L w) (H:Fit M L w ρ σ) {o:Oper} {x:CX} {y:Operand} (ho:o.op = .move y ∨ o.op = .assign y) (hx:okX x y = true):Good R P (execOp σ o) M L w (ρ x) M:=by
 refine Qg S ?_ (H x y hx)
 rcases ho with ho|ho <;> simp [execOp,ho]
theorem QnJ (S:Sim R M L w) (H:Fit M L w ρ σ) {o:Oper} {c a b:CX} {c' a' b':Operand} (ho:o.op = .pick c' a' b') (hc:okX c c' = true) (ha:okX a a' = true) (hb:okX b b' = true)
  {v:PV} (h:pickV (ρ c) (ρ a) (ρ b) = some v):Good R P (execOp σ o) M L w v M:=by
 have k1:=H c c' hc;have k2:=H a a' ha;have k3:=H b b' hb
 unfold pickV at h
 split at h
 ·rename_i q e1
  rw [e1] at k1
  have:=k1.s_inv
  obtain rfl:=Option.some.inj h
  refine Qg (cv:=if q then σ a' else σ b') S ?_ ?_
  ·simp [execOp,ho,this,asBool]
  ·cases q
   ·exact k3
   ·exact k2
 ·cases h
theorem g_bin (S:Sim R M L w) (H:Fit M L w ρ σ) {o:Oper} {op:BinOp} {t ty:TypeId} {x y:CX} {x' y':Operand} (ho:o.op = .binOp op t x' y' ty) (hx:okX x x' = true) (hy:okX y y' = true)
  {v:PV} (h:bin op (ρ x) (ρ y) = some v):Good R P (execOp σ o) M L w v M:=by
 have k1:=H x x' hx;have k2:=H y y' hy
 unfold bin at h
 split at h
 ·rename_i k a k' b e1 e2
  rw [e1] at k1;rw [e2] at k2
  have c1:=k1.s_inv;have c2:=k2.s_inv
  split at h
  ·cases hb:shInt op k a b with
   | none => rw [hb] at h;cases h
   | some r =>
    rw [hb] at h
    obtain rfl:=Option.some.inj h
    obtain ⟨h1,h2⟩:=QgL (P:=P) (w:=w) (k':=k') hb t
    exact Qg S (by simp [execOp,ho,c1,c2,QaV,h1]) (.s r h2)
  split at h
  ·rename_i ek;subst ek
   cases hb:VD op k a b with
   | none => rw [hb] at h;cases h
   | some r =>
    rw [hb] at h
    obtain rfl:=Option.some.inj h
    obtain ⟨h1,h2⟩:=Qf2 (P:=P) (w:=w) hb t
    exact Qg S (by simp [execOp,ho,c1,c2,QaV,h1]) (.s r h2)
  ·cases h
 ·rename_i a b e1 e2
  rw [e1] at k1;rw [e2] at k2
  have c1:=k1.s_inv;have c2:=k2.s_inv
  cases hb:Qbm op a b with
  | none => rw [hb] at h;cases h
  | some r =>
   rw [hb] at h
   obtain rfl:=Option.some.inj h
   obtain ⟨h1,h2⟩:=Qfz (P:=P) (w:=w) hb t
   exact Qg S (by simp [execOp,ho,c1,c2,Qec,h1]) (.s r h2)
 ·cases h
theorem QnQ (S:Sim R M L w) (H:Fit M L w ρ σ) {o:Oper} {op:BinOp} {t ty:TypeId} {x y:CX} {x' y':Operand} (ho:o.op = .binOp op t x' y' ty) (hx:okX x x' = true) (hy:okX y y' = true)
  (ht:P.underlying t = some .bool) {v:PV} (h:binb op (ρ x) (ρ y) = some v):Good R P (execOp σ o) M L w v M:=by
 have k1:=H x x' hx;have k2:=H y y' hy
 unfold binb at h
 split at h
 ·rename_i a b e1 e2
  rw [e1] at k1;rw [e2] at k2
  have c1:=k1.s_inv;have c2:=k2.s_inv
  cases hb:QaB op a b with
  | none => rw [hb] at h;cases h
  | some r =>
   rw [hb] at h
   obtain rfl:=Option.some.inj h
   obtain ⟨h1,h2⟩:=Qep (P:=P) (w:=w) hb t ht
   exact Qg S (by simp [execOp,ho,c1,c2,Qdm,h1]) (.s r h2)
 ·cases h
theorem g_eqs (S:Sim R M L w) (H:Fit M L w ρ σ) {o:Oper} {neg:Bool} {lay:List SK} {t ty:TypeId} {x y:CX} {x' y':Operand} (ho:o.op = .binOp (if neg then .neq else .eql) t x' y' ty) (hx:okX x x' = true) (hy:okX y y' = true)
  (hl:eqTy P 100 t lay = true) (hg:P.eqGuardType P.depth t = false) (hb:aggT P t = some true)
  {v:PV} {M':List Blk} (h:res M ρ (.eqs neg lay x y) = some (v,M')):Good R P (execOp σ o) M L w v M':=by
 have k1:=H x x' hx;have k2:=H y y' hy
 simp only [res] at h
 split at h
 ·rename_i xs ys e1 e2
  rw [e1] at k1;rw [e2] at k2
  cases hq:QL lay xs ys with
  | none => rw [hq] at h;cases h
  | some r =>
   rw [hq] at h
   simp only [Option.map_some,Option.some.injEq,Prod.mk.injEq] at h
   obtain ⟨rfl,rfl⟩:=h
   generalize hc1:σ x' = c1 at k1
   generalize hc2:σ y' = c2 at k2
   cases k1 with
   | agg _ vs h1 =>
    cases k2 with
    | agg _ us h2 =>
     have hv:=Qbo hq h1 h2
     have hr:=JC (P:=P) 100 t lay vs.toList us.toList r true 10000 w hl hb hv (by omega)
     simp only [valOf,if_true,Array.toArray_toList] at hr
     refine Qg S ?_ (.s _ rfl)
     cases neg
     ·simp only [Bool.false_eq_true,if_false] at ho ⊢
      simp only [execOp,ho,hc1,hc2,Sem.run_bind,run_eqGuard_agg w .eql t x' y' vs us hg,Result.andThen_ok,run_eql_struct,hr]
      rfl
     ·simp only [if_true] at ho ⊢
      simp only [execOp,ho,hc1,hc2,Sem.run_bind,run_eqGuard_agg w .neq t x' y' vs us hg,Result.andThen_ok,run_neq_struct,hr]
      rfl
 ·cases h
theorem g_un (S:Sim R M L w) (H:Fit M L w ρ σ) {o:Oper} {op:UnOp} {t:TypeId} {x:CX} {x':Operand} (ho:o.op = .unOp op t x') (hx:okX x x' = true)
  {v:PV} (h:un op (ρ x) = some v):Good R P (execOp σ o) M L w v M:=by
 have k1:=H x x' hx
 unfold un at h
 split at h
 ·rename_i k n e1
  rw [e1] at k1
  have c1:=k1.s_inv
  split at h
  ·obtain rfl:=Option.some.inj h
   exact Qg S (by simp [execOp,ho,c1,Op.unary,Op.intArith]) (.s _ rfl)
  ·cases h
 ·rename_i b e1
  rw [e1] at k1
  have c1:=k1.s_inv
  split at h
  ·obtain rfl:=Option.some.inj h
   exact Qg S (by simp [execOp,ho,c1,Op.unary]) (.s _ rfl)
  ·cases h
 ·cases h
theorem QnG (S:Sim R M L w) (H:Fit M L w ρ σ) {o:Oper} {k ks:IntKind} {s t:TypeId} {x:CX} {x':Operand} (ho:o.op = .convert s t x') (hx:okX x x' = true)
  (hs:P.underlying s = some (.int ks)) (ht:P.underlying t = some (.int k)) {v:PV} (h:conv k (ρ x) = some v):Good R P (execOp σ o) M L w v M:=by
 have k1:=H x x' hx
 unfold conv at h
 split at h
 ·rename_i k' n e1
  rw [e1] at k1
  have c1:=k1.s_inv
  obtain rfl:=Option.some.inj h
  exact Qg S (by simp [execOp,ho,c1,convert,run_underlying hs,run_underlying ht,Conv.intToInt]) (.s _ rfl)
 ·cases h
theorem g_ext (S:Sim R M L w) (H:Fit M L w ρ σ) {o:Oper} {i:Nat} {x:CX} {x':Operand} (ho:o.op = .extract x' i) (hx:okX x x' = true)
  {v:PV} {M':List Blk} (h:res M ρ (.ext i x) = some (v,M')):Good R P (execOp σ o) M L w v M':=by
 have k1:=H x x' hx
 simp only [res] at h
 split at h
 ·rename_i vs e1
  rw [e1] at k1
  generalize hc:σ x' = c at k1
  cases k1 with
  | tup _ us hu =>
   cases hv:vs[i]? with
   | none => rw [hv] at h;cases h
   | some p =>
    rw [hv] at h
    simp only [Option.map_some,Option.some.injEq,Prod.mk.injEq] at h
    obtain ⟨rfl,rfl⟩:=h
    obtain ⟨u,h1,h2⟩:=hu.get hv
    have h1':us[i]? = some u:=by simpa using h1
    exact Qg S (by simp [execOp,ho,hc,Instr.extract,h1']) h2
 ·cases h
theorem Qnn (S:Sim R M L w) (H:Fit M L w ρ σ) {o:Oper} {f:FuncId} {cap:List CX} {cap':Array Operand} (ho:o.op = .makeFunc (.func f) #[] cap') (hx:okXs cap cap'.toList = true) :
  Good R P (execOp σ o) M L w (.fn (.func f) [] (cap.map ρ)) M:=by
 have k:=H.list hx
 refine Qg S (cv:=.func (.func f) #[] (cap'.map σ)) (by simp [execOp,ho,Instr.makeFunc]) (.fn _ _ _ _ _ .nil ?_)
 simpa using k
theorem Qhb {x:Value} {p:PV} {n:Nat} (h:VRel M L w p x) (hp:lenOf p = some n):∃ a c,x = .slice a n c:=by
 unfold lenOf at hp
 split at hp
 ·obtain rfl:=Option.some.inj hp
  cases h with|fs _ a n cap k vs hn => exact ⟨a,cap,by rw [hn]⟩
 ·obtain rfl:=Option.some.inj hp
  exact ⟨_,_,h.s_inv⟩
 ·obtain rfl:=Option.some.inj hp
  cases h with
  | os _ _ _ _ wr k xs a cap => exact ⟨a,cap,rfl⟩
  | os' _ _ _ _ wr k v' xs a c => exact ⟨a,c,rfl⟩
 ·obtain rfl:=Option.some.inj hp
  cases h with
  | ot => exact ⟨_,_,rfl⟩
  | ot' => exact ⟨_,_,rfl⟩
 ·cases hp
end
end Go.Nac
namespace Go.Nac
variable [Env]
theorem Vp {k:Nat} {xs:List PV} (hk:∀ x ∈ xs,x.cells.length = k) (e:Nat):(xs.flatMap PV.cells).drop (e * k) = (xs.drop e).flatMap PV.cells:=by
 induction e generalizing xs with
 | zero => simp
 | succ e ih =>
  cases xs with
  | nil => simp
  | cons x xs =>
   have h1:x.cells.length = k:=hk x (by simp)
   rw [List.flatMap_cons,Nat.add_mul,Nat.one_mul,Nat.add_comm (e * k) k,← h1,← List.drop_drop,List.drop_left,h1]
   exact ih fun y hy => hk y (by simp [hy])
theorem QM {k:Nat} {xs:List PV} (hk:∀ x ∈ xs,x.cells.length = k):(xs.flatMap PV.cells).length = xs.length * k:=by
 induction xs with
 | nil => simp
 | cons x xs ih =>
  rw [List.flatMap_cons,List.length_append,hk x (by simp),ih fun y hy => hk y (by simp [hy]),List.length_cons,Nat.add_mul]
  omega
theorem Vq {k:Nat} {xs:List PV} (hk:∀ x ∈ xs,x.cells.length = k) (e:Nat):(xs.flatMap PV.cells).take (e * k) = (xs.take e).flatMap PV.cells:=by
 induction e generalizing xs with
 | zero => simp
 | succ e ih =>
  cases xs with
  | nil => simp
  | cons x xs =>
   have h1:x.cells.length = k:=hk x (by simp)
   rw [List.flatMap_cons,Nat.add_mul,Nat.one_mul,Nat.add_comm (e * k) k,← h1,List.take_length_add_append,h1,ih fun y hy => hk y (by simp [hy])]
   rfl
theorem Vw (b o j:Nat):(⟨b,o,none⟩:Addr).add j = ⟨b,o + j,none⟩:=by unfold Addr.add;split <;> simp_all
section
variable {R:CCode → Code → Prop} {P:Program} {M:List Blk} {L:Loc} {w:World} {ρ:CX → PV} {σ:Operand → Value}
theorem Qad {t:TypeId} {b:Bool} {B o:Nat} {vs:List Value} (ha:aggT P t = some b) (hs:Qu P t = some vs.length) (h1:b = false → vs.length = 1)
  (hc:∀ m v,vs[m]? = some v → w.cell? ⟨B,o + m,none⟩ = some v):(loadVar t ⟨B,o,none⟩).run P w = .ok (valOf b vs) w:=by
 cases b with
 | true =>
  have hl:=run_loadCells_list (P:=P) w ⟨B,o,none⟩ vs (fun j v hv => by rw [Vw];exact hc j v hv)
  simp only [loadVar,Sem.run_bind,Ze ha,Result.andThen_ok,if_true,QB hs,hl,Sem.run_pure,valOf]
 | false =>
  have hl:=h1 rfl
  match vs,hl with
  | [v],_ =>
   have:=hc 0 v rfl
   simp only [Nat.add_zero] at this
   simp only [loadVar,Sem.run_bind,Ze ha,Result.andThen_ok,Bool.false_eq_true,if_false,valOf,List.headD_cons]
   rw [run_load]
   simp [this]
theorem Vo (S:Sim R M L w) {i k ver b o:Nat} {wr:Bool} {xs:List PV} (hi:M[i]? = some (.row wr k ver xs)) (hL:L i = some (b,o)) :
  (∀ x ∈ xs,x.cells.length = k) ∧ ∃ c el vs,RowAt w b c el ∧ LRel M L w (xs.flatMap PV.cells) vs ∧ (∀ m v,vs[m]? = some v → c[o + m]? = some v) ∧
   ∀ m v,vs[m]? = some v → w.cell? ⟨b,o + m,none⟩ = some v:=by
 obtain ⟨h1,h2,_⟩:=S.mem i _ hi
 obtain ⟨c,el,vs,g1,g2,g3⟩:=h2 b o hL
 exact ⟨h1,c,el,vs,g1,g2,g3,fun m v hv => (g1.cell _).trans (g3 m v hv)⟩
theorem Qd1 {i ver e j n:Nat} {cs:List PV} (h:Zt M i ver e j n = some cs):∃ wr k xs,M[i]? = some (.row wr k ver xs) ∧ e < xs.length ∧
  cs = (((xs.drop e).flatMap PV.cells).drop j).take n ∧ j + n ≤ ((xs.drop e).flatMap PV.cells).length:=by
 unfold Zt at h
 split at h
 ·rename_i wr k v xs hi
  split at h
  ·rename_i hv;subst hv
   split at h
   ·rename_i x hx
    obtain ⟨he,hx'⟩:=List.getElem?_eq_some_iff.1 hx
    have hd:(xs.drop e).flatMap PV.cells = x.cells ++ (xs.drop (e + 1)).flatMap PV.cells:=by
     rw [List.drop_eq_getElem_cons he,List.flatMap_cons,hx']
    refine ⟨wr,k,xs,hi,he,?_⟩
    split at h
    ·rename_i hle
     obtain rfl:=Option.some.inj h
     refine ⟨?_,by rw [hd,List.length_append];omega⟩
     rw [hd,List.drop_append_of_le_length (by omega),List.take_append_of_le_length (by simp;omega)]
    ·split at h
     ·rename_i hle
      exact ⟨(Option.some.inj h).symm,hle⟩
     ·cases h
   ·cases h
  ·cases h
 ·cases h
theorem VRel.os_live {i ver off len:Nat} {c:Value} (h:VRel M L w (.os i ver off len) c) {wr:Bool} {k:Nat} {xs:List PV} (hi:M[i]? = some (.row wr k ver xs)) :
  ∃ a cap,c = .slice a len cap ∧ off + len ≤ xs.length ∧ len ≤ cap ∧ (cap ≠ 0 → ∃ b o c el,L i = some (b,o) ∧ a = some ⟨b,o + off * k,none⟩ ∧ RowAt w b c el ∧ o + (off + cap) * k ≤ c.size):=by
 cases h with
 | os _ _ _ _ wr' k' xs' a cap hi' hx hc hm =>
  rw [hi] at hi';cases hi'
  exact ⟨a,cap,rfl,hx,hc,hm⟩
 | os' _ _ _ _ wr' k' v' xs' a cap hi' hv => rw [hi] at hi';cases hi';omega
theorem VRel.op_live {i ver e j:Nat} {c:Value} (h:VRel M L w (.op i ver e j) c) {wr:Bool} {k:Nat} {xs:List PV} (hi:M[i]? = some (.row wr k ver xs)) :
  ∃ b o,L i = some (b,o) ∧ e < xs.length ∧ c = .pointer (some ⟨b,o + e * k + j,none⟩):=by
 cases h with
 | op _ _ _ _ wr' k' xs' b o hi' he hL => rw [hi] at hi';cases hi';exact ⟨b,o,hL,he,rfl⟩
 | op' _ _ _ _ wr' k' v' xs' a hi' hv => rw [hi] at hi';cases hi';omega
theorem QdT (S:Sim R M L w) {t:TypeId} {g:Option Nat} {p v:PV} {c:Value} (hp:VRel M L w p c) (ht:okG P t g = true)
  (h:Vh M g p = some v):∃ cv,(Instr.loadAt t c).run P w = .ok cv w ∧ VRel M L w v cv:=by
 obtain ⟨b,ha,hs,hb,hb1⟩:=Qbf ht
 have one:b = false → g.getD 1 = 1:=fun h => by rw [hb1 h];rfl
 cases p with
 | fp cs =>
  simp only [Vh] at h
  cases hp with
  | fp _ B o vs hr hlt hno hc =>
   have hr':=hr.take (g.getD 1)
   have hl:(vs.take (g.getD 1)).length = g.getD 1:=by rw [← hr'.length];exact Yh h
   refine ⟨valOf b (vs.take (g.getD 1)),?_,JG h hb hr'⟩
   simp only [Instr.loadAt,Instr.sureAddr,Sem.run_bind,Sem.run_pure,Result.andThen_ok]
   refine Qad ha (by rw [hl];exact hs) (fun h => by rw [hl];exact one h) fun m u hu => hc m u ?_
   rw [List.getElem?_take] at hu
   split at hu
   ·exact hu
   ·cases hu
 | op i ver e j =>
  simp only [Vh] at h
  cases hc:Zt M i ver e j (g.getD 1) with
  | none => rw [hc] at h;cases h
  | some cs =>
   rw [hc] at h
   simp only [Option.bind_some] at h
   obtain ⟨wr,k,xs,hi,he,hcs,hle⟩:=Qd1 hc
   obtain ⟨B,o,hL,_,rfl⟩:=hp.op_live hi
   obtain ⟨hk,ca,el,vs,g1,g2,g3,g4⟩:=Vo S hi hL
   have hr:LRel M L w cs ((vs.drop (e * k + j)).take (g.getD 1)):=by
    have:=(g2.drop (e * k + j)).take (g.getD 1)
    rw [← List.drop_drop,Vp hk,← hcs] at this
    exact this
   have hl:((vs.drop (e * k + j)).take (g.getD 1)).length = g.getD 1:=by rw [← hr.length];exact Yh h
   refine ⟨valOf b ((vs.drop (e * k + j)).take (g.getD 1)),?_,JG h hb hr⟩
   simp only [Instr.loadAt,Instr.sureAddr,Sem.run_bind,Sem.run_pure,Result.andThen_ok]
   refine Qad ha (by rw [hl];exact hs) (fun h => by rw [hl];exact one h) fun m u hu => ?_
   rw [List.getElem?_take] at hu
   split at hu
   ·rw [List.getElem?_drop] at hu
    have:=g4 _ _ hu
    rw [show o + e * k + j + m = o + (e * k + j + m) from by omega]
    exact this
   ·cases hu
 | _ => simp [Vh] at h
theorem Qn9 (S:Sim R M L w) (H:Fit M L w ρ σ) {o:Oper} {g:Option Nat} {t:TypeId} {x:CX} {x':Operand} (ho:o.op = .load t x') (hx:okX x x' = true) (ht:okG P t g = true)
  {v:PV} {M':List Blk} (h:res M ρ (.load g x) = some (v,M')):Good R P (execOp σ o) M L w v M':=by
 simp only [res] at h
 cases hq:Vh M g (ρ x) with
 | none => rw [hq] at h;cases h
 | some q =>
  rw [hq] at h
  simp only [Option.map_some,Option.some.injEq,Prod.mk.injEq] at h
  obtain ⟨rfl,rfl⟩:=h
  obtain ⟨cv,h1,h2⟩:=QdT S (H x x' hx) ht hq
  exact Qg S (by simp [execOp,ho,h1]) h2
theorem VO {i ver:Nat} (h:QT M i ver = true):∃ wr k xs,M[i]? = some (.row wr k ver xs):=by
 unfold QT at h
 split at h
 ·rename_i wr k v xs hi
  simp only [beq_iff_eq] at h
  subst h
  exact ⟨wr,k,xs,hi⟩
 ·cases h
theorem QnD (S:Sim R M L w) (H:Fit M L w ρ σ) {o:Oper} {x:CX} {x':Operand} (ho:o.op = .nilCheck x') (hx:okX x x' = true)
  {v:PV} {M':List Blk} (h:res M ρ (.nilc x) = some (v,M')):Good R P (execOp σ o) M L w v M':=by
 have k1:=H x x' hx
 simp only [res] at h
 split at h
 ·rename_i cs e1
  simp only [Option.some.injEq,Prod.mk.injEq] at h
  obtain ⟨rfl,rfl⟩:=h
  rw [e1] at k1
  generalize hc:σ x' = c at k1
  have k2:=k1
  cases k1 with
  | fp => exact Qg S (by simp [execOp,ho,hc]) k2
 ·rename_i i ver e j e1
  split at h
  ·rename_i hl
   obtain ⟨wr,k,xs,hi⟩:=VO hl
   simp only [Option.some.injEq,Prod.mk.injEq] at h
   obtain ⟨rfl,rfl⟩:=h
   rw [e1] at k1
   generalize hc:σ x' = c at k1
   have k2:=k1
   obtain ⟨b,q,_,_,rfl⟩:=k1.op_live hi
   exact Qg S (by simp [execOp,ho,hc]) k2
  ·cases h
 ·rename_i f a b e1
  simp only [Option.some.injEq,Prod.mk.injEq] at h
  obtain ⟨rfl,rfl⟩:=h
  rw [e1] at k1
  generalize hc:σ x' = c at k1
  have k2:=k1
  cases k1 with
  | fn => exact Qg S (by simp [execOp,ho,hc]) k2
 ·cases h
theorem QmH (S:Sim R M L w) (H:Fit M L w ρ σ) {o:Oper} {off f:Nat} {s:TypeId} {x:CX} {x':Operand} (ho:o.op = .fieldAddr s x' f) (hx:okX x x' = true)
  {fs:Array Field} {fd:Field} {n:Nat} (hs:P.underlying s = some (.struct fs)) (hf:fs[f]? = some fd) (hoff:fd.offset = off) (hn:Qu P fd.type = some n) (hn0:n ≠ 0)
  {v:PV} {M':List Blk} (h:res M ρ (.faddr off x) = some (v,M')):Good R P (execOp σ o) M L w v M':=by
 have k1:=H x x' hx
 have run:∀ B q,(Instr.fieldAt s (.pointer (some ⟨B,q,none⟩)) f).run P w = .ok (.pointer (some ⟨B,q + off,none⟩)) w:=by
  intro B q
  simp [Instr.fieldAt,run_underlying hs,hf,Instr.sureAddr,fieldPlace,QB hn,hn0,hoff,Vw]
 simp only [res] at h
 split at h
 ·rename_i cs e1
  split at h
  ·rename_i hle
   simp only [Option.some.injEq,Prod.mk.injEq] at h
   obtain ⟨rfl,rfl⟩:=h
   rw [e1] at k1
   generalize hc:σ x' = c at k1
   cases k1 with
   | fp _ B q vs hr hlt hno hm =>
    refine Qg S (cv:=.pointer (some ⟨B,q + off,none⟩)) (by simp [execOp,ho,hc,run]) (.fp _ B (q + off) (vs.drop off) (hr.drop off) hlt hno fun m u hu => ?_)
    rw [List.getElem?_drop] at hu
    rw [show q + off + m = q + (off + m) from by omega]
    exact hm _ _ hu
  ·cases h
 ·rename_i i ver e j e1
  split at h
  ·rename_i hl
   obtain ⟨wr,k,xs,hi⟩:=VO hl
   simp only [Option.some.injEq,Prod.mk.injEq] at h
   obtain ⟨rfl,rfl⟩:=h
   rw [e1] at k1
   obtain ⟨B,q,hL,he,hc⟩:=k1.op_live hi
   refine Qg S (cv:=.pointer (some ⟨B,q + e * k + j + off,none⟩)) (by simp [execOp,ho,hc,run]) ?_
   rw [Nat.add_assoc]
   exact .op i ver e (j + off) wr k xs B q hi he hL
  ·cases h
 ·cases h
end
end Go.Nac
