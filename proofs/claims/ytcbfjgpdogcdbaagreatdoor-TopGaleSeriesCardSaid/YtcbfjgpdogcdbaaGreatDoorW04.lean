/- Values: equations for simp. -/
import Derived.Test.YtcbfjgpdogcdbaaGreatDoorW03
import Derived.OpenShut
import Derived.ChangeArms
import Derived.Below
import Derived.Carry
import Derived.ChangeShapes
import Derived.Laws.Externs
import Derived.Sort.Grow
import Derived.Deep.Draws
import GoSem.Core.Float
set_option linter.unusedVariables false
set_option linter.unusedSimpArgs false
namespace Go.Nac
section
variable {M:List Blk} {k:IntKind} {a b:Int} {p q:Bool} {x y z:PV} {xs ys cs:List PV}
theorem Qlz:lenOf (.fs xs) = some xs.length:=nrfl rfl
theorem Qls {i v o n:Nat}:lenOf (.os i v o n) = some n:=nrfl rfl
theorem QjQ:lenOf (.s (.slice none 0 0)) = some 0:=nrfl rfl
theorem Qo5 {s:ByteArray}:lensV (.s (.string s)) = some (.I (s.size:Int)):=nrfl rfl
theorem QnD:bin .add (.s (.int k a)) (.s (.int k b)) = some (.s (.int k (k.wrap (a + b)))):=by simp [bin,isSh,Vf]
theorem Qop:bin .sub (.s (.int k a)) (.s (.int k b)) = some (.s (.int k (k.wrap (a - b)))):=by simp [bin,isSh,Vf]
theorem Qox:bin .mul (.s (.int k a)) (.s (.int k b)) = some (.s (.int k (k.wrap (a * b)))):=by simp [bin,isSh,Vf]
theorem Qnu:bin .quo (.s (.int k a)) (.s (.int k b)) = if b = 0 then none else some (.s (.int k (k.wrap (a.tdiv b)))):=by simp only [bin,isSh,Vf,Bool.false_eq_true,if_false,if_true];split <;> rfl
theorem Qoe:bin .rem (.s (.int k a)) (.s (.int k b)) = if b = 0 then none else some (.s (.int k (a.tmod b))):=by simp only [bin,isSh,Vf,Bool.false_eq_true,if_false,if_true];split <;> rfl
theorem QmP:bin .eql (.s (.int k a)) (.s (.int k b)) = some (.B (decide (a = b))):=by simp only [bin,isSh,Vf,Bool.false_eq_true,if_false,if_true,Option.map_some];congr
theorem Qo7:bin .neq (.s (.int k a)) (.s (.int k b)) = some (.B (decide (¬ a = b))):=by
 simp only [bin,isSh,Vf,Bool.false_eq_true,if_false,if_true,Option.map_some,Option.some.injEq,PV.s.injEq,Value.bool.injEq]
 by_cases h:a = b <;> simp [h]
theorem QmT:bin .lss (.s (.int k a)) (.s (.int k b)) = some (.B (decide (a < b))):=by simp [bin,isSh,Vf]
theorem Qod:bin .leq (.s (.int k a)) (.s (.int k b)) = some (.B (decide (a ≤ b))):=by simp [bin,isSh,Vf]
theorem QoZ:bin .gtr (.s (.int k a)) (.s (.int k b)) = some (.B (decide (b < a))):=by simp [bin,isSh,Vf]
theorem QpF:bin .or (.s (.int k a)) (.s (.int k b)) = some (.s (.int k (k.wrap ((BitVec.ofInt k.bits a ||| BitVec.ofInt k.bits b).toNat:Nat)))):=by simp only [bin,isSh,Vf,Bool.false_eq_true,if_false,if_true,Option.map_some]
theorem Qoz:bin .xor (.s (.int k a)) (.s (.int k b)) = some (.s (.int k (k.wrap ((BitVec.ofInt k.bits a ^^^ BitVec.ofInt k.bits b).toNat:Nat)))):=by simp only [bin,isSh,Vf,Bool.false_eq_true,if_false,if_true,Option.map_some]
theorem QoR {k':IntKind} (h:0 ≤ b):bin .shl (.s (.int k a)) (.s (.int k' b)) = some (.s (.int k (k.wrap (a * 2 ^ (min b.toNat k.bits))))):=by
 have:¬ b < 0:=by omega
 simp only [bin,isSh,shInt,if_true,if_neg this,Option.map_some]
theorem Qo1 {k':IntKind} (h:0 ≤ b):bin .shr (.s (.int k a)) (.s (.int k' b)) = some (.s (.int k (a.fdiv (2 ^ (min b.toNat k.bits))))):=by
 have:¬ b < 0:=by omega
 simp only [bin,isSh,shInt,if_true,if_neg this,Option.map_some]
theorem QmR:bin .geq (.s (.int k a)) (.s (.int k b)) = some (.B (decide (b ≤ a))):=by simp [bin,isSh,Vf]
theorem Qot {b:ByteArray}:srngO M (.s (.string b)) = some (.oi M.length,M ++ [.siter b 0]):=nrfl rfl
theorem Qkq {n:Nat} (h:n ≤ cs.length) (h1:0 < n) (h2:(cs.take n).all oneB = true):QbV n (.fp cs) = some (.fs (cs.take n)):=if_pos ⟨h,h1,h2⟩
theorem Qmp {i:Nat}:snxtO M (.oi i) = snxtR M i M[i]?:=nrfl rfl
theorem Qg5 {i pos:Nat} {s:ByteArray} (h:pos < s.size):snxtR M i (some (.siter s pos)) = some (.tup [.B true,.I pos,.s (.int .i32 (Utf8.decode s pos).1)],M.set i (.siter s (pos + (Utf8.decode s pos).2))):=if_pos h
theorem Qh1 {i pos:Nat} {s:ByteArray} (h:¬ pos < s.size):snxtR M i (some (.siter s pos)) = some (.tup [.B false],M):=if_neg h
theorem Zy {op:BinOp} {fk:FloatKind} {u v:Nat} {r:Bool} (h:QR op fk u v = none) (h1:fCmp op (fk.format.order u v) = some r):sopV (.fbin op) [.s (.float fk u),.s (.float fk v)] = some (.B r):=by simp only [sopV,if_true,h,h1,Option.map_some]
theorem Zx {fk:FloatKind}:sopV (.itf fk) [.s (.int k a)] = some (.s (.float fk (fk.nearest a))):=nrfl rfl
theorem Qne {fk:FloatKind} {u:Nat}:sopV (.ff fk) [.s (.float fk u)] = some (.s (.float fk u)):=by simp only [sopV,if_true]
theorem QfK {fk:FloatKind} {u:Nat}:(PV.s (.float fk u)).cells = [.s (.float fk u)]:=nrfl rfl
theorem QjE {fk:FloatKind}:(PV.nan fk).cells = [.nan fk]:=nrfl rfl
theorem Qhq {fk:FloatKind} {u:Nat}:oneB (.s (.float fk u)) = true:=nrfl rfl
theorem Qlo {fk:FloatKind}:oneB (.nan fk) = true:=nrfl rfl
theorem Qhl {fk:FloatKind} {u:Nat}:view M (.s (.float fk u)) = .s (.float fk u):=nrfl rfl
theorem QkS {fk:FloatKind}:view M (.nan fk) = .nan fk:=nrfl rfl
theorem QmQ {i:Nat}:view M (.oi i) = .oi i:=nrfl rfl
theorem Qf7 {fk:FloatKind} {u:Nat}:view1 M (.s (.float fk u)) = .s (.float fk u):=nrfl rfl
theorem QiE {fk:FloatKind}:view1 M (.nan fk) = .nan fk:=nrfl rfl
theorem Qg6 {n:Nat} {fk:FloatKind} {u:Nat}:outV n M (.s (.float fk u)) = .s (.float fk u):=nrfl rfl
theorem Qmz {n:Nat} {fk:FloatKind}:outV n M (.nan fk) = .nan fk:=nrfl rfl
theorem Qh3 {n:Nat} {fk:FloatKind} {u:Nat}:out1 n M (.s (.float fk u)) = .s (.float fk u):=nrfl rfl
theorem Qlm:binb .eql (.B p) (.B q) = some (.B (p == q)):=nrfl rfl
theorem Qk5:binb .neq (.B p) (.B q) = some (.B (!(p == q))):=nrfl rfl
theorem Qpu:un .neg (.s (.int k a)) = some (.s (.int k (k.wrap (-a)))):=by simp [un]
theorem Qpl:un .not (.B p) = some (.B (!p)):=nrfl rfl
theorem QmH {k':IntKind}:conv k' (.s (.int k a)) = some (.s (.int k' (k'.wrap a))):=nrfl rfl
theorem Qom:pickV (.B true) x y = some x:=nrfl rfl
theorem Qm4:pickV (.B false) x y = some y:=nrfl rfl
theorem QlE:pickV (.B p) (.B true) (.B q) = some (.B (p || q)):=by cases p <;> rfl
theorem Qjy:pickV (.B p) (.B q) (.B false) = some (.B (p && q)):=by cases p <;> rfl
theorem Qj3:asNat (.s (.int k a)) = if 0 ≤ a then some a.toNat else none:=nrfl rfl
theorem YH {a:Int} (h:-9223372036854775808 ≤ a ∧ a ≤ 9223372036854775807):IntKind.i64.wrap a = a:=QiI h
theorem Qk9 {i:Nat}:extV i (.tup xs) = xs[i]?:=nrfl rfl
theorem QjW {f:PV → PV → Option PV}:foldO f x [] = some x:=nrfl rfl
theorem Qhw {f:PV → PV → Option PV}:foldO f x (y :: xs) = (f x y).bind fun z => foldO f z xs:=nrfl rfl
theorem QlU:maxI (.s (.int k a)) (.s (.int k b)) = some (.s (.int k (max a b))):=by
 simp only [maxI,if_true,Option.some.injEq,PV.s.injEq,Value.int.injEq,true_and];omega
theorem QmC:minI (.s (.int k a)) (.s (.int k b)) = some (.s (.int k (min a b))):=by
 simp only [minI,if_true,Option.some.injEq,PV.s.injEq,Value.int.injEq,true_and];omega
theorem QiH:(PV.agg cs).cells = cs:=nrfl rfl
theorem Qng {v:Value}:(PV.s v).cells = [.s v]:=nrfl rfl
theorem Qln:(PV.fs cs).cells = [.fs cs]:=nrfl rfl
theorem QlD {i v o n:Nat}:(PV.os i v o n).cells = [.os i v o n]:=nrfl rfl
theorem Qk4 {i v o n:Nat}:(PV.op i v o n).cells = [.op i v o n]:=nrfl rfl
theorem Ql1 {i:Nat}:(PV.om i).cells = [.om i]:=nrfl rfl
theorem QkU:(PV.fp cs).cells = [.fp cs]:=nrfl rfl
theorem QmI {f:Fn}:(PV.fn f xs ys).cells = [.fn f xs ys]:=nrfl rfl
theorem QkM:oneB (.s (.int k a)) = true:=nrfl rfl
theorem Qjk:oneB (.s (.bool p)) = true:=nrfl rfl
theorem Qmo {s:ByteArray}:oneB (.s (.string s)) = true:=nrfl rfl
theorem Qmd:oneB (.s (.slice none 0 0)) = true:=nrfl rfl
theorem QmS:oneB (.fs xs) = true:=nrfl rfl
theorem Qnw {i v o n:Nat}:oneB (.os i v o n) = true:=nrfl rfl
theorem Qni {i v o n:Nat}:oneB (.op i v o n) = true:=nrfl rfl
theorem Qow {i:Nat}:oneB (.om i) = true:=nrfl rfl
theorem QiW {n:Nat}:QS n x = (x.cells.length == n && x.cells.all oneB):=nrfl rfl
theorem Qjc:mkPV none [x] = some x:=nrfl rfl
theorem Qdw {n:Nat} (h:xs.length = n):mkPV (some n) xs = some (.agg xs):=by simp [mkPV,h]
theorem QiU {n:Nat} (h:n ≤ cs.length):Q8 M (some n) (.fp cs) = some (.agg (cs.take n)):=by
 simp only [Q8,Option.getD_some];exact Qdw (by simp;omega)
theorem Qh8:Q8 M none (.fp (x :: cs)) = some x:=by simp [Q8,mkPV]
def Qb8 (ver e j n:Nat):Option Blk → Option (List PV)
 | some (.row _ _ v xs) =>
  if v = ver then
   match xs[e]? with
   | some x => if j + n ≤ x.cells.length then some ((x.cells.drop j).take n) else
     if j + n ≤ ((xs.drop e).flatMap PV.cells).length then some ((((xs.drop e).flatMap PV.cells).drop j).take n) else none
   | none => none
  else none
 | _ => none
theorem Qhj {i ver e j n:Nat}:Zp M i ver e j n = Qb8 ver e j n M[i]?:=by
 unfold Zp
 cases M[i]? with
 | none => rfl
 | some b => cases b <;> rfl
theorem Qj5 {g:Option Nat} {i ver e j:Nat}:Q8 M g (.op i ver e j) = (Qb8 ver e j (g.getD 1) M[i]?).bind fun cs => mkPV g cs:=by
 rw [← Qhj];rfl
def QeA (xs:List PV) (e j n:Nat):Option PV → Option (List PV)
 | some x => if j + n ≤ x.cells.length then some ((x.cells.drop j).take n) else
   if j + n ≤ ((xs.drop e).flatMap PV.cells).length then some ((((xs.drop e).flatMap PV.cells).drop j).take n) else none
 | none => none
theorem Qjx {w:Bool} {kk ver e j n:Nat}:Qb8 ver e j n (some (.row w kk ver xs)) = QeA xs e j n xs[e]?:=by
 simp only [Qb8,if_true]
 cases xs[e]? <;> rfl
theorem Qgi {e j n:Nat} (h:j + n ≤ x.cells.length):QeA xs e j n (some x) = some ((x.cells.drop j).take n):=by simp only [QeA,if_pos h]
def putR (M:List Blk) (i ver e j:Nat) (vs:List PV):Option Blk → Option (List Blk)
  | some (.row true k v xs) =>
    if v = ver then
      match xs[e]? with
      | some x => if j + vs.length ≤ x.cells.length ∧ vs.all oneB then
          (match x with
           | .agg cs => some (M.set i (.row true k v (xs.set e (.agg (setRange cs j vs)))))
           | _ => match vs with
             | [y] => match y with
               | .agg _ => none
               | y => some (M.set i (.row true k v (xs.set e y)))
             | _ => none)
          else none
      | none => none
    else none
  | _ => none
theorem Qcb {i ver e j:Nat} {vs:List PV}:Q9 M i ver e j vs = putR M i ver e j vs M[i]?:=by
 unfold Q9
 cases M[i]? with
 | none => rfl
 | some b => cases b with
  | row w => cases w <;> rfl
  | _ => rfl
theorem QkW {kk i ver e j:Nat} {vs:List PV} (hx:xs[e]? = some (.agg cs)) (h:j + vs.length ≤ cs.length) (h1:vs.all oneB = true) :
  putR M i ver e j vs (some (.row true kk ver xs)) = some (M.set i (.row true kk ver (xs.set e (.agg (setRange cs j vs))))):=by
 unfold putR
 simp only [if_true,hx]
 exact if_pos ⟨h,h1⟩
theorem Qea {kk i ver e:Nat} {v:PV} (hx:xs[e]? = some x) (hx1:oneB x = true) (h1:oneB v = true) :
  putR M i ver e 0 [v] (some (.row true kk ver xs)) = some (M.set i (.row true kk ver (xs.set e v))):=by
 unfold putR
 simp only [if_true,hx]
 have hc:0 + [v].length ≤ x.cells.length:=by cases x <;> first|(cases hx1;done)|(simp [PV.cells])
 rw [if_pos ⟨hc,by simp [h1]⟩]
 cases x <;> first|(cases hx1;done)|skip
 all_goals (cases v <;> first|(cases h1;done)|rfl)
theorem Qkz {kk i ver:Nat} {v:PV} (hx1:oneB x = true) (h1:oneB v = true) :
  putR M i ver 0 0 [v] (some (.row true kk ver [x])) = some (M.set i (.row true kk ver [v])):=by
 rw [Qea (x:=x) rfl hx1 h1];rfl
def putE (M:List Blk) (i k ver e j:Nat) (xs vs:List PV):Option PV → Option (List Blk)
 | some x => putR M i ver 0 j vs (some (.row true k ver [x])) |>.bind fun _ => putR M i ver e j vs (some (.row true k ver xs))
 | none => none
theorem Qc3 {i kk ver e j:Nat} {vs:List PV}:putR M i ver e j vs (some (.row true kk ver xs)) = putE M i kk ver e j xs vs xs[e]?:=by
 cases h:xs[e]? with
 | none => simp only [putR,if_true,h,putE]
 | some x =>
  simp only [putE]
  simp only [putR,if_true,h,List.getElem?_cons_zero]
  split
  ·split
   ·rfl
   ·split
    ·split <;> first|rfl|(rename_i h1 _ _ _ _ h2;exact absurd rfl (h2 _))
    ·rfl
  ·rfl
theorem QlN {kk i ver e j:Nat} {vs:List PV} (h:j + vs.length ≤ cs.length) (h1:vs.all oneB = true) (hx:xs[e]? = some (.agg cs)) :
  putE M i kk ver e j xs vs (some (.agg cs)) = some (M.set i (.row true kk ver (xs.set e (.agg (setRange cs j vs))))):=by
 rw [← hx,← Qc3,QkW hx h h1]
theorem QkF {kk i ver e:Nat} {v:PV} (hx1:oneB x = true) (h1:oneB v = true) (hx:xs[e]? = some x) :
  putE M i kk ver e 0 xs [v] (some x) = some (M.set i (.row true kk ver (xs.set e v))):=by
 rw [← hx,← Qc3,Qea hx hx1 h1]
theorem Qi8 {kk i ver e j:Nat} (h:y.cells.length = kk) (hk:kk ≠ 0):Qct M kk (.op i ver e j) y = (putR M i ver e j y.cells M[i]?).map (unit,·):=by
 rw [← Qcb];simp only [Qct];rw [if_pos ⟨h,hk⟩]
theorem QfD {n:Nat}:QjG M n (some x) = some (.op M.length 0 0 0,M ++ [.row true n 0 [x]]):=nrfl rfl
theorem QkJ {n:Nat} (h:x.cells.length = n) (hn:n ≠ 0):boxO M true n x = some (.op M.length 0 0 0,M ++ [.row true n 0 [x]]):=by simp [boxO,h,hn]
theorem Qo6 {n:Nat} (h:x.cells.length = n) (hn:n ≠ 0):boxO M false n x = some (.fp (view M x).cells,M):=by simp [boxO,h,hn]
theorem Qfs {n:Nat} (h:xs.all (fun x => x.cells.length = n) = true) (hn:n ≠ 0):bslO M true n xs = some (.os M.length 0 0 xs.length,M ++ [.row true n 0 xs]):=by
 simp only [bslO];rw [if_pos ⟨h,hn⟩];rfl
theorem QjV {n:Nat} (hn:n ≠ 0):bslO M true n [] = some (.os M.length 0 0 0,M ++ [.row true n 0 []]):=Qfs (by simp) hn
theorem QlW {n:Nat} (hn:n ≠ 0):bslO M false n [] = some (.fs [],M):=by simp [bslO,hn]
theorem QnY {n:Nat} (h:xs.all (fun x => x.cells.length = n) = true) (hn:n ≠ 0):bslO M false n xs = some (.fs (xs.map (view M)),M):=by
 simp only [bslO];rw [if_pos ⟨h,hn⟩];rfl
theorem Qg0 {kk bytes:Nat} {g:Option Nat} {zv:List Value} (h0:0 ≤ a) (h1:a ≤ 1048576) (hb:bytes ≤ 1048576) (hz:zv.length = kk) (hk:0 < kk) :
  mkslO M kk g zv bytes (.s (.int .i64 a)) (.s (.int .i64 a)) = (mkPV g (zv.map .s)).map fun e => (.os M.length 0 0 a.toNat,M ++ [.row true kk 0 (List.replicate a.toNat e)]):=by
 exact if_pos ⟨h0,rfl,by omega,by omega,hz,hk⟩
theorem Qi2 {n m:Nat}:QaH M n (.fs xs) (some m) = elemP n xs[m]?:=nrfl rfl
theorem Qih {n:Nat} (h:x.cells.length = n):elemP n (some x) = some (.fp x.cells):=by simp [elemP,h]
theorem Qkk {n m i ver off len:Nat} (h:m < len):QaH M n (.os i ver off len) (some m) = rowP n i ver off len m M[i]?:=by simp [QaH,h]
theorem QjP {n i ver off len m:Nat} {w:Bool} (h:off + len ≤ xs.length):rowP n i ver off len m (some (.row w n ver xs)) = some (.op i ver (off + m) 0):=by simp [rowP,h]
theorem Qii {off:Nat} (h:off ≤ cs.length):Jw M off (.fp cs) = some (.fp (cs.drop off)):=by simp [Jw,h]
def liveR (ver:Nat):Option Blk → Bool
 | some (.row _ _ v _) => v == ver
 | _ => false
theorem YE {i ver:Nat}:Q4 M i ver = liveR ver M[i]?:=by
 unfold Q4
 cases M[i]? with
 | none => rfl
 | some b => cases b <;> rfl
theorem Qht {ver kk:Nat} {w:Bool}:liveR ver (some (.row w kk ver xs)) = true:=by simp [liveR]
theorem QiP {off i ver e j:Nat}:Jw M off (.op i ver e j) = if liveR ver M[i]? = true then some (.op i ver e (j + off)) else none:=by simp only [Jw,YE]
theorem QkI:nilcV M (.fp cs) = some (.fp cs):=nrfl rfl
theorem QkE {i ver e j:Nat}:nilcV M (.op i ver e j) = if liveR ver M[i]? = true then some (.op i ver e j) else none:=by simp only [nilcV,YE]
theorem Qmy {f:FuncId}:nilcV M (.fn (.func f) xs ys) = some (.fn (.func f) xs ys):=nrfl rfl
theorem Qh6 {off:Nat}:QcG off none (.agg cs) = mkPV none ((cs.drop off).take 1):=nrfl rfl
theorem QfN {off n:Nat}:QcG off (some n) (.agg cs) = mkPV (some n) ((cs.drop off).take n):=nrfl rfl
theorem QiQ {n:Nat} {lo hi:Option PV} (h:sized n xs = true):YT M n (.fs xs) lo hi = (bounds xs.length lo hi).map fun b => .fs ((xs.drop b.1).take (b.2 - b.1)):=by simp [YT,h]
theorem Qjw {n:Nat}:sized n [] = true:=nrfl rfl
theorem natZ:((0:Nat):Int) = 0:=nrfl rfl
theorem natO:((1:Nat):Int) = 1:=nrfl rfl
theorem min10:min (1:Int) 0 = 0:=nrfl rfl
theorem QhU {n:Nat} {lo hi:Option PV}:YT M n (.s (.slice none 0 0)) lo hi = (bounds 0 lo hi).map fun _ => PV.nilS:=nrfl rfl
def rowKR:Option Blk → Nat
 | some (.row _ k _ _) => k
 | _ => 0
theorem QoI {i:Nat}:rowK M i = rowKR M[i]?:=by
 unfold rowK
 cases M[i]? with
 | none => rfl
 | some b => cases b <;> rfl
def Qcs (i ver off len n:Nat) (lo hi:Option PV):Option Blk → Option PV
 | some (.row _ k v _) => if v = ver ∧ k = n then (bounds len lo hi).map fun b => .os i ver (off + b.1) (b.2 - b.1) else none
 | _ => none
theorem Qiy {n i ver off len:Nat} {lo hi:Option PV}:YT M n (.os i ver off len) lo hi = Qcs i ver off len n lo hi M[i]?:=by
 simp only [YT,YE,QoI]
 cases M[i]? with
 | none => rfl
 | some b => cases b <;> simp [liveR,rowKR,Qcs]
theorem Qid {n i ver off len:Nat} {lo hi:Option PV} {w:Bool}:Qcs i ver off len n lo hi (some (.row w n ver xs)) = (bounds len lo hi).map fun b => .os i ver (off + b.1) (b.2 - b.1):=by simp [Qcs]
theorem Qg3 {n k a ver e j m:Nat}:JB M n k (.op a ver e j) (some m) = if m < n ∧ liveR ver M[a]? = true then some (.op a ver e (j + m * k)) else none:=by simp only [JB,YE]
theorem QhE {n k m:Nat}:JB M n k (.fp cs) (some m) = if m < n ∧ n * k ≤ cs.length then some (.fp ((cs.drop (m * k)).take k)) else none:=nrfl rfl
theorem QkL {n:Nat}:arrpV M n (.fs xs) = if n ≤ xs.length ∧ 0 < n then some (.fp ((xs.take n).flatMap PV.cells)) else none:=nrfl rfl
theorem Qlq {M:List Blk} {k bytes i ver len:Nat} {xs ys:List PV} (hl:len ≤ xs.length) (hy:ys.all (QS k) = true) (hk:k ≠ 0) (hb:bytes ≤ 2 ^ 20) (hs:len + ys.length ≤ 1048576) :
  appR M k bytes i ver 0 len ys (some (.row true k ver xs)) = some (.os i (ver + 1) 0 (len + ys.length),M.set i (.row true k (ver + 1) (xs.take len ++ ys))):=by
 show (if (ys.all (QS k) = true ∧ k ≠ 0 ∧ bytes ≤ 2 ^ 20) ∧ ver = ver ∧ k = k ∧ 0 + len ≤ xs.length ∧ len + ys.length ≤ 2 ^ 20 then some (PV.os i (ver + 1) 0 (len + ys.length),M.set i (Blk.row true k (ver + 1) ((xs.drop 0).take len ++ ys))) else none) = _
 rw [if_pos ⟨⟨hy,hk,hb⟩,rfl,rfl,by omega,by omega⟩];simp
theorem Qi7 {n:Nat} {lo hi:Option PV}:bounds n lo hi = (hiN n hi).bind fun h => (loN lo).bind fun l => if l ≤ h ∧ h ≤ n then some (l,h) else none:=nrfl rfl
theorem Qmn {n:Nat}:hiN n none = some n:=nrfl rfl
theorem Qlh {n:Nat} {v:PV}:hiN n (some v) = asNat v:=nrfl rfl
theorem Ql8:loN none = some 0:=nrfl rfl
theorem Qmb {v:PV}:loN (some v) = asNat v:=nrfl rfl
theorem QnS:held M (.fs xs) = some xs:=nrfl rfl
theorem Ql5:held M (.s (.slice none 0 0)) = some []:=nrfl rfl
def heldR (ver off len:Nat):Option Blk → Option (List PV)
 | some (.row _ _ v xs) => if v = ver ∧ off + len ≤ xs.length then some ((xs.drop off).take len) else none
 | _ => none
theorem QcO {i ver off len:Nat}:held M (.os i ver off len) = heldR ver off len M[i]?:=by
 unfold held
 simp only [heldR]
 cases M[i]? with
 | none => rfl
 | some b => cases b <;> rfl
theorem Qj9 {ver kk len:Nat} {w:Bool} (h:len = xs.length):heldR ver 0 len (some (.row w kk ver xs)) = some xs:=by subst h;simp [heldR]
theorem QhV {ver kk off len:Nat} {w:Bool} (h:off + len ≤ xs.length):heldR ver off len (some (.row w kk ver xs)) = some ((xs.drop off).take len):=by simp [heldR,h]
theorem Qmi {n i ver off len:Nat}:arrpV M n (.os i ver off len) = if n ≤ len ∧ 0 < n then (heldR ver off len M[i]?).map fun _ => .op i ver off 0 else none:=by simp only [arrpV,QcO]
def viewR (i ver off len:Nat):Option Blk → PV
 | some (.row false _ v xs) => if v = ver ∧ off + len ≤ xs.length then .fs ((xs.drop off).take len) else .os i ver off len
 | _ => .os i ver off len
theorem Qlj:view M (.s (.int k a)) = .s (.int k a):=nrfl rfl
theorem QjJ:view M (.B p) = .B p:=nrfl rfl
theorem Qmk {s:ByteArray}:view M (.s (.string s)) = .s (.string s):=nrfl rfl
theorem QlR:view M (.s (.slice none 0 0)) = .fs []:=nrfl rfl
theorem QmX:view M (.fs xs) = .fs xs:=nrfl rfl
theorem Qm7:view M (.fp xs) = .fp xs:=nrfl rfl
theorem Qm3 {i:Nat}:view M (.om i) = .om i:=nrfl rfl
theorem QnE {i v e j:Nat}:view M (.op i v e j) = .op i v e j:=nrfl rfl
theorem Qok {i:Nat}:view M (.yl i) = .yl i:=nrfl rfl
theorem Qn6 {f:Fn}:view M (.fn f xs ys) = .fn f xs ys:=nrfl rfl
theorem Qlp:view M (.tup xs) = .tup xs:=nrfl rfl
theorem Qll:view M .top = .top:=nrfl rfl
theorem QlM:view M (.agg cs) = .agg (cs.map (view1 M)):=nrfl rfl
theorem Qka:view1 M (.s (.int k a)) = .s (.int k a):=nrfl rfl
theorem Qhu:view1 M (.B p) = .B p:=nrfl rfl
theorem Qj7 {s:ByteArray}:view1 M (.s (.string s)) = .s (.string s):=nrfl rfl
theorem Qkb:view1 M (.s (.slice none 0 0)) = .fs []:=nrfl rfl
theorem QlB:view1 M (.fs xs) = .fs xs:=nrfl rfl
theorem QgL {i ver off len:Nat}:view M (.os i ver off len) = viewR i ver off len M[i]?:=by
 simp only [view,view1]
 cases M[i]? with
 | none => rfl
 | some b => cases b with
  | row w => cases w <;> rfl
  | _ => rfl
theorem Qms {i ver off len:Nat}:view1 M (.os i ver off len) = viewR i ver off len M[i]?:=by rw [← QgL];rfl
theorem Qg8 {i ver off len kk v:Nat}:viewR i ver off len (some (.row true kk v xs)) = .os i ver off len:=nrfl rfl
theorem Qkw {i ver kk len:Nat} (h:len = xs.length):viewR i ver 0 len (some (.row false kk ver xs)) = .fs xs:=by subst h;simp [viewR]
theorem QqG {ρ:CX → PV} {n:Nat}:argV M ρ (.t n) = view M (ρ (.t n)):=nrfl rfl
theorem QpT {ρ:CX → PV} {v:Value}:argV M ρ (.k v) = .s v:=nrfl rfl
theorem Qp8 {ρ:CX → PV} {f:FuncId}:argV M ρ (.f f) = view M (ρ (.f f)):=nrfl rfl
def frzR (M:List Blk) (i:Nat):Option Blk → Option (List Blk)
 | some (.row _ k v xs) => some (M.set i (.row false k v xs))
 | _ => none
theorem QaB {i ver off len:Nat}:Ql M [.os i ver off len] = frzR M i M[i]?:=by
 simp only [Ql,freeze]
 cases M[i]? with
 | none => rfl
 | some b => cases b <;> rfl
theorem Qd5:Ql M [.fs xs] = some M:=nrfl rfl
theorem Qd0:Ql M [.s (.slice none 0 0)] = some M:=nrfl rfl
theorem Ql4 {i kk v:Nat} {w:Bool}:frzR M i (some (.row w kk v xs)) = some (M.set i (.row false kk v xs)):=nrfl rfl
theorem Qel:V6 (some (x,M)) = (Ql M x.cells).map fun M' => (view M' x,M'):=nrfl rfl
theorem QfB:QC [] [] [] = some true:=nrfl rfl
theorem Qgk {ks:List SK}:QC (.int :: ks) (.s (.int k a) :: xs) (.s (.int k b) :: ys) = (QC ks xs ys).map fun r => decide (a = b) && r:=by
 simp only [QC,eqSK,if_true,bind,Option.bind_some,pure]
 cases QC ks xs ys with
 | none => rfl
 | some r => simp only [Option.bind_some,Option.map_some];congr
theorem Qd6 {ks:List SK}:QC (.bool :: ks) (.B p :: xs) (.B q :: ys) = (QC ks xs ys).map fun r => (p == q) && r:=by
 simp only [QC,eqSK,bind,Option.bind_some,pure]
 cases QC ks xs ys <;> rfl
theorem QlX {neg:Bool} {lay:List SK}:eqsV neg lay (.agg xs) (.agg ys) = (QC lay xs ys).map fun r => .B (if neg = true then !r else r):=nrfl rfl
def nilAt (j:Nat):Option PV → Bool
 | some x => match x.cells[j]? with
  | some (.s (.slice none 0 0)) => true
  | _ => false
 | none => false
def ownR (M:List Blk) (a ver e j k:Nat):Option Blk → Option (List Blk)
 | some (.row w kk v xs) => if nilAt j xs[e]? = true then (putR M a ver e j [.os M.length 0 0 0] (some (.row w kk v xs))).map (· ++ [.row true k 0 []]) else none
 | _ => none
def ownO (M:List Blk) (j k:Nat):PV → Option (List Blk)
 | .op a ver e j0 => ownR M a ver e (j0 + j) k M[a]?
 | _ => none
def ownP (Q:Post) (t:List PV):Option (List Blk) → Prop
 | some M' => Q .normal M' t
 | none => False
theorem Qqe {C:CallR} {n0:Nat} {Q:Post} {t:List PV} {i j k:Nat}:Wp C n0 (.own i j k) Q M t = ownP Q t (ownO M j k (t.getD i .top)):=by
 apply propext
 show (∃ M',Jy M (t.getD i .top) j k = some M' ∧ Q .normal M' t) ↔ _
 have:Jy M (t.getD i .top) j k = ownO M j k (t.getD i .top):=by
  generalize t.getD i .top = p
  cases p <;> try rfl
  rename_i a ver e j0
  simp only [Jy,ownO]
  cases hb:M[a]? with
  | none => rfl
  | some b =>
   cases b <;> try rfl
   rename_i w kk v xs
   simp only [ownR,← hb,← Qcb]
   cases hx:xs[e]? with
   | none => rfl
   | some x =>
    simp only [Option.map_some,Option.bind_some]
    by_cases hn:nilAt (j0 + j) (some x) = true
    ·rw [if_pos hn]
     simp only [nilAt] at hn
     split at hn
     ·rename_i h3;rw [h3];rfl
     ·cases hn
    ·rw [if_neg hn]
     split
     ·rename_i h3;exfalso;apply hn;simp only [nilAt];rw [h3];rfl
     ·rfl
 rw [this]
 cases ownO M j k (t.getD i .top) with
 | none => simp [ownP]
 | some M' => simp [ownP]
theorem Qjr {Q:Post} {t:List PV} {M':List Blk}:ownP Q t (some M') = Q .normal M' t:=nrfl rfl
theorem QnW {a ver e j0 j k:Nat}:ownO M j k (.op a ver e j0) = ownR M a ver e (j0 + j) k M[a]?:=nrfl rfl
theorem Qld {a ver k:Nat} {kk:Nat}:ownR M a ver 0 0 k (some (.row true kk ver [.s (.slice none 0 0)])) = some (M.set a (.row true kk ver [.os M.length 0 0 0]) ++ [.row true k 0 []]):=by
 show (putR M a ver 0 0 [.os M.length 0 0 0] _).map _ = _
 rw [Qkz rfl rfl];rfl
section
variable {C:CallR} {d:Option Nat} {os:List (COper × Option Nat)} {tr:List Foot} {K:List Foot → List Blk → List PV → Prop} {t:List PV}
def dK (C:CallR) (os:List (COper × Option Nat)) (tr:List Foot) (fp:Foot) (K:List Foot → List Blk → List PV → Prop) (n:Nat) (M:List Blk) (t:List PV):Prop:=M.length = n ∧ wpD C os (tr ++ [fp]) K M t
theorem dK_eq {fp:Foot} {n:Nat}:dK C os tr fp K n M t = (M.length = n ∧ wpD C os (tr ++ [fp]) K M t):=nrfl rfl
theorem d_op {o:COp}:wpD C ((⟨d,o,none⟩,none) :: os) tr K M t = wpOps C [⟨d,o,none⟩] (dK C os tr (fpOp (ev t) o) K M.length) M t:=by
 apply propext
 constructor
 ·rintro ⟨_,v,M',h1,h2,h3⟩
  exact ⟨v,M',h1,h2,h3⟩
 ·rintro ⟨v,M',h1,h2,h3⟩
  exact ⟨rfl,v,M',h1,h2,h3⟩
theorem d_nil:wpD C [] tr K M t = K tr M t:=nrfl rfl
def Qe3 (C:CallR) (os:List (COper × Option Nat)) (tr:List Foot) (K:List Foot → List Blk → List PV → Prop) (M:List Blk) (t:List PV) (d:Option Nat) (i n:Nat):Option PV → Option Blk → Prop
 | some e,some (.row false 0 0 []) => wpD C os (tr ++ [some ([],[i])]) K (M.set i (.row true n 1 [e])) (put t d (.op i 1 0 0))
 | _,_ => False
theorem Qm1 {g:Option Nat} {z:List Value} {r:Nat}:wpD C ((⟨d,.alloc g z,none⟩,some r) :: os) tr K M t = Qe3 C os tr K M t d (M.length - r) z.length (mkPV g (z.map .s)) M[M.length - r]?:=by
 apply propext
 constructor
 ·rintro ⟨_,v,M',⟨o,k,xs,h1,h2,rfl,rfl⟩,h4,h5⟩
  simp only [Vx,Option.map_eq_some_iff] at h1
  obtain ⟨e,h6,h7⟩:=h1
  cases h7
  rw [h6,h2]
  exact h5
 ·intro h
  cases he:mkPV g (z.map .s) with
  | none => rw [he] at h;exact h.elim
  | some e =>
   rw [he] at h
   cases hb:M[M.length - r]? with
   | none => rw [hb] at h;exact h.elim
   | some b =>
    rw [hb] at h
    unfold Qe3 at h
    split at h
    ·rename_i h1 h2
     cases h1;cases h2
     exact ⟨rfl,_,_,⟨true,z.length,[_],by simp only [Vx,he];rfl,hb,rfl,rfl⟩,by simp,h⟩
    ·exact h.elim
theorem QfF {i n:Nat}:Qe3 C os tr K M t d i n (some x) (some (.row false 0 0 [])) = wpD C os (tr ++ [some ([],[i])]) K (M.set i (.row true n 1 [x])) (put t d (.op i 1 0 0)):=nrfl rfl
def bslD (C:CallR) (os:List (COper × Option Nat)) (tr:List Foot) (K:List Foot → List Blk → List PV → Prop) (M:List Blk) (t:List PV) (d:Option Nat) (i k:Nat) (vs:List PV):Option Blk → Prop
 | some (.row false 0 0 []) => if vs.all (fun x => x.cells.length = k) ∧ k ≠ 0 then wpD C os (tr ++ [some ([],[i])]) K (M.set i (.row true k 1 vs)) (put t d (.os i 1 0 vs.length)) else False
 | _ => False
theorem d_bsl {k r:Nat} {xs:List CX}:wpD C ((⟨d,.bsl true k xs,none⟩,some r) :: os) tr K M t = bslD C os tr K M t d (M.length - r) k (xs.map (ev t)) M[M.length - r]?:=by
 apply propext
 constructor
 ·rintro ⟨_,v,M',⟨o,k',ys,h1,h2,rfl,rfl⟩,h4,h5⟩
  simp only [Vx] at h1
  split at h1
  ·rename_i hc
   cases h1
   rw [h2]
   show (if _ then _ else _)
   rw [if_pos hc.2]
   simpa [fpD] using h5
  ·cases h1
 ·intro h
  cases hb:M[M.length - r]? with
  | none => rw [hb] at h;exact h.elim
  | some b =>
   rw [hb] at h
   unfold bslD at h
   split at h
   ·rename_i h2
    cases h2
    split at h
    ·rename_i hc
     exact ⟨rfl,_,_,⟨false,k,xs.map (ev t),if_pos ⟨rfl,hc⟩,hb,rfl,rfl⟩,by simp,by simpa [fpD] using h⟩
    ·exact h.elim
   ·exact h.elim
theorem QlH {i k:Nat} (hk:k ≠ 0):bslD C os tr K M t d i k [] (some (.row false 0 0 [])) = wpD C os (tr ++ [some ([],[i])]) K (M.set i (.row true k 1 [])) (put t d (.os i 1 0 0)):=by
 show (if _ then _ else _) = _
 rw [if_pos ⟨by simp,hk⟩];rfl
theorem Qn3:hole = .row false 0 0 []:=nrfl rfl
theorem QnN {i v e j:Nat}:refs (.op i v e j) = [i]:=nrfl rfl
theorem QnF {i v e j:Nat}:refs (.os i v e j) = [i]:=nrfl rfl
theorem QoF {i:Nat}:refs (.om i) = [i]:=nrfl rfl
theorem Qm5 {i:Nat}:refs (.oi i) = [i]:=nrfl rfl
theorem Qm6:refs (.fs xs) = []:=nrfl rfl
theorem QmY:refs (.fp xs) = []:=nrfl rfl
theorem Qqt {v:Value}:refs (.s v) = []:=nrfl rfl
end
theorem Qiq {n:Nat}:mkRes n M [x] = outV n M x:=nrfl rfl
theorem Qjq {n:Nat}:mkRes n M (x :: y :: xs) = .tup ((x :: y :: xs).map (outV n M)):=nrfl rfl
theorem Qmm {n:Nat}:outV n M (.s (.int k a)) = .s (.int k a):=nrfl rfl
theorem QkB {n:Nat}:outV n M (.B p) = .B p:=nrfl rfl
theorem QkY {n:Nat} {s:ByteArray}:outV n M (.s (.string s)) = .s (.string s):=nrfl rfl
theorem Qlw {n:Nat}:outV n M (.s (.slice none 0 0)) = .fs []:=nrfl rfl
theorem QnI {n:Nat}:outV n M (.fs xs) = .fs xs:=nrfl rfl
theorem QkN {n:Nat}:outV n M (.agg cs) = .agg (cs.map (out1 n M)):=nrfl rfl
theorem Qoo {n:Nat} {f:Fn}:outV n M (.fn f xs ys) = .fn f xs ys:=nrfl rfl
theorem QlZ {n:Nat}:out1 n M (.s (.int k a)) = .s (.int k a):=nrfl rfl
theorem QjY {n:Nat}:out1 n M (.B p) = .B p:=nrfl rfl
theorem QlC {n:Nat} {s:ByteArray}:out1 n M (.s (.string s)) = .s (.string s):=nrfl rfl
theorem Qny {n:Nat}:out1 n M (.fs xs) = .fs xs:=nrfl rfl
theorem QmA {n:Nat}:out1 n M (.s (.slice none 0 0)) = .fs []:=nrfl rfl
def orTop:Option (List PV) → PV
 | some xs => .fs xs
 | none => .top
theorem QgK {n i ver off len:Nat} (h:n ≤ i):out1 n M (.os i ver off len) = orTop (heldR ver off len M[i]?):=by
 rw [← QcO];simp only [out1];rw [if_pos h];cases held M (.os i ver off len) <;> rfl
theorem QmK {n i ver off len:Nat} (h:n ≤ i):outV n M (.os i ver off len) = orTop (heldR ver off len M[i]?):=QgK h
theorem QhI:orTop (some xs) = .fs xs:=nrfl rfl
theorem Qiw {t:List PV}:resOf M t [] = some []:=nrfl rfl
theorem Qhk {t:List PV} {i:Nat} {r:List (Nat × Option (Option Nat))}:resOf M t ((i,none) :: r) = (resOf M t r).map (t.getD i .top :: ·):=nrfl rfl
def consO:Option PV → Option (List PV) → Option (List PV)
 | some v,some vs => some (v :: vs)
 | _,_ => none
theorem QhD {t:List PV} {i:Nat} {g:Option Nat} {r:List (Nat × Option (Option Nat))}:resOf M t ((i,some g) :: r) = consO (Q8 M g (t.getD i .top)) (resOf M t r):=by
 simp only [resOf,res,ev]
 cases Q8 M g (t.getD i .top) <;> cases resOf M t r <;> rfl
theorem Qic {vs:List PV}:consO (some x) (some vs) = some (x :: vs):=nrfl rfl
theorem Qef {C:CallR} {n0 n:Nat} {Q:Post} {kvs:List (Nat × PV)} {f:CX} {ps:List Nat} {A B:CCode} {g:FuncId} {cap:List PV} {M':List Blk} {t':List PV} {ps':List Nat} {A' B':CCode}
  (hf:ev (mk n kvs) f = .fn (.func g) [] cap) (hc:C (.fn g) (.yl M.length :: cap) (M ++ [.loop .ready none (mk n kvs) ps A B]) (.tup []) (M' ++ [.loop .ready none t' ps' A' B']))
  (hl:M'.length = M.length) (hlow:lowM M.length M') (hq:Q .normal M' (mk n kvs)):Wp C n0 (.rangeFunc f ps A B) Q M (mk n kvs) :=
 ⟨g,[],cap,M',.ready,none,t',ps',A',B',hf,hc,hl,hlow,by decide,hq⟩
def Qez (C:CallR) (m i n:Nat) (kvs:List (Nat × PV)) (ps:List Nat) (A B:CCode) (r:PV) (M':List Blk) (M1:List Blk) (t1:List PV):Prop :=
 (∃ ts' ps' a' b',M1[i]? = some (.loop .ready none ts' ps' a' b')) ∧ Wp C m B (ZL m i ps A B (mk n kvs) r M') (M1.set i (.loop .busy none (mk n kvs) ps A B)) t1
theorem QiT {C:CallR} {m i n:Nat} {kvs:List (Nat × PV)} {ps:List Nat} {A B:CCode} {r:PV} {M' M1:List Blk} {t1:List PV} {ts':List PV} {ps':List Nat} {a' b':CCode} (h:M1[i]? = some (.loop .ready none ts' ps' a' b'))
  (hw:Wp C m B (ZL m i ps A B (mk n kvs) r M') (M1.set i (.loop .busy none (mk n kvs) ps A B)) t1):Qez C m i n kvs ps A B r M' M1 t1:=⟨⟨_,_,_,_,h⟩,hw⟩
theorem QlP {F:Prog} {X:XRel} {i n p:Nat} {kvs:List (Nat × PV)} {A B:CCode} {r:PV} {M':List Blk} (hi:M[i]? = some (.loop .ready none (mk n kvs) [p] A B))
  (h:lowM M.length M → lowL M.length [x] → Wp (ACall F X) M.length A (thenK (Qez (ACall F X) M.length i n kvs [p] A B r M') (fun _ _ _ => False)) M (mk n ((p,x) :: kvs))):ACall F X (.yl i) [x] M r M':=by
 refine Qeq hi rfl fun h1 h2 => ?_
 have:=h h1 h2
 simp only [List.zip_cons_cons,List.zip_nil_right,List.foldl_cons,List.foldl_nil,Qcw]
 exact this
theorem low_s {n:Nat} {v:Value}:(PV.s v).low n = True:=by simp [PV.low]
theorem Qos {n:Nat}:(PV.agg cs).low n = lowL n cs:=by simp [PV.low]
theorem Qn7 {n:Nat}:(PV.tup cs).low n = lowL n cs:=by simp [PV.low]
theorem Qqb {n:Nat}:(PV.fs cs).low n = lowL n cs:=by simp [PV.low]
theorem QpD {n:Nat}:(PV.fp cs).low n = lowL n cs:=by simp [PV.low]
theorem Qpt {n i v o l:Nat}:(PV.os i v o l).low n = (i < n):=by simp [PV.low]
theorem QpY {n i v o l:Nat}:(PV.op i v o l).low n = (i < n):=by simp [PV.low]
theorem Qqz {n i:Nat}:(PV.om i).low n = (i < n):=by simp [PV.low]
theorem QpI {n:Nat} {f:Fn}:(PV.fn f xs ys).low n = (lowL n xs ∧ lowL n ys):=by simp [PV.low]
theorem QoW {n:Nat} {fk:FloatKind}:(PV.nan fk).low n = True:=by simp [PV.low]
theorem Qpm {n i:Nat}:(PV.oi i).low n = (i < n):=by simp [PV.low]
theorem Qqr {n i:Nat}:(PV.yl i).low n = (i < n):=by simp [PV.low]
theorem Qn0 {n:Nat}:PV.top.low n = True:=by simp [PV.low]
theorem Qlb {n:Nat}:lowL n [] = True:=by simp [lowL]
theorem QiV {n:Nat}:lowL n (x :: xs) = (x.low n ∧ lowL n xs):=by simp [lowL]
def Clean (x:PV):Prop:=∀ n,x.low n
theorem Qkl {α:Type} {f:α → PV} {n:Nat} {l:List α} (h:∀ a,(f a).low n):lowL n (l.map f) = True:=eq_true (VB f l h)
theorem Qy {C:CallR} {n0:Nat} {Q:Post} {N:List Blk} {t:List PV} (hM:lowM M.length M) (hn:n0 = M.length) (j:Nat) (hj:j ≤ N.length) (hN:lowM (M.length + j) (N.take j)) (ht:lowL (M.length + j) t) (hq:Q .normal (M ++ N.take j) t) :
  Wp C n0 .cut Q (M ++ N) t:=by
 subst hn
 refine ⟨M.length + j,by omega,by simp;omega,?_,ht,?_⟩
 ·rw [takeM];exact (QI _ _).2 ⟨Q7 (by omega) hM,hN⟩
 ·rw [takeM];exact hq
theorem Qfo {n:Nat} {rs:List (Nat × Option (Option Nat))} {r:PV} {N:List Blk} {t:List PV} {e:Ex} (he:(match e with|.ret|.normal => True|_ => False)) (hM:lowM M.length M) (hn:n = M.length)
  (h:(resOf (M ++ N) t rs).map (mkRes M.length (M ++ N)) = some r) (hl:r.low M.length):Vl n rs r M e (M ++ N) t:=by
 cases hv:resOf (M ++ N) t rs with
 | none => rw [hv] at h;cases h
 | some vs => rw [hv] at h;exact Qe7 he hM hn hv (Option.some.inj h) hl
theorem Yr {n:Nat} {rs:List (Nat × Option (Option Nat))} {r:PV} {t:List PV} {e:Ex} (he:(match e with|.ret|.normal => True|_ => False)) (hM:lowM M.length M) (hn:n = M.length)
  (h:(resOf M t rs).map (mkRes M.length M) = some r) (hl:r.low M.length):Vl n rs r M e M t:=by
 cases hv:resOf M t rs with
 | none => rw [hv] at h;cases h
 | some vs => rw [hv] at h;exact Qko he hM hn hv (Option.some.inj h) hl
theorem pfN {n:Nat} {rs:List (Nat × Option (Option Nat))} {r:PV} {M N:List Blk} {t:List PV} {e:Ex} (hM:lowM M.length M) (h:(resOf (M ++ N) t rs).map (mkRes M.length (M ++ N)) = some r) (hl:r.low M.length) (he:(match e with |.ret|.normal => True|_ => False):=by trivial) (hn:n = M.length:=by rfl):Vl n rs r M e (M ++ N) t:=Qfo he hM hn h hl
theorem pf0 {n:Nat} {rs:List (Nat × Option (Option Nat))} {r:PV} {M:List Blk} {t:List PV} {e:Ex} (hM:lowM M.length M) (h:(resOf M t rs).map (mkRes M.length M) = some r) (hl:r.low M.length) (he:(match e with |.ret|.normal => True|_ => False):=by trivial) (hn:n = M.length:=by rfl):Vl n rs r M e M t:=Yr he hM hn h hl
theorem QmD {n:Nat} {rs:List (Nat × Option (Option Nat))} {N:List Blk} {t:List PV} {e:Ex} (he:(match e with|.ret|.normal => True|_ => False)) (hM:lowM M.length M) (hn:n = M.length)
  (h:resOf (M ++ N) t rs = some [PV.nilS]):Vl n rs PV.nilS M e (M ++ N) t:=by
 subst hn
 exact ⟨he,M.length,Nat.le_refl _,by simp,by simpa using hM,by simp,_,h,.inr ⟨rfl,rfl⟩,by simp [PV.low]⟩
theorem Qc7 {rs:List (Nat × Option (Option Nat))} {N:List Blk} {t:List PV} {e:Ex} {j k v off len:Nat} (he:(match e with|.ret|.normal => True|_ => False)) (hM:lowM M.length M)
  (hv:resOf (M ++ N) t rs = some [.os (M.length + j) v off len]) (hj:N[j]? = some (.row true k v xs)) (hx:lowL M.length xs):Qa0 M.length rs (.os M.length v off len) (M ++ [.row true k v xs]) e (M ++ N) t:=by
 refine ⟨he,by simp,by simpa using hM,M.length + j,v,off,len,k,xs,hv,by omega,by rw [getMj];exact hj,hx,rfl,by simp⟩
theorem Qkv {n:Nat}:lowM n [] = True:=eq_true Z1
theorem QhN {n:Nat} {b:Blk} {bs:List Blk}:lowM n (b :: bs) = (b.low n ∧ lowM n bs):=propext (ZE b bs)
theorem Qir {n:Nat}:lowL n (xs ++ ys) = (lowL n xs ∧ lowL n ys):=propext (Jg xs ys)
theorem Qmh {w:Bool} {kk v n:Nat}:(Blk.row w kk v xs).low n = lowL n xs:=nrfl rfl
theorem QhB {s:ByteArray} {p n:Nat}:(Blk.siter s p).low n = True:=nrfl rfl
theorem Qmf {es:List (Value × Value)} {n:Nat}:(Blk.map es).low n = True:=nrfl rfl
theorem Zc {α β:Type} {l:List α} {i:Nat} {x:α} {f:α → β} (h:l[i]? = some x):(l.take (i + 1)).map f = (l.take i).map f ++ [f x]:=by
 obtain ⟨h1,h2⟩:=List.getElem?_eq_some_iff.1 h
 rw [List.take_succ_eq_append_getElem h1,h2,List.map_append];rfl
theorem mk0 (n:Nat):[] ++ List.replicate (n - ([]:List PV).length) .top = mk n []:=QbZ [] n (Nat.zero_le _)
theorem mk1 (n:Nat) (h:1 ≤ n) (a:PV):[a] ++ List.replicate (n - [a].length) .top = mk n [(0,a)]:=QbZ [a] n h
theorem mk2 (n:Nat) (h:2 ≤ n) (a b:PV):[a,b] ++ List.replicate (n - [a,b].length) .top = mk n [(0,a),(1,b)]:=QbZ [a,b] n h
theorem mk3 (n:Nat) (h:3 ≤ n) (a b c:PV):[a,b,c] ++ List.replicate (n - [a,b,c].length) .top = mk n [(0,a),(1,b),(2,c)]:=QbZ [a,b,c] n h
theorem JD:(match Ex.ret with|.ret|.normal => True|_ => False):=trivial
theorem QaQ:(match Ex.normal with|.ret|.normal => True|_ => False):=trivial
end
end Go.Nac
namespace Go.Nac
structure Rev where
 at_:Int
 ld:Int
 deriving DecidableEq
def QjU (x:Rev):PV:=.agg [.I x.at_,.I x.ld]
theorem QfI {n:Nat} (x:Rev):(QjU x).low n = True:=eq_true (by simp [QjU,PV.low,lowL])
structure Cyc where
 from_:Int
 to_:Int
 lo:Int
 hi:Int
 deriving DecidableEq
def QjX (x:Cyc):PV:=.agg [.I x.from_,.I x.to_,.I x.lo,.I x.hi]
theorem Qgh {n:Nat} (x:Cyc):(QjX x).low n = True:=eq_true (by simp [QjX,PV.low,lowL])
structure Life where
 cap:Int
 exp:Int
 deriving DecidableEq
def QgR (x:Life):PV:=.agg [.I x.cap,.I x.exp]
theorem Qfj {n:Nat} (x:Life):(QgR x).low n = True:=eq_true (by simp [QgR,PV.low,lowL])
structure Cls where
 num:Int
 cnt:Int
 deriving DecidableEq
def QiJ (x:Cls):PV:=.agg [.I x.num,.I x.cnt]
theorem Qge {n:Nat} (x:Cls):(QiJ x).low n = True:=eq_true (by simp [QiJ,PV.low,lowL])
structure Pnt where
 x:Int
 y:Int
 deriving DecidableEq
def Qkx (x:Pnt):PV:=.agg [.I x.x,.I x.y]
theorem Qf0 {n:Nat} (x:Pnt):(Qkx x).low n = True:=eq_true (by simp [Qkx,PV.low,lowL])
end Go.Nac
namespace Go.Nac
def QgN (F:Prog) (X:XRel) (g:FuncId) (cap:List PV) (xs:List PV):Prop :=
 ∀ (i:Nat) (N:Nat → List Blk),(∀ k,k ≤ xs.length → (N k).length = (N 0).length ∧ lowM (N k).length (N k)) →
  (∀ k x E,xs[k]? = some x → ACall F X (.yl i) [x] (N k ++ E) (.B true) (N (k + 1) ++ E)) → ACall F X (.fn g) (.yl i :: cap) (N 0) (.tup []) (N xs.length)
def QeI (N:List Blk):Post:=fun e M' _ => e = .normal ∧ ∃ T,M' = N ++ T
theorem Qp4 {N M':List Blk} {t:List PV} (T:List Blk) (h:M' = N ++ T):QeI N .normal M' t:=⟨rfl,T,h⟩
def Qij (C:CallR) (m i:Nat) (L LB:Blk) (B:CCode) (N M1:List Blk) (t1:List PV):Prop:=M1[i]? = some L ∧ Wp C m B (QeI N) (M1.set i LB) t1
theorem Qqp {C:CallR} {m i:Nat} {L LB:Blk} {B:CCode} {N M1:List Blk} {t1:List PV} (h:M1[i]? = some L) (hw:Wp C m B (QeI N) (M1.set i LB) t1):Qij C m i L LB B N M1 t1:=⟨h,hw⟩
theorem Qhc {F:Prog} {X:XRel} {g:FuncId} {cap xs:List PV} (hg:QgN F X g cap xs) {n0 n p:Nat} {Q:Post} {kvs:List (Nat × PV)} {f:CX} {A B:CCode} {M:List Blk} (R:Nat → List Blk)
  (hM:lowM M.length M) (hf:ev (mk n kvs) f = .fn (.func g) [] cap) (hlen:∀ k,(R k).length = (R 0).length) (hlow:∀ k,k ≤ xs.length → lowM (M.length + (R 0).length) (R k)) (ht:lowL (M.length + (R 0).length) (kvs.map Prod.snd))
  (hy:∀ k x E L LB,xs[k]? = some x → lowM (M.length + ((R k).length + (1 + E.length))) E →
   Wp (ACall F X) (M.length + ((R k).length + (1 + E.length))) A (thenK (Qij (ACall F X) (M.length + ((R k).length + (1 + E.length))) (M.length + (R k).length) L LB B (M ++ (R (k + 1) ++ LB :: E))) (fun _ _ _ => False)) (M ++ (R k ++ L :: E)) (mk n ((p,x) :: kvs)))
  (hq:Q .normal (M ++ R xs.length) (mk n kvs)):Wp (ACall F X) n0 (.rangeFunc f [p] A B) Q (M ++ R 0) (mk n kvs):=by
 have hlowR:∀ k,k ≤ xs.length → lowM (M.length + (R 0).length) (M ++ R k):=fun k hk => (QI _ _).2 ⟨Q7 (by omega) hM,hlow k hk⟩
 have key:=hg (M.length + (R 0).length) (fun k => (M ++ R k) ++ [.loop .ready none (mk n kvs) [p] A B]) (fun k hk => ?_) (fun k x E hx => ?_)
 ·refine Qef (M':=M ++ R xs.length) (A':=A) (B':=B) (ps':=[p]) (t':=mk n kvs) hf ?_ ?_ ?_ hq
  ·rw [List.length_append];exact key
  ·simp [hlen]
  ·rw [List.length_append];exact hlowR _ (Nat.le_refl _)
 ·have e:((M ++ R k) ++ [Blk.loop .ready none (mk n kvs) [p] A B]).length = M.length + (R 0).length + 1:=by simp [hlen k];omega
  refine ⟨by rw [e];simp;omega,?_⟩
  rw [e]
  refine (QI _ _).2 ⟨Q7 (by omega) (hlowR k hk),?_⟩
  refine (ZE _ _).2 ⟨?_,Z1⟩
  exact QK (by omega) _ (QA ht)
 ·have hkx:k < xs.length:=(List.getElem?_eq_some_iff.1 hx).1
  have hi:((M ++ R k) ++ [Blk.loop .ready none (mk n kvs) [p] A B] ++ E)[M.length + (R 0).length]? = some (.loop .ready none (mk n kvs) [p] A B):=by
   rw [List.append_assoc,List.getElem?_append_right (by simp [hlen k]),List.length_append,hlen k,Nat.sub_self];rfl
  refine QlP hi fun h1 h2 => ?_
  have e:((M ++ R k) ++ [Blk.loop .ready none (mk n kvs) [p] A B] ++ E).length = M.length + ((R k).length + (1 + E.length)):=by simp;omega
  rw [e] at h1 ⊢
  have hE:lowM (M.length + ((R k).length + (1 + E.length))) E:=((QI _ _).1 h1).2
  have:=hy k x E (.loop .ready none (mk n kvs) [p] A B) (.loop .busy none (mk n kvs) [p] A B) hx hE
  have e2:(M ++ R k) ++ [Blk.loop .ready none (mk n kvs) [p] A B] ++ E = M ++ (R k ++ Blk.loop .ready none (mk n kvs) [p] A B :: E):=by simp
  rw [e2,← hlen k]
  refine V5 (fun _ _ _ _ _ h => h) A (VO ?_ (fun _ _ _ h => h)) this
  rintro M1 t1 ⟨g1,g2⟩
  refine QiT g1 (V5 (fun _ _ _ _ _ h => h) B ?_ g2)
  rintro ex M' t ⟨rfl,T,rfl⟩
  have hN:(M ++ (R (k + 1) ++ Blk.loop .busy none (mk n kvs) [p] A B :: E)).length = M.length + ((R k).length + (1 + E.length)):=by simp [hlen (k + 1),hlen k];omega
  have hidx:∀ (b:Blk) (S:List Blk),(M ++ (R (k + 1) ++ b :: S))[M.length + (R k).length]? = some b:=by
   intro b S
   rw [getMj,List.getElem?_append_right (by simp [hlen (k + 1),hlen k]),hlen (k + 1),hlen k,Nat.sub_self];rfl
  refine ⟨⟨mk n kvs,[p],A,B,?_⟩,⟨M.length + ((R k).length + (1 + E.length)),Nat.le_refl _,by rw [List.length_append,hN];omega,?_,?_⟩,rfl⟩
  ·rw [show (M ++ (R (k + 1) ++ Blk.loop .busy none (mk n kvs) [p] A B :: E)) ++ T = M ++ (R (k + 1) ++ Blk.loop .busy none (mk n kvs) [p] A B :: (E ++ T)) from by simp]
   exact hidx _ _
  ·rw [List.take_left' hN]
   refine (QI _ _).2 ⟨Q7 (by omega) hM,(QI _ _).2 ⟨Q7 (by rw [hlen k];omega) (hlow (k + 1) hkx),(ZE _ _).2 ⟨?_,hE⟩⟩⟩
   exact QK (by rw [hlen k];omega) _ (QA ht)
  ·rw [List.take_left' hN,setMj,List.set_append_right _ _ (by simp [hlen (k + 1),hlen k]),hlen (k + 1),hlen k,Nat.sub_self]
   simp
end Go.Nac
namespace Go.Nac
section
variable {M:List Blk} {k:IntKind} {a:Int}
theorem Qe6 {i:Nat} {sk:SK} {z q:Value} {ok:Bool}:lookV M sk z ok (.om i) (.s q) = lookB z ok sk q M[i]?:=nrfl rfl
theorem Qfu {sk:SK} {z q:Value} {es:List (Value × Value)} (h1:keyOk sk q = true) (h2:Vz q es = true):lookB z false sk q (some (.map es)) = some (.s ((find q es).getD z)):=by
 simp only [lookB,h1,h2,and_self,if_true]
 cases find q es <;> rfl
theorem Qeb {i:Nat} {sk:SK} {q u:Value}:mupdO M sk (.om i) (.s q) (.s u) = mupdB M i sk q u M[i]?:=nrfl rfl
theorem QdE {i:Nat} {sk:SK} {q u:Value} {es:List (Value × Value)} (h1:keyOk sk q = true) (h2:Vz q es = true):mupdB M i sk q u (some (.map es)) = some (unit,M.set i (.map (upd q u es))):=by
 simp only [mupdB,h1,h2,and_self,if_true]
theorem Jb {s:ByteArray}:keyOk .str (.string s) = true:=nrfl rfl
section
variable {C:CallR} {K:(List Blk) → List PV → Prop} {t:List PV} {d:Option Nat} {os:List COper} {xs ys:List PV}
def capnV:PV → Option PV
 | .s (.slice none 0 0) => some (.I 0)
 | _ => none
theorem QbW {x:CX}:wpOps C (⟨d,.capn x,none⟩ :: os) K M t = b1 (capnV (ev t x)) (kont C os K M t d):=Qw rfl (by
 simp only [res,capnV]
 generalize ev t x = vx
 split
 ·rfl
 ·split
  ·rename_i h;exact absurd rfl h
  ·rfl)
theorem Y1:capnV (.s (.slice none 0 0)) = some (.I 0):=nrfl rfl
def appzO (M:List Blk) (k:Nat) (g:Option Nat) (z:List Value) (bytes:Nat):PV → PV → Option (PV × List Blk)
 | .s (.slice none 0 0),.s (.int .i64 l) =>
   if 0 < l ∧ l ≤ 2 ^ 20 ∧ bytes ≤ 2 ^ 20 ∧ z.length = k ∧ 0 < k then
    (mkPV g (z.map .s)).map fun e => (.os M.length 0 0 l.toNat,M ++ [.row true k 0 (List.replicate l.toNat e)])
   else none
 | _,_ => none
theorem Qb2 {k:Nat} {g:Option Nat} {z:List Value} {bytes:Nat} {x n:CX}:wpOps C (⟨d,.appz k g z bytes x n,none⟩ :: os) K M t = b2 (appzO M k g z bytes (ev t x) (ev t n)) (kont2 C os K t d):=by
 rw [Va rfl];rfl
theorem Yz {kk bytes:Nat} {g:Option Nat} {zv:List Value} (h0:0 < a) (h1:a ≤ 1048576) (hb:bytes ≤ 1048576) (hz:zv.length = kk) (hk:0 < kk) :
  appzO M kk g zv bytes (.s (.slice none 0 0)) (.s (.int .i64 a)) = (mkPV g (zv.map .s)).map fun e => (.os M.length 0 0 a.toNat,M ++ [.row true kk 0 (List.replicate a.toNat e)]):=by
 exact if_pos ⟨h0,by omega,by omega,hz,hk⟩
def copyR (M:List Blk) (k i ver off len:Nat) (ys:List PV):Option Blk → Option (PV × List Blk)
 | some (.row true k' v xs) => if v = ver ∧ k' = k ∧ off + len ≤ xs.length ∧ ys.all (QS k) ∧ k ≠ 0 then
     some (.I ((Nat.min ys.length len:Nat):Int),M.set i (.row true k ver (setRange xs off (ys.take len)))) else none
 | _ => none
def copyO (M:List Blk) (k:Nat):PV → Option (List PV) → Option (PV × List Blk)
 | .os i ver off len,some ys => copyR M k i ver off len ys M[i]?
 | _,_ => none
theorem Jz {k:Nat} {x y:CX}:wpOps C (⟨d,.copy k x y,none⟩ :: os) K M t = b2 (copyO M k (ev t x) (held M (ev t y))) (kont2 C os K t d):=by
 rw [Va rfl]
 simp only [res]
 generalize ev t x = vx;generalize held M (ev t y) = vy
 cases vx <;> cases vy <;> first|rfl|skip
theorem Z8 {kk i ver off len:Nat}:copyO M kk (.os i ver off len) (some ys) = copyR M kk i ver off len ys M[i]?:=nrfl rfl
theorem ZI {kk i ver len:Nat} (hl:len = xs.length) (hy:ys.length = len) (ho:ys.all (QS kk) = true) (hk:kk ≠ 0) :
  copyR M kk i ver 0 len ys (some (.row true kk ver xs)) = some (.I (len:Int),M.set i (.row true kk ver ys)):=by
 show (if _ then _ else _) = _
 rw [if_pos ⟨rfl,rfl,by omega,ho,hk⟩]
 have e1:ys.take len = ys:=List.take_of_length_le (by omega)
 have e2:setRange xs 0 ys = ys:=by simp [setRange];omega
 rw [e1,e2,hy];simp
end
end
end Go.Nac
namespace Go.Nac
section
variable {C:CallR} {K:(List Blk) → List PV → Prop} {M:List Blk} {t:List PV} {d:Option Nat} {os:List COper} {xs ys:List PV}
theorem ev_g {g:Nat} {cs:List Value}:ev t (.g g cs) = .fp (cs.map .s):=nrfl rfl
theorem QpP {ρ:CX → PV} {g:Nat} {cs:List Value}:argV M ρ (.g g cs) = view M (ρ (.g g cs)):=nrfl rfl
def Qcq (neg:Bool):PV → Option PV
 | .err => some (.B neg)
 | .s .nilIface => some (.B (!neg))
 | _ => none
theorem Qnc {neg:Bool} {x:CX}:wpOps C (⟨d,.isnil neg x,none⟩ :: os) K M t = b1 (Qcq neg (ev t x)) (kont C os K M t d):=Qw rfl (by
 simp only [res,Qcq];generalize ev t x = vx;split <;> split <;> simp_all)
theorem Qhi {neg:Bool}:Qcq neg .err = some (.B neg):=nrfl rfl
theorem QhA {neg:Bool}:Qcq neg (.s .nilIface) = some (.B (!neg)):=nrfl rfl
def b2sV:Option (List PV) → Option PV
 | some ys => (strOf ys).map fun s => .s (.string s)
 | none => none
def noStr:PV → Bool
 | .s (.string _) => false
 | _ => true
def b2sO (M:List Blk) (x:PV):Option PV:=if noStr x = true then b2sV (held M x) else none
theorem r_b2s {x:CX}:wpOps C (⟨d,.b2s x,none⟩ :: os) K M t = b1 (b2sO M (ev t x)) (kont C os K M t d):=Qw rfl (by
 simp only [res,b2sO]
 generalize ev t x = vx
 have key:((held M vx).bind strOf).map (fun s => (PV.s (.string s),M)) = (b2sV (held M vx)).map (·,M):=by
  cases held M vx with
  | none => rfl
  | some ys => simp only [b2sV,Option.bind_some,Option.map_map];rfl
 split
 ·rfl
 ·rename_i hno
  rw [if_pos (by cases vx <;> first|rfl|(rename_i v;cases v <;> first|rfl|exact absurd rfl (hno _)))]
  exact key)
theorem Qm2:b2sO M (.fs xs) = (strOf xs).map fun s => .s (.string s):=nrfl rfl
theorem QoP {i v o n:Nat}:b2sO M (.os i v o n) = b2sV (held M (.os i v o n)):=nrfl rfl
theorem QlJ:b2sO M (.s (.slice none 0 0)) = some (.s (.string ⟨#[]⟩)):=nrfl rfl
theorem Qjn:b2sV (some ys) = (strOf ys).map fun s => .s (.string s):=nrfl rfl
theorem Qbd (b:ByteArray):strOf (Qz b) = some b:=by
 have key:∀ l:List UInt8,strOf (l.map fun u => .s (.int .u8 u.toNat)) = some ⟨l.toArray⟩:=by
  intro l
  induction l with
  | nil => rfl
  | cons u l ih =>
   show (strOf (l.map _)).map _ = _
   rw [ih]
   simp
 unfold Qz
 rw [key]
theorem QeY {b:ByteArray}:held M (.s (.string b)) = some (Qz b):=nrfl rfl
theorem QhG (b:ByteArray):(Qz b).all (QS 1) = true:=by rw [List.all_eq_true];intro x hx;obtain ⟨y,_,rfl⟩:=List.mem_map.1 hx;rfl
theorem Qbq {n:Nat} (b:ByteArray):lowL n (Qz b) = True:=eq_true (VB _ _ fun r => by simp [PV.low])
theorem QfV (b:ByteArray):(Qz b).length = b.size:=by simp [Qz]
def s2bO (M:List Blk) (own:Bool):PV → Option (PV × List Blk)
 | .s (.string b) => if own = true then some (.os M.length 0 0 b.size,M ++ [.row true 1 0 (Qz b)]) else some (.fs (Qz b),M)
 | _ => none
theorem r_s2b {own:Bool} {x:CX}:wpOps C (⟨d,.s2b own x,none⟩ :: os) K M t = b2 (s2bO M own (ev t x)) (kont2 C os K t d):=by
 rw [Va rfl]
 simp only [res,s2bO]
 generalize ev t x = vx
 split <;> split <;> simp_all
theorem QmB {b:ByteArray}:s2bO M true (.s (.string b)) = some (.os M.length 0 0 b.size,M ++ [.row true 1 0 (Qz b)]):=nrfl rfl
theorem Qnx {b:ByteArray}:s2bO M false (.s (.string b)) = some (.fs (Qz b),M):=nrfl rfl
def ownB (ver:Nat):Option Blk → Bool
 | some (.row true _ v _) => v == ver
 | _ => false
theorem Qju {i ver:Nat}:QcA M i ver = ownB ver M[i]?:=by
 unfold QcA
 cases M[i]? with
 | none => rfl
 | some b => cases b with
  | row w => cases w <;> rfl
  | _ => rfl
theorem QlS {ver k:Nat}:ownB ver (some (.row true k ver xs)) = true:=by simp [ownB]
def markO (M:List Blk):PV → Option (PV × List Blk)
 | .os i ver off len => if ownB ver M[i]? = true ∧ 0 < len then some (.os i ver off len,M) else none
 | _ => none
theorem Qgt {x:CX}:res M (ev t) (.mark x) = markO M (ev t x):=by
 simp only [res,markO,Qju]
 generalize ev t x = vx
 cases vx <;> rfl
theorem Qqx {x:CX}:wpOps C (⟨d,.mark x,none⟩ :: os) K M t = b2 (markO M (ev t x)) (kont2 C os K t d):=by
 rw [Va rfl,Qgt]
theorem Qk1 {x:CX}:wpOps C (⟨d,.fz (.mark x),none⟩ :: os) K M t = b2 (V6 (markO M (ev t x))) (kont2 C os K t d):=r_fz Qgt
theorem Qlv {i ver off len:Nat}:markO M (.os i ver off len) = if ownB ver M[i]? = true ∧ 0 < len then some (.os i ver off len,M) else none:=nrfl rfl
theorem Qqq {f:FuncId} {ys:List CX}:wpOps C (⟨d,.mkbm f ys,none⟩ :: os) K M t = wpOps C os K M (put t d (.fn (.func f) (ys.map (ev t)) [])):=Qw (f:=some (.fn (.func f) (ys.map (ev t)) [])) rfl rfl
def QeL (C:CallR) (g:FuncId) (args:List PV) (M:List Blk) (k:PV → List Blk → Prop):Prop:=∃ v,lowL 0 args ∧ (∀ N,C (.fn g) args N v N) ∧ k v M
theorem QoK {g:FuncId} {args:List CX}:wpOps C (⟨d,.pcall (.inr g) args,none⟩ :: os) K M t = QeL C g (args.map (argV [] (ev t))) M (kont2 C os K t d):=by
 apply propext
 show (∃ v M',(M' = M ∧ lowL 0 (args.map (argV [] (ev t))) ∧ ∀ N,C (.fn g) (args.map (argV [] (ev t))) N v N) ∧ wpOps C os K M' (put t d v)) ↔ _
 exact ⟨fun ⟨v,M',⟨h1,h2,h3⟩,h4⟩ => ⟨v,h2,h3,h1 ▸ h4⟩,fun ⟨v,h1,h2,h3⟩ => ⟨v,M,⟨rfl,h1,h2⟩,h3⟩⟩
def Qfc (C:CallR) (f:PV) (args:List PV) (M:List Blk) (k:PV → List Blk → Prop):Prop :=
 match f with
 | .fn (.func g) first cap => lowL 0 first ∧ lowL 0 cap ∧ ∃ v,lowL 0 args ∧ (∀ N,C (.fn g) (first ++ args ++ cap) N v N) ∧ k v M
 | _ => False
theorem Qk3 {x:CX} {args:List CX}:wpOps C (⟨d,.pcall (.inl x) args,none⟩ :: os) K M t = Qfc C (ev t x) (args.map (argV [] (ev t))) M (kont2 C os K t d):=by
 apply propext
 show (∃ v M',(M' = M ∧ lowL 0 (args.map (argV [] (ev t))) ∧ ∀ N,(match ev t x with
   | .fn (.func g) first cap => lowL 0 first ∧ lowL 0 cap ∧ C (.fn g) (first ++ args.map (argV [] (ev t)) ++ cap) N v N
   | _ => False)) ∧ wpOps C os K M' (put t d v)) ↔ _
 unfold Qfc
 split
 ·exact ⟨fun ⟨v,M',⟨h1,h2,h3⟩,h4⟩ => ⟨(h3 M).1,(h3 M).2.1,v,h2,fun N => (h3 N).2.2,h1 ▸ h4⟩,fun ⟨g1,g2,v,h1,h2,h3⟩ => ⟨v,M,⟨rfl,h1,fun N => ⟨g1,g2,h2 N⟩⟩,h3⟩⟩
 ·constructor
  ·rintro ⟨v,M',⟨h1,h2,h3⟩,h4⟩;exact (h3 M).elim
  ·exact fun h => h.elim
theorem QiK {g:FuncId} {args:List PV} {k:PV → List Blk → Prop}:Qfc C (.fn (.func g) [] []) args M k = QeL C g args M k:=by
 apply propext
 show (lowL 0 [] ∧ lowL 0 [] ∧ ∃ v,lowL 0 args ∧ (∀ N,C (.fn g) ([] ++ args ++ []) N v N) ∧ k v M) ↔ _
 simp [QeL,lowL]
def Qj4 (C:CallR) (fv:PV) (args:List PV) (M:List Blk) (k:PV → List Blk → Prop):Prop :=
 ∃ v i b,Qaw fv = [i] ∧ lowL 0 args ∧ (∀ N:List Blk,N.length = M.length → N[i]? = M[i]? → Qcn C fv args N v (N.set i b)) ∧ k v (M.set i b)
theorem QoM {x:CX} {args:List CX}:wpOps C (⟨d,.fcall x args,none⟩ :: os) K M t = Qj4 C (ev t x) (args.map (argV [] (ev t))) M (kont2 C os K t d):=by
 apply propext
 constructor
 ·rintro ⟨v,M',⟨i,b,h1,rfl,h3,h4⟩,h5⟩;exact ⟨v,i,b,h1,h3,h4,h5⟩
 ·rintro ⟨v,i,b,h1,h3,h4,h5⟩;exact ⟨v,_,⟨i,b,h1,rfl,h3,h4⟩,h5⟩
theorem QkQ {g:FuncId} {first cap args:List PV} {i:Nat} {b:Blk} {v:PV} {k:PV → List Blk → Prop} (h:∀ N:List Blk,N.length = M.length → N[i]? = M[i]? → C (.fn g) (first ++ args ++ cap) N v (N.set i b))
  (hr:(first ++ cap).flatMap refs = [i]) (hl:lowL 0 args) (hk:k v (M.set i b)):Qj4 C (.fn (.func g) first cap) args M k:=⟨v,i,b,hr,hl,h,hk⟩
def Ju:Nat → List Blk
 | 0 => []
 | k + 1 => hole :: Ju k
theorem QiM (k:Nat):Ju k = List.replicate k hole:=by
 induction k with
 | zero => rfl
 | succ k ih => rw [List.replicate_succ,← ih];rfl
theorem Qin {n0 k:Nat} {Q:Post}:Wp C n0 (.holes k) Q M t = Q .normal (M ++ Ju k) t:=by rw [Qlu,QiM]
theorem Qgm:Ju 0 = []:=nrfl rfl
theorem Qgp {k:Nat}:Ju (k + 1) = .row false 0 0 [] :: Ju k:=nrfl rfl
theorem QfC {ks:List SK} {a b:ByteArray}:QC (.str :: ks) (.s (.string a) :: xs) (.s (.string b) :: ys) = (QC ks xs ys).map fun r => (a == b) && r:=by
 simp only [QC,eqSK,bind,Option.bind_some,pure]
 cases QC ks xs ys <;> rfl
theorem QiZ:PV.err.cells = [.err]:=nrfl rfl
theorem QlO:oneB .err = true:=nrfl rfl
theorem Qme:view M .err = .err:=nrfl rfl
theorem Qi6:view1 M .err = .err:=nrfl rfl
theorem Qi3:view M (.s .nilIface) = .s .nilIface:=nrfl rfl
theorem Qmg {n:Nat}:outV n M .err = .err:=nrfl rfl
theorem QnH {n:Nat}:PV.err.low n = True:=by simp [PV.low]
end
end Go.Nac
set_option linter.unusedSectionVars false
namespace Go.Nac
def Opens (P:Program) (t:TypeId) {α:Type} (f:α → List PV) (ok:α → Prop):Prop :=
 ∀ (H:Type) (enc:TypeId × Value → H) (W:World) (L:Loc) (n:Nat) (cs:List Value) (x:DataW H × List MemPlace),
  DataW.trod enc P W 0 (fun _ => true) true n t cs = some x → ∃ a,ok a ∧ LRel [] L W (f a) cs
theorem Qfi {z:Int} (h:(Lit.int .i64 z).wf = true):-9223372036854775808 ≤ z ∧ z ≤ 9223372036854775807:=bounds_i64 h
theorem Qip {P:Program} {t:TypeId} (ht:P.underlying t = some (.int .i64)):Opens P t (fun z:Int => [.I z]) (fun z => -9223372036854775808 ≤ z ∧ z ≤ 9223372036854775807):=by
 intro H enc W L n cs x h
 obtain ⟨z,rfl,_,hw⟩:=DataW.trod_int ht h
 exact ⟨z,Qfi hw,.cons _ _ _ _ (.s _ rfl) .nil⟩
theorem QgO {M:List Blk} {L:Loc} {w:World} {α:Type} (f:α → List PV) {k:Nat} (hf:∀ a,(f a).length = k) (g:Nat → List Value) :
  ∀ (l:List α) (o:Nat),(∀ i a,l[i]? = some a → LRel M L w (f a) (g (o + i))) → LRel M L w (l.flatMap f) ((List.range l.length).flatMap fun i => g (o + i))
 | [],_,_ => .nil
 | a :: l,o,h => by
  rw [List.flatMap_cons,List.length_cons,List.range_succ_eq_map,List.flatMap_cons,List.flatMap_map]
  refine LRel.append (by simpa using h 0 a rfl) ?_
  have:=QgO f hf g l (o + 1) fun i b hb => by
   have:=h (i + 1) b (by simpa using hb)
   rwa [show o + (i + 1) = o + 1 + i by omega] at this
  have e:(fun i => g (o + 1 + i)) = fun i => g (o + (i + 1)):=by funext i;congr 1;omega
  rw [e] at this
  exact this
theorem Qla {g:Nat → List Value} {k n:Nat} (hk:0 < k) (hg:∀ i,i < n → (g i).length = k) {m:Nat} {v:Value} (h:((List.range n).flatMap g)[m]? = some v) :
  ∃ i j,i < n ∧ j < k ∧ m = i * k + j ∧ (g i)[j]? = some v:=by
 induction n with
 | zero => simp at h
 | succ n ih =>
  have hl:((List.range n).flatMap g).length = n * k:=by
   clear ih h
   have hg':∀ i,i < n → (g i).length = k:=fun i hi => hg i (by omega)
   clear hg
   induction n with
   | zero => simp
   | succ n ih =>
    rw [List.range_succ,List.flatMap_append,List.length_append,ih fun i hi => hg' i (by omega)]
    simp [hg' n (by omega),Nat.succ_mul]
  rw [List.range_succ,List.flatMap_append] at h
  by_cases hm:m < n * k
  ·rw [List.getElem?_append_left (by omega)] at h
   obtain ⟨i,j,h1,h2,h3,h4⟩:=ih (fun i hi => hg i (by omega)) h
   exact ⟨i,j,by omega,h2,h3,h4⟩
  ·rw [List.getElem?_append_right (by omega),hl] at h
   simp only [List.flatMap_cons,List.flatMap_nil,List.append_nil] at h
   have:=(List.getElem?_eq_some_iff.1 h).1
   rw [hg n (by omega)] at this
   exact ⟨n,m - n * k,by omega,this,by omega,h⟩
theorem Qlc {α β:Type} {f:α → Option β}:∀ {l:List α} {r:List β},l.mapM f = some r → r.length = l.length ∧ ∀ (i:Nat) (a:α),l[i]? = some a → f a = r[i]?
 | l,r,h => ⟨by simpa using mapM_some_length h,fun i a hi => mapM_some_get h i a hi⟩
theorem Qbb {P:Program} {t e:TypeId} (ht:P.underlying t = some (.slice e)) {k:Nat} (he:P.cellsOf e = k) (hk:0 < k) {α:Type} {f:α → List PV} {ok:α → Prop}
  (g:α → PV) (hg:∀ a,(g a).cells = f a) (hf:∀ a,(f a).length = k) (h:Opens P e f ok):Opens P t (fun l:List α => [.fs (l.map g)]) (fun l => ∀ a ∈ l,ok a):=by
 intro H enc W L n cs x hx
 have hcells:∀ l:List α,∀ x ∈ l.map g,x.cells.length = k:=by
  intro l x hx
  obtain ⟨a,_,rfl⟩:=List.mem_map.1 hx
  rw [hg,hf]
 rcases DataW.trod_slice ht hx with ⟨rfl,_⟩|⟨a,len,cap,elems,rest,m,_,rfl,_,hb,hl,hm,hlen,hel,_,_⟩
 ·exact ⟨[],by simp,.cons _ _ _ _ (.fs _ _ _ _ k [] rfl (by simp) (by simp) .nil (by simp)) .nil⟩
 ·have each:∀ i,i < len → ∃ cs',W.cells? 0 (a.add (i * k)) k = some cs' ∧ ∃ b,ok b ∧ LRel [] L W (f b) cs':=by
   intro i hi
   have h1:=hel i hi
   rw [he,List.getElem?_eq_getElem (by omega),Option.bind_eq_some_iff] at h1
   obtain ⟨cs',h2,h3⟩:=h1
   exact ⟨cs',h2,h H enc W L _ _ _ h3⟩
  let G:Nat → List Value:=fun i => (W.cells? 0 (a.add (i * k)) k).getD []
  have pick:∀ i,i < len → ∃ b,ok b ∧ LRel [] L W (f b) (G i):=by
   intro i hi
   obtain ⟨cs',h1,h2⟩:=each i hi
   show ∃ b,ok b ∧ LRel [] L W (f b) ((W.cells? 0 (a.add (i * k)) k).getD [])
   rw [h1];exact h2
  have choose:∀ n,n ≤ len → ∃ l:List α,l.length = n ∧ (∀ b ∈ l,ok b) ∧ ∀ i b,l[i]? = some b → LRel [] L W (f b) (G i):=by
   intro n hn
   induction n with
   | zero => exact ⟨[],rfl,by simp,by simp⟩
   | succ n ih =>
    obtain ⟨l,h1,h2,h3⟩:=ih (by omega)
    obtain ⟨b,h4,h5⟩:=pick n (by omega)
    refine ⟨l ++ [b],by simp [h1],?_,?_⟩
    ·intro c hc
     rcases List.mem_append.1 hc with hc|hc
     ·exact h2 c hc
     ·rw [List.mem_singleton.1 hc];exact h4
    ·intro i c hc
     by_cases hi:i < l.length
     ·rw [List.getElem?_append_left hi] at hc;exact h3 i c hc
     ·have:i = n:=by have:=(List.getElem?_eq_some_iff.1 hc).1;simp at this;omega
      subst this
      rw [List.getElem?_append_right (by omega),h1,Nat.sub_self] at hc
      simp at hc;subst hc;exact h5
  obtain ⟨l,hl1,hl2,hl3⟩:=choose len (Nat.le_refl _)
  have hG:∀ i,i < len → (G i).length = k:=by
   intro i hi
   obtain ⟨b,_,hb⟩:=pick i hi
   rw [← hb.length,hf]
  refine ⟨l,hl2,.cons _ _ _ _ (.fs _ _ _ _ k ((List.range l.length).flatMap G) (by simp [hl1]) (by simp;omega) (hcells l) ?_ ?_) .nil⟩
  ·have e:(l.map g).flatMap PV.cells = l.flatMap f:=by
    rw [List.flatMap_map];simp only [hg]
   rw [e]
   have:=QgO (M:=[]) (L:=L) (w:=W) f hf G l 0 (fun i b hb => by simpa using hl3 i b hb)
   simpa using this
  ·intro hne
   have h0:0 < len:=by
    rw [← hl1]
    cases l with
    | nil => simp at hne
    | cons => simp
   have cell:∀ i j v,i < len → j < k → (G i)[j]? = some v → W.cell? ((a.add (i * k)).add j) = some v:=by
    intro i j v hi hj hv
    obtain ⟨cs',h1,_⟩:=each i hi
    have hGi:G i = cs':=by show (W.cells? 0 (a.add (i * k)) k).getD [] = cs';rw [h1];rfl
    rw [hGi] at hv
    unfold World.cells? at h1
    split at h1
    ·have:=(Qlc h1).2 j j (by simp [hj])
     rw [this,hv]
    ·cases h1
   obtain ⟨v0,hv0⟩:∃ v,(G 0)[0]? = some v:=⟨_,List.getElem?_eq_getElem (by rw [hG 0 h0];exact hk)⟩
   have hc0:=cell 0 0 v0 h0 hk hv0
   simp only [Nat.zero_mul,Addr.add,if_true] at hc0
   have hsp:a.spot = none:=by
    unfold World.cell? at hc0
    split at hc0
    ·split at hc0
     ·cases hc0
     ·rename_i hs;simpa using hs
    ·cases hc0
   have hblk:a.block < W.heap.size:=World.block_lt_of_cell? W a hc0
   obtain ⟨ab,ao,as⟩:=a
   simp only at hsp
   subst hsp
   refine ⟨ab,ao,rfl,hblk,fun ⟨i,b,p,hi,_⟩ => by simp at hi,fun m v hmv => ?_⟩
   rw [hl1] at hmv
   obtain ⟨i,j,h1,h2,rfl,h3⟩:=Qla hk hG hmv
   have:=cell i j v h1 h2 h3
   have e:(Addr.add (Addr.add ⟨ab,ao,none⟩ (i * k)) j) = ⟨ab,ao + (i * k + j),none⟩:=by
    unfold Addr.add
    split <;> split <;> simp_all <;> omega
   rw [← e];exact this
theorem Qev {P:Program} {t:TypeId} {fs:Array Field} (ht:P.underlying t = some (.struct fs)) {H:Type} {enc:TypeId × Value → H} {W:World} {n:Nat} {cs:List Value} {x:DataW H × List MemPlace}
  (h:DataW.trod enc P W 0 (fun _ => true) true n t cs = some x) (hc:P.cellsOf t = fs.size) (hf:∀ (i:Nat) (f:Field),fs[i]? = some f → f.offset = i ∧ P.cellsOf f.type = 1) :
  cs.length = fs.size ∧ ∀ (i:Nat) (f:Field),fs[i]? = some f → ∃ v m y,cs[i]? = some v ∧ DataW.trod enc P W 0 (fun _ => true) true m f.type [v] = some y:=by
 obtain ⟨xs,m,_,_,hl,hxl,hx⟩:=DataW.trod_struct ht h
 refine ⟨hl.trans hc,fun i f hi => ?_⟩
 have h1:=hx i f hi
 have hlt:=(Array.getElem?_eq_some_iff.1 hi).1
 rw [(hf i f hi).1,(hf i f hi).2,List.getElem?_eq_getElem (by omega)] at h1
 have hlt2:i < cs.length:=by omega
 rw [List.drop_eq_getElem_cons hlt2] at h1
 exact ⟨cs[i],m,_,List.getElem?_eq_getElem hlt2,h1⟩
theorem Qks {P:Program} {t:TypeId} {f0 f1:Field} (ht:P.underlying t = some (.struct #[f0,f1])) (hc:P.cellsOf t = 2) (h0:f0.offset = 0 ∧ P.cellsOf f0.type = 1 ∧ P.underlying f0.type = some (.int .i64))
  (h1:f1.offset = 1 ∧ P.cellsOf f1.type = 1 ∧ P.underlying f1.type = some (.int .i64)) :
  Opens P t (fun r:Rev => [.I r.at_,.I r.ld]) (fun r => (-9223372036854775808 ≤ r.at_ ∧ r.at_ ≤ 9223372036854775807) ∧ (-9223372036854775808 ≤ r.ld ∧ r.ld ≤ 9223372036854775807)):=by
 intro H enc W L n cs x h
 obtain ⟨hl,hf⟩:=Qev ht h hc (by
  intro i f hi
  match i,hi with
  | 0,hi => simp at hi;subst hi;exact ⟨h0.1,h0.2.1⟩
  | 1,hi => simp at hi;subst hi;exact ⟨h1.1,h1.2.1⟩
  | n + 2,hi => simp at hi)
 obtain ⟨v0,m0,y0,e0,g0⟩:=hf 0 f0 rfl
 obtain ⟨v1,m1,y1,e1,g1⟩:=hf 1 f1 rfl
 obtain ⟨z0,k0,_,w0⟩:=DataW.trod_int h0.2.2 g0
 obtain ⟨z1,k1,_,w1⟩:=DataW.trod_int h1.2.2 g1
 cases k0;cases k1
 obtain ⟨c0,c1,rfl⟩:∃ a b,cs = [a,b]:=by
  match cs,hl with
  | [a,b],_ => exact ⟨a,b,rfl⟩
 simp at e0 e1;subst e0;subst e1
 exact ⟨⟨z0,z1⟩,⟨Qfi w0,Qfi w1⟩,.cons _ _ _ _ (.s _ rfl) (.cons _ _ _ _ (.s _ rfl) .nil)⟩
open Go.RowKit in
theorem Qhx [Env] {P:Program} (hmix:P.follows .mixedOrders = true) {F:Prog} {X:XRel} (hF:∀ f cf,F f = some cf → okFn P f cf = true) (hX:∀ f args M r M',X f args M r M' → Conc P (.fn f) args M r M') {f:FuncId} (hroot:(F f).isSome = true) {args:List PV} (h:∀ M,ACall F X (.fn f) args M (.B true) M)
  {W:World} {cargs:Array Value} (hG:∀ g cs,Env.glb g = some cs → ∃ el,W.heap[g]? = some (.cells cs.toArray el (0,0))) (A:LRel [] (fun _ => none) W args cargs.toList):Calls P f cargs W fun e W' => e = .returned (.bool true) ∧ Below W.heap.size W W':=by
 refine (Qbj hmix hF hX hroot (h []) (L:=fun _ => none) ⟨fun i b hi => by simp at hi,fun i j bi bj p q hi => by simp at hi,fun g cs h => ⟨hG g cs h,fun ⟨i,b,p,hi,_⟩ => by simp at hi⟩⟩ A).mono fun e W' he => ?_
 cases e with
 | returned v =>
  obtain ⟨L',E,S,R⟩:=he
  refine ⟨?_,E.os,E.tape,E.output,E.size,fun k hk => (E.frame k hk fun ⟨i,b,p,hi,_⟩ => by simp at hi).1⟩
  cases R with
  | s _ _ => rfl
 | _ => exact he.elim
end Go.Nac
namespace Go.Nac
theorem Opens.one {P:Program} {t:TypeId} {α:Type} {f:α → List PV} {ok:α → Prop} (h:Opens P t f ok) (g:α → PV) (hg:∀ a,f a = [g a]) {H:Type} {enc:TypeId × Value → H} {W:World} {L:Loc} {n:Nat} {v:Value} {x:DataW H × List MemPlace}
  (ht:DataW.trod enc P W 0 (fun _ => true) true n t [v] = some x):∃ a,ok a ∧ VRel [] L W (g a) v:=by
 obtain ⟨a,h1,h2⟩:=h H enc W L n _ _ ht
 rw [hg] at h2
 cases h2 with|cons _ _ _ _ h3 _ => exact ⟨a,h1,h3⟩
end Go.Nac
namespace Go.Nac
end Go.Nac
namespace Go.Nac
def YN (P:Program) (fs:List Field):Nat:=(fs.map fun f => P.cellsOf f.type).sum
def VD (P:Program) (fs:List Field) (off:Nat) {α:Type} (f:α → List PV) (ok:α → Prop):Prop :=
 ∀ (H:Type) (enc:TypeId × Value → H) (W:World) (L:Loc) (cs:List Value),cs.length = YN P fs →
  (∀ (i:Nat) (fd:Field),fs[i]? = some fd → ∃ m y,DataW.trod enc P W 0 (fun _ => true) true m fd.type ((cs.drop (fd.offset - off)).take (P.cellsOf fd.type)) = some y) → ∃ a,ok a ∧ LRel [] L W (f a) cs
theorem VD.nil {P:Program} {off:Nat}:VD P [] off (fun _:Unit => []) (fun _ => True):=by
 intro H enc W L cs hl _
 have:cs = []:=List.eq_nil_of_length_eq_zero (by simpa [YN] using hl)
 subst this;exact ⟨(),trivial,.nil⟩
theorem VD.cons {P:Program} {fd:Field} {fs:List Field} {off k:Nat} {α β:Type} {f:α → List PV} {g:β → List PV} {ok:α → Prop} {ok':β → Prop}
  (h:Opens P fd.type f ok) (ho:fd.offset = off) (hk:P.cellsOf fd.type = k) (hge:∀ x ∈ fs,off + k ≤ x.offset) (hs:VD P fs (off + k) g ok') :
  VD P (fd :: fs) off (fun p:α × β => f p.1 ++ g p.2) (fun p => ok p.1 ∧ ok' p.2):=by
 intro H enc W L cs hl hf
 have hl':cs.length = k + YN P fs:=by rw [hl];simp [YN,hk]
 obtain ⟨m,y,h0⟩:=hf 0 fd rfl
 rw [ho,Nat.sub_self,List.drop_zero,hk] at h0
 obtain ⟨a,o1,r1⟩:=h H enc W L m _ _ h0
 obtain ⟨b,o2,r2⟩:=hs H enc W L (cs.drop k) (by simp;omega) (by
  intro i fd' hi
  obtain ⟨m,y,h1⟩:=hf (i + 1) fd' (by simpa using hi)
  have hg:=hge fd' (List.mem_of_getElem? hi)
  refine ⟨m,y,?_⟩
  rw [List.drop_drop,show k + (fd'.offset - (off + k)) = fd'.offset - off by omega];exact h1)
 refine ⟨(a,b),⟨o1,o2⟩,?_⟩
 have:=LRel.append r1 r2
 rwa [List.take_append_drop] at this
theorem Opens.struct {P:Program} {t:TypeId} {fs:Array Field} (ht:P.underlying t = some (.struct fs)) (hc:P.cellsOf t = YN P fs.toList) {α:Type} {f:α → List PV} {ok:α → Prop} (h:VD P fs.toList 0 f ok):Opens P t f ok:=by
 intro H enc W L n cs x hx
 obtain ⟨xs,m,_,_,hl,hxl,hf⟩:=DataW.trod_struct ht hx
 refine h H enc W L cs (hl.trans hc) fun i fd hi => ?_
 rw [Array.getElem?_toList] at hi
 have h1:=hf i fd hi
 have hlt:=(Array.getElem?_eq_some_iff.1 hi).1
 rw [List.getElem?_eq_getElem (by omega)] at h1
 exact ⟨m,_,h1⟩
theorem Opens.map {P:Program} {t:TypeId} {α β:Type} {f:α → List PV} {ok:α → Prop} (h:Opens P t f ok) (φ:α → β) {g:β → List PV} (hg:∀ a,f a = g (φ a)) {ok':β → Prop} (hok:∀ a,ok a → ok' (φ a)):Opens P t g ok':=by
 intro H enc W L n cs x hx
 obtain ⟨a,h1,h2⟩:=h H enc W L n cs x hx
 exact ⟨φ a,hok a h1,by rw [← hg];exact h2⟩
theorem Opens.argA {P:Program} {t:TypeId} {α:Type} {f:α → List PV} {ok:α → Prop} (h:Opens P t f ok) {H:Type} {enc:TypeId × Value → H} {W:World} {vs:Array Value} {d:DataW H} {ps:List MemPlace}
  (ht:DataW.Trod enc P W 0 (fun _ => true) true t (.agg vs) d ps) (L:Loc):∃ a,ok a ∧ VRel [] L W (.agg (f a)) (.agg vs):=by
 obtain ⟨n,hn⟩:=ht
 obtain ⟨a,h1,h2⟩:=h H enc W L n _ _ hn
 exact ⟨a,h1,.agg _ _ h2⟩
theorem Qgz {P:Program} {t:TypeId} {k:IntKind} (ht:P.underlying t = some (.int k)) {H:Type} {enc:TypeId × Value → H} {W:World} {z:Int} {d:DataW H} {ps:List MemPlace}
  (h:DataW.Trod enc P W 0 (fun _ => true) true t (.int k z) d ps) (L:Loc):(Lit.int k z).wf = true ∧ VRel [] L W (.s (.int k z)) (.int k z):=by
 obtain ⟨n,hn⟩:=h
 obtain ⟨z',hz,_,hw⟩:=DataW.trod_int ht hn
 cases hz
 exact ⟨hw,.s _ rfl⟩
theorem wf_u8 {z:Int} (h:(Lit.int .u8 z).wf = true):0 ≤ z ∧ z ≤ 255:=by
 simp only [Lit.wf,Bool.and_eq_true,decide_eq_true_eq] at h
 exact h
theorem Qpy {z:Int} (h:(Lit.int .u16 z).wf = true):0 ≤ z ∧ z ≤ 65535:=by
 simp only [Lit.wf,Bool.and_eq_true,decide_eq_true_eq] at h
 exact h
end Go.Nac
namespace Go.Nac
theorem QhJ {P:Program} {t:TypeId} {k:FloatKind} (ht:P.underlying t = some (.float k)) {H:Type} {enc:TypeId × Value → H} {W:World} {n:Nat} {cs:List Value} {x:DataW H × List MemPlace}
  (h:DataW.trod enc P W 0 (fun _ => true) true n t cs = some x):∃ b,cs = [.float k b]:=by
 cases n with
 | zero => simp [DataW.trod] at h
 | succ n =>
  unfold DataW.trod at h
  rw [ht] at h
  split at h <;> simp_all
theorem QjA {P:Program} {t:TypeId} (ht:P.underlying t = some (.float .f32)):Opens P t (fun b:Nat => [.s (.float .f32 b)]) (fun _ => True):=by
 intro H enc W L n cs x h
 obtain ⟨b,rfl⟩:=QhJ ht h
 exact ⟨b,trivial,.cons _ _ _ _ (.s _ rfl) .nil⟩
theorem QiD {P:Program} {t:TypeId} (ht:P.underlying t = some .string):Opens P t (fun s:ByteArray => [.s (.string s)]) (fun _ => True):=by
 intro H enc W L n cs x h
 obtain ⟨s,rfl,_⟩:=DataW.trod_string ht h
 exact ⟨s,trivial,.cons _ _ _ _ (.s _ rfl) .nil⟩
end Go.Nac
namespace Go.Nac
variable [Env]
open Ieee
theorem QhC {P : Program} {f : FuncId} {fn : Func} (hf : P.funcs[f]? = some fn) (hname : (fn.name == "runtime.NumGoroutine") = false) (hb : fn.body.isNone = true) (hn : Extern.findNext fn = none)
    (he : Extern.find fn = some (Extern.MathFloor.toIntegral "math.archFloor" .down)) {x : Nat} {s : Bool} {m : Nat} {l : Int} (hx : double.read x = .number s m l) (M : List Blk) :
    Conc P (.fn f) [.s (.float .f64 x)] M (.s (.float .f64 (double.write ((double.read x).integral .down)))) M:=by
  intro L w cargs S A
  obtain ⟨cargs⟩:=cargs
  cases A with
  | cons _ v _ vs h hs =>
    cases hs
    have hv:=h.s_inv
    subst hv
    refine .inr ⟨rfl,_,w,?_,L,Evo.refl _ _ _,S,.s _ rfl⟩
    rw [run_callFunc_extern hf hname hb hn he]
    have hd:FloatKind.f64.decode x = .number s m l:=hx
    have key : Extern.MathFloor.toIntegral "math.archFloor" .down #[.float .f64 x] = pure (.float .f64 (double.write ((double.read x).integral .down))) := by
      show Extern.MathFloor.toIntegral.match_1 _ (FloatKind.f64.decode x) _ _ = _
      rw [hd,hx];rfl
    rw [key];rfl
end Go.Nac
namespace Go.Nac
variable [Env]
section
variable {P:Program} {R:CCode → Code → Prop} {M:List Blk} {L:Loc} {w w':World}
theorem Qkr (S:Sim R M L w) (hb:RowKit.Below w.heap.size w w') (hd:Env.mono → w.drawn ≤ w'.drawn):Evo M L w M L w' ∧ Sim R M L w':=by
 have old:∀ b,b < w.heap.size → w'.heap[b]? = w.heap[b]?:=hb.block
 have E:Evo M L w M L w':=⟨hb.os,hb.tape,hb.output,hd,hb.size,fun b hlt hno => ⟨old b hlt,hno⟩,fun i b hi => ⟨b,hi,by
  cases b with
  | row => exact ⟨Nat.le_refl _,fun _ => ⟨rfl,rfl,rfl,fun bb oo c el g1 g2 => ⟨c,g2.congr (old bb g2.lt),rfl⟩⟩⟩
  | map => exact rfl
  | loop => exact ⟨rfl,rfl,rfl,rfl,rfl⟩
  | siter => exact rfl⟩⟩
 exact ⟨E,fun i b hi => (S.mem i b hi).evo E rfl fun p hp => old _ ((S.mem i b hi).lt hp),S.inj,S.envE E⟩
theorem Qdj {f:FuncId} {args:List PV} {r:PV}
  (h:∀ (L:Loc) (w:World) (cargs:Array Value),Sim (RO P) M L w → LRel M L w args cargs.toList →
   (callFunc f cargs).run P w = .ok (.enter f cargs) w ∧ Calls P f cargs w fun e w' => ∃ v,e = .returned v ∧ RowKit.Below w.heap.size w w' ∧ (Env.mono → w.drawn ≤ w'.drawn) ∧ VRel M L w' r v):Conc P (.fn f) args M r M:=by
 intro L w cargs S A
 obtain ⟨h1,h2⟩:=h L w cargs S A
 refine .inl ⟨h1,h2.mono ?_⟩
 rintro e w' ⟨v,rfl,hb,hd,hv⟩
 obtain ⟨E,S'⟩:=Qkr S hb hd
 exact ⟨L,E,S',hv⟩
theorem Qh9 (B:Nat) (w:World):RowKit.Below B w w:=RowKit.Below.refl B w
theorem Qhr (w:World) (n:Nat) (os:Array Obj):RowKit.Below w.heap.size w (Sort.grow (w.drewN n) os):=by
 refine ⟨rfl,rfl,rfl,by simp [Sort.grow,World.drewN],fun k hk => ?_⟩
 show (w.heap ++ os)[k]? = _
 rw [Array.getElem?_append_left hk]
theorem QoY {xs:List ByteArray} {v:Value} (h:VRel M L w (.fs (xs.map fun s => .s (.string s))) v) :
  ∃ a cap,v = .slice a xs.length cap ∧ xs.length ≤ cap ∧ (xs ≠ [] → ∃ b o,a = some ⟨b,o,none⟩ ∧ b < w.heap.size ∧ ∀ (j:Nat) x,xs[j]? = some x → w.cell? ⟨b,o + j,none⟩ = some (.string x)):=by
 cases h with
 | fs _ a n cap k vs hn hc hk h hm =>
  refine ⟨a,cap,by simp at hn;rw [hn],by simpa using hc,fun hne => ?_⟩
  obtain ⟨b,o,rfl,h1,_,h2⟩:=hm (by simpa using hne)
  refine ⟨b,o,rfl,h1,fun j x hj => h2 j _ ?_⟩
  have hx:((xs.map fun s => (PV.s (.string s))).flatMap PV.cells)[j]? = some (.s (.string x)):=by
   have e:(xs.map fun s => (PV.s (.string s))).flatMap PV.cells = xs.map fun s => .s (.string s):=by
    clear h hm hk hc hn hj hne
    induction xs with
    | nil => rfl
    | cons y ys ih => simp only [List.map_cons,List.flatMap_cons,ih];rfl
   rw [e];simp [hj]
  obtain ⟨u,h3,h4⟩:=h.get hx
  rw [h4.s_inv] at h3
  exact h3
end
end Go.Nac
namespace Go.Nac
def Qd9 (F:Prog) (X:XRel) (g:FuncId) (cap:List PV) (xs:List (PV × PV)):Prop :=
 ∀ (i:Nat) (N:Nat → List Blk) (m:Nat),m ≤ xs.length → (∀ k,k ≤ m → (N k).length = (N 0).length ∧ lowM (N k).length (N k)) →
  (∀ k x E,k < m → xs[k]? = some x → ACall F X (.yl i) [x.1,x.2] (N k ++ E) (.B true) (N (k + 1) ++ E)) →
  (m = xs.length → ACall F X (.fn g) (.yl i :: cap) (N 0) (.tup []) (N m)) ∧
  ∀ x N',xs[m]? = some x → (N'.length = (N 0).length ∧ lowM N'.length N') → (∀ E,ACall F X (.yl i) [x.1,x.2] (N m ++ E) (.B false) (N' ++ E)) → ACall F X (.fn g) (.yl i :: cap) (N 0) (.tup []) N'
theorem Qkp {F:Prog} {X:XRel} {i n p q:Nat} {kvs:List (Nat × PV)} {A B:CCode} {r x y:PV} {M M':List Blk} (hi:M[i]? = some (.loop .ready none (mk n kvs) [p,q] A B))
  (h:lowM M.length M → lowL M.length [x,y] → Wp (ACall F X) M.length A (thenK (Qez (ACall F X) M.length i n kvs [p,q] A B r M') (fun _ _ _ => False)) M (mk n ((q,y) :: (p,x) :: kvs))):ACall F X (.yl i) [x,y] M r M':=by
 refine Qeq hi rfl fun h1 h2 => ?_
 have:=h h1 h2
 simp only [List.zip_cons_cons,List.zip_nil_right,List.foldl_cons,List.foldl_nil,Qcw]
 exact this
def exGo:Ex → Bool|.normal => true|_ => false
def exSt:Ex → LoopState|.normal => .ready|_ => .done
def exPd:Ex → Option Ex|.normal => none|e => some e
theorem QqD {n i:Nat} {ps:List Nat} {a b:CCode} {ts:List PV} {M' M2:List Blk} {t:List PV} (e:Ex) (h1:∃ ts' ps' a' b',M'[i]? = some (.loop .busy none ts' ps' a' b'))
  (h2:∃ m,n ≤ m ∧ m ≤ M'.length ∧ lowM m (M'.take m) ∧ M2 = (M'.take m).set i (.loop (exSt e) (exPd e) ts ps a b)):ZL n i ps a b ts (.B (exGo e)) M2 e M' t:=by
 cases e <;> exact ⟨h1,h2,rfl⟩
theorem QgE {C:CallR} {n0:Nat} {Q:Post} {M:List Blk} {t:List PV} (hM:lowM M.length M) (hn:n0 = M.length) (ht:lowL M.length t) (hq:Q .normal M t):Wp C n0 .cut Q M t:=by
 have:=Qy (C:=C) (Q:=Q) (M:=M) (N:=[]) (t:=t) hM hn 0 (by simp) Z1 ht (by simpa using hq)
 simpa using this
def Qfg (ex:Ex) (N:List Blk):Post:=fun e M' _ => e = ex ∧ ∃ T,M' = N ++ T
theorem QcC {ex:Ex} {N M':List Blk} {t:List PV} (T:List Blk) (h:M' = N ++ T):Qfg ex N ex M' t:=⟨rfl,T,h⟩
def Qce (C:CallR) (m i:Nat) (ex:Ex) (L LB:Blk) (B:CCode) (N M1:List Blk) (t1:List PV):Prop:=M1[i]? = some L ∧ Wp C m B (Qfg ex N) (M1.set i LB) t1
theorem Qpw {C:CallR} {m i:Nat} {ex:Ex} {L LB:Blk} {B:CCode} {N M1:List Blk} {t1:List PV} (h:M1[i]? = some L) (hw:Wp C m B (Qfg ex N) (M1.set i LB) t1):Qce C m i ex L LB B N M1 t1:=⟨h,hw⟩
theorem Qbc {F:Prog} {X:XRel} {n p q:Nat} {kvs:List (Nat × PV)} {A B:CCode} {M:List Blk} {Rk Rn:List Blk} {x:PV × PV} (ex:Ex)
  (hM:lowM M.length M) (hl:Rn.length = Rk.length) (hlow:lowM (M.length + Rk.length) Rk) (hlow2:lowM (M.length + Rk.length) Rn) (ht:lowL (M.length + Rk.length) (kvs.map Prod.snd)) (E:List Blk)
  (hy:∀ L LB,lowM (M.length + (Rk.length + (1 + E.length))) E →
   Wp (ACall F X) (M.length + (Rk.length + (1 + E.length))) A (thenK (Qce (ACall F X) (M.length + (Rk.length + (1 + E.length))) (M.length + Rk.length) ex L LB B (M ++ (Rn ++ LB :: E))) (fun _ _ _ => False)) (M ++ (Rk ++ L :: E)) (mk n ((q,x.2) :: (p,x.1) :: kvs))) :
  ACall F X (.yl (M.length + Rk.length)) [x.1,x.2] ((M ++ Rk) ++ [.loop .ready none (mk n kvs) [p,q] A B] ++ E) (.B (exGo ex))
   ((M ++ Rn) ++ [.loop (exSt ex) (exPd ex) (mk n kvs) [p,q] A B] ++ E):=by
 have hi:((M ++ Rk) ++ [Blk.loop .ready none (mk n kvs) [p,q] A B] ++ E)[M.length + Rk.length]? = some (.loop .ready none (mk n kvs) [p,q] A B):=by
  rw [List.append_assoc,List.getElem?_append_right (by simp),List.length_append,Nat.sub_self];rfl
 refine Qkp hi fun h1 h2 => ?_
 have e:((M ++ Rk) ++ [Blk.loop .ready none (mk n kvs) [p,q] A B] ++ E).length = M.length + (Rk.length + (1 + E.length)):=by simp;omega
 rw [e] at h1 ⊢
 have hE:lowM (M.length + (Rk.length + (1 + E.length))) E:=((QI _ _).1 h1).2
 have:=hy (.loop .ready none (mk n kvs) [p,q] A B) (.loop .busy none (mk n kvs) [p,q] A B) hE
 have e2:(M ++ Rk) ++ [Blk.loop .ready none (mk n kvs) [p,q] A B] ++ E = M ++ (Rk ++ Blk.loop .ready none (mk n kvs) [p,q] A B :: E):=by simp
 rw [e2]
 refine V5 (fun _ _ _ _ _ h => h) A (VO ?_ (fun _ _ _ h => h)) this
 rintro M1 t1 ⟨g1,g2⟩
 refine QiT g1 (V5 (fun _ _ _ _ _ h => h) B ?_ g2)
 rintro ex' M' t ⟨rfl,T,rfl⟩
 have hN:(M ++ (Rn ++ Blk.loop .busy none (mk n kvs) [p,q] A B :: E)).length = M.length + (Rk.length + (1 + E.length)):=by simp [hl];omega
 have hidx:∀ (b:Blk) (S:List Blk),(M ++ (Rn ++ b :: S))[M.length + Rk.length]? = some b:=by
  intro b S
  rw [getMj,List.getElem?_append_right (by simp [hl]),hl,Nat.sub_self];rfl
 refine QqD ex' ⟨mk n kvs,[p,q],A,B,?_⟩ ⟨M.length + (Rk.length + (1 + E.length)),Nat.le_refl _,by rw [List.length_append,hN];omega,?_,?_⟩
 ·rw [show (M ++ (Rn ++ Blk.loop .busy none (mk n kvs) [p,q] A B :: E)) ++ T = M ++ (Rn ++ Blk.loop .busy none (mk n kvs) [p,q] A B :: (E ++ T)) from by simp]
  exact hidx _ _
 ·rw [List.take_left' hN]
  refine (QI _ _).2 ⟨Q7 (by omega) hM,(QI _ _).2 ⟨Q7 (by omega) hlow2,(ZE _ _).2 ⟨?_,hE⟩⟩⟩
  exact QK (by omega) _ (QA ht)
 ·rw [List.take_left' hN,setMj,List.set_append_right _ _ (by simp [hl]),hl,Nat.sub_self]
  simp
theorem QfO {F:Prog} {X:XRel} {g:FuncId} {cap:List PV} {xs:List (PV × PV)} (hg:Qd9 F X g cap xs) {n0 n p q:Nat} {Q:Post} {kvs:List (Nat × PV)} {f:CX} {A B:CCode} {M:List Blk} (R:Nat → List Blk) (m:Nat) (hm:m ≤ xs.length)
  (hM:lowM M.length M) (hf:ev (mk n kvs) f = .fn (.func g) [] cap) (hlen:∀ k,(R k).length = (R 0).length) (hlow:∀ k,k ≤ m → lowM (M.length + (R 0).length) (R k)) (ht:lowL (M.length + (R 0).length) (kvs.map Prod.snd))
  (hy:∀ k x E L LB,k < m → xs[k]? = some x → lowM (M.length + ((R k).length + (1 + E.length))) E →
   Wp (ACall F X) (M.length + ((R k).length + (1 + E.length))) A (thenK (Qce (ACall F X) (M.length + ((R k).length + (1 + E.length))) (M.length + (R k).length) .normal L LB B (M ++ (R (k + 1) ++ LB :: E))) (fun _ _ _ => False)) (M ++ (R k ++ L :: E)) (mk n ((q,x.2) :: (p,x.1) :: kvs)))
  (hq:(m = xs.length ∧ Q .normal (M ++ R m) (mk n kvs)) ∨ ∃ x ex R',xs[m]? = some x ∧ ex ≠ .normal ∧ R'.length = (R 0).length ∧ lowM (M.length + (R 0).length) R' ∧
   (∀ E L LB,lowM (M.length + ((R m).length + (1 + E.length))) E →
    Wp (ACall F X) (M.length + ((R m).length + (1 + E.length))) A (thenK (Qce (ACall F X) (M.length + ((R m).length + (1 + E.length))) (M.length + (R m).length) ex L LB B (M ++ (R' ++ LB :: E))) (fun _ _ _ => False)) (M ++ (R m ++ L :: E)) (mk n ((q,x.2) :: (p,x.1) :: kvs))) ∧
   Q ex (M ++ R') (mk n kvs)):Wp (ACall F X) n0 (.rangeFunc f [p,q] A B) Q (M ++ R 0) (mk n kvs):=by
 have hlowR:∀ k,k ≤ m → lowM (M.length + (R 0).length) (M ++ R k):=fun k hk => (QI _ _).2 ⟨Q7 (by omega) hM,hlow k hk⟩
 obtain ⟨k1,k2⟩:=hg (M.length + (R 0).length) (fun k => (M ++ R k) ++ [.loop .ready none (mk n kvs) [p,q] A B]) m hm (fun k hk => by
   have e:((M ++ R k) ++ [Blk.loop .ready none (mk n kvs) [p,q] A B]).length = M.length + (R 0).length + 1:=by simp [hlen k];omega
   refine ⟨by rw [e];simp;omega,?_⟩
   rw [e]
   refine (QI _ _).2 ⟨Q7 (by omega) (hlowR k hk),?_⟩
   refine (ZE _ _).2 ⟨?_,Z1⟩
   exact QK (by omega) _ (QA ht)) (fun k x E hk hx => by
   have:=Qbc (F:=F) (X:=X) (n:=n) (p:=p) (q:=q) (kvs:=kvs) (A:=A) (B:=B) (M:=M) (Rk:=R k) (Rn:=R (k + 1)) (x:=x) .normal hM (by rw [hlen,hlen k]) (by rw [hlen k];exact hlow k (by omega)) (by rw [hlen k];exact hlow (k + 1) (by omega)) (by rw [hlen k];exact ht) E (fun L LB hE => hy k x E L LB hk hx hE)
   rw [hlen k] at this
   exact this)
 rcases hq with ⟨rfl,hq⟩|⟨x,ex,R',hx,hex,hl',hlow',hr,hq⟩
 ·refine Qef (M':=M ++ R xs.length) (A':=A) (B':=B) (ps':=[p,q]) (t':=mk n kvs) hf ?_ ?_ ?_ hq
  ·rw [List.length_append];exact k1 rfl
  ·simp [hlen]
  ·rw [List.length_append];exact hlowR _ (Nat.le_refl _)
 ·have key:=k2 x ((M ++ R') ++ [.loop .done (some ex) (mk n kvs) [p,q] A B]) hx (by
   have e:((M ++ R') ++ [Blk.loop .done (some ex) (mk n kvs) [p,q] A B]).length = M.length + (R 0).length + 1:=by simp [hl'];omega
   refine ⟨by rw [e];simp;omega,?_⟩
   rw [e]
   refine (QI _ _).2 ⟨Q7 (by omega) ((QI _ _).2 ⟨Q7 (by omega) hM,hlow'⟩),?_⟩
   refine (ZE _ _).2 ⟨?_,Z1⟩
   exact QK (by omega) _ (QA ht)) (fun E => by
   have:=Qbc (F:=F) (X:=X) (n:=n) (p:=p) (q:=q) (kvs:=kvs) (A:=A) (B:=B) (M:=M) (Rk:=R m) (Rn:=R') (x:=x) ex hM (by rw [hl',hlen m]) (by rw [hlen m];exact hlow m (Nat.le_refl _)) (by rw [hlen m];exact hlow') (by rw [hlen m];exact ht) E (fun L LB hE => hr E L LB hE)
   rw [hlen m] at this
   cases ex <;> first|exact this|exact absurd rfl hex)
  refine ⟨g,[],cap,M ++ R',.done,some ex,mk n kvs,[p,q],A,B,hf,?_,?_,?_,(by decide),hq⟩
  ·rw [List.length_append];exact key
  ·simp [hl']
  ·rw [List.length_append];exact (QI _ _).2 ⟨Q7 (by omega) hM,hlow'⟩
end Go.Nac
namespace Go.Nac
theorem Z2 {M:List Blk} {a ver k kk j:Nat} {cs:List PV} (h:cs[j]? = some (.s (.slice none 0 0))) :
  ownR M a ver 0 j k (some (.row true kk ver [.agg cs])) = some (M.set a (.row true kk ver [.agg (setRange cs j [.os M.length 0 0 0])]) ++ [.row true k 0 []]):=by
 have hn:nilAt j ([PV.agg cs])[0]? = true:=by
  show nilAt j (some (PV.agg cs)) = true
  simp only [nilAt,PV.cells,h]
 have hj:j < cs.length:=(List.getElem?_eq_some_iff.1 h).1
 simp only [ownR,hn,if_true]
 have e:putR M a ver 0 j [.os M.length 0 0 0] (some (.row true kk ver [.agg cs])) = some (M.set a (.row true kk ver [.agg (setRange cs j [.os M.length 0 0 0])])):=by
  simp [putR,oneB,PV.cells]
  omega
 rw [e];rfl
end Go.Nac
namespace Go.Nac
section
variable {C:CallR} {d:Option Nat} {os:List COper} {K:List Blk → List PV → Prop} {M:List Blk} {t:List PV}
theorem JU {g:Option Nat} {x:CX}:wpOps C (⟨d,.fz (.load g x),none⟩ :: os) K M t = b2 (V6 ((Q8 M g (ev t x)).map (·,M))) (kont2 C os K t d):=r_fz rfl
end
theorem Qca {M:List Blk} {v:Value} {r:List PV}:Ql M (.s v :: r) = Ql M r:=rfl
theorem Qa2 {M:List Blk} {i ver off len:Nat} {r:List PV}:Ql M (.os i ver off len :: r) = (frzR M i M[i]?).bind fun M => Ql M r:=by
 simp only [Ql,freeze]
 cases M[i]? with
 | none => rfl
 | some b => cases b <;> rfl
theorem JZ {M:List Blk}:Ql M [] = some M:=rfl
end Go.Nac
namespace Go.Nac
def rng (n least most:Int):Int:=if n < least ∨ most < n then 3 else 0
def trn (a b c:Int):Bool:=decide ((a < b ∧ c < b) ∨ (b < a ∧ b < c))
def fst0:List Int → Int
 | [] => 0
 | x :: r => if x = 0 then fst0 r else x
theorem ZC (l:List Int) (k:Nat) (x:Int) (h:l[k]? = some x):fst0 (l.drop k) = if x = 0 then fst0 (l.drop (k + 1)) else x:=by
 obtain ⟨h1,h2⟩:=List.getElem?_eq_some_iff.1 h
 rw [List.drop_eq_getElem_cons h1,h2];rfl
def Qm9 (n:Int):Bool:=decide (¬ rng n (-32768) 32768 = 0)
def JX (l:List Int):Int:=if 40000 < l.length then 5 else if (l.filter Qm9).length = 0 then 0 else 3
def prev (l:List Rev) (j k:Nat):Option Rev:=if k < j then none else l[k - j]?
def ordB (p:Option Rev) (r:Rev):Bool:=match p with|some q => decide (r.at_ ≤ q.at_)|none => false
def shpB (pp p:Option Rev) (r:Rev):Bool :=
 match p with
 | none => false
 | some q => decide (r.ld = q.ld) || (match pp with | some z => !trn z.ld q.ld r.ld | none => false)
def errAt (pp p:Option Rev) (r:Rev):Int :=
 fst0 [rng r.at_ 0 39999,rng r.ld (-32768) 32768,if ordB p r = true then 11 else 0,if shpB pp p r = true then 2 else 0]
def Qjl (pp p:Option Rev):List Rev → Int
 | [] => 0
 | r :: rs => if errAt pp p r = 0 then Qjl p (some r) rs else errAt pp p r
def Q3 (l:List Rev):Int:=if 40000 < l.length then 5 else Qjl none none l
def QoA (out:List Rev) (p:Rev):List Rev :=
 match out.reverse with
 | [] => [p]
 | a :: r => if a.ld = p.ld then out else
  match r with
  | [] => out ++ [p]
  | b :: _ => if trn b.ld a.ld p.ld = true then out ++ [p] else out.dropLast ++ [p]
def Qfa (l:List Rev):List Rev:=l.foldl QoA []
def points (l:List Int):List Rev:=l.zipIdx.map fun p => ⟨p.2,p.1⟩
end Go.Nac
namespace Go.Nac
end Go.Nac
namespace Go.Nac
def QnV (out:List Rev) (p:Rev):List Rev :=
 match out.reverse with
 | [] => out ++ [p]
 | a :: _ => if p.ld = a.ld then out else out ++ [p]
def dedup (l:List Rev):List Rev:=l.foldl QnV []
def keepT (p:List Rev) (k:Nat):Bool :=
 decide (k = 0) || decide (k + 1 = p.length) || (match p[k - 1]?,p[k]?,p[k + 1]? with|some a,some b,some c => trn a.ld b.ld c.ld|_,_,_ => false)
def outT (p:List Rev):Nat → List Rev
 | 0 => []
 | k + 1 => outT p k ++ if keepT p k = true then (p[k]?).toList else []
def turning (l:List Rev):List Rev:=outT (dedup l) (dedup l).length
end Go.Nac
namespace Go.Nac
def ordC (c:Cyc):Bool:=decide (c.to_ ≤ c.from_) || decide (c.hi ≤ c.lo)
def errC (c:Cyc):Int:=fst0 [rng c.from_ 0 39999,rng c.to_ 0 39999,rng c.lo (-32768) 32768,rng c.hi (-32768) 32768,if ordC c = true then 11 else 0]
def QgU (l:List Cyc):Int:=if 40000 < l.length then 5 else fst0 (l.map errC)
def powW (x:Int):Nat → Int
 | 0 => 1
 | k + 1 => IntKind.i64.wrap (powW x k * x)
end Go.Nac
namespace Go.Nac
def madd (m:Int × Bool) (n:Int):Int × Bool:=if m.2 = true ∨ 1152921504606846976 - m.1 < n then (m.1,true) else (m.1 + n,false)
def mres (m:Int × Bool):Int × Int:=if m.2 = true then (0,4) else (m.1,0)
def mOk (m:Int × Bool):Prop:=0 ≤ m.1 ∧ m.1 ≤ 1152921504606846976
def mRow (v:Nat) (m:Int × Bool):Blk:=.row true 2 v [.agg [.I m.1,.B m.2]]
def Qq1 (c:Cyc):Int:=IntKind.i64.wrap (c.hi - c.lo)
def Qkh (e times:Int) (m:Int × Bool) (l:List Cyc):Int × Bool:=l.foldl (fun m c => madd m (times * powW (c.hi - c.lo) e.toNat)) m
def Qak (a b:Rev):Int:=max (a.ld - b.ld) (b.ld - a.ld)
def halfs:List Rev → List Int
 | a :: b :: r => Qak a b :: halfs (b :: r)
 | _ => []
def QgZ (e:Int) (m:Int × Bool) (l:List Rev):Int × Bool:=(halfs l).foldl (fun m x => madd m (powW x e.toNat)) m
end Go.Nac
namespace Go.Nac
theorem Qix (l:List Int):fst0 l = 0 ↔ ∀ x ∈ l,x = 0:=by
 induction l with
 | nil => simp [fst0]
 | cons x l ih =>
  simp only [fst0,List.mem_cons,forall_eq_or_imp]
  split
  ·rename_i h;simp [h,ih]
  ·rename_i h;simp [h]
def goodC (c:Cyc):Prop:=(0 ≤ c.from_ ∧ c.from_ ≤ 39999) ∧ (0 ≤ c.to_ ∧ c.to_ ≤ 39999) ∧ (-32768 ≤ c.lo ∧ c.lo ≤ 32768) ∧ (-32768 ≤ c.hi ∧ c.hi ≤ 32768) ∧ c.from_ < c.to_ ∧ c.lo < c.hi
def goodR (r:Rev):Prop:=(0 ≤ r.at_ ∧ r.at_ ≤ 39999) ∧ (-32768 ≤ r.ld ∧ r.ld ≤ 32768)
def nextR (pp p:Option Rev) (r:Rev):Prop:=(∀ q,p = some q → q.at_ < r.at_ ∧ r.ld ≠ q.ld ∧ ∀ z,pp = some z → trn z.ld q.ld r.ld = true)
def QjS (pp p:Option Rev):List Rev → Prop
 | [] => True
 | r :: rs => goodR r ∧ nextR pp p r ∧ QjS p (some r) rs
end Go.Nac
namespace Go.Nac
def Jr (l:List Cyc) (e:Int):Int × Int:=if fst0 [QgU l,rng e 1 3] = 0 then mres (Qkh e 1 (0,false) l) else (0,fst0 [QgU l,rng e 1 3])
def QqT (l:List Rev) (e:Int):Int × Int:=if fst0 [Q3 l,rng e 1 3] = 0 then mres (QgZ e (0,false) l) else (0,fst0 [Q3 l,rng e 1 3])
theorem QbQ {a b:Int} (h:fst0 [a,b] = 0):a = 0 ∧ b = 0:=by
 have:=(Qix _).1 h
 exact ⟨this a (by simp),this b (by simp)⟩
end Go.Nac
namespace Go.Nac
def Qgs (a b c d:Rev):Bool:=decide (Qak b c ≤ Qak a b) && decide (Qak b c ≤ Qak c d)
def mkCyc (b c:Rev):Cyc:=⟨b.at_,c.at_,min b.ld c.ld,max b.ld c.ld⟩
def drain:List Rev → List Cyc × List Rev
 | d :: c :: b :: a :: r => if Qgs a b c d = true then (mkCyc b c :: (drain (d :: a :: r)).1,(drain (d :: a :: r)).2) else ([],d :: c :: b :: a :: r)
 | st => ([],st)
termination_by st => st.length
def Qj1 (s:List Cyc × List Rev) (r:Rev):List Cyc × List Rev:=(s.1 ++ (drain (r :: s.2)).1,(drain (r :: s.2)).2)
def JE (l:List Rev):List Cyc × List Rev:=l.foldl Qj1 ([],[])
def QqU (l:List Rev):Bool :=
 match l.reverse with
 | d :: c :: b :: a :: _ => Qgs a b c d
 | _ => false
end Go.Nac
namespace Go.Nac
def Qq5 (a:Rev):Prop:=-32768 ≤ a.ld ∧ a.ld ≤ 32768
def Qq4 (c:Cyc):Prop:=0 ≤ c.hi - c.lo ∧ c.hi - c.lo ≤ 65536 ∧ -1048576 ≤ c.hi ∧ c.hi ≤ 1048576
def Qq2 (l:List Rev):List Cyc × List Rev:=if Q3 l = 0 then JE l else ([],[])
def twRes (l:List Int) (e:Int):Int × Int:=mres (QgZ e (Qkh e 2 (0,false) (JE (Qfa (points l))).1) (JE (Qfa (points l))).2.reverse)
def QqR (l:List Int) (e:Int):Int × Int:=if fst0 [JX l,rng e 1 3] = 0 then twRes l e else (0,fst0 [JX l,rng e 1 3])
def crosses (lv:Int) (p:Rev × Rev):Bool:=decide (p.1.ld ≤ lv) && decide (lv < p.2.ld)
def Qqk (lv:Int) (l:List Rev):Nat:=((l.zip l.tail).filter (crosses lv)).length
def QqO (l:List Rev) (lv:Int):Int × Int:=if fst0 [Q3 l,rng lv (-999999999) 999999999] = 0 then (Qqk lv l,0) else (0,fst0 [Q3 l,rng lv (-999999999) 999999999])
def spread (l:List Rev):Int :=
 match l with
 | [] => 0
 | a :: _ => l.foldl (fun m r => max m r.ld) a.ld - l.foldl (fun m r => min m r.ld) a.ld
def grRes (l:List Rev):Int × Int:=if fst0 [Q3 l,if l.length < 2 then 7 else 0] = 0 then (spread l,0) else (0,fst0 [Q3 l,if l.length < 2 then 7 else 0])
end Go.Nac
namespace Go.Nac
def Qee (es:List (Value × Value)):Prop:=∀ e ∈ es,∃ y:Int,e.1 = .int .i64 y
theorem Qee.upd {es:List (Value × Value)} (h:Qee es) (x:Int) (v:Value):Qee (upd (.int .i64 x) v es):=by
 induction es with
 | nil => intro e he;simp [Nac.upd] at he;exact ⟨x,by rw [he]⟩
 | cons a es ih =>
  obtain ⟨k,u⟩:=a
  intro e he
  simp only [Nac.upd] at he
  split at he
  ·rcases List.mem_cons.1 he with rfl|he
   ·exact ⟨x,rfl⟩
   ·exact h e (by simp [he])
  ·rcases List.mem_cons.1 he with rfl|he
   ·exact h _ (by simp)
   ·exact ih (fun e he => h e (by simp [he])) e he
def QqC (least:Int) (es:List (Value × Value)) (c:Cyc):List (Value × Value):=if c.hi - c.lo < least then upd (.int .i64 c.to_) (.bool true) (upd (.int .i64 c.from_) (.bool true) es) else es
def QqZ (least:Int) (cs:List Cyc):List (Value × Value):=cs.foldl (QqC least) []
def Qoy (least:Int) (cs:List Cyc) (x:Int):Bool:=cs.any fun c => decide (c.hi - c.lo < least) && (decide (c.from_ = x) || decide (c.to_ = x))
def filt (l:List Rev) (least:Int):List Rev:=l.filter fun r => !Qoy least (JE l).1 r.at_
def QqS (l:List Rev) (least:Int):Int:=fst0 [Q3 l,rng least (-999999999) 999999999]
def shR (s:Int) (r:Rev):Rev:=⟨r.at_ + s,r.ld⟩
def farB (b:List Rev) (s:Int):Bool:=b.any fun r => decide (¬ rng (r.at_ + s) 0 39999 = 0)
def nearB (a b:List Rev) (s:Int):Bool :=
 match a.getLast?,b.head? with
 | some p,some q => decide (q.at_ + s ≤ p.at_)
 | _,_ => false
def Qc1 (a b:List Rev) (s:Int):Int:=if farB b s = true then 3 else if nearB a b s = true then 11 else 0
def Qgr (a b:List Rev) (s:Int):List Rev:=if Qc1 a b s = 0 then Qfa (a ++ b.map (shR s)) else []
def shK (b:List Rev) (s:Int) (k:Nat):List Rev:=(b.take k).map (shR s) ++ b.drop k
def jErr (a b:List Rev) (s:Int):Int:=if fst0 [Q3 a,Q3 b,rng s 0 40000] = 0 then Qc1 a b s else fst0 [Q3 a,Q3 b,rng s 0 40000]
def jRes (a b:List Rev) (s:Int):List Rev:=if fst0 [Q3 a,Q3 b,rng s 0 40000] = 0 then Qgr a b s else []
def Qcg (l:List Rev):Int :=
 match l.head?,l.getLast? with
 | some a,some z => z.at_ - a.at_ + 1
 | _,_ => 0
def Qk8 (l:List Rev):Int:=if Q3 l = 0 then (if l = [] then 0 else Qc1 l l (Qcg l)) else Q3 l
def QqQ (l:List Rev):List Cyc:=if Qk8 l = 0 then (if l = [] then [] else (JE (Qgr l l (Qcg l))).1) else []
end Go.Nac
namespace Go.Nac
def pwI (x e:Int):Int:=if e = 1 then x else if e = 2 then x * x else x * x * x
def Qp6 (n e r:Int):Prop:=0 ≤ r ∧ pwI r e ≤ n ∧ n < pwI (r + 1) e
open Classical in
noncomputable def rootOf (n e:Int):Int:=if h:∃ r,Qp6 n e r then Classical.choose h else 0
def QgF (x:Life):Int:=fst0 [rng x.cap 1 1152921504606846976,rng x.exp 1 3]
noncomputable def eqvRes (l:List Cyc) (e number:Int):Int × Int :=
 if ¬ (Jr l e).2 = 0 ∧ ¬ (Jr l e).2 = 4 then (0,(Jr l e).2)
 else if fst0 [rng number 1 999999999,(Jr l e).2] = 0 then (rootOf ((Jr l e).1 / number) e,0) else (0,fst0 [rng number 1 999999999,(Jr l e).2])
def QqW (x:Life) (l:List Int):Int × Int :=
 if fst0 [QgF x,JX l] = 0 then
  (if fst0 [(twRes l x.exp).2,if (twRes l x.exp).1 = 0 then 7 else 0] = 0 then (2 * x.cap / (twRes l x.exp).1,0) else (0,fst0 [(twRes l x.exp).2,if (twRes l x.exp).1 = 0 then 7 else 0]))
 else (0,fst0 [QgF x,JX l])
end Go.Nac
namespace Go.Nac
def awL:List Int:=[0,5,5,2,4,-1,3,6]
def awR:List Rev:=[⟨0,0⟩,⟨1,5⟩,⟨3,2⟩,⟨4,4⟩,⟨5,-1⟩,⟨7,6⟩]
def awC:List Cyc:=[⟨3,4,2,4⟩]
def awD:List Rev:=[⟨0,0⟩,⟨1,5⟩,⟨5,-1⟩,⟨7,6⟩]
def awO:List Cyc:=[⟨8,9,0,5⟩,⟨7,13,-1,6⟩]
end Go.Nac
namespace Go.Nac
open Ieee
theorem QaI:double.leastPlace = -1074:=by decide
theorem QbY:double.binade = 4503599627370496:=by decide
theorem QgM:double.infRung = 9218868437227405312:=by decide
theorem Qk0:double.signWeight = 9223372036854775808:=by decide
theorem Qfn:double.fractionBits = 52:=rfl
theorem Zi (way:Toward) (neg:Bool) (n:Nat):way.cut neg n 0 = n:=by cases way <;> simp [Toward.cut,Nat.mod_one]
theorem QgX (neg:Bool) (a d:Nat) (ha:a ≠ 0):Toward.even.cut neg (2 * a) (d + 1) = Toward.even.cut neg a d:=by
 unfold Toward.cut
 have h1:(2 * a).log2 = a.log2 + 1:=Nat.log2_two_mul ha
 have h2:(1 <<< min (d + 1) ((2 * a).log2 + 2):Nat) = 2 * (1 <<< min d (a.log2 + 2)):=by
  rw [h1,show min (d + 1) (a.log2 + 1 + 2) = min d (a.log2 + 2) + 1 from by omega,Nat.shiftLeft_eq,Nat.shiftLeft_eq,Nat.pow_succ];omega
 have h3:0 < (1 <<< min d (a.log2 + 2):Nat):=by rw [Nat.shiftLeft_eq];exact Nat.mul_pos (by decide) (Nat.pow_pos (by decide))
 simp only [h2]
 generalize (1 <<< min d (a.log2 + 2):Nat) = g at h3
 have h4:2 * a / (2 * g) = a / g:=Nat.mul_div_mul_left a g (by decide)
 have h5:2 * a % (2 * g) = 2 * (a % g):=Nat.mul_mod_mul_left 2 a g
 rw [h4,h5]
 have e1:decide (2 * g < 2 * (2 * (a % g))) = decide (g < 2 * (a % g)):=decide_eq_decide.2 (by omega)
 have e2:(2 * g == 2 * (2 * (a % g))) = (g == 2 * (a % g)):=by rw [Bool.eq_iff_iff];simp only [beq_iff_eq];omega
 rw [e1,e2]
theorem QfP (neg:Bool) (a:Nat) (p:Int) (ha:a ≠ 0):double.nearest neg (2 * a) p = double.nearest neg a (p + 1):=by
 unfold Format.nearest
 rw [if_neg (by omega),if_neg ha,Nat.log2_two_mul ha,QaI,Qfn]
 have e:max (p + ((a.log2 + 1:Nat):Int) - ((52:Nat):Int)) (-1074) = max (p + 1 + (a.log2:Int) - ((52:Nat):Int)) (-1074):=by congr 1;omega
 simp only [e]
 generalize max (p + 1 + (a.log2:Int) - ((52:Nat):Int)) (-1074) = last
 congr 3
 by_cases h:last ≤ p
 ·rw [show (last - p).toNat = 0 from by omega,show (last - (p + 1)).toNat = 0 from by omega,Zi,Zi,show (p + 1 - last).toNat = (p - last).toNat + 1 from by omega,
   Nat.shiftLeft_eq,Nat.shiftLeft_eq,Nat.pow_succ]
  rw [Nat.mul_comm 2 a,Nat.mul_assoc,Nat.mul_comm 2]
 ·rw [show (p - last).toNat = 0 from by omega,show (p + 1 - last).toNat = 0 from by omega,show (last - p).toNat = (last - (p + 1)).toNat + 1 from by omega]
  exact QgX neg a _ ha
theorem QbB (neg:Bool) (a:Nat) (k:Nat):∀ p:Int,double.nearest neg (a * 2 ^ k) p = double.nearest neg a (p + k):=by
 by_cases ha:a = 0
 ·intro p;subst ha;simp [Format.nearest]
 induction k with
 | zero => intro p;simp
 | succ k ih =>
  intro p
  have:a * 2 ^ (k + 1) = 2 * (a * 2 ^ k):=by rw [Nat.pow_succ,Nat.mul_comm 2,Nat.mul_assoc]
  rw [this,QfP _ _ _ (Nat.mul_ne_zero ha (by simp)),ih]
  congr 1;omega
theorem QaJ (neg:Bool) {r:Nat} (h:r < 9223372036854775808):double.read (double.word neg r) = if r < 4503599627370496 then .number neg r (-1074)
  else if r < 9218868437227405312 then .number neg (4503599627370496 + r % 4503599627370496) (-1074 + (r / 4503599627370496 - 1:Nat))
  else if r = 9218868437227405312 then .infinity neg else .nan neg (r - 9218868437227405312):=by
 unfold Format.read Format.word
 rw [Qk0,QbY,QgM,QaI]
 have h1:((if neg = true then 9223372036854775808 + r else r) / 9223372036854775808 % 2 == 1) = neg:=by
  cases neg
  ·simp only [Bool.false_eq_true,if_false];rw [Nat.div_eq_of_lt h];rfl
  ·simp only [if_true];rw [Nat.add_div_left _ (by decide),Nat.div_eq_of_lt h];rfl
 have h2:(if neg = true then 9223372036854775808 + r else r) % 9223372036854775808 = r:=by
  cases neg
  ·simp only [Bool.false_eq_true,if_false];exact Nat.mod_eq_of_lt h
  ·simp only [if_true];rw [Nat.add_mod_left];exact Nat.mod_eq_of_lt h
 simp only [h1,h2]
theorem QY (neg:Bool) {a:Nat} {p:Int} (ha:a < 2 ^ 53) (hp:-1074 ≤ p) (hq:p ≤ 970) :
  ∃ (k:Nat) (l:Int),double.read (double.nearest neg a p) = .number neg (a * 2 ^ k) l ∧ l + k = p ∧ -1074 ≤ l:=by
 by_cases h0:a = 0
 ·subst h0
  refine ⟨(p + 1074).toNat,-1074,?_,by omega,Int.le_refl _⟩
  unfold Format.nearest
  rw [if_pos rfl,QaJ _ (by decide),if_pos (by decide)]
  simp
 have hlog:a.log2 ≤ 52:=by
  have:=(Nat.log2_lt h0 (k:=53)).2 ha;omega
 obtain ⟨last,hl⟩:∃ last,last = max (p + (a.log2:Int) - 52) (-1074):=⟨_,rfl⟩
 refine ⟨(p - last).toNat,last,?_,by omega,by omega⟩
 unfold Format.nearest
 rw [if_neg h0,QaI,Qfn,QbY,QgM]
 simp only [show ((52:Nat):Int) = 52 from rfl,← hl]
 rw [show (last - p).toNat = 0 from by omega,Zi,Nat.shiftLeft_eq]
 have hk:a.log2 + (p - last).toNat ≤ 52:=by omega
 have hlt:a * 2 ^ (p - last).toNat < 2 ^ 53:=by
  have h1:a < 2 ^ (a.log2 + 1):=Nat.lt_log2_self
  calc a * 2 ^ (p - last).toNat < 2 ^ (a.log2 + 1) * 2 ^ (p - last).toNat:=Nat.mul_lt_mul_of_pos_right h1 (Nat.pow_pos (by decide))
   _ = 2 ^ (a.log2 + 1 + (p - last).toNat):=(Nat.pow_add ..).symm
   _ ≤ 2 ^ 53:=Nat.pow_le_pow_right (by decide) (by omega)
 by_cases hc:last = -1074
 ·rw [hc] at hlt ⊢
  simp only [show (-1074 - -1074:Int).toNat = 0 from rfl,Nat.zero_mul,Nat.zero_add]
  generalize a * 2 ^ (p - -1074).toNat = n at hlt
  rw [Nat.min_eq_left (by omega),QaJ _ (by omega)]
  by_cases hn:n < 4503599627370496
  ·rw [if_pos hn]
  ·rw [if_neg hn,if_pos (by omega)]
   have e1:n / 4503599627370496 = 1:=by omega
   have e2:4503599627370496 + n % 4503599627370496 = n:=by omega
   rw [e1,e2];rfl
 ·have hle:last = p + (a.log2:Int) - 52:=by omega
  have hge:2 ^ 52 ≤ a * 2 ^ (p - last).toNat:=by
   have h1:2 ^ a.log2 ≤ a:=Nat.log2_self_le h0
   calc 2 ^ 52 = 2 ^ a.log2 * 2 ^ (p - last).toNat:=by rw [← Nat.pow_add];congr 1;omega
    _ ≤ a * 2 ^ (p - last).toNat:=Nat.mul_le_mul_right _ h1
  generalize a * 2 ^ (p - last).toNat = n at hlt hge
  obtain ⟨j,hj⟩:∃ j:Nat,j = (last - -1074).toNat:=⟨_,rfl⟩
  rw [← hj]
  have hj1:1 ≤ j ∧ j ≤ 2044:=by omega
  have hj2:last = -1074 + j:=by omega
  have hr:j * 4503599627370496 + n < 9218868437227405312:=by omega
  rw [Nat.min_eq_left (Nat.le_of_lt hr),QaJ _ (by omega),if_neg (by omega),if_pos hr]
  have e1:(j * 4503599627370496 + n) / 4503599627370496 = j + 1:=by omega
  have e2:4503599627370496 + (j * 4503599627370496 + n) % 4503599627370496 = n:=by omega
  rw [e1,e2,hj2];simp
@[irreducible] def uE:Nat:=1100
theorem uE_eq:uE = 1100:=by unfold uE;rfl
def fV (s:Bool) (m:Nat) (l:Int):Int:=signed s m (l + 1100).toNat
theorem Qq (s:Bool) (m u:Nat):signed s m u = if s = true then -((m * 2 ^ u:Nat):Int) else ((m * 2 ^ u:Nat):Int):=by
 unfold signed;rw [Nat.shiftLeft_eq]
theorem Zn (s:Bool) (m u k:Nat):signed s m (u + k) = signed s m u * 2 ^ k:=by
 rw [Qq,Qq]
 cases s <;> simp [Nat.pow_add,Int.natCast_mul,Int.mul_assoc,Int.neg_mul]
theorem YW (s:Bool) (a k:Nat) {l p:Int} (h:l + k = p) (hl:-1100 ≤ l):fV s (a * 2 ^ k) l = fV s a p:=by
 unfold fV
 rw [Qq,Qq]
 have:a * 2 ^ k * 2 ^ (l + 1100).toNat = a * 2 ^ (p + 1100).toNat:=by
  rw [Nat.mul_assoc,← Nat.pow_add];congr 2;omega
 rw [this]
theorem Qke {a b:Int}:(compare a b = .lt) = (a < b):=by
 apply propext
 simp only [compare,compareOfLessAndEq]
 split
 ·simp [*]
 ·split <;> simp [*]
theorem Qer {a b:Int}:(compare a b = .eq) = (a = b):=by
 apply propext
 simp only [compare,compareOfLessAndEq]
 split
 ·constructor
  ·intro h;cases h
  ·intro h;omega
 ·split <;> simp [*]
theorem Qil {a b:Int}:(compare a b = .gt) = (b < a):=by
 apply propext
 simp only [compare,compareOfLessAndEq]
 split
 ·constructor
  ·intro h;cases h
  ·intro h;omega
 ·split
  ·constructor
   ·intro h;cases h
   ·intro h;omega
  ·constructor
   ·intro;omega
   ·intro;rfl
theorem Qn1 (a b:Int) (k:Nat):compare (a * 2 ^ k) (b * 2 ^ k) = compare a b:=by
 have hk:(0:Int) < 2 ^ k:=Int.pow_pos (by decide)
 have lt:∀ {x y:Int},x < y → compare x y = .lt:=fun h => Qke.mpr h
 have gt:∀ {x y:Int},y < x → compare x y = .gt:=fun h => Qil.mpr h
 rcases Int.lt_trichotomy a b with h|h|h
 ·rw [lt h,lt (Int.mul_lt_mul_of_pos_right h hk)]
 ·rw [h]
  rw [show compare b b = .eq from Qer.mpr rfl,show compare (b * 2 ^ k) (b * 2 ^ k) = .eq from Qer.mpr rfl]
 ·rw [gt h,gt (Int.mul_lt_mul_of_pos_right h hk)]
theorem J8 {s t:Bool} {m n:Nat} {i j:Int} (hi:-1100 ≤ i) (hj:-1100 ≤ j):(Datum.number s m i).order (.number t n j) = some (compare (fV s m i) (fV t n j)):=by
 show some (compare (signed s m (i - min i j).toNat) (signed t n (j - min i j).toNat)) = _
 congr 1
 rw [← Qn1 _ _ (min i j + 1100).toNat,← Zn,← Zn]
 unfold fV
 congr 2 <;> omega
abbrev c16:Nat:=4625196817309499392
theorem QmE:double.read c16 = .number false 4503599627370496 (-48):=by decide
theorem mul16 {s:Bool} {a:Nat} {p:Int} (ha:a < 2 ^ 53) (hp:-1074 ≤ p) (hq:p ≤ 970):double.mul c16 (double.nearest s a p) = some (double.nearest s a (p + 4)) ∧ double.mul (double.nearest s a p) c16 = some (double.nearest s a (p + 4)):=by
 obtain ⟨k,l,h1,h2,h3⟩:=QY s ha hp hq
 have key:∀ q:Int,q = l + -48 → double.nearest s (a * 2 ^ k * 2 ^ 52) q = double.nearest s a (p + 4):=by
  intro q hq
  rw [QbB,QbB];congr 1;omega
 unfold Format.mul
 rw [h1,QmE]
 refine ⟨?_,?_⟩
 ·show some (double.nearest (false ^^ s) (4503599627370496 * (a * 2 ^ k)) (-48 + l)) = _
  rw [Bool.false_xor,Nat.mul_comm]
  exact congrArg some (key _ (by omega))
 ·show some (double.nearest (s ^^ false) (a * 2 ^ k * 4503599627370496) (l + -48)) = _
  rw [Bool.xor_false]
  exact congrArg some (key _ (by omega))
theorem QkD {b:Nat} {s:Bool} {m:Nat} {l:Int} (h:double.read b = .number s m l):double.sub b b = some 0:=by
 unfold Format.sub
 rw [h]
 show some (double.nearest (if signed s m (l - min l l).toNat + signed (!s) m (l - min l l).toNat = 0 then s && !s else _) _ _) = _
 have:signed s m (l - min l l).toNat + signed (!s) m (l - min l l).toNat = 0:=by
  rw [Qq,Qq];cases s <;> simp <;> omega
 rw [if_pos this,this]
 have e:(s && !s) = false:=by cases s <;> rfl
 rw [e]
 rfl
theorem Qhh:double.order 0 0 = some .eq:=by decide
def fTr (s:Bool) (m:Nat) (p:Int):Int:=signed s (m * 2 ^ p.toNat / 2 ^ (-p).toNat) 0
theorem Jl (s:Bool) (m:Nat):signed s m 0 = if s = true then -(m:Int) else (m:Int):=by rw [Qq];simp
theorem Qfq (s:Bool) (n d:Nat):Toward.zero.cut s n d = n / 2 ^ d:=by
 unfold Toward.cut
 simp only [Bool.toNat_false,Nat.add_zero]
 rw [Nat.shiftLeft_eq,Nat.one_mul]
 rcases Nat.le_total d (n.log2 + 2) with h|h
 ·rw [Nat.min_eq_left h]
 ·rw [Nat.min_eq_right h]
  have hn:n < 2 ^ (n.log2 + 2):=Nat.lt_of_lt_of_le Nat.lt_log2_self (Nat.pow_le_pow_right (by decide) (by omega))
  rw [Nat.div_eq_of_lt hn,Nat.div_eq_of_lt (Nat.lt_of_lt_of_le hn (Nat.pow_le_pow_right (by decide) h))]
theorem Qed (s:Bool) (n d:Nat):Toward.down.cut s n d = n / 2 ^ d + (s && n % 2 ^ d != 0).toNat:=by
 unfold Toward.cut
 simp only []
 rw [Nat.shiftLeft_eq,Nat.one_mul]
 rcases Nat.le_total d (n.log2 + 2) with h|h
 ·rw [Nat.min_eq_left h]
 ·rw [Nat.min_eq_right h]
  have hn:n < 2 ^ (n.log2 + 2):=Nat.lt_of_lt_of_le Nat.lt_log2_self (Nat.pow_le_pow_right (by decide) (by omega))
  have hn2:n < 2 ^ d:=Nat.lt_of_lt_of_le hn (Nat.pow_le_pow_right (by decide) h)
  rw [Nat.div_eq_of_lt hn,Nat.div_eq_of_lt hn2,Nat.mod_eq_of_lt hn,Nat.mod_eq_of_lt hn2]
theorem QeR (s:Bool) (a k:Nat) {l p:Int} (h:l + k = p):fTr s (a * 2 ^ k) l = fTr s a p:=by
 unfold fTr
 congr 1
 rcases Int.le_total 0 l with hl|hl
 ·rw [show (-l).toNat = 0 from by omega,show (-p).toNat = 0 from by omega,Nat.mul_assoc,← Nat.pow_add]
  congr 3;omega
 ·rw [show l.toNat = 0 from by omega,Nat.pow_zero,Nat.mul_one]
  rcases Int.le_total 0 p with hp|hp
  ·rw [show (-p).toNat = 0 from by omega,Nat.pow_zero,Nat.div_one]
   have:a * 2 ^ k = a * 2 ^ p.toNat * 2 ^ (-l).toNat:=by rw [Nat.mul_assoc,← Nat.pow_add];congr 2;omega
   rw [this,Nat.mul_div_cancel _ (Nat.pow_pos (by decide))]
  ·rw [show p.toNat = 0 from by omega,Nat.pow_zero,Nat.mul_one]
   rw [show (-l).toNat = (-p).toNat + k from by omega,Nat.pow_add,Nat.mul_div_mul_right _ _ (Nat.pow_pos (by decide))]
theorem QdH {s:Bool} {a:Nat} {p:Int} (ha:a < 2 ^ 53) (hp:-1074 ≤ p) (hq:p ≤ 970):(double.read (double.nearest s a p)).toInt .zero = some (fTr s a p):=by
 obtain ⟨k,l,h1,h2,h3⟩:=QY s ha hp hq
 rw [h1]
 show some (signed s (Toward.zero.cut s ((a * 2 ^ k) <<< l.toNat) (-l).toNat) 0) = _
 rw [Qfq,Nat.shiftLeft_eq,← QeR s a k h2];rfl
def VE (s:Bool) (m:Nat) (p:Int):Bool:=decide (fTr s m p * 2 ^ uE = fV s m p)
theorem Qfx (n:Int):fV (decide (n < 0)) n.natAbs 0 = n * 2 ^ uE:=by
 unfold fV
 rw [Qq,show ((0:Int) + 1100).toNat = uE from uE_eq.symm]
 generalize uE = u
 by_cases h:n < 0
 ·simp only [h,decide_true,if_true]
  rw [Int.natCast_mul,Int.natCast_pow,← Int.neg_mul]
  have e:-((n.natAbs:Nat):Int) = n:=by omega
  rw [e];rfl
 ·simp only [h,decide_false,Bool.false_eq_true,if_false]
  rw [Int.natCast_mul,Int.natCast_pow]
  have e:((n.natAbs:Nat):Int) = n:=by omega
  rw [e];rfl
theorem Qaf {s t:Bool} {a b:Nat} {p q:Int} (ha:a < 2 ^ 53) (hp:-1074 ≤ p) (hp':p ≤ 970) (hb:b < 2 ^ 53) (hq:-1074 ≤ q) (hq':q ≤ 970) :
  double.order (double.nearest s a p) (double.nearest t b q) = some (compare (fV s a p) (fV t b q)):=by
 obtain ⟨k,l,h1,h2,h3⟩:=QY s ha hp hp'
 obtain ⟨j,i,g1,g2,g3⟩:=QY t hb hq hq'
 unfold Format.order
 rw [h1,g1,J8 (by omega) (by omega),YW s a k h2 (by omega),YW t b j g2 (by omega)]
theorem QfH {s t:Bool} {a n:Nat} {p j:Int} (ha:a < 2 ^ 53) (hp:-1074 ≤ p) (hp':p ≤ 970) {c:Nat} (hc:double.read c = .number t n j) (hj:-1100 ≤ j) :
  double.order (double.nearest s a p) c = some (compare (fV s a p) (fV t n j)):=by
 obtain ⟨k,l,h1,h2,h3⟩:=QY s ha hp hp'
 unfold Format.order
 rw [h1,hc,J8 (by omega) hj,YW s a k h2 (by omega)]
def fFl (s:Bool) (m:Nat) (p:Int):Nat:=m * 2 ^ p.toNat / 2 ^ (-p).toNat + (s && m * 2 ^ p.toNat % 2 ^ (-p).toNat != 0).toNat
theorem QdR {s:Bool} {a:Nat} {p:Int} (ha:a < 2 ^ 53) (hp:-1074 ≤ p) (hq:p ≤ 970):∃ (k:Nat) (l:Int),l + (k:Int) = p ∧ -1074 ≤ l ∧ double.write ((double.read (double.nearest s a p)).integral .down) = double.nearest s (fFl s (a * 2 ^ k) l) 0:=by
 obtain ⟨k,l,h1,h2,h3⟩:=QY s ha hp hq
 refine ⟨k,l,h2,h3,?_⟩
 rw [h1]
 show double.nearest s (Toward.down.cut s ((a * 2 ^ k) <<< l.toNat) (-l).toNat) 0 = _
 rw [Qed,Nat.shiftLeft_eq];rfl
theorem JR (s:Bool) (m:Nat) (p:Int):(fTr s m p).natAbs = m * 2 ^ p.toNat / 2 ^ (-p).toNat:=by
 unfold fTr;rw [Jl]
 generalize m * 2 ^ p.toNat / 2 ^ (-p).toNat = n
 cases s <;> simp
theorem QgJ (s:Bool) (n u:Nat) (hu:u = 1100):fV s n 0 = signed s n u:=by subst hu;rfl
theorem Qgl {s:Bool} {m:Nat} {p:Int} (hp:-1100 ≤ p):(fV s (fFl s m p) 0 = fV s m p) ↔ (fTr s m p * 2 ^ uE = fV s m p):=by
 obtain ⟨u,hu⟩:∃ u:Nat,u = 1100:=⟨_,rfl⟩
 have e1:fTr s m p * 2 ^ uE = signed s (m * 2 ^ p.toNat / 2 ^ (-p).toNat) u:=by
  rw [uE_eq,← hu];unfold fTr;rw [← Zn,Nat.zero_add]
 rw [e1,QgJ s _ u hu]
 obtain ⟨d,hd⟩:∃ d:Nat,d = (-p).toNat:=⟨_,rfl⟩
 obtain ⟨n,hn⟩:∃ n:Nat,n = m * 2 ^ p.toNat:=⟨_,rfl⟩
 have hdu:d ≤ u:=by omega
 have e2:fV s m p = signed s n (u - d):=by
  unfold fV
  rw [Qq,Qq,hn,Nat.mul_assoc,← Nat.pow_add]
  have:(p + 1100).toNat = p.toNat + (u - d):=by omega
  rw [this]
 rw [e2]
 unfold fFl
 rw [← hd,← hn]
 have key:∀ F:Nat,(signed s F u = signed s n (u - d)) ↔ F * 2 ^ d = n:=by
  intro F
  have h1:signed s F u = signed s (F * 2 ^ d) (u - d):=by
   rw [Qq,Qq,Nat.mul_assoc,← Nat.pow_add,show d + (u - d) = u from by omega]
  rw [h1,Qq,Qq]
  have hpos:0 < 2 ^ (u - d):=Nat.pow_pos (by decide)
  have h2:(F * 2 ^ d * 2 ^ (u - d) = n * 2 ^ (u - d)) ↔ F * 2 ^ d = n:=⟨fun h => Nat.eq_of_mul_eq_mul_right hpos h,fun h => by rw [h]⟩
  rw [← h2]
  cases s
  ·simp only [Bool.false_eq_true,if_false];exact Int.ofNat_inj
  ·simp only [if_true];exact ⟨fun h => Int.ofNat_inj.1 (Int.neg_inj.1 h),fun h => by rw [h]⟩
 rw [key,key]
 have hpos:0 < 2 ^ d:=Nat.pow_pos (by decide)
 have hdm:=Nat.div_add_mod n (2 ^ d)
 have hml:=Nat.mod_lt n hpos
 by_cases hz:n % 2 ^ d = 0
 ·rw [hz];simp
 ·have e3:∀ F,F * 2 ^ d = n → False:=fun F h => hz (by rw [← h,Nat.mul_mod_left])
  exact ⟨fun h => (e3 _ h).elim,fun h => (e3 _ h).elim⟩
theorem fV_le {s:Bool} {m:Nat} {p:Int} (hp:-1100 ≤ p) {b:Nat} (h1:¬ fV s m p < fV true b 0) (h2:¬ fV false b 0 < fV s m p):m * 2 ^ p.toNat / 2 ^ (-p).toNat ≤ b ∧ m * 2 ^ p.toNat ≤ b * 2 ^ (-p).toNat:=by
 obtain ⟨u,hu⟩:∃ u:Nat,u = 1100:=⟨_,rfl⟩
 rw [QgJ _ _ u hu] at h1 h2
 obtain ⟨d,hd⟩:∃ d:Nat,d = (-p).toNat:=⟨_,rfl⟩
 obtain ⟨n,hn⟩:∃ n:Nat,n = m * 2 ^ p.toNat:=⟨_,rfl⟩
 have hdu:d ≤ u:=by omega
 have e2:fV s m p = signed s n (u - d):=by
  unfold fV
  rw [Qq,Qq,hn,Nat.mul_assoc,← Nat.pow_add]
  have:(p + 1100).toNat = p.toNat + (u - d):=by omega
  rw [this]
 rw [e2] at h1 h2
 rw [← hd,← hn]
 have hb:∀ t,signed t b u = signed t (b * 2 ^ d) (u - d):=fun t => by
  rw [Qq,Qq,Nat.mul_assoc,← Nat.pow_add,show d + (u - d) = u from by omega]
 rw [hb,Qq,Qq] at h1 h2
 have hpos:0 < 2 ^ (u - d):=Nat.pow_pos (by decide)
 have:n * 2 ^ (u - d) ≤ b * 2 ^ d * 2 ^ (u - d):=by
  cases s
  ·simp only [Bool.false_eq_true,if_false] at h2;omega
  ·simp only [if_true] at h1;omega
 have h3:n ≤ b * 2 ^ d:=Nat.le_of_mul_le_mul_right this hpos
 exact ⟨Nat.div_le_of_le_mul (by rw [Nat.mul_comm];exact h3),h3⟩
theorem QE {x:Nat} {s:Bool} {m:Nat} {e:Int} (h:single.read x = .number s m e):m < 2 ^ 53 ∧ -149 ≤ e ∧ e ≤ 104:=by
 unfold Format.read at h
 have e1:single.signWeight = 2147483648:=by decide
 have e2:single.binade = 8388608:=by decide
 have e3:single.infRung = 2139095040:=by decide
 have e4:single.leastPlace = -149:=by decide
 rw [e1,e2,e3,e4] at h
 simp only at h
 split at h
 ·cases h;exact ⟨by omega,by omega,by omega⟩
 ·split at h
  ·cases h;exact ⟨by omega,by omega,by omega⟩
  ·split at h <;> cases h
def smpE (x:Nat):Int :=
 match single.read x with
 | .number s m e => if fV s m (e + 4) < fV true 32768 0 ∨ fV false 32768 0 < fV s m (e + 4) ∨ VE s m (e + 4) = false then 3 else 0
 | _ => 1
def six (x:Nat):Int :=
 match single.read x with
 | .number s m e => fTr s m (e + 4)
 | _ => 0
def nz (x:Nat):Bool :=
 match single.read x with
 | .number _ m _ => m != 0
 | _ => true
theorem QdB {x:Nat} (h:smpE x = 0):-32768 ≤ six x ∧ six x ≤ 32768:=by
 unfold smpE at h;unfold six
 cases hr:single.read x with
 | number s m e =>
  rw [hr] at h
  simp only at h ⊢
  obtain ⟨_,h1,_⟩:=QE hr
  split at h
  ·cases h
  ·rename_i hc
   simp only [not_or] at hc
   have:=(fV_le (by omega) hc.1 hc.2.1).1
   rw [← JR s m (e + 4)] at this
   omega
 | infinity s => rw [hr] at h;cases h
 | nan s t => rw [hr] at h;cases h
end Go.Nac
set_option maxRecDepth 10000
namespace Go.Nac
open Ieee
theorem QmJ (b:Nat):FloatKind.f64.decode b = double.read b:=rfl
theorem QbR (b:Nat):FloatKind.f32.decode b = single.read b:=rfl
theorem s_ff {x:Nat} {s:Bool} {m:Nat} {e:Int} (h:single.read x = .number s m e):sopV (.ff .f64) [.s (.float .f32 x)] = some (.s (.float .f64 (double.nearest s m e))):=by
 obtain ⟨h1,h2,h3⟩:=QE h
 obtain ⟨k,l,g1,_,_⟩:=QY s h1 (show (-1074:Int) ≤ e by omega) (by omega)
 have e1:(FloatKind.f64.decode (FloatKind.f64.encode (.number s m e))).isInfinity = false:=by
  show (double.read (double.nearest s m e)).isInfinity = false
  rw [g1];rfl
 simp only [sopV,QbR,h]
 rw [if_neg (by decide),if_neg (by rw [e1];decide)];rfl
theorem QeH {x:Nat} {s:Bool} {t:Nat} (h:single.read x = .nan s t):sopV (.ff .f64) [.s (.float .f32 x)] = some (.nan .f64):=by
 simp only [sopV,QbR,h];rfl
theorem QeB {x:Nat} {s:Bool} (h:single.read x = .infinity s):sopV (.ff .f64) [.s (.float .f32 x)] = some (.s (.float .f64 (double.word s double.infRung))):=by
 simp only [sopV,QbR,h];rfl
theorem s_sub {s:Bool} {m:Nat} {e:Int} (h1:m < 2 ^ 53) (h2:-1074 ≤ e) (h3:e ≤ 970):sopV (.fbin .sub) [.s (.float .f64 (double.nearest s m e)),.s (.float .f64 (double.nearest s m e))] = some (.s (.float .f64 0)):=by
 obtain ⟨k,l,g1,_,_⟩:=QY s h1 h2 h3
 have:FloatKind.f64.format.sub (double.nearest s m e) (double.nearest s m e) = some 0:=QkD g1
 simp only [sopV,if_true,QR,this]
theorem VX:sopV (.fbin .neq) [.s (.float .f64 0),.s (.float .f64 0)] = some (.B false):=Zy rfl (by show fCmp .neq (double.order 0 0) = _;rw [Qhh];rfl)
theorem Y0:sopV (.fbin .sub) [.nan .f64,.nan .f64] = some (.nan .f64):=by simp [sopV,fKind,QR,show (FloatKind.f64.format.sub 0 0).isSome = true from by decide]
theorem VK {c:Nat}:sopV (.fbin .neq) [.nan .f64,.s (.float .f64 c)] = some (.B true):=by simp [sopV,fKind,QR,fCmp]
theorem QiF (s:Bool):double.sub (double.word s double.infRung) (double.word s double.infRung) = none:=by cases s <;> decide
theorem Qis (s:Bool):double.mul c16 (double.word s double.infRung) = some (double.word s double.infRung):=by cases s <;> decide
theorem QdA (s:Bool):sopV (.fbin .sub) [.s (.float .f64 (double.word s double.infRung)),.s (.float .f64 (double.word s double.infRung))] = some (.nan .f64):=by
 have:FloatKind.f64.format.sub (double.word s double.infRung) (double.word s double.infRung) = none:=QiF s
 simp only [sopV,if_true,QR,this]
theorem QkA (s:Bool):sopV (.fbin .mul) [.s (.float .f64 c16),.s (.float .f64 (double.word s double.infRung))] = some (.s (.float .f64 (double.word s double.infRung))):=by
 have:FloatKind.f64.format.mul c16 (double.word s double.infRung) = some (double.word s double.infRung):=Qis s
 simp only [sopV,if_true,QR,this]
theorem Qdq:sopV (.fbin .mul) [.s (.float .f64 c16),.nan .f64] = some (.nan .f64):=by simp [sopV,fKind,QR,show (FloatKind.f64.format.mul 0 0).isSome = true from by decide]
section
variable {s:Bool} {m:Nat} {p:Int} (h1:m < 2 ^ 53) (h2:-1074 ≤ p) (h3:p ≤ 966)
include h1 h2 h3
theorem s_mul:sopV (.fbin .mul) [.s (.float .f64 c16),.s (.float .f64 (double.nearest s m p))] = some (.s (.float .f64 (double.nearest s m (p + 4)))):=by
 have:FloatKind.f64.format.mul c16 (double.nearest s m p) = some (double.nearest s m (p + 4)):=(mul16 h1 h2 (by omega)).1
 simp only [sopV,if_true,QR,this]
theorem Qja:sopV (.fbin .mul) [.s (.float .f64 (double.nearest s m p)),.s (.float .f64 c16)] = some (.s (.float .f64 (double.nearest s m (p + 4)))):=by
 have:FloatKind.f64.format.mul (double.nearest s m p) c16 = some (double.nearest s m (p + 4)):=(mul16 h1 h2 (by omega)).2
 simp only [sopV,if_true,QR,this]
theorem fV_16:fV s m (p + 4) = fV s m p * 16:=by
 unfold fV
 rw [show (p + 4 + 1100).toNat = (p + 1100).toNat + 4 from by omega,Zn];rfl
theorem s_cmp {op:BinOp} {c n:Nat} {t:Bool} {j:Int} {r:Bool} (hc:double.read c = .number t n j) (hj:-1100 ≤ j) (ha:∀ a b,QR op .f64 a b = none) (h:fCmp op (some (compare (fV s m p) (fV t n j))) = some r) :
  sopV (.fbin op) [.s (.float .f64 (double.nearest s m p)),.s (.float .f64 c)] = some (.B r):=by
 have:FloatKind.f64.format.order (double.nearest s m p) c = some (compare (fV s m p) (fV t n j)):=QfH h1 h2 (by omega) hc hj
 exact Zy (ha _ _) (by rw [this];exact h)
end
theorem QgA {a b:Int}:fCmp .lss (some (compare a b)) = some (decide (a < b)):=by
 simp only [fCmp,Option.some.injEq];rw [Bool.eq_iff_iff];simp [Qke]
theorem QcN {a b:Int}:fCmp .gtr (some (compare a b)) = some (decide (b < a)):=by
 simp only [fCmp,Option.some.injEq];rw [Bool.eq_iff_iff];simp [Qil]
theorem QaY {a b:Int}:fCmp .neq (some (compare a b)) = some (decide (a ≠ b)):=by
 simp only [fCmp,Option.some.injEq];rw [Bool.eq_iff_iff];simp [Qer]
theorem fV_c (t:Bool) (k:Nat) (j p:Int) (h:j + k = p) (hj:-1100 ≤ j):fV t (2 ^ k) j = fV t 1 p:=by
 have:=YW t 1 k h hj
 rwa [Nat.one_mul] at this
theorem fV_m4 (t:Bool):fV t 1 15 = fV t 1 11 * 16:=by
 rw [show (15:Int) = 11 + 4 from rfl]
 exact fV_16 (by decide) (by decide) (by decide)
theorem Qcp (t:Bool):fV t 32768 0 = fV t 1 15:=fV_c t 15 0 15 (by decide) (by decide)
section
variable {s:Bool} {m:Nat} {p:Int} (h1:m < 2 ^ 53) (h2:-1070 ≤ p) (h3:p ≤ 966)
include h1 h2 h3
theorem s_lo:sopV (.fbin .lss) [.s (.float .f64 (double.nearest s m p)),.s (.float .f64 13898108450065350656)] = some (.B (decide (fV s m p < fV true 32768 0))) :=
 s_cmp h1 (by omega) h3 (t:=true) (n:=2 ^ 52) (j:=-37) (by decide) (by decide) (fun _ _ => rfl) (by rw [QgA,fV_c true 52 (-37) 15 (by decide) (by decide),Qcp])
theorem s_hi:sopV (.fbin .gtr) [.s (.float .f64 (double.nearest s m p)),.s (.float .f64 4674736413210574848)] = some (.B (decide (fV false 32768 0 < fV s m p))) :=
 s_cmp h1 (by omega) h3 (t:=false) (n:=2 ^ 52) (j:=-37) (by decide) (by decide) (fun _ _ => rfl) (by rw [QcN,fV_c false 52 (-37) 15 (by decide) (by decide),Qcp])
theorem s_lo':sopV (.fbin .lss) [.s (.float .f64 (double.nearest s m p)),.s (.float .f64 13880094051555868672)] = some (.B (decide (fV s m (p + 4) < fV true 32768 0))) :=
 s_cmp h1 (by omega) h3 (t:=true) (n:=2 ^ 52) (j:=-41) (by decide) (by decide) (fun _ _ => rfl) (by
  rw [QgA,fV_c true 52 (-41) 11 (by decide) (by decide),Qcp,fV_m4,fV_16 h1 (by omega) h3]
  exact congrArg some (decide_eq_decide.2 (by omega)))
theorem s_hi':sopV (.fbin .gtr) [.s (.float .f64 (double.nearest s m p)),.s (.float .f64 4656722014701092864)] = some (.B (decide (fV false 32768 0 < fV s m (p + 4)))) :=
 s_cmp h1 (by omega) h3 (t:=false) (n:=2 ^ 52) (j:=-41) (by decide) (by decide) (fun _ _ => rfl) (by
  rw [QcN,fV_c false 52 (-41) 11 (by decide) (by decide),Qcp,fV_m4,fV_16 h1 (by omega) h3]
  exact congrArg some (decide_eq_decide.2 (by omega)))
theorem s_fi (hr:-9223372036854775808 ≤ fTr s m p ∧ fTr s m p ≤ 9223372036854775807):sopV (.fi .i64) [.s (.float .f64 (double.nearest s m p))] = some (.I (fTr s m p)):=by
 have:=QdH (s:=s) h1 (show -1074 ≤ p by omega) (by omega)
 simp only [sopV,QmJ,this]
 rw [if_pos (by exact hr)]
theorem s_eqi {n:Int} (hn:n = fTr s m p) (hs:n.natAbs < 2 ^ 53):sopV (.fbin .neq) [.s (.float .f64 (FloatKind.f64.nearest n)),.s (.float .f64 (double.nearest s m p))] = some (.B (!VE s m p)):=by
 have h:FloatKind.f64.format.order (FloatKind.f64.nearest n) (double.nearest s m p) = some (compare (fV (decide (n < 0)) n.natAbs 0) (fV s m p)):=Qaf hs (by decide) (by decide) h1 (by omega) (by omega)
 refine Zy rfl ?_
 rw [h,QaY,Qfx,hn]
 unfold VE
 by_cases hc:fTr s m p * 2 ^ uE = fV s m p <;> simp [hc]
theorem s_eqf {k:Nat} {l:Int} (hkl:l + k = p) (hl:-1074 ≤ l) (hs:fFl s (m * 2 ^ k) l < 2 ^ 53):sopV (.fbin .neq) [.s (.float .f64 (double.nearest s (fFl s (m * 2 ^ k) l) 0)),.s (.float .f64 (double.nearest s m p))] = some (.B (!VE s m p)):=by
 have h:FloatKind.f64.format.order (double.nearest s (fFl s (m * 2 ^ k) l) 0) (double.nearest s m p) = some (compare (fV s (fFl s (m * 2 ^ k) l) 0) (fV s m p)):=Qaf hs (by decide) (by decide) h1 (by omega) (by omega)
 refine Zy rfl ?_
 rw [h,QaY,← YW s m k hkl (by omega)]
 unfold VE
 rw [← YW s m k hkl (by omega),← QeR s m k hkl]
 have:=Qgl (s:=s) (m:=m * 2 ^ k) (p:=l) (by omega)
 by_cases hc:fTr s (m * 2 ^ k) l * 2 ^ uE = fV s (m * 2 ^ k) l
 ·simp [hc,this.2 hc]
 ·have h2:¬ fV s (fFl s (m * 2 ^ k) l) 0 = fV s (m * 2 ^ k) l:=fun h => hc (this.1 h)
  simp only [ne_eq,hc,h2,not_false_eq_true,decide_true,decide_false,Bool.not_false]
end
theorem s_nz {x:Nat}:sopV (.fbin .neq) [.s (.float .f32 x),.s (.float .f32 0)] = some (.B (nz x)):=by
 refine Zy rfl ?_
 have h0:single.read 0 = .number false 0 (-149):=by decide
 show fCmp .neq ((single.read x).order (single.read 0)) = _
 rw [h0]
 unfold nz
 cases hr:single.read x with
 | nan s t => rfl
 | infinity s => cases s <;> rfl
 | number s m e =>
  show fCmp .neq (some (compare (signed s m (e - min e (-149)).toNat) (signed false 0 (-149 - min e (-149)).toNat))) = _
  rw [QaY]
  simp only [Qq,Bool.false_eq_true,if_false,Nat.zero_mul]
  generalize (e - min e (-149)).toNat = u
  have hu:0 < 2 ^ u:=Nat.pow_pos (by decide)
  congr 1
  by_cases hm:m = 0
  ·subst hm;simp
  ·have:m * 2 ^ u ≠ 0:=Nat.mul_ne_zero hm (by omega)
   have e1:((m * 2 ^ u:Nat):Int) ≠ 0:=by exact_mod_cast this
   have e2:-((m * 2 ^ u:Nat):Int) ≠ 0:=by omega
   cases s
   ·simp only [Bool.false_eq_true,if_false];rw [decide_eq_true (by exact_mod_cast e1)];simp [hm]
   ·simp only [if_true];rw [decide_eq_true (by exact_mod_cast e2)];simp [hm]
end Go.Nac
namespace Go.Nac
structure Spn where
 fr:Int
 to_:Int
 deriving DecidableEq
def Qa (x:Spn):PV:=.agg [.I x.fr,.I x.to_]
theorem Qd (x:Spn):Qa x = .agg [.I x.fr,.I x.to_]:=rfl
theorem Qh (x:Spn):(Qa x).cells = [.I x.fr,.I x.to_]:=nrfl rfl
theorem Qg {n:Nat} (l:List Spn):lowL n (l.map Qa) = True:=eq_true (VB _ _ fun r => by simp [Qa,PV.low,lowL])
theorem Zj (l:List Spn):(l.map Qa).all (QS 2) = true:=by rw [List.all_eq_true];intro x hx;obtain ⟨y,_,rfl⟩:=List.mem_map.1 hx;rfl
abbrev encF (b:Nat):PV:=.s (.float .f32 b)
theorem QG {n:Nat} (l:List Nat):lowL n (l.map encF) = True:=eq_true (VB _ _ fun r => by simp [PV.low])
theorem Js (l:List Nat):(l.map encF).all (QS 1) = true:=by rw [List.all_eq_true];intro x hx;obtain ⟨y,_,rfl⟩:=List.mem_map.1 hx;rfl
structure Ser where
 name:ByteArray
 start:Int
 samples:List Nat
 gaps:List Spn
def Qj (x:Ser):PV:=.agg [.s (.string x.name),.I x.start,.fs (x.samples.map encF),.fs (x.gaps.map Qa)]
theorem Qf (x:Ser):Qj x = .agg [.s (.string x.name),.I x.start,.fs (x.samples.map encF),.fs (x.gaps.map Qa)]:=rfl
theorem Vo (x:Ser):(Qj x).cells = [.s (.string x.name),.I x.start,.fs (x.samples.map encF),.fs (x.gaps.map Qa)]:=nrfl rfl
def Qt (c:Nat):Bool:=decide (97 ≤ c ∧ c ≤ 122) || decide (65 ≤ c ∧ c ≤ 90)
def chOk (i c:Nat):Bool:=Qt c || (decide (i ≠ 0) && (decide (c = 95) || decide (48 ≤ c ∧ c ≤ 57)))
def chAt (s:ByteArray) (i:Nat):Nat:=(s[i]?.getD 0).toNat
def Qn (s:ByteArray):Bool:=decide (s.size ≠ 0) && decide (s.size ≤ 24) && (List.range s.size).all fun i => chOk i (chAt s i)
theorem Qr {s:ByteArray} {i:Nat} (h:i < s.size) (hc:chOk i (chAt s i) = false):Qn s = false:=by
 unfold Qn
 have:((List.range s.size).all fun i => chOk i (chAt s i)) = false:=by
  rw [List.all_eq_false];exact ⟨i,by simpa using h,by simp [hc]⟩
 rw [this,Bool.and_false]
theorem Qbz {s:ByteArray} (h0:s.size ≠ 0) (h1:s.size ≤ 24) (h:∀ i,i < s.size → chOk i (chAt s i) = true):Qn s = true:=by
 unfold Qn
 have:((List.range s.size).all fun i => chOk i (chAt s i)) = true:=by
  rw [List.all_eq_true];intro i hi;exact h i (by simpa using hi)
 simp [this,h0,h1]
theorem Qby {s:ByteArray} (h0:s.size = 0):Qn s = false:=by simp [Qn,h0]
theorem Qbl {s:ByteArray} (h0:24 < s.size):Qn s = false:=by simp [Qn];omega
def Vn (s:Spn):Int:=if s.fr < 0 ∨ s.to_ ≤ s.fr ∨ 40000 < s.to_ then 14 else 0
def QO (last:Int):List Spn → Int
 | [] => 0
 | s :: r => if Vn s = 0 then (if s.fr ≤ last then 11 else QO s.to_ r) else 14
def Qm (l:List Spn):Int:=if 1024 < l.length then 5 else QO (-1) l
def VC (l:List Spn) (k:Nat):Int:=if k = 0 then -1 else match l[k - 1]? with|some s => s.to_|none => -1
theorem Qf6 (l:List Spn):VC l 0 = -1:=rfl
theorem Ye {l:List Spn} {k:Nat} {s:Spn} (h:l[k]? = some s):VC l (k + 1) = s.to_:=by simp [VC,h]
theorem Qad {l:List Spn} {k:Nat} {s:Spn} (h:l[k]? = some s) (last:Int):QO last (l.drop k) = if Vn s = 0 then (if s.fr ≤ last then 11 else QO s.to_ (l.drop (k + 1))) else 14:=by
 obtain ⟨h1,h2⟩:=List.getElem?_eq_some_iff.1 h
 rw [List.drop_eq_getElem_cons h1,h2,QO]
theorem Qay {l:List Spn} {k:Nat} (h:l.length ≤ k) (last:Int):QO last (l.drop k) = 0:=by
 rw [List.drop_eq_nil_of_le h];rfl
theorem Y3 {s:Spn} (h:Vn s = 0):0 ≤ s.fr ∧ s.fr < s.to_ ∧ s.to_ ≤ 40000:=by
 unfold Vn at h;split at h
 ·cases h
 ·omega
theorem Qgj {l:List Spn}:∀ {last:Int},QO last l = 0 → (∀ s:Spn,s ∈ l → 0 ≤ s.fr ∧ s.fr < s.to_ ∧ last < s.fr) ∧ ∀ s:Spn,s ∈ l → ∀ z:Spn,l.getLast? = some z → s.to_ ≤ z.to_:=by
 induction l with
 | nil => intro last _;exact ⟨fun s h => absurd h (by simp),fun s h => absurd h (by simp)⟩
 | cons a l ih =>
  intro last h
  rw [QO] at h
  split at h
  ·rename_i h0
   split at h
   ·cases h
   ·rename_i h1
    obtain ⟨g1,g2⟩:=ih h
    have ha:=Y3 h0
    refine ⟨fun s hs => ?_,fun s hs z hz => ?_⟩
    ·rcases List.mem_cons.1 hs with rfl|hs
     ·exact ⟨ha.1,ha.2.1,by omega⟩
     ·have:=g1 s hs;exact ⟨this.1,this.2.1,by omega⟩
    ·cases l with
     | nil => simp at hz hs;subst hz;subst hs;exact Int.le_refl _
     | cons b l =>
      have hz':(b :: l).getLast? = some z:=by simpa using hz
      rcases List.mem_cons.1 hs with rfl|hs
      ·have h3:=g2 b (by simp) z hz'
       have h4:=g1 b (by simp)
       omega
      ·exact g2 s hs z hz'
  ·cases h
def gapAt (g:List Spn) (i:Int):Bool:=g.any fun s => decide (s.fr ≤ i ∧ i < s.to_)
theorem QhM (l:List Spn) (k:Nat) (s:Spn) (h:l[k]? = some s) (i:Int):gapAt (l.take (k + 1)) i = (gapAt (l.take k) i || decide (s.fr ≤ i ∧ i < s.to_)):=by
 obtain ⟨h1,h2⟩:=List.getElem?_eq_some_iff.1 h
 unfold gapAt
 rw [List.take_succ_eq_append_getElem h1,h2,List.any_append];simp
def Ve (l:List Nat) (g:List Spn):Int:=if (List.range l.length).any (fun i => nz (l.getD i 0) && gapAt g i) then 17 else 0
theorem ZM {l:List Nat} {g:List Spn} {i x:Nat} (h:l[i]? = some x) (h1:nz x = true) (h2:gapAt g i = true):Ve l g = 17:=by
 unfold Ve
 rw [if_pos]
 rw [List.any_eq_true]
 refine ⟨i,by simpa using (List.getElem?_eq_some_iff.1 h).1,?_⟩
 rw [List.getD_eq_getElem?_getD,h];simp [h1,h2]
theorem Qbo {l:List Nat} {g:List Spn} (h:∀ (i x:Nat),l[i]? = some x → (nz x && gapAt g i) = false):Ve l g = 0:=by
 unfold Ve
 rw [if_neg]
 rw [Bool.not_eq_true,List.any_eq_false]
 intro i hi
 have hi:i < l.length:=by simpa using hi
 have:=h i _ (List.getElem?_eq_getElem hi)
 rw [List.getD_eq_getElem?_getD,List.getElem?_eq_getElem hi];simpa using this
def QU (l:List Nat) (g:List Spn):Int:=match g.getLast? with|some z => if (l.length:Int) < z.to_ then 14 else 0|none => 0
def Qk (s:Ser):Int :=
 if Qn s.name = false then 8 else if ¬ rng s.start 0 999999999 = 0 then 3 else if 40000 < s.samples.length then 5 else
 if ¬ fst0 (s.samples.map smpE) = 0 then fst0 (s.samples.map smpE) else if ¬ Qm s.gaps = 0 then Qm s.gaps else
 if ¬ QU s.samples s.gaps = 0 then 14 else Ve s.samples s.gaps
def Qq3 (l:List Nat) (g:List Spn) (k:Nat):List Int:=((l.take k).zipIdx.filter fun p => !gapAt g p.2).map fun p => six p.1
end Go.Nac
