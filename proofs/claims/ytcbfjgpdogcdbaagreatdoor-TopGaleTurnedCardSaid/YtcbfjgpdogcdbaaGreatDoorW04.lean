/- Values: equations for simp. -/
import Derived.Test.YtcbfjgpdogcdbaaGreatDoorW03
import Derived.OpenShut
import Derived.ChangeArms
import Derived.Below
import Derived.Carry
import Derived.ChangeShapes
import Derived.Laws.Externs
import Derived.Sort.Grow
import Derived.Deep.Draws
import GoSem.Core.Float
set_option linter.unusedVariables false
set_option linter.unusedSimpArgs false
namespace Go.Nac
section
variable {M:List Blk} {k:IntKind} {a b:Int} {p q:Bool} {x y z:PV} {xs ys cs:List PV}
theorem lenOf_fs:lenOf (.fs xs) = some xs.length:=nrfl rfl
theorem lenOf_os {i v o n:Nat}:lenOf (.os i v o n) = some n:=nrfl rfl
theorem lenOf_nil:lenOf (.s (.slice none 0 0)) = some 0:=nrfl rfl
theorem lensV_s {s:ByteArray}:lensV (.s (.string s)) = some (.I (s.size:Int)):=nrfl rfl
theorem bin_add:bin .add (.s (.int k a)) (.s (.int k b)) = some (.s (.int k (k.wrap (a + b)))):=by simp [bin,isSh,binInt]
theorem bin_sub:bin .sub (.s (.int k a)) (.s (.int k b)) = some (.s (.int k (k.wrap (a - b)))):=by simp [bin,isSh,binInt]
theorem bin_mul:bin .mul (.s (.int k a)) (.s (.int k b)) = some (.s (.int k (k.wrap (a * b)))):=by simp [bin,isSh,binInt]
theorem bin_quo:bin .quo (.s (.int k a)) (.s (.int k b)) = if b = 0 then none else some (.s (.int k (k.wrap (a.tdiv b)))):=by simp only [bin,isSh,binInt,Bool.false_eq_true,if_false,if_true];split <;> rfl
theorem bin_rem:bin .rem (.s (.int k a)) (.s (.int k b)) = if b = 0 then none else some (.s (.int k (a.tmod b))):=by simp only [bin,isSh,binInt,Bool.false_eq_true,if_false,if_true];split <;> rfl
theorem bin_eql:bin .eql (.s (.int k a)) (.s (.int k b)) = some (.B (decide (a = b))):=by simp only [bin,isSh,binInt,Bool.false_eq_true,if_false,if_true,Option.map_some];congr
theorem bin_neq:bin .neq (.s (.int k a)) (.s (.int k b)) = some (.B (decide (¬ a = b))):=by
  simp only [bin,isSh,binInt,Bool.false_eq_true,if_false,if_true,Option.map_some,Option.some.injEq,PV.s.injEq,Value.bool.injEq]
  by_cases h:a = b <;> simp [h]
theorem bin_lss:bin .lss (.s (.int k a)) (.s (.int k b)) = some (.B (decide (a < b))):=by simp [bin,isSh,binInt]
theorem bin_leq:bin .leq (.s (.int k a)) (.s (.int k b)) = some (.B (decide (a ≤ b))):=by simp [bin,isSh,binInt]
theorem bin_gtr:bin .gtr (.s (.int k a)) (.s (.int k b)) = some (.B (decide (b < a))):=by simp [bin,isSh,binInt]
theorem bin_or:bin .or (.s (.int k a)) (.s (.int k b)) = some (.s (.int k (k.wrap ((BitVec.ofInt k.bits a ||| BitVec.ofInt k.bits b).toNat:Nat)))):=by simp only [bin,isSh,binInt,Bool.false_eq_true,if_false,if_true,Option.map_some]
theorem bin_shl {k':IntKind} (h:0 ≤ b):bin .shl (.s (.int k a)) (.s (.int k' b)) = some (.s (.int k (k.wrap (a * 2 ^ (min b.toNat k.bits))))):=by
  have:¬ b < 0:=by omega
  simp only [bin,isSh,shInt,if_true,if_neg this,Option.map_some]
theorem bin_shr {k':IntKind} (h:0 ≤ b):bin .shr (.s (.int k a)) (.s (.int k' b)) = some (.s (.int k (a.fdiv (2 ^ (min b.toNat k.bits))))):=by
  have:¬ b < 0:=by omega
  simp only [bin,isSh,shInt,if_true,if_neg this,Option.map_some]
theorem bin_geq:bin .geq (.s (.int k a)) (.s (.int k b)) = some (.B (decide (b ≤ a))):=by simp [bin,isSh,binInt]
theorem srngO_s {b:ByteArray}:srngO M (.s (.string b)) = some (.oi M.length,M ++ [.siter b 0]):=nrfl rfl
theorem arrslV_fp {n:Nat} (h:n ≤ cs.length) (h1:0 < n) (h2:(cs.take n).all oneB = true):arrslV n (.fp cs) = some (.fs (cs.take n)):=if_pos ⟨h,h1,h2⟩
theorem snxtO_oi {i:Nat}:snxtO M (.oi i) = snxtR M i M[i]?:=nrfl rfl
theorem snxtR_some {i pos:Nat} {s:ByteArray} (h:pos < s.size):snxtR M i (some (.siter s pos)) = some (.tup [.B true,.I pos,.s (.int .i32 (Utf8.decode s pos).1)],M.set i (.siter s (pos + (Utf8.decode s pos).2))):=if_pos h
theorem snxtR_none {i pos:Nat} {s:ByteArray} (h:¬ pos < s.size):snxtR M i (some (.siter s pos)) = some (.tup [.B false],M):=if_neg h
theorem sopV_cmp {op:BinOp} {fk:FloatKind} {u v:Nat} {r:Bool} (h:fArith op fk u v = none) (h1:fCmp op (fk.format.order u v) = some r):sopV (.fbin op) [.s (.float fk u),.s (.float fk v)] = some (.B r):=by simp only [sopV,if_true,h,h1,Option.map_some]
theorem sopV_itf {fk:FloatKind}:sopV (.itf fk) [.s (.int k a)] = some (.s (.float fk (fk.nearest a))):=nrfl rfl
theorem sopV_ff {fk:FloatKind} {u:Nat}:sopV (.ff fk) [.s (.float fk u)] = some (.s (.float fk u)):=by simp only [sopV,if_true]
theorem cells_float {fk:FloatKind} {u:Nat}:(PV.s (.float fk u)).cells = [.s (.float fk u)]:=nrfl rfl
theorem cells_nan {fk:FloatKind}:(PV.nan fk).cells = [.nan fk]:=nrfl rfl
theorem oneB_float {fk:FloatKind} {u:Nat}:oneB (.s (.float fk u)) = true:=nrfl rfl
theorem oneB_nan {fk:FloatKind}:oneB (.nan fk) = true:=nrfl rfl
theorem view_float {fk:FloatKind} {u:Nat}:view M (.s (.float fk u)) = .s (.float fk u):=nrfl rfl
theorem view_nan {fk:FloatKind}:view M (.nan fk) = .nan fk:=nrfl rfl
theorem view_oi {i:Nat}:view M (.oi i) = .oi i:=nrfl rfl
theorem view1_float {fk:FloatKind} {u:Nat}:view1 M (.s (.float fk u)) = .s (.float fk u):=nrfl rfl
theorem view1_nan {fk:FloatKind}:view1 M (.nan fk) = .nan fk:=nrfl rfl
theorem outV_float {n:Nat} {fk:FloatKind} {u:Nat}:outV n M (.s (.float fk u)) = .s (.float fk u):=nrfl rfl
theorem outV_nan {n:Nat} {fk:FloatKind}:outV n M (.nan fk) = .nan fk:=nrfl rfl
theorem out1_float {n:Nat} {fk:FloatKind} {u:Nat}:out1 n M (.s (.float fk u)) = .s (.float fk u):=nrfl rfl
theorem binb_eql:binb .eql (.B p) (.B q) = some (.B (p == q)):=nrfl rfl
theorem binb_neq:binb .neq (.B p) (.B q) = some (.B (!(p == q))):=nrfl rfl
theorem un_neg:un .neg (.s (.int k a)) = some (.s (.int k (k.wrap (-a)))):=by simp [un]
theorem un_not:un .not (.B p) = some (.B (!p)):=nrfl rfl
theorem conv_int {k':IntKind}:conv k' (.s (.int k a)) = some (.s (.int k' (k'.wrap a))):=nrfl rfl
theorem pickV_t:pickV (.B true) x y = some x:=nrfl rfl
theorem pickV_f:pickV (.B false) x y = some y:=nrfl rfl
theorem pickV_or:pickV (.B p) (.B true) (.B q) = some (.B (p || q)):=by cases p <;> rfl
theorem pickV_and:pickV (.B p) (.B q) (.B false) = some (.B (p && q)):=by cases p <;> rfl
theorem asNat_int:asNat (.s (.int k a)) = if 0 ≤ a then some a.toNat else none:=nrfl rfl
theorem wrap_in {a:Int} (h:-9223372036854775808 ≤ a ∧ a ≤ 9223372036854775807):IntKind.i64.wrap a = a:=wrap64_in h
theorem extV_tup {i:Nat}:extV i (.tup xs) = xs[i]?:=nrfl rfl
theorem foldO_nil {f:PV → PV → Option PV}:foldO f x [] = some x:=nrfl rfl
theorem foldO_cons {f:PV → PV → Option PV}:foldO f x (y :: xs) = (f x y).bind fun z => foldO f z xs:=nrfl rfl
theorem maxI_int:maxI (.s (.int k a)) (.s (.int k b)) = some (.s (.int k (max a b))):=by
  simp only [maxI,if_true,Option.some.injEq,PV.s.injEq,Value.int.injEq,true_and];omega
theorem minI_int:minI (.s (.int k a)) (.s (.int k b)) = some (.s (.int k (min a b))):=by
  simp only [minI,if_true,Option.some.injEq,PV.s.injEq,Value.int.injEq,true_and];omega
theorem cells_agg:(PV.agg cs).cells = cs:=nrfl rfl
theorem cells_s {v:Value}:(PV.s v).cells = [.s v]:=nrfl rfl
theorem cells_fs:(PV.fs cs).cells = [.fs cs]:=nrfl rfl
theorem cells_os {i v o n:Nat}:(PV.os i v o n).cells = [.os i v o n]:=nrfl rfl
theorem cells_op {i v o n:Nat}:(PV.op i v o n).cells = [.op i v o n]:=nrfl rfl
theorem cells_om {i:Nat}:(PV.om i).cells = [.om i]:=nrfl rfl
theorem cells_fp:(PV.fp cs).cells = [.fp cs]:=nrfl rfl
theorem cells_fn {f:Fn}:(PV.fn f xs ys).cells = [.fn f xs ys]:=nrfl rfl
theorem oneB_int:oneB (.s (.int k a)) = true:=nrfl rfl
theorem oneB_bool:oneB (.s (.bool p)) = true:=nrfl rfl
theorem oneB_str {s:ByteArray}:oneB (.s (.string s)) = true:=nrfl rfl
theorem oneB_nil:oneB (.s (.slice none 0 0)) = true:=nrfl rfl
theorem oneB_fs:oneB (.fs xs) = true:=nrfl rfl
theorem oneB_os {i v o n:Nat}:oneB (.os i v o n) = true:=nrfl rfl
theorem oneB_op {i v o n:Nat}:oneB (.op i v o n) = true:=nrfl rfl
theorem oneB_om {i:Nat}:oneB (.om i) = true:=nrfl rfl
theorem okElem_eq {n:Nat}:okElem n x = (x.cells.length == n && x.cells.all oneB):=nrfl rfl
theorem mkPV_none:mkPV none [x] = some x:=nrfl rfl
theorem mkPV_some {n:Nat} (h:xs.length = n):mkPV (some n) xs = some (.agg xs):=by simp [mkPV,h]
theorem loadPV_fp {n:Nat} (h:n ≤ cs.length):loadPV M (some n) (.fp cs) = some (.agg (cs.take n)):=by
  simp only [loadPV,Option.getD_some];exact mkPV_some (by simp;omega)
theorem loadPV_fp1:loadPV M none (.fp (x :: cs)) = some x:=by simp [loadPV,mkPV]
def cellsR (ver e j n:Nat):Option Blk → Option (List PV)
  | some (.row _ _ v xs) =>
    if v = ver then
      match xs[e]? with
      | some x => if j + n ≤ x.cells.length then some ((x.cells.drop j).take n) else
          if j + n ≤ ((xs.drop e).flatMap PV.cells).length then some ((((xs.drop e).flatMap PV.cells).drop j).take n) else none
      | none => none
    else none
  | _ => none
theorem cellsAt_eq {i ver e j n:Nat}:cellsAt M i ver e j n = cellsR ver e j n M[i]?:=by
  unfold cellsAt
  cases M[i]? with
  | none => rfl
  | some b => cases b <;> rfl
theorem loadPV_op {g:Option Nat} {i ver e j:Nat}:loadPV M g (.op i ver e j) = (cellsR ver e j (g.getD 1) M[i]?).bind fun cs => mkPV g cs:=by
  rw [← cellsAt_eq];rfl
def cellsE (xs:List PV) (e j n:Nat):Option PV → Option (List PV)
  | some x => if j + n ≤ x.cells.length then some ((x.cells.drop j).take n) else
      if j + n ≤ ((xs.drop e).flatMap PV.cells).length then some ((((xs.drop e).flatMap PV.cells).drop j).take n) else none
  | none => none
theorem cellsR_eq {w:Bool} {kk ver e j n:Nat}:cellsR ver e j n (some (.row w kk ver xs)) = cellsE xs e j n xs[e]?:=by
  simp only [cellsR,if_true]
  cases xs[e]? <;> rfl
theorem cellsE_some {e j n:Nat} (h:j + n ≤ x.cells.length):cellsE xs e j n (some x) = some ((x.cells.drop j).take n):=by simp only [cellsE,if_pos h]
def putR (M:List Blk) (i ver e j:Nat) (vs:List PV):Option Blk → Option (List Blk)
  | some (.row true k v xs) =>
    if v = ver then
      match xs[e]? with
      | some x => if j + vs.length ≤ x.cells.length ∧ vs.all oneB then
          (match x with
           | .agg cs => some (M.set i (.row true k v (xs.set e (.agg (setRange cs j vs)))))
           | _ => match vs with
             | [y] => match y with
               | .agg _ => none
               | y => some (M.set i (.row true k v (xs.set e y)))
             | _ => none)
          else none
      | none => none
    else none
  | _ => none
theorem elemPut_eq {i ver e j:Nat} {vs:List PV}:elemPut M i ver e j vs = putR M i ver e j vs M[i]?:=by
  unfold elemPut
  cases M[i]? with
  | none => rfl
  | some b => cases b with
    | row w => cases w <;> rfl
    | _ => rfl
theorem putR_agg {kk i ver e j:Nat} {vs:List PV} (hx:xs[e]? = some (.agg cs)) (h:j + vs.length ≤ cs.length) (h1:vs.all oneB = true) :
    putR M i ver e j vs (some (.row true kk ver xs)) = some (M.set i (.row true kk ver (xs.set e (.agg (setRange cs j vs))))):=by
  unfold putR
  simp only [if_true,hx]
  exact if_pos ⟨h,h1⟩
theorem putR_one {kk i ver e:Nat} {v:PV} (hx:xs[e]? = some x) (hx1:oneB x = true) (h1:oneB v = true) :
    putR M i ver e 0 [v] (some (.row true kk ver xs)) = some (M.set i (.row true kk ver (xs.set e v))):=by
  unfold putR
  simp only [if_true,hx]
  have hc:0 + [v].length ≤ x.cells.length:=by cases x <;> first|(cases hx1;done)|(simp [PV.cells])
  rw [if_pos ⟨hc,by simp [h1]⟩]
  cases x <;> first|(cases hx1;done)|skip
  all_goals (cases v <;> first|(cases h1;done)|rfl)
theorem putR_one1 {kk i ver:Nat} {v:PV} (hx1:oneB x = true) (h1:oneB v = true) :
    putR M i ver 0 0 [v] (some (.row true kk ver [x])) = some (M.set i (.row true kk ver [v])):=by
  rw [putR_one (x:=x) rfl hx1 h1];rfl
def putE (M:List Blk) (i k ver e j:Nat) (xs vs:List PV):Option PV → Option (List Blk)
  | some x => putR M i ver 0 j vs (some (.row true k ver [x])) |>.bind fun _ => putR M i ver e j vs (some (.row true k ver xs))
  | none => none
theorem putR_eq {i kk ver e j:Nat} {vs:List PV}:putR M i ver e j vs (some (.row true kk ver xs)) = putE M i kk ver e j xs vs xs[e]?:=by
  cases h:xs[e]? with
  | none => simp only [putR,if_true,h,putE]
  | some x =>
    simp only [putE]
    simp only [putR,if_true,h,List.getElem?_cons_zero]
    split
    · split
      · rfl
      · split
        · split <;> first|rfl|(rename_i h1 _ _ _ _ h2;exact absurd rfl (h2 _))
        · rfl
    · rfl
theorem putE_agg {kk i ver e j:Nat} {vs:List PV} (h:j + vs.length ≤ cs.length) (h1:vs.all oneB = true) (hx:xs[e]? = some (.agg cs)) :
    putE M i kk ver e j xs vs (some (.agg cs)) = some (M.set i (.row true kk ver (xs.set e (.agg (setRange cs j vs))))):=by
  rw [← hx,← putR_eq,putR_agg hx h h1]
theorem putE_one {kk i ver e:Nat} {v:PV} (hx1:oneB x = true) (h1:oneB v = true) (hx:xs[e]? = some x) :
    putE M i kk ver e 0 xs [v] (some x) = some (M.set i (.row true kk ver (xs.set e v))):=by
  rw [← hx,← putR_eq,putR_one hx hx1 h1]
theorem storeO_op {kk i ver e j:Nat} (h:y.cells.length = kk) (hk:kk ≠ 0):storeO M kk (.op i ver e j) y = (putR M i ver e j y.cells M[i]?).map (unit,·):=by
  rw [← elemPut_eq];simp only [storeO];rw [if_pos ⟨h,hk⟩]
theorem allocO_some {n:Nat}:allocO M n (some x) = some (.op M.length 0 0 0,M ++ [.row true n 0 [x]]):=nrfl rfl
theorem boxO_own {n:Nat} (h:x.cells.length = n) (hn:n ≠ 0):boxO M true n x = some (.op M.length 0 0 0,M ++ [.row true n 0 [x]]):=by simp [boxO,h,hn]
theorem boxO_fp {n:Nat} (h:x.cells.length = n) (hn:n ≠ 0):boxO M false n x = some (.fp (view M x).cells,M):=by simp [boxO,h,hn]
theorem bslO_own {n:Nat} (h:xs.all (fun x => x.cells.length = n) = true) (hn:n ≠ 0):bslO M true n xs = some (.os M.length 0 0 xs.length,M ++ [.row true n 0 xs]):=by
  simp only [bslO];rw [if_pos ⟨h,hn⟩];rfl
theorem bslO_own0 {n:Nat} (hn:n ≠ 0):bslO M true n [] = some (.os M.length 0 0 0,M ++ [.row true n 0 []]):=bslO_own (by simp) hn
theorem bslO_fs0 {n:Nat} (hn:n ≠ 0):bslO M false n [] = some (.fs [],M):=by simp [bslO,hn]
theorem bslO_fs {n:Nat} (h:xs.all (fun x => x.cells.length = n) = true) (hn:n ≠ 0):bslO M false n xs = some (.fs (xs.map (view M)),M):=by
  simp only [bslO];rw [if_pos ⟨h,hn⟩];rfl
theorem mkslO_some {kk bytes:Nat} {g:Option Nat} {zv:List Value} (h0:0 ≤ a) (h1:a ≤ 1048576) (hb:bytes ≤ 1048576) (hz:zv.length = kk) (hk:0 < kk) :
    mkslO M kk g zv bytes (.s (.int .i64 a)) (.s (.int .i64 a)) = (mkPV g (zv.map .s)).map fun e => (.os M.length 0 0 a.toNat,M ++ [.row true kk 0 (List.replicate a.toNat e)]):=by
  exact if_pos ⟨h0,rfl,by omega,by omega,hz,hk⟩
theorem iaddrV_fs {n m:Nat}:iaddrV M n (.fs xs) (some m) = elemP n xs[m]?:=nrfl rfl
theorem elemP_some {n:Nat} (h:x.cells.length = n):elemP n (some x) = some (.fp x.cells):=by simp [elemP,h]
theorem iaddrV_os {n m i ver off len:Nat} (h:m < len):iaddrV M n (.os i ver off len) (some m) = rowP n i ver off len m M[i]?:=by simp [iaddrV,h]
theorem rowP_some {n i ver off len m:Nat} {w:Bool} (h:off + len ≤ xs.length):rowP n i ver off len m (some (.row w n ver xs)) = some (.op i ver (off + m) 0):=by simp [rowP,h]
theorem faddrV_fp {off:Nat} (h:off ≤ cs.length):faddrV M off (.fp cs) = some (.fp (cs.drop off)):=by simp [faddrV,h]
def liveR (ver:Nat):Option Blk → Bool
  | some (.row _ _ v _) => v == ver
  | _ => false
theorem liveRow_eq {i ver:Nat}:liveRow M i ver = liveR ver M[i]?:=by
  unfold liveRow
  cases M[i]? with
  | none => rfl
  | some b => cases b <;> rfl
theorem liveR_some {ver kk:Nat} {w:Bool}:liveR ver (some (.row w kk ver xs)) = true:=by simp [liveR]
theorem faddrV_op {off i ver e j:Nat}:faddrV M off (.op i ver e j) = if liveR ver M[i]? = true then some (.op i ver e (j + off)) else none:=by simp only [faddrV,liveRow_eq]
theorem nilcV_fp:nilcV M (.fp cs) = some (.fp cs):=nrfl rfl
theorem nilcV_op {i ver e j:Nat}:nilcV M (.op i ver e j) = if liveR ver M[i]? = true then some (.op i ver e j) else none:=by simp only [nilcV,liveRow_eq]
theorem nilcV_fn {f:FuncId}:nilcV M (.fn (.func f) xs ys) = some (.fn (.func f) xs ys):=nrfl rfl
theorem fieldV_agg {off:Nat}:fieldV off none (.agg cs) = mkPV none ((cs.drop off).take 1):=nrfl rfl
theorem fieldV_aggs {off n:Nat}:fieldV off (some n) (.agg cs) = mkPV (some n) ((cs.drop off).take n):=nrfl rfl
theorem sliceV_fs {n:Nat} {lo hi:Option PV} (h:sized n xs = true):sliceV M n (.fs xs) lo hi = (bounds xs.length lo hi).map fun b => .fs ((xs.drop b.1).take (b.2 - b.1)):=by simp [sliceV,h]
theorem sized_nil {n:Nat}:sized n [] = true:=nrfl rfl
theorem natZ:((0:Nat):Int) = 0:=nrfl rfl
theorem natO:((1:Nat):Int) = 1:=nrfl rfl
theorem min10:min (1:Int) 0 = 0:=nrfl rfl
theorem sliceV_nil {n:Nat} {lo hi:Option PV}:sliceV M n (.s (.slice none 0 0)) lo hi = (bounds 0 lo hi).map fun _ => PV.nilS:=nrfl rfl
def rowKR:Option Blk → Nat
  | some (.row _ k _ _) => k
  | _ => 0
theorem rowK_eq {i:Nat}:rowK M i = rowKR M[i]?:=by
  unfold rowK
  cases M[i]? with
  | none => rfl
  | some b => cases b <;> rfl
def sliceR (i ver off len n:Nat) (lo hi:Option PV):Option Blk → Option PV
  | some (.row _ k v _) => if v = ver ∧ k = n then (bounds len lo hi).map fun b => .os i ver (off + b.1) (b.2 - b.1) else none
  | _ => none
theorem sliceV_os {n i ver off len:Nat} {lo hi:Option PV}:sliceV M n (.os i ver off len) lo hi = sliceR i ver off len n lo hi M[i]?:=by
  simp only [sliceV,liveRow_eq,rowK_eq]
  cases M[i]? with
  | none => rfl
  | some b => cases b <;> simp [liveR,rowKR,sliceR]
theorem sliceR_row {n i ver off len:Nat} {lo hi:Option PV} {w:Bool}:sliceR i ver off len n lo hi (some (.row w n ver xs)) = (bounds len lo hi).map fun b => .os i ver (off + b.1) (b.2 - b.1):=by simp [sliceR]
theorem iaddraV_op {n k a ver e j m:Nat}:iaddraV M n k (.op a ver e j) (some m) = if m < n ∧ liveR ver M[a]? = true then some (.op a ver e (j + m * k)) else none:=by simp only [iaddraV,liveRow_eq]
theorem iaddraV_fp {n k m:Nat}:iaddraV M n k (.fp cs) (some m) = if m < n ∧ n * k ≤ cs.length then some (.fp ((cs.drop (m * k)).take k)) else none:=nrfl rfl
theorem arrpV_fs {n:Nat}:arrpV M n (.fs xs) = if n ≤ xs.length ∧ 0 < n then some (.fp ((xs.take n).flatMap PV.cells)) else none:=nrfl rfl
theorem bounds_eq {n:Nat} {lo hi:Option PV}:bounds n lo hi = (hiN n hi).bind fun h => (loN lo).bind fun l => if l ≤ h ∧ h ≤ n then some (l,h) else none:=nrfl rfl
theorem hiN_none {n:Nat}:hiN n none = some n:=nrfl rfl
theorem hiN_some {n:Nat} {v:PV}:hiN n (some v) = asNat v:=nrfl rfl
theorem loN_none:loN none = some 0:=nrfl rfl
theorem loN_some {v:PV}:loN (some v) = asNat v:=nrfl rfl
theorem held_fs:held M (.fs xs) = some xs:=nrfl rfl
theorem held_nil:held M (.s (.slice none 0 0)) = some []:=nrfl rfl
def heldR (ver off len:Nat):Option Blk → Option (List PV)
  | some (.row _ _ v xs) => if v = ver ∧ off + len ≤ xs.length then some ((xs.drop off).take len) else none
  | _ => none
theorem held_os {i ver off len:Nat}:held M (.os i ver off len) = heldR ver off len M[i]?:=by
  unfold held
  simp only [heldR]
  cases M[i]? with
  | none => rfl
  | some b => cases b <;> rfl
theorem heldR_all {ver kk len:Nat} {w:Bool} (h:len = xs.length):heldR ver 0 len (some (.row w kk ver xs)) = some xs:=by subst h;simp [heldR]
theorem heldR_some {ver kk off len:Nat} {w:Bool} (h:off + len ≤ xs.length):heldR ver off len (some (.row w kk ver xs)) = some ((xs.drop off).take len):=by simp [heldR,h]
theorem arrpV_os {n i ver off len:Nat}:arrpV M n (.os i ver off len) = if n ≤ len ∧ 0 < n then (heldR ver off len M[i]?).map fun _ => .op i ver off 0 else none:=by simp only [arrpV,held_os]
def viewR (i ver off len:Nat):Option Blk → PV
  | some (.row false _ v xs) => if v = ver ∧ off + len ≤ xs.length then .fs ((xs.drop off).take len) else .os i ver off len
  | _ => .os i ver off len
theorem view_int:view M (.s (.int k a)) = .s (.int k a):=nrfl rfl
theorem view_bool:view M (.B p) = .B p:=nrfl rfl
theorem view_str {s:ByteArray}:view M (.s (.string s)) = .s (.string s):=nrfl rfl
theorem view_nil:view M (.s (.slice none 0 0)) = .fs []:=nrfl rfl
theorem view_fs:view M (.fs xs) = .fs xs:=nrfl rfl
theorem view_fp:view M (.fp xs) = .fp xs:=nrfl rfl
theorem view_om {i:Nat}:view M (.om i) = .om i:=nrfl rfl
theorem view_op {i v e j:Nat}:view M (.op i v e j) = .op i v e j:=nrfl rfl
theorem view_yl {i:Nat}:view M (.yl i) = .yl i:=nrfl rfl
theorem view_fn {f:Fn}:view M (.fn f xs ys) = .fn f xs ys:=nrfl rfl
theorem view_tup:view M (.tup xs) = .tup xs:=nrfl rfl
theorem view_top:view M .top = .top:=nrfl rfl
theorem view_agg:view M (.agg cs) = .agg (cs.map (view1 M)):=nrfl rfl
theorem view1_int:view1 M (.s (.int k a)) = .s (.int k a):=nrfl rfl
theorem view1_bool:view1 M (.B p) = .B p:=nrfl rfl
theorem view1_str {s:ByteArray}:view1 M (.s (.string s)) = .s (.string s):=nrfl rfl
theorem view1_nil:view1 M (.s (.slice none 0 0)) = .fs []:=nrfl rfl
theorem view1_fs:view1 M (.fs xs) = .fs xs:=nrfl rfl
theorem view_os {i ver off len:Nat}:view M (.os i ver off len) = viewR i ver off len M[i]?:=by
  simp only [view,view1]
  cases M[i]? with
  | none => rfl
  | some b => cases b with
    | row w => cases w <;> rfl
    | _ => rfl
theorem view1_os {i ver off len:Nat}:view1 M (.os i ver off len) = viewR i ver off len M[i]?:=by rw [← view_os];rfl
theorem viewR_true {i ver off len kk v:Nat}:viewR i ver off len (some (.row true kk v xs)) = .os i ver off len:=nrfl rfl
theorem viewR_all {i ver kk len:Nat} (h:len = xs.length):viewR i ver 0 len (some (.row false kk ver xs)) = .fs xs:=by subst h;simp [viewR]
theorem argV_t {ρ:CX → PV} {n:Nat}:argV M ρ (.t n) = view M (ρ (.t n)):=nrfl rfl
theorem argV_k {ρ:CX → PV} {v:Value}:argV M ρ (.k v) = .s v:=nrfl rfl
theorem argV_f {ρ:CX → PV} {f:FuncId}:argV M ρ (.f f) = view M (ρ (.f f)):=nrfl rfl
def frzR (M:List Blk) (i:Nat):Option Blk → Option (List Blk)
  | some (.row _ k v xs) => some (M.set i (.row false k v xs))
  | _ => none
theorem freezeAll_os {i ver off len:Nat}:freezeAll M [.os i ver off len] = frzR M i M[i]?:=by
  simp only [freezeAll,freeze]
  cases M[i]? with
  | none => rfl
  | some b => cases b <;> rfl
theorem freezeAll_fs:freezeAll M [.fs xs] = some M:=nrfl rfl
theorem freezeAll_nil:freezeAll M [.s (.slice none 0 0)] = some M:=nrfl rfl
theorem frzR_row {i kk v:Nat} {w:Bool}:frzR M i (some (.row w kk v xs)) = some (M.set i (.row false kk v xs)):=nrfl rfl
theorem freezeO_some:freezeO (some (x,M)) = (freezeAll M x.cells).map fun M' => (view M' x,M'):=nrfl rfl
theorem eqCells_nil:eqCells [] [] [] = some true:=nrfl rfl
theorem eqCells_int {ks:List SK}:eqCells (.int :: ks) (.s (.int k a) :: xs) (.s (.int k b) :: ys) = (eqCells ks xs ys).map fun r => decide (a = b) && r:=by
  simp only [eqCells,eqSK,if_true,bind,Option.bind_some,pure]
  cases eqCells ks xs ys with
  | none => rfl
  | some r => simp only [Option.bind_some,Option.map_some];congr
theorem eqCells_bool {ks:List SK}:eqCells (.bool :: ks) (.B p :: xs) (.B q :: ys) = (eqCells ks xs ys).map fun r => (p == q) && r:=by
  simp only [eqCells,eqSK,bind,Option.bind_some,pure]
  cases eqCells ks xs ys <;> rfl
theorem eqsV_agg {neg:Bool} {lay:List SK}:eqsV neg lay (.agg xs) (.agg ys) = (eqCells lay xs ys).map fun r => .B (if neg = true then !r else r):=nrfl rfl
def nilAt (j:Nat):Option PV → Bool
  | some x => match x.cells[j]? with
    | some (.s (.slice none 0 0)) => true
    | _ => false
  | none => false
def ownR (M:List Blk) (a ver e j k:Nat):Option Blk → Option (List Blk)
  | some (.row w kk v xs) => if nilAt j xs[e]? = true then (putR M a ver e j [.os M.length 0 0 0] (some (.row w kk v xs))).map (· ++ [.row true k 0 []]) else none
  | _ => none
def ownO (M:List Blk) (j k:Nat):PV → Option (List Blk)
  | .op a ver e j0 => ownR M a ver e (j0 + j) k M[a]?
  | _ => none
def ownP (Q:Post) (t:List PV):Option (List Blk) → Prop
  | some M' => Q .normal M' t
  | none => False
theorem Wp_own {C:CallR} {n0:Nat} {Q:Post} {t:List PV} {i j k:Nat}:Wp C n0 (.own i j k) Q M t = ownP Q t (ownO M j k (t.getD i .top)):=by
  apply propext
  show (∃ M',ownNil M (t.getD i .top) j k = some M' ∧ Q .normal M' t) ↔ _
  have:ownNil M (t.getD i .top) j k = ownO M j k (t.getD i .top):=by
    generalize t.getD i .top = p
    cases p <;> try rfl
    rename_i a ver e j0
    simp only [ownNil,ownO]
    cases hb:M[a]? with
    | none => rfl
    | some b =>
      cases b <;> try rfl
      rename_i w kk v xs
      simp only [ownR,← hb,← elemPut_eq]
      cases hx:xs[e]? with
      | none => rfl
      | some x =>
        simp only [Option.map_some,Option.bind_some]
        by_cases hn:nilAt (j0 + j) (some x) = true
        · rw [if_pos hn]
          simp only [nilAt] at hn
          split at hn
          · rename_i h3;rw [h3];rfl
          · cases hn
        · rw [if_neg hn]
          split
          · rename_i h3;exfalso;apply hn;simp only [nilAt];rw [h3];rfl
          · rfl
  rw [this]
  cases ownO M j k (t.getD i .top) with
  | none => simp [ownP]
  | some M' => simp [ownP]
theorem ownP_some {Q:Post} {t:List PV} {M':List Blk}:ownP Q t (some M') = Q .normal M' t:=nrfl rfl
theorem ownO_op {a ver e j0 j k:Nat}:ownO M j k (.op a ver e j0) = ownR M a ver e (j0 + j) k M[a]?:=nrfl rfl
theorem ownR_one {a ver k:Nat} {kk:Nat}:ownR M a ver 0 0 k (some (.row true kk ver [.s (.slice none 0 0)])) = some (M.set a (.row true kk ver [.os M.length 0 0 0]) ++ [.row true k 0 []]):=by
  show (putR M a ver 0 0 [.os M.length 0 0 0] _).map _ = _
  rw [putR_one1 rfl rfl];rfl
section
variable {C:CallR} {d:Option Nat} {os:List (COper × Option Nat)} {tr:List Foot} {K:List Foot → List Blk → List PV → Prop} {t:List PV}
def dK (C:CallR) (os:List (COper × Option Nat)) (tr:List Foot) (fp:Foot) (K:List Foot → List Blk → List PV → Prop) (n:Nat) (M:List Blk) (t:List PV):Prop:=M.length = n ∧ wpD C os (tr ++ [fp]) K M t
theorem dK_eq {fp:Foot} {n:Nat}:dK C os tr fp K n M t = (M.length = n ∧ wpD C os (tr ++ [fp]) K M t):=nrfl rfl
theorem d_op {o:COp}:wpD C ((⟨d,o,none⟩,none) :: os) tr K M t = wpOps C [⟨d,o,none⟩] (dK C os tr (fpOp (ev t) o) K M.length) M t:=by
  apply propext
  constructor
  · rintro ⟨_,v,M',h1,h2,h3⟩
    exact ⟨v,M',h1,h2,h3⟩
  · rintro ⟨v,M',h1,h2,h3⟩
    exact ⟨rfl,v,M',h1,h2,h3⟩
theorem d_nil:wpD C [] tr K M t = K tr M t:=nrfl rfl
def allocD (C:CallR) (os:List (COper × Option Nat)) (tr:List Foot) (K:List Foot → List Blk → List PV → Prop) (M:List Blk) (t:List PV) (d:Option Nat) (i n:Nat):Option PV → Option Blk → Prop
  | some e,some (.row false 0 0 []) => wpD C os (tr ++ [some ([],[i])]) K (M.set i (.row true n 1 [e])) (put t d (.op i 1 0 0))
  | _,_ => False
theorem d_alloc {g:Option Nat} {z:List Value} {r:Nat}:wpD C ((⟨d,.alloc g z,none⟩,some r) :: os) tr K M t = allocD C os tr K M t d (M.length - r) z.length (mkPV g (z.map .s)) M[M.length - r]?:=by
  apply propext
  constructor
  · rintro ⟨_,v,M',⟨o,k,xs,h1,h2,rfl,rfl⟩,h4,h5⟩
    simp only [allocB,Option.map_eq_some_iff] at h1
    obtain ⟨e,h6,h7⟩:=h1
    cases h7
    rw [h6,h2]
    exact h5
  · intro h
    cases he:mkPV g (z.map .s) with
    | none => rw [he] at h;exact h.elim
    | some e =>
      rw [he] at h
      cases hb:M[M.length - r]? with
      | none => rw [hb] at h;exact h.elim
      | some b =>
        rw [hb] at h
        unfold allocD at h
        split at h
        · rename_i h1 h2
          cases h1;cases h2
          exact ⟨rfl,_,_,⟨true,z.length,[_],by simp only [allocB,he];rfl,hb,rfl,rfl⟩,by simp,h⟩
        · exact h.elim
theorem allocD_some {i n:Nat}:allocD C os tr K M t d i n (some x) (some (.row false 0 0 [])) = wpD C os (tr ++ [some ([],[i])]) K (M.set i (.row true n 1 [x])) (put t d (.op i 1 0 0)):=nrfl rfl
def bslD (C:CallR) (os:List (COper × Option Nat)) (tr:List Foot) (K:List Foot → List Blk → List PV → Prop) (M:List Blk) (t:List PV) (d:Option Nat) (i k:Nat) (vs:List PV):Option Blk → Prop
  | some (.row false 0 0 []) => if vs.all (fun x => x.cells.length = k) ∧ k ≠ 0 then wpD C os (tr ++ [some ([],[i])]) K (M.set i (.row true k 1 vs)) (put t d (.os i 1 0 vs.length)) else False
  | _ => False
theorem d_bsl {k r:Nat} {xs:List CX}:wpD C ((⟨d,.bsl true k xs,none⟩,some r) :: os) tr K M t = bslD C os tr K M t d (M.length - r) k (xs.map (ev t)) M[M.length - r]?:=by
  apply propext
  constructor
  · rintro ⟨_,v,M',⟨o,k',ys,h1,h2,rfl,rfl⟩,h4,h5⟩
    simp only [allocB] at h1
    split at h1
    · rename_i hc
      cases h1
      rw [h2]
      show (if _ then _ else _)
      rw [if_pos hc.2]
      simpa [fpD] using h5
    · cases h1
  · intro h
    cases hb:M[M.length - r]? with
    | none => rw [hb] at h;exact h.elim
    | some b =>
      rw [hb] at h
      unfold bslD at h
      split at h
      · rename_i h2
        cases h2
        split at h
        · rename_i hc
          exact ⟨rfl,_,_,⟨false,k,xs.map (ev t),if_pos ⟨rfl,hc⟩,hb,rfl,rfl⟩,by simp,by simpa [fpD] using h⟩
        · exact h.elim
      · exact h.elim
theorem bslD_nil {i k:Nat} (hk:k ≠ 0):bslD C os tr K M t d i k [] (some (.row false 0 0 [])) = wpD C os (tr ++ [some ([],[i])]) K (M.set i (.row true k 1 [])) (put t d (.os i 1 0 0)):=by
  show (if _ then _ else _) = _
  rw [if_pos ⟨by simp,hk⟩];rfl
theorem hole_eq:hole = .row false 0 0 []:=nrfl rfl
theorem refs_op {i v e j:Nat}:refs (.op i v e j) = [i]:=nrfl rfl
theorem refs_os {i v e j:Nat}:refs (.os i v e j) = [i]:=nrfl rfl
theorem refs_om {i:Nat}:refs (.om i) = [i]:=nrfl rfl
theorem refs_oi {i:Nat}:refs (.oi i) = [i]:=nrfl rfl
theorem refs_fs:refs (.fs xs) = []:=nrfl rfl
theorem refs_fp:refs (.fp xs) = []:=nrfl rfl
theorem refs_s {v:Value}:refs (.s v) = []:=nrfl rfl
end
theorem mkRes_one {n:Nat}:mkRes n M [x] = outV n M x:=nrfl rfl
theorem mkRes_two {n:Nat}:mkRes n M (x :: y :: xs) = .tup ((x :: y :: xs).map (outV n M)):=nrfl rfl
theorem outV_int {n:Nat}:outV n M (.s (.int k a)) = .s (.int k a):=nrfl rfl
theorem outV_bool {n:Nat}:outV n M (.B p) = .B p:=nrfl rfl
theorem outV_str {n:Nat} {s:ByteArray}:outV n M (.s (.string s)) = .s (.string s):=nrfl rfl
theorem outV_nil {n:Nat}:outV n M (.s (.slice none 0 0)) = .fs []:=nrfl rfl
theorem outV_fs {n:Nat}:outV n M (.fs xs) = .fs xs:=nrfl rfl
theorem outV_agg {n:Nat}:outV n M (.agg cs) = .agg (cs.map (out1 n M)):=nrfl rfl
theorem outV_fn {n:Nat} {f:Fn}:outV n M (.fn f xs ys) = .fn f xs ys:=nrfl rfl
theorem out1_int {n:Nat}:out1 n M (.s (.int k a)) = .s (.int k a):=nrfl rfl
theorem out1_bool {n:Nat}:out1 n M (.B p) = .B p:=nrfl rfl
theorem out1_str {n:Nat} {s:ByteArray}:out1 n M (.s (.string s)) = .s (.string s):=nrfl rfl
theorem out1_fs {n:Nat}:out1 n M (.fs xs) = .fs xs:=nrfl rfl
theorem out1_nil {n:Nat}:out1 n M (.s (.slice none 0 0)) = .fs []:=nrfl rfl
def orTop:Option (List PV) → PV
  | some xs => .fs xs
  | none => .top
theorem out1_os {n i ver off len:Nat} (h:n ≤ i):out1 n M (.os i ver off len) = orTop (heldR ver off len M[i]?):=by
  rw [← held_os];simp only [out1];rw [if_pos h];cases held M (.os i ver off len) <;> rfl
theorem outV_os {n i ver off len:Nat} (h:n ≤ i):outV n M (.os i ver off len) = orTop (heldR ver off len M[i]?):=out1_os h
theorem orTop_some:orTop (some xs) = .fs xs:=nrfl rfl
theorem resOf_nil {t:List PV}:resOf M t [] = some []:=nrfl rfl
theorem resOf_cons {t:List PV} {i:Nat} {r:List (Nat × Option (Option Nat))}:resOf M t ((i,none) :: r) = (resOf M t r).map (t.getD i .top :: ·):=nrfl rfl
def consO:Option PV → Option (List PV) → Option (List PV)
  | some v,some vs => some (v :: vs)
  | _,_ => none
theorem resOf_cell {t:List PV} {i:Nat} {g:Option Nat} {r:List (Nat × Option (Option Nat))}:resOf M t ((i,some g) :: r) = consO (loadPV M g (t.getD i .top)) (resOf M t r):=by
  simp only [resOf,res,ev]
  cases loadPV M g (t.getD i .top) <;> cases resOf M t r <;> rfl
theorem consO_some {vs:List PV}:consO (some x) (some vs) = some (x :: vs):=nrfl rfl
theorem range_mk {C:CallR} {n0 n:Nat} {Q:Post} {kvs:List (Nat × PV)} {f:CX} {ps:List Nat} {A B:CCode} {g:FuncId} {cap:List PV} {M':List Blk} {t':List PV} {ps':List Nat} {A' B':CCode}
    (hf:ev (mk n kvs) f = .fn (.func g) [] cap) (hc:C (.fn g) (.yl M.length :: cap) (M ++ [.loop .ready none (mk n kvs) ps A B]) (.tup []) (M' ++ [.loop .ready none t' ps' A' B']))
    (hl:M'.length = M.length) (hlow:lowM M.length M') (hq:Q .normal M' (mk n kvs)):Wp C n0 (.rangeFunc f ps A B) Q M (mk n kvs) :=
  ⟨g,[],cap,M',.ready,none,t',ps',A',B',hf,hc,hl,hlow,by decide,hq⟩
def RoundK (C:CallR) (m i n:Nat) (kvs:List (Nat × PV)) (ps:List Nat) (A B:CCode) (r:PV) (M':List Blk) (M1:List Blk) (t1:List PV):Prop :=
  (∃ ts' ps' a' b',M1[i]? = some (.loop .ready none ts' ps' a' b')) ∧ Wp C m B (roundPost m i ps A B (mk n kvs) r M') (M1.set i (.loop .busy none (mk n kvs) ps A B)) t1
theorem roundK {C:CallR} {m i n:Nat} {kvs:List (Nat × PV)} {ps:List Nat} {A B:CCode} {r:PV} {M' M1:List Blk} {t1:List PV} {ts':List PV} {ps':List Nat} {a' b':CCode} (h:M1[i]? = some (.loop .ready none ts' ps' a' b'))
    (hw:Wp C m B (roundPost m i ps A B (mk n kvs) r M') (M1.set i (.loop .busy none (mk n kvs) ps A B)) t1):RoundK C m i n kvs ps A B r M' M1 t1:=⟨⟨_,_,_,_,h⟩,hw⟩
theorem yield_mk {F:Prog} {X:XRel} {i n p:Nat} {kvs:List (Nat × PV)} {A B:CCode} {r:PV} {M':List Blk} (hi:M[i]? = some (.loop .ready none (mk n kvs) [p] A B))
    (h:lowM M.length M → lowL M.length [x] → Wp (ACall F X) M.length A (thenK (RoundK (ACall F X) M.length i n kvs [p] A B r M') (fun _ _ _ => False)) M (mk n ((p,x) :: kvs))):ACall F X (.yl i) [x] M r M':=by
  refine ACall_yl hi rfl fun h1 h2 => ?_
  have:=h h1 h2
  simp only [List.zip_cons_cons,List.zip_nil_right,List.foldl_cons,List.foldl_nil,mk_set]
  exact this
theorem low_s {n:Nat} {v:Value}:(PV.s v).low n = True:=by simp [PV.low]
theorem low_agg {n:Nat}:(PV.agg cs).low n = lowL n cs:=by simp [PV.low]
theorem low_tup {n:Nat}:(PV.tup cs).low n = lowL n cs:=by simp [PV.low]
theorem low_fs {n:Nat}:(PV.fs cs).low n = lowL n cs:=by simp [PV.low]
theorem low_fp {n:Nat}:(PV.fp cs).low n = lowL n cs:=by simp [PV.low]
theorem low_os {n i v o l:Nat}:(PV.os i v o l).low n = (i < n):=by simp [PV.low]
theorem low_op {n i v o l:Nat}:(PV.op i v o l).low n = (i < n):=by simp [PV.low]
theorem low_om {n i:Nat}:(PV.om i).low n = (i < n):=by simp [PV.low]
theorem low_fn {n:Nat} {f:Fn}:(PV.fn f xs ys).low n = (lowL n xs ∧ lowL n ys):=by simp [PV.low]
theorem low_nan {n:Nat} {fk:FloatKind}:(PV.nan fk).low n = True:=by simp [PV.low]
theorem low_oi {n i:Nat}:(PV.oi i).low n = (i < n):=by simp [PV.low]
theorem low_yl {n i:Nat}:(PV.yl i).low n = (i < n):=by simp [PV.low]
theorem low_top {n:Nat}:PV.top.low n = True:=by simp [PV.low]
theorem lowL_nil {n:Nat}:lowL n [] = True:=by simp [lowL]
theorem lowL_cons {n:Nat}:lowL n (x :: xs) = (x.low n ∧ lowL n xs):=by simp [lowL]
def Clean (x:PV):Prop:=∀ n,x.low n
theorem lowL_map' {α:Type} {f:α → PV} {n:Nat} {l:List α} (h:∀ a,(f a).low n):lowL n (l.map f) = True:=eq_true (lowL_map f l h)
theorem Wp_cut_at {C:CallR} {n0:Nat} {Q:Post} {N:List Blk} {t:List PV} (hM:lowM M.length M) (hn:n0 = M.length) (j:Nat) (hj:j ≤ N.length) (hN:lowM (M.length + j) (N.take j)) (ht:lowL (M.length + j) t) (hq:Q .normal (M ++ N.take j) t) :
    Wp C n0 .cut Q (M ++ N) t:=by
  subst hn
  refine ⟨M.length + j,by omega,by simp;omega,?_,ht,?_⟩
  · rw [takeM];exact (lowM_append _ _).2 ⟨lowM_mono (by omega) hM,hN⟩
  · rw [takeM];exact hq
theorem post_fin {n:Nat} {rs:List (Nat × Option (Option Nat))} {r:PV} {N:List Blk} {t:List PV} {e:Ex} (he:(match e with|.ret|.normal => True|_ => False)) (hM:lowM M.length M) (hn:n = M.length)
    (h:(resOf (M ++ N) t rs).map (mkRes M.length (M ++ N)) = some r) (hl:r.low M.length):bodyPost n rs r M e (M ++ N) t:=by
  cases hv:resOf (M ++ N) t rs with
  | none => rw [hv] at h;cases h
  | some vs => rw [hv] at h;exact post_ret he hM hn hv (Option.some.inj h) hl
theorem post_fin0 {n:Nat} {rs:List (Nat × Option (Option Nat))} {r:PV} {t:List PV} {e:Ex} (he:(match e with|.ret|.normal => True|_ => False)) (hM:lowM M.length M) (hn:n = M.length)
    (h:(resOf M t rs).map (mkRes M.length M) = some r) (hl:r.low M.length):bodyPost n rs r M e M t:=by
  cases hv:resOf M t rs with
  | none => rw [hv] at h;cases h
  | some vs => rw [hv] at h;exact post_ret0 he hM hn hv (Option.some.inj h) hl
theorem own_fin {rs:List (Nat × Option (Option Nat))} {N:List Blk} {t:List PV} {e:Ex} {j k v off len:Nat} (he:(match e with|.ret|.normal => True|_ => False)) (hM:lowM M.length M)
    (hv:resOf (M ++ N) t rs = some [.os (M.length + j) v off len]) (hj:N[j]? = some (.row true k v xs)) (hx:lowL M.length xs):ownPost M.length rs (.os M.length v off len) (M ++ [.row true k v xs]) e (M ++ N) t:=by
  refine ⟨he,by simp,by simpa using hM,M.length + j,v,off,len,k,xs,hv,by omega,by rw [getMj];exact hj,hx,rfl,by simp⟩
theorem lowM_nil' {n:Nat}:lowM n [] = True:=eq_true lowM_nil
theorem lowM_cons' {n:Nat} {b:Blk} {bs:List Blk}:lowM n (b :: bs) = (b.low n ∧ lowM n bs):=propext (lowM_cons b bs)
theorem lowL_app' {n:Nat}:lowL n (xs ++ ys) = (lowL n xs ∧ lowL n ys):=propext (lowL_append xs ys)
theorem blow_row {w:Bool} {kk v n:Nat}:(Blk.row w kk v xs).low n = lowL n xs:=nrfl rfl
theorem blow_siter {s:ByteArray} {p n:Nat}:(Blk.siter s p).low n = True:=nrfl rfl
theorem blow_map {es:List (Value × Value)} {n:Nat}:(Blk.map es).low n = True:=nrfl rfl
theorem take_snoc {α β:Type} {l:List α} {i:Nat} {x:α} {f:α → β} (h:l[i]? = some x):(l.take (i + 1)).map f = (l.take i).map f ++ [f x]:=by
  obtain ⟨h1,h2⟩:=List.getElem?_eq_some_iff.1 h
  rw [List.take_succ_eq_append_getElem h1,h2,List.map_append];rfl
theorem mk0 (n:Nat):[] ++ List.replicate (n - ([]:List PV).length) .top = mk n []:=mk_zip [] n (Nat.zero_le _)
theorem mk1 (n:Nat) (h:1 ≤ n) (a:PV):[a] ++ List.replicate (n - [a].length) .top = mk n [(0,a)]:=mk_zip [a] n h
theorem mk2 (n:Nat) (h:2 ≤ n) (a b:PV):[a,b] ++ List.replicate (n - [a,b].length) .top = mk n [(0,a),(1,b)]:=mk_zip [a,b] n h
theorem mk3 (n:Nat) (h:3 ≤ n) (a b c:PV):[a,b,c] ++ List.replicate (n - [a,b,c].length) .top = mk n [(0,a),(1,b),(2,c)]:=mk_zip [a,b,c] n h
theorem ret_ok:(match Ex.ret with|.ret|.normal => True|_ => False):=trivial
theorem normal_ok:(match Ex.normal with|.ret|.normal => True|_ => False):=trivial
end
end Go.Nac
namespace Go.Nac
structure Rev where
  at_:Int
  ld:Int
  deriving DecidableEq
def encRev (x:Rev):PV:=.agg [.I x.at_,.I x.ld]
theorem encRev_low1 {n:Nat} (x:Rev):(encRev x).low n = True:=eq_true (by simp [encRev,PV.low,lowL])
structure Cyc where
  from_:Int
  to_:Int
  lo:Int
  hi:Int
  deriving DecidableEq
def encCyc (x:Cyc):PV:=.agg [.I x.from_,.I x.to_,.I x.lo,.I x.hi]
theorem encCyc_low1 {n:Nat} (x:Cyc):(encCyc x).low n = True:=eq_true (by simp [encCyc,PV.low,lowL])
structure Life where
  cap:Int
  exp:Int
  deriving DecidableEq
def encLife (x:Life):PV:=.agg [.I x.cap,.I x.exp]
theorem encLife_low1 {n:Nat} (x:Life):(encLife x).low n = True:=eq_true (by simp [encLife,PV.low,lowL])
structure Cls where
  num:Int
  cnt:Int
  deriving DecidableEq
def encCls (x:Cls):PV:=.agg [.I x.num,.I x.cnt]
theorem encCls_low1 {n:Nat} (x:Cls):(encCls x).low n = True:=eq_true (by simp [encCls,PV.low,lowL])
structure Pnt where
  x:Int
  y:Int
  deriving DecidableEq
def encPnt (x:Pnt):PV:=.agg [.I x.x,.I x.y]
theorem encPnt_low1 {n:Nat} (x:Pnt):(encPnt x).low n = True:=eq_true (by simp [encPnt,PV.low,lowL])
end Go.Nac
namespace Go.Nac
def YieldsF (F:Prog) (X:XRel) (g:FuncId) (cap:List PV) (xs:List PV):Prop :=
  ∀ (i:Nat) (N:Nat → List Blk),(∀ k,k ≤ xs.length → (N k).length = (N 0).length ∧ lowM (N k).length (N k)) →
    (∀ k x E,xs[k]? = some x → ACall F X (.yl i) [x] (N k ++ E) (.B true) (N (k + 1) ++ E)) → ACall F X (.fn g) (.yl i :: cap) (N 0) (.tup []) (N xs.length)
def RoundE (N:List Blk):Post:=fun e M' _ => e = .normal ∧ ∃ T,M' = N ++ T
theorem roundE {N M':List Blk} {t:List PV} (T:List Blk) (h:M' = N ++ T):RoundE N .normal M' t:=⟨rfl,T,h⟩
def RoundA (C:CallR) (m i:Nat) (L LB:Blk) (B:CCode) (N M1:List Blk) (t1:List PV):Prop:=M1[i]? = some L ∧ Wp C m B (RoundE N) (M1.set i LB) t1
theorem roundA {C:CallR} {m i:Nat} {L LB:Blk} {B:CCode} {N M1:List Blk} {t1:List PV} (h:M1[i]? = some L) (hw:Wp C m B (RoundE N) (M1.set i LB) t1):RoundA C m i L LB B N M1 t1:=⟨h,hw⟩
theorem range_iter {F:Prog} {X:XRel} {g:FuncId} {cap xs:List PV} (hg:YieldsF F X g cap xs) {n0 n p:Nat} {Q:Post} {kvs:List (Nat × PV)} {f:CX} {A B:CCode} {M:List Blk} (R:Nat → List Blk)
    (hM:lowM M.length M) (hf:ev (mk n kvs) f = .fn (.func g) [] cap) (hlen:∀ k,(R k).length = (R 0).length) (hlow:∀ k,k ≤ xs.length → lowM (M.length + (R 0).length) (R k)) (ht:lowL (M.length + (R 0).length) (kvs.map Prod.snd))
    (hy:∀ k x E L LB,xs[k]? = some x → lowM (M.length + ((R k).length + (1 + E.length))) E →
      Wp (ACall F X) (M.length + ((R k).length + (1 + E.length))) A (thenK (RoundA (ACall F X) (M.length + ((R k).length + (1 + E.length))) (M.length + (R k).length) L LB B (M ++ (R (k + 1) ++ LB :: E))) (fun _ _ _ => False)) (M ++ (R k ++ L :: E)) (mk n ((p,x) :: kvs)))
    (hq:Q .normal (M ++ R xs.length) (mk n kvs)):Wp (ACall F X) n0 (.rangeFunc f [p] A B) Q (M ++ R 0) (mk n kvs):=by
  have hlowR:∀ k,k ≤ xs.length → lowM (M.length + (R 0).length) (M ++ R k):=fun k hk => (lowM_append _ _).2 ⟨lowM_mono (by omega) hM,hlow k hk⟩
  have key:=hg (M.length + (R 0).length) (fun k => (M ++ R k) ++ [.loop .ready none (mk n kvs) [p] A B]) (fun k hk => ?_) (fun k x E hx => ?_)
  · refine range_mk (M':=M ++ R xs.length) (A':=A) (B':=B) (ps':=[p]) (t':=mk n kvs) hf ?_ ?_ ?_ hq
    · rw [List.length_append];exact key
    · simp [hlen]
    · rw [List.length_append];exact hlowR _ (Nat.le_refl _)
  · have e:((M ++ R k) ++ [Blk.loop .ready none (mk n kvs) [p] A B]).length = M.length + (R 0).length + 1:=by simp [hlen k];omega
    refine ⟨by rw [e];simp;omega,?_⟩
    rw [e]
    refine (lowM_append _ _).2 ⟨lowM_mono (by omega) (hlowR k hk),?_⟩
    refine (lowM_cons _ _).2 ⟨?_,lowM_nil⟩
    exact lowL_mono (by omega) _ (lowL_mk ht)
  · have hkx:k < xs.length:=(List.getElem?_eq_some_iff.1 hx).1
    have hi:((M ++ R k) ++ [Blk.loop .ready none (mk n kvs) [p] A B] ++ E)[M.length + (R 0).length]? = some (.loop .ready none (mk n kvs) [p] A B):=by
      rw [List.append_assoc,List.getElem?_append_right (by simp [hlen k]),List.length_append,hlen k,Nat.sub_self];rfl
    refine yield_mk hi fun h1 h2 => ?_
    have e:((M ++ R k) ++ [Blk.loop .ready none (mk n kvs) [p] A B] ++ E).length = M.length + ((R k).length + (1 + E.length)):=by simp;omega
    rw [e] at h1 ⊢
    have hE:lowM (M.length + ((R k).length + (1 + E.length))) E:=((lowM_append _ _).1 h1).2
    have:=hy k x E (.loop .ready none (mk n kvs) [p] A B) (.loop .busy none (mk n kvs) [p] A B) hx hE
    have e2:(M ++ R k) ++ [Blk.loop .ready none (mk n kvs) [p] A B] ++ E = M ++ (R k ++ Blk.loop .ready none (mk n kvs) [p] A B :: E):=by simp
    rw [e2,← hlen k]
    refine Wp_mono (fun _ _ _ _ _ h => h) A (thenK_mono ?_ (fun _ _ _ h => h)) this
    rintro M1 t1 ⟨g1,g2⟩
    refine roundK g1 (Wp_mono (fun _ _ _ _ _ h => h) B ?_ g2)
    rintro ex M' t ⟨rfl,T,rfl⟩
    have hN:(M ++ (R (k + 1) ++ Blk.loop .busy none (mk n kvs) [p] A B :: E)).length = M.length + ((R k).length + (1 + E.length)):=by simp [hlen (k + 1),hlen k];omega
    have hidx:∀ (b:Blk) (S:List Blk),(M ++ (R (k + 1) ++ b :: S))[M.length + (R k).length]? = some b:=by
      intro b S
      rw [getMj,List.getElem?_append_right (by simp [hlen (k + 1),hlen k]),hlen (k + 1),hlen k,Nat.sub_self];rfl
    refine ⟨⟨mk n kvs,[p],A,B,?_⟩,⟨M.length + ((R k).length + (1 + E.length)),Nat.le_refl _,by rw [List.length_append,hN];omega,?_,?_⟩,rfl⟩
    · rw [show (M ++ (R (k + 1) ++ Blk.loop .busy none (mk n kvs) [p] A B :: E)) ++ T = M ++ (R (k + 1) ++ Blk.loop .busy none (mk n kvs) [p] A B :: (E ++ T)) from by simp]
      exact hidx _ _
    · rw [List.take_left' hN]
      refine (lowM_append _ _).2 ⟨lowM_mono (by omega) hM,(lowM_append _ _).2 ⟨lowM_mono (by rw [hlen k];omega) (hlow (k + 1) hkx),(lowM_cons _ _).2 ⟨?_,hE⟩⟩⟩
      exact lowL_mono (by rw [hlen k];omega) _ (lowL_mk ht)
    · rw [List.take_left' hN,setMj,List.set_append_right _ _ (by simp [hlen (k + 1),hlen k]),hlen (k + 1),hlen k,Nat.sub_self]
      simp
end Go.Nac
namespace Go.Nac
section
variable {M:List Blk} {k:IntKind} {a:Int}
theorem lookV_om {i:Nat} {sk:SK} {z q:Value} {ok:Bool}:lookV M sk z ok (.om i) (.s q) = lookB z ok sk q M[i]?:=nrfl rfl
theorem lookB_no {sk:SK} {z q:Value} {es:List (Value × Value)} (h1:keyOk sk q = true) (h2:keysLike q es = true):lookB z false sk q (some (.map es)) = some (.s ((find q es).getD z)):=by
  simp only [lookB,h1,h2,and_self,if_true]
  cases find q es <;> rfl
theorem mupdO_om {i:Nat} {sk:SK} {q u:Value}:mupdO M sk (.om i) (.s q) (.s u) = mupdB M i sk q u M[i]?:=nrfl rfl
theorem mupdB_map {i:Nat} {sk:SK} {q u:Value} {es:List (Value × Value)} (h1:keyOk sk q = true) (h2:keysLike q es = true):mupdB M i sk q u (some (.map es)) = some (unit,M.set i (.map (upd q u es))):=by
  simp only [mupdB,h1,h2,and_self,if_true]
theorem keyOk_str {s:ByteArray}:keyOk .str (.string s) = true:=nrfl rfl
section
variable {C:CallR} {K:(List Blk) → List PV → Prop} {t:List PV} {d:Option Nat} {os:List COper} {xs ys:List PV}
def capnV:PV → Option PV
  | .s (.slice none 0 0) => some (.I 0)
  | _ => none
def appzO (M:List Blk) (k:Nat) (g:Option Nat) (z:List Value) (bytes:Nat):PV → PV → Option (PV × List Blk)
  | .s (.slice none 0 0),.s (.int .i64 l) =>
      if 0 < l ∧ l ≤ 2 ^ 20 ∧ bytes ≤ 2 ^ 20 ∧ z.length = k ∧ 0 < k then
        (mkPV g (z.map .s)).map fun e => (.os M.length 0 0 l.toNat,M ++ [.row true k 0 (List.replicate l.toNat e)])
      else none
  | _,_ => none
def copyR (M:List Blk) (k i ver off len:Nat) (ys:List PV):Option Blk → Option (PV × List Blk)
  | some (.row true k' v xs) => if v = ver ∧ k' = k ∧ off + len ≤ xs.length ∧ ys.all (okElem k) ∧ k ≠ 0 then
          some (.I ((Nat.min ys.length len:Nat):Int),M.set i (.row true k ver (setRange xs off (ys.take len)))) else none
  | _ => none
def copyO (M:List Blk) (k:Nat):PV → Option (List PV) → Option (PV × List Blk)
  | .os i ver off len,some ys => copyR M k i ver off len ys M[i]?
  | _,_ => none
theorem r_copy {k:Nat} {x y:CX}:wpOps C (⟨d,.copy k x y,none⟩ :: os) K M t = b2 (copyO M k (ev t x) (held M (ev t y))) (kont2 C os K t d):=by
  rw [wpOps_l rfl]
  simp only [res]
  generalize ev t x = vx;generalize held M (ev t y) = vy
  cases vx <;> cases vy <;> first|rfl|skip
theorem copyO_os {kk i ver off len:Nat}:copyO M kk (.os i ver off len) (some ys) = copyR M kk i ver off len ys M[i]?:=nrfl rfl
theorem copyR_all {kk i ver len:Nat} (hl:len = xs.length) (hy:ys.length = len) (ho:ys.all (okElem kk) = true) (hk:kk ≠ 0) :
    copyR M kk i ver 0 len ys (some (.row true kk ver xs)) = some (.I (len:Int),M.set i (.row true kk ver ys)):=by
  show (if _ then _ else _) = _
  rw [if_pos ⟨rfl,rfl,by omega,ho,hk⟩]
  have e1:ys.take len = ys:=List.take_of_length_le (by omega)
  have e2:setRange xs 0 ys = ys:=by simp [setRange];omega
  rw [e1,e2,hy];simp
end
end
end Go.Nac
namespace Go.Nac
section
variable {C:CallR} {K:(List Blk) → List PV → Prop} {M:List Blk} {t:List PV} {d:Option Nat} {os:List COper} {xs ys:List PV}
theorem ev_g {g:Nat} {cs:List Value}:ev t (.g g cs) = .fp (cs.map .s):=nrfl rfl
theorem argV_g {ρ:CX → PV} {g:Nat} {cs:List Value}:argV M ρ (.g g cs) = view M (ρ (.g g cs)):=nrfl rfl
def isnilV (neg:Bool):PV → Option PV
  | .err => some (.B neg)
  | .s .nilIface => some (.B (!neg))
  | _ => none
theorem r_isnil {neg:Bool} {x:CX}:wpOps C (⟨d,.isnil neg x,none⟩ :: os) K M t = b1 (isnilV neg (ev t x)) (kont C os K M t d):=wpOps_q rfl (by
  simp only [res,isnilV];generalize ev t x = vx;split <;> split <;> simp_all)
theorem isnilV_err {neg:Bool}:isnilV neg .err = some (.B neg):=nrfl rfl
theorem isnilV_nil {neg:Bool}:isnilV neg (.s .nilIface) = some (.B (!neg)):=nrfl rfl
def b2sV:Option (List PV) → Option PV
  | some ys => (strOf ys).map fun s => .s (.string s)
  | none => none
def noStr:PV → Bool
  | .s (.string _) => false
  | _ => true
def b2sO (M:List Blk) (x:PV):Option PV:=if noStr x = true then b2sV (held M x) else none
theorem r_b2s {x:CX}:wpOps C (⟨d,.b2s x,none⟩ :: os) K M t = b1 (b2sO M (ev t x)) (kont C os K M t d):=wpOps_q rfl (by
  simp only [res,b2sO]
  generalize ev t x = vx
  have key:((held M vx).bind strOf).map (fun s => (PV.s (.string s),M)) = (b2sV (held M vx)).map (·,M):=by
    cases held M vx with
    | none => rfl
    | some ys => simp only [b2sV,Option.bind_some,Option.map_map];rfl
  split
  · rfl
  · rename_i hno
    rw [if_pos (by cases vx <;> first|rfl|(rename_i v;cases v <;> first|rfl|exact absurd rfl (hno _)))]
    exact key)
theorem b2sO_fs:b2sO M (.fs xs) = (strOf xs).map fun s => .s (.string s):=nrfl rfl
theorem b2sO_os {i v o n:Nat}:b2sO M (.os i v o n) = b2sV (held M (.os i v o n)):=nrfl rfl
theorem b2sO_nil:b2sO M (.s (.slice none 0 0)) = some (.s (.string ⟨#[]⟩)):=nrfl rfl
theorem b2sV_some:b2sV (some ys) = (strOf ys).map fun s => .s (.string s):=nrfl rfl
theorem strOf_bytes (b:ByteArray):strOf (bytesPV b) = some b:=by
  have key:∀ l:List UInt8,strOf (l.map fun u => .s (.int .u8 u.toNat)) = some ⟨l.toArray⟩:=by
    intro l
    induction l with
    | nil => rfl
    | cons u l ih =>
      show (strOf (l.map _)).map _ = _
      rw [ih]
      simp
  unfold bytesPV
  rw [key]
theorem held_str {b:ByteArray}:held M (.s (.string b)) = some (bytesPV b):=nrfl rfl
theorem bytesPV_ok (b:ByteArray):(bytesPV b).all (okElem 1) = true:=by rw [List.all_eq_true];intro x hx;obtain ⟨y,_,rfl⟩:=List.mem_map.1 hx;rfl
theorem bytesPV_low {n:Nat} (b:ByteArray):lowL n (bytesPV b) = True:=eq_true (lowL_map _ _ fun r => by simp [PV.low])
theorem bytesPV_len (b:ByteArray):(bytesPV b).length = b.size:=by simp [bytesPV]
def s2bO (M:List Blk) (own:Bool):PV → Option (PV × List Blk)
  | .s (.string b) => if own = true then some (.os M.length 0 0 b.size,M ++ [.row true 1 0 (bytesPV b)]) else some (.fs (bytesPV b),M)
  | _ => none
theorem r_s2b {own:Bool} {x:CX}:wpOps C (⟨d,.s2b own x,none⟩ :: os) K M t = b2 (s2bO M own (ev t x)) (kont2 C os K t d):=by
  rw [wpOps_l rfl]
  simp only [res,s2bO]
  generalize ev t x = vx
  split <;> split <;> simp_all
theorem s2bO_own {b:ByteArray}:s2bO M true (.s (.string b)) = some (.os M.length 0 0 b.size,M ++ [.row true 1 0 (bytesPV b)]):=nrfl rfl
theorem s2bO_fs {b:ByteArray}:s2bO M false (.s (.string b)) = some (.fs (bytesPV b),M):=nrfl rfl
def ownB (ver:Nat):Option Blk → Bool
  | some (.row true _ v _) => v == ver
  | _ => false
theorem ownRow_eq {i ver:Nat}:ownRow M i ver = ownB ver M[i]?:=by
  unfold ownRow
  cases M[i]? with
  | none => rfl
  | some b => cases b with
    | row w => cases w <;> rfl
    | _ => rfl
theorem ownB_row {ver k:Nat}:ownB ver (some (.row true k ver xs)) = true:=by simp [ownB]
def markO (M:List Blk):PV → Option (PV × List Blk)
  | .os i ver off len => if ownB ver M[i]? = true ∧ 0 < len then some (.os i ver off len,M) else none
  | _ => none
theorem mark_eq {x:CX}:res M (ev t) (.mark x) = markO M (ev t x):=by
  simp only [res,markO,ownRow_eq]
  generalize ev t x = vx
  cases vx <;> rfl
theorem r_mark {x:CX}:wpOps C (⟨d,.mark x,none⟩ :: os) K M t = b2 (markO M (ev t x)) (kont2 C os K t d):=by
  rw [wpOps_l rfl,mark_eq]
theorem r_fzmark {x:CX}:wpOps C (⟨d,.fz (.mark x),none⟩ :: os) K M t = b2 (freezeO (markO M (ev t x))) (kont2 C os K t d):=r_fz mark_eq
theorem markO_os {i ver off len:Nat}:markO M (.os i ver off len) = if ownB ver M[i]? = true ∧ 0 < len then some (.os i ver off len,M) else none:=nrfl rfl
theorem r_mkbm {f:FuncId} {ys:List CX}:wpOps C (⟨d,.mkbm f ys,none⟩ :: os) K M t = wpOps C os K M (put t d (.fn (.func f) (ys.map (ev t)) [])):=wpOps_q (f:=some (.fn (.func f) (ys.map (ev t)) [])) rfl rfl
def pcallP (C:CallR) (g:FuncId) (args:List PV) (M:List Blk) (k:PV → List Blk → Prop):Prop:=∃ v,lowL 0 args ∧ (∀ N,C (.fn g) args N v N) ∧ k v M
theorem r_pcall {g:FuncId} {args:List CX}:wpOps C (⟨d,.pcall (.inr g) args,none⟩ :: os) K M t = pcallP C g (args.map (argV [] (ev t))) M (kont2 C os K t d):=by
  apply propext
  show (∃ v M',(M' = M ∧ lowL 0 (args.map (argV [] (ev t))) ∧ ∀ N,C (.fn g) (args.map (argV [] (ev t))) N v N) ∧ wpOps C os K M' (put t d v)) ↔ _
  exact ⟨fun ⟨v,M',⟨h1,h2,h3⟩,h4⟩ => ⟨v,h2,h3,h1 ▸ h4⟩,fun ⟨v,h1,h2,h3⟩ => ⟨v,M,⟨rfl,h1,h2⟩,h3⟩⟩
def pcallV (C:CallR) (f:PV) (args:List PV) (M:List Blk) (k:PV → List Blk → Prop):Prop :=
  match f with
  | .fn (.func g) first cap => lowL 0 first ∧ lowL 0 cap ∧ ∃ v,lowL 0 args ∧ (∀ N,C (.fn g) (first ++ args ++ cap) N v N) ∧ k v M
  | _ => False
theorem r_pcallv {x:CX} {args:List CX}:wpOps C (⟨d,.pcall (.inl x) args,none⟩ :: os) K M t = pcallV C (ev t x) (args.map (argV [] (ev t))) M (kont2 C os K t d):=by
  apply propext
  show (∃ v M',(M' = M ∧ lowL 0 (args.map (argV [] (ev t))) ∧ ∀ N,(match ev t x with
      | .fn (.func g) first cap => lowL 0 first ∧ lowL 0 cap ∧ C (.fn g) (first ++ args.map (argV [] (ev t)) ++ cap) N v N
      | _ => False)) ∧ wpOps C os K M' (put t d v)) ↔ _
  unfold pcallV
  split
  · exact ⟨fun ⟨v,M',⟨h1,h2,h3⟩,h4⟩ => ⟨(h3 M).1,(h3 M).2.1,v,h2,fun N => (h3 N).2.2,h1 ▸ h4⟩,fun ⟨g1,g2,v,h1,h2,h3⟩ => ⟨v,M,⟨rfl,h1,fun N => ⟨g1,g2,h2 N⟩⟩,h3⟩⟩
  · constructor
    · rintro ⟨v,M',⟨h1,h2,h3⟩,h4⟩;exact (h3 M).elim
    · exact fun h => h.elim
theorem pcallV_fn {g:FuncId} {args:List PV} {k:PV → List Blk → Prop}:pcallV C (.fn (.func g) [] []) args M k = pcallP C g args M k:=by
  apply propext
  show (lowL 0 [] ∧ lowL 0 [] ∧ ∃ v,lowL 0 args ∧ (∀ N,C (.fn g) ([] ++ args ++ []) N v N) ∧ k v M) ↔ _
  simp [pcallP,lowL]
def fcallP (C:CallR) (fv:PV) (args:List PV) (M:List Blk) (k:PV → List Blk → Prop):Prop :=
  ∃ v i b,fcRefs fv = [i] ∧ lowL 0 args ∧ (∀ N:List Blk,N.length = M.length → N[i]? = M[i]? → fcGoes C fv args N v (N.set i b)) ∧ k v (M.set i b)
theorem r_fcall {x:CX} {args:List CX}:wpOps C (⟨d,.fcall x args,none⟩ :: os) K M t = fcallP C (ev t x) (args.map (argV [] (ev t))) M (kont2 C os K t d):=by
  apply propext
  constructor
  · rintro ⟨v,M',⟨i,b,h1,rfl,h3,h4⟩,h5⟩;exact ⟨v,i,b,h1,h3,h4,h5⟩
  · rintro ⟨v,i,b,h1,h3,h4,h5⟩;exact ⟨v,_,⟨i,b,h1,rfl,h3,h4⟩,h5⟩
theorem fcallP_q {g:FuncId} {first cap args:List PV} {i:Nat} {b:Blk} {v:PV} {k:PV → List Blk → Prop} (h:∀ N:List Blk,N.length = M.length → N[i]? = M[i]? → C (.fn g) (first ++ args ++ cap) N v (N.set i b))
    (hr:(first ++ cap).flatMap refs = [i]) (hl:lowL 0 args) (hk:k v (M.set i b)):fcallP C (.fn (.func g) first cap) args M k:=⟨v,i,b,hr,hl,h,hk⟩
def holesL:Nat → List Blk
  | 0 => []
  | k + 1 => hole :: holesL k
theorem holesL_eq (k:Nat):holesL k = List.replicate k hole:=by
  induction k with
  | zero => rfl
  | succ k ih => rw [List.replicate_succ,← ih];rfl
theorem Wp_holes2 {n0 k:Nat} {Q:Post}:Wp C n0 (.holes k) Q M t = Q .normal (M ++ holesL k) t:=by rw [Wp_holes,holesL_eq]
theorem holesL_zero:holesL 0 = []:=nrfl rfl
theorem holesL_succ {k:Nat}:holesL (k + 1) = .row false 0 0 [] :: holesL k:=nrfl rfl
theorem eqCells_str {ks:List SK} {a b:ByteArray}:eqCells (.str :: ks) (.s (.string a) :: xs) (.s (.string b) :: ys) = (eqCells ks xs ys).map fun r => (a == b) && r:=by
  simp only [eqCells,eqSK,bind,Option.bind_some,pure]
  cases eqCells ks xs ys <;> rfl
theorem eqCells_ints:∀ (n:Nat) (a b:List Int),a.length = n → b.length = n → eqCells (List.replicate n .int) (a.map .I) (b.map .I) = some (decide (a = b))
  | 0,[],[],_,_ => rfl
  | n + 1,x :: a,y :: b,ha,hb => by
    rw [List.replicate_succ,List.map_cons,List.map_cons,eqCells_int,eqCells_ints n a b (by simpa using ha) (by simpa using hb)]
    simp only [Option.map_some,Option.some.injEq]
    by_cases h:x = y <;> simp [h]
  | 0,_ :: _,_,h,_ => by simp at h
  | 0,[],_ :: _,_,h => by simp at h
  | _ + 1,[],_,h,_ => by simp at h
  | _ + 1,_ :: _,[],_,h => by simp at h
theorem cells_err:PV.err.cells = [.err]:=nrfl rfl
theorem oneB_err:oneB .err = true:=nrfl rfl
theorem view_err:view M .err = .err:=nrfl rfl
theorem view1_err:view1 M .err = .err:=nrfl rfl
theorem view_nili:view M (.s .nilIface) = .s .nilIface:=nrfl rfl
theorem outV_err {n:Nat}:outV n M .err = .err:=nrfl rfl
theorem low_err {n:Nat}:PV.err.low n = True:=by simp [PV.low]
end
end Go.Nac
set_option linter.unusedSectionVars false
namespace Go.Nac
def Opens (P:Program) (t:TypeId) {α:Type} (f:α → List PV) (ok:α → Prop):Prop :=
  ∀ (H:Type) (enc:TypeId × Value → H) (W:World) (L:Loc) (n:Nat) (cs:List Value) (x:DataW H × List MemPlace),
    DataW.trod enc P W 0 (fun _ => true) true n t cs = some x → ∃ a,ok a ∧ LRel [] L W (f a) cs
theorem wf_i64 {z:Int} (h:(Lit.int .i64 z).wf = true):-9223372036854775808 ≤ z ∧ z ≤ 9223372036854775807:=bounds_i64 h
theorem opens_int {P:Program} {t:TypeId} (ht:P.underlying t = some (.int .i64)):Opens P t (fun z:Int => [.I z]) (fun z => -9223372036854775808 ≤ z ∧ z ≤ 9223372036854775807):=by
  intro H enc W L n cs x h
  obtain ⟨z,rfl,_,hw⟩:=DataW.trod_int ht h
  exact ⟨z,wf_i64 hw,.cons _ _ _ _ (.s _ rfl) .nil⟩
theorem lrel_of {M:List Blk} {L:Loc} {w:World} {α:Type} (f:α → List PV) {k:Nat} (hf:∀ a,(f a).length = k) (g:Nat → List Value) :
    ∀ (l:List α) (o:Nat),(∀ i a,l[i]? = some a → LRel M L w (f a) (g (o + i))) → LRel M L w (l.flatMap f) ((List.range l.length).flatMap fun i => g (o + i))
  | [],_,_ => .nil
  | a :: l,o,h => by
    rw [List.flatMap_cons,List.length_cons,List.range_succ_eq_map,List.flatMap_cons,List.flatMap_map]
    refine LRel.append (by simpa using h 0 a rfl) ?_
    have:=lrel_of f hf g l (o + 1) fun i b hb => by
      have:=h (i + 1) b (by simpa using hb)
      rwa [show o + (i + 1) = o + 1 + i by omega] at this
    have e:(fun i => g (o + 1 + i)) = fun i => g (o + (i + 1)):=by funext i;congr 1;omega
    rw [e] at this
    exact this
theorem flat_get {g:Nat → List Value} {k n:Nat} (hk:0 < k) (hg:∀ i,i < n → (g i).length = k) {m:Nat} {v:Value} (h:((List.range n).flatMap g)[m]? = some v) :
    ∃ i j,i < n ∧ j < k ∧ m = i * k + j ∧ (g i)[j]? = some v:=by
  induction n with
  | zero => simp at h
  | succ n ih =>
    have hl:((List.range n).flatMap g).length = n * k:=by
      clear ih h
      have hg':∀ i,i < n → (g i).length = k:=fun i hi => hg i (by omega)
      clear hg
      induction n with
      | zero => simp
      | succ n ih =>
        rw [List.range_succ,List.flatMap_append,List.length_append,ih fun i hi => hg' i (by omega)]
        simp [hg' n (by omega),Nat.succ_mul]
    rw [List.range_succ,List.flatMap_append] at h
    by_cases hm:m < n * k
    · rw [List.getElem?_append_left (by omega)] at h
      obtain ⟨i,j,h1,h2,h3,h4⟩:=ih (fun i hi => hg i (by omega)) h
      exact ⟨i,j,by omega,h2,h3,h4⟩
    · rw [List.getElem?_append_right (by omega),hl] at h
      simp only [List.flatMap_cons,List.flatMap_nil,List.append_nil] at h
      have:=(List.getElem?_eq_some_iff.1 h).1
      rw [hg n (by omega)] at this
      exact ⟨n,m - n * k,by omega,this,by omega,h⟩
theorem mapM_get {α β:Type} {f:α → Option β}:∀ {l:List α} {r:List β},l.mapM f = some r → r.length = l.length ∧ ∀ (i:Nat) (a:α),l[i]? = some a → f a = r[i]?
  | l,r,h => ⟨by simpa using mapM_some_length h,fun i a hi => mapM_some_get h i a hi⟩
theorem opens_slice {P:Program} {t e:TypeId} (ht:P.underlying t = some (.slice e)) {k:Nat} (he:P.cellsOf e = k) (hk:0 < k) {α:Type} {f:α → List PV} {ok:α → Prop}
    (g:α → PV) (hg:∀ a,(g a).cells = f a) (hf:∀ a,(f a).length = k) (h:Opens P e f ok):Opens P t (fun l:List α => [.fs (l.map g)]) (fun l => ∀ a ∈ l,ok a):=by
  intro H enc W L n cs x hx
  have hcells:∀ l:List α,∀ x ∈ l.map g,x.cells.length = k:=by
    intro l x hx
    obtain ⟨a,_,rfl⟩:=List.mem_map.1 hx
    rw [hg,hf]
  rcases DataW.trod_slice ht hx with ⟨rfl,_⟩|⟨a,len,cap,elems,rest,m,_,rfl,_,hb,hl,hm,hlen,hel,_,_⟩
  · exact ⟨[],by simp,.cons _ _ _ _ (.fs _ _ _ _ k [] rfl (by simp) (by simp) .nil (by simp)) .nil⟩
  · have each:∀ i,i < len → ∃ cs',W.cells? 0 (a.add (i * k)) k = some cs' ∧ ∃ b,ok b ∧ LRel [] L W (f b) cs':=by
      intro i hi
      have h1:=hel i hi
      rw [he,List.getElem?_eq_getElem (by omega),Option.bind_eq_some_iff] at h1
      obtain ⟨cs',h2,h3⟩:=h1
      exact ⟨cs',h2,h H enc W L _ _ _ h3⟩
    let G:Nat → List Value:=fun i => (W.cells? 0 (a.add (i * k)) k).getD []
    have pick:∀ i,i < len → ∃ b,ok b ∧ LRel [] L W (f b) (G i):=by
      intro i hi
      obtain ⟨cs',h1,h2⟩:=each i hi
      show ∃ b,ok b ∧ LRel [] L W (f b) ((W.cells? 0 (a.add (i * k)) k).getD [])
      rw [h1];exact h2
    have choose:∀ n,n ≤ len → ∃ l:List α,l.length = n ∧ (∀ b ∈ l,ok b) ∧ ∀ i b,l[i]? = some b → LRel [] L W (f b) (G i):=by
      intro n hn
      induction n with
      | zero => exact ⟨[],rfl,by simp,by simp⟩
      | succ n ih =>
        obtain ⟨l,h1,h2,h3⟩:=ih (by omega)
        obtain ⟨b,h4,h5⟩:=pick n (by omega)
        refine ⟨l ++ [b],by simp [h1],?_,?_⟩
        · intro c hc
          rcases List.mem_append.1 hc with hc|hc
          · exact h2 c hc
          · rw [List.mem_singleton.1 hc];exact h4
        · intro i c hc
          by_cases hi:i < l.length
          · rw [List.getElem?_append_left hi] at hc;exact h3 i c hc
          · have:i = n:=by have:=(List.getElem?_eq_some_iff.1 hc).1;simp at this;omega
            subst this
            rw [List.getElem?_append_right (by omega),h1,Nat.sub_self] at hc
            simp at hc;subst hc;exact h5
    obtain ⟨l,hl1,hl2,hl3⟩:=choose len (Nat.le_refl _)
    have hG:∀ i,i < len → (G i).length = k:=by
      intro i hi
      obtain ⟨b,_,hb⟩:=pick i hi
      rw [← hb.length,hf]
    refine ⟨l,hl2,.cons _ _ _ _ (.fs _ _ _ _ k ((List.range l.length).flatMap G) (by simp [hl1]) (by simp;omega) (hcells l) ?_ ?_) .nil⟩
    · have e:(l.map g).flatMap PV.cells = l.flatMap f:=by
        rw [List.flatMap_map];simp only [hg]
      rw [e]
      have:=lrel_of (M:=[]) (L:=L) (w:=W) f hf G l 0 (fun i b hb => by simpa using hl3 i b hb)
      simpa using this
    · intro hne
      have h0:0 < len:=by
        rw [← hl1]
        cases l with
        | nil => simp at hne
        | cons => simp
      have cell:∀ i j v,i < len → j < k → (G i)[j]? = some v → W.cell? ((a.add (i * k)).add j) = some v:=by
        intro i j v hi hj hv
        obtain ⟨cs',h1,_⟩:=each i hi
        have hGi:G i = cs':=by show (W.cells? 0 (a.add (i * k)) k).getD [] = cs';rw [h1];rfl
        rw [hGi] at hv
        unfold World.cells? at h1
        split at h1
        · have:=(mapM_get h1).2 j j (by simp [hj])
          rw [this,hv]
        · cases h1
      obtain ⟨v0,hv0⟩:∃ v,(G 0)[0]? = some v:=⟨_,List.getElem?_eq_getElem (by rw [hG 0 h0];exact hk)⟩
      have hc0:=cell 0 0 v0 h0 hk hv0
      simp only [Nat.zero_mul,Addr.add,if_true] at hc0
      have hsp:a.spot = none:=by
        unfold World.cell? at hc0
        split at hc0
        · split at hc0
          · cases hc0
          · rename_i hs;simpa using hs
        · cases hc0
      have hblk:a.block < W.heap.size:=World.block_lt_of_cell? W a hc0
      obtain ⟨ab,ao,as⟩:=a
      simp only at hsp
      subst hsp
      refine ⟨ab,ao,rfl,hblk,fun ⟨i,b,p,hi,_⟩ => by simp at hi,fun m v hmv => ?_⟩
      rw [hl1] at hmv
      obtain ⟨i,j,h1,h2,rfl,h3⟩:=flat_get hk hG hmv
      have:=cell i j v h1 h2 h3
      have e:(Addr.add (Addr.add ⟨ab,ao,none⟩ (i * k)) j) = ⟨ab,ao + (i * k + j),none⟩:=by
        unfold Addr.add
        split <;> split <;> simp_all <;> omega
      rw [← e];exact this
theorem struct_cells {P:Program} {t:TypeId} {fs:Array Field} (ht:P.underlying t = some (.struct fs)) {H:Type} {enc:TypeId × Value → H} {W:World} {n:Nat} {cs:List Value} {x:DataW H × List MemPlace}
    (h:DataW.trod enc P W 0 (fun _ => true) true n t cs = some x) (hc:P.cellsOf t = fs.size) (hf:∀ (i:Nat) (f:Field),fs[i]? = some f → f.offset = i ∧ P.cellsOf f.type = 1) :
    cs.length = fs.size ∧ ∀ (i:Nat) (f:Field),fs[i]? = some f → ∃ v m y,cs[i]? = some v ∧ DataW.trod enc P W 0 (fun _ => true) true m f.type [v] = some y:=by
  obtain ⟨xs,m,_,_,hl,hxl,hx⟩:=DataW.trod_struct ht h
  refine ⟨hl.trans hc,fun i f hi => ?_⟩
  have h1:=hx i f hi
  have hlt:=(Array.getElem?_eq_some_iff.1 hi).1
  rw [(hf i f hi).1,(hf i f hi).2,List.getElem?_eq_getElem (by omega)] at h1
  have hlt2:i < cs.length:=by omega
  rw [List.drop_eq_getElem_cons hlt2] at h1
  exact ⟨cs[i],m,_,List.getElem?_eq_getElem hlt2,h1⟩
theorem opens_rev {P:Program} {t:TypeId} {f0 f1:Field} (ht:P.underlying t = some (.struct #[f0,f1])) (hc:P.cellsOf t = 2) (h0:f0.offset = 0 ∧ P.cellsOf f0.type = 1 ∧ P.underlying f0.type = some (.int .i64))
    (h1:f1.offset = 1 ∧ P.cellsOf f1.type = 1 ∧ P.underlying f1.type = some (.int .i64)) :
    Opens P t (fun r:Rev => [.I r.at_,.I r.ld]) (fun r => (-9223372036854775808 ≤ r.at_ ∧ r.at_ ≤ 9223372036854775807) ∧ (-9223372036854775808 ≤ r.ld ∧ r.ld ≤ 9223372036854775807)):=by
  intro H enc W L n cs x h
  obtain ⟨hl,hf⟩:=struct_cells ht h hc (by
    intro i f hi
    match i,hi with
    | 0,hi => simp at hi;subst hi;exact ⟨h0.1,h0.2.1⟩
    | 1,hi => simp at hi;subst hi;exact ⟨h1.1,h1.2.1⟩
    | n + 2,hi => simp at hi)
  obtain ⟨v0,m0,y0,e0,g0⟩:=hf 0 f0 rfl
  obtain ⟨v1,m1,y1,e1,g1⟩:=hf 1 f1 rfl
  obtain ⟨z0,k0,_,w0⟩:=DataW.trod_int h0.2.2 g0
  obtain ⟨z1,k1,_,w1⟩:=DataW.trod_int h1.2.2 g1
  cases k0;cases k1
  obtain ⟨c0,c1,rfl⟩:∃ a b,cs = [a,b]:=by
    match cs,hl with
    | [a,b],_ => exact ⟨a,b,rfl⟩
  simp at e0 e1;subst e0;subst e1
  exact ⟨⟨z0,z1⟩,⟨wf_i64 w0,wf_i64 w1⟩,.cons _ _ _ _ (.s _ rfl) (.cons _ _ _ _ (.s _ rfl) .nil)⟩
open Go.RowKit in
theorem law_callsX [Env] {P:Program} (hmix:P.follows .mixedOrders = true) {F:Prog} {X:XRel} (hF:∀ f cf,F f = some cf → okFn P f cf = true) (hX:∀ f args M r M',X f args M r M' → Conc P (.fn f) args M r M') {f:FuncId} (hroot:(F f).isSome = true) {args:List PV} (h:∀ M,ACall F X (.fn f) args M (.B true) M)
    {W:World} {cargs:Array Value} (hG:∀ g cs,Env.glb g = some cs → ∃ el,W.heap[g]? = some (.cells cs.toArray el (0,0))) (A:LRel [] (fun _ => none) W args cargs.toList):Calls P f cargs W fun e W' => e = .returned (.bool true) ∧ Below W.heap.size W W':=by
  refine (ACall_sound hmix hF hX hroot (h []) (L:=fun _ => none) ⟨fun i b hi => by simp at hi,fun i j bi bj p q hi => by simp at hi,fun g cs h => ⟨hG g cs h,fun ⟨i,b,p,hi,_⟩ => by simp at hi⟩⟩ A).mono fun e W' he => ?_
  cases e with
  | returned v =>
    obtain ⟨L',E,S,R⟩:=he
    refine ⟨?_,E.os,E.tape,E.output,E.size,fun k hk => (E.frame k hk fun ⟨i,b,p,hi,_⟩ => by simp at hi).1⟩
    cases R with
    | s _ _ => rfl
  | _ => exact he.elim
end Go.Nac
namespace Go.Nac
theorem Opens.one {P:Program} {t:TypeId} {α:Type} {f:α → List PV} {ok:α → Prop} (h:Opens P t f ok) (g:α → PV) (hg:∀ a,f a = [g a]) {H:Type} {enc:TypeId × Value → H} {W:World} {L:Loc} {n:Nat} {v:Value} {x:DataW H × List MemPlace}
    (ht:DataW.trod enc P W 0 (fun _ => true) true n t [v] = some x):∃ a,ok a ∧ VRel [] L W (g a) v:=by
  obtain ⟨a,h1,h2⟩:=h H enc W L n _ _ ht
  rw [hg] at h2
  cases h2 with|cons _ _ _ _ h3 _ => exact ⟨a,h1,h3⟩
end Go.Nac
namespace Go.Nac
theorem okWide_arr {P:Program} {w:World} {r:Reach} {base:Nat} {t e:TypeId} {n:Nat} {v:Value} (ht:P.underlying t = some (.array n e)) (h:Value.okWide P w r base t v):∃ cs,v = .agg cs:=by
  simp only [Value.okWide,ht] at h
  obtain ⟨cs,h1,_⟩:=h
  exact ⟨cs,h1⟩
end Go.Nac
namespace Go.Nac
def cellsSum (P:Program) (fs:List Field):Nat:=(fs.map fun f => P.cellsOf f.type).sum
def OpensFs (P:Program) (fs:List Field) (off:Nat) {α:Type} (f:α → List PV) (ok:α → Prop):Prop :=
  ∀ (H:Type) (enc:TypeId × Value → H) (W:World) (L:Loc) (cs:List Value),cs.length = cellsSum P fs →
    (∀ (i:Nat) (fd:Field),fs[i]? = some fd → ∃ m y,DataW.trod enc P W 0 (fun _ => true) true m fd.type ((cs.drop (fd.offset - off)).take (P.cellsOf fd.type)) = some y) → ∃ a,ok a ∧ LRel [] L W (f a) cs
theorem OpensFs.nil {P:Program} {off:Nat}:OpensFs P [] off (fun _:Unit => []) (fun _ => True):=by
  intro H enc W L cs hl _
  have:cs = []:=List.eq_nil_of_length_eq_zero (by simpa [cellsSum] using hl)
  subst this;exact ⟨(),trivial,.nil⟩
theorem OpensFs.cons {P:Program} {fd:Field} {fs:List Field} {off k:Nat} {α β:Type} {f:α → List PV} {g:β → List PV} {ok:α → Prop} {ok':β → Prop}
    (h:Opens P fd.type f ok) (ho:fd.offset = off) (hk:P.cellsOf fd.type = k) (hge:∀ x ∈ fs,off + k ≤ x.offset) (hs:OpensFs P fs (off + k) g ok') :
    OpensFs P (fd :: fs) off (fun p:α × β => f p.1 ++ g p.2) (fun p => ok p.1 ∧ ok' p.2):=by
  intro H enc W L cs hl hf
  have hl':cs.length = k + cellsSum P fs:=by rw [hl];simp [cellsSum,hk]
  obtain ⟨m,y,h0⟩:=hf 0 fd rfl
  rw [ho,Nat.sub_self,List.drop_zero,hk] at h0
  obtain ⟨a,o1,r1⟩:=h H enc W L m _ _ h0
  obtain ⟨b,o2,r2⟩:=hs H enc W L (cs.drop k) (by simp;omega) (by
    intro i fd' hi
    obtain ⟨m,y,h1⟩:=hf (i + 1) fd' (by simpa using hi)
    have hg:=hge fd' (List.mem_of_getElem? hi)
    refine ⟨m,y,?_⟩
    rw [List.drop_drop,show k + (fd'.offset - (off + k)) = fd'.offset - off by omega];exact h1)
  refine ⟨(a,b),⟨o1,o2⟩,?_⟩
  have:=LRel.append r1 r2
  rwa [List.take_append_drop] at this
theorem Opens.struct {P:Program} {t:TypeId} {fs:Array Field} (ht:P.underlying t = some (.struct fs)) (hc:P.cellsOf t = cellsSum P fs.toList) {α:Type} {f:α → List PV} {ok:α → Prop} (h:OpensFs P fs.toList 0 f ok):Opens P t f ok:=by
  intro H enc W L n cs x hx
  obtain ⟨xs,m,_,_,hl,hxl,hf⟩:=DataW.trod_struct ht hx
  refine h H enc W L cs (hl.trans hc) fun i fd hi => ?_
  rw [Array.getElem?_toList] at hi
  have h1:=hf i fd hi
  have hlt:=(Array.getElem?_eq_some_iff.1 hi).1
  rw [List.getElem?_eq_getElem (by omega)] at h1
  exact ⟨m,_,h1⟩
theorem Opens.map {P:Program} {t:TypeId} {α β:Type} {f:α → List PV} {ok:α → Prop} (h:Opens P t f ok) (φ:α → β) {g:β → List PV} (hg:∀ a,f a = g (φ a)) {ok':β → Prop} (hok:∀ a,ok a → ok' (φ a)):Opens P t g ok':=by
  intro H enc W L n cs x hx
  obtain ⟨a,h1,h2⟩:=h H enc W L n cs x hx
  exact ⟨φ a,hok a h1,by rw [← hg];exact h2⟩
theorem Opens.argA {P:Program} {t:TypeId} {α:Type} {f:α → List PV} {ok:α → Prop} (h:Opens P t f ok) {H:Type} {enc:TypeId × Value → H} {W:World} {vs:Array Value} {d:DataW H} {ps:List MemPlace}
    (ht:DataW.Trod enc P W 0 (fun _ => true) true t (.agg vs) d ps) (L:Loc):∃ a,ok a ∧ VRel [] L W (.agg (f a)) (.agg vs):=by
  obtain ⟨n,hn⟩:=ht
  obtain ⟨a,h1,h2⟩:=h H enc W L n _ _ hn
  exact ⟨a,h1,.agg _ _ h2⟩
theorem wf_u8 {z:Int} (h:(Lit.int .u8 z).wf = true):0 ≤ z ∧ z ≤ 255:=by
  simp only [Lit.wf,Bool.and_eq_true,decide_eq_true_eq] at h
  exact h
end Go.Nac
namespace Go.Nac
theorem opens_str {P:Program} {t:TypeId} (ht:P.underlying t = some .string):Opens P t (fun s:ByteArray => [.s (.string s)]) (fun _ => True):=by
  intro H enc W L n cs x h
  obtain ⟨s,rfl,_⟩:=DataW.trod_string ht h
  exact ⟨s,trivial,.cons _ _ _ _ (.s _ rfl) .nil⟩
end Go.Nac
namespace Go.Nac
variable [Env]
open Ieee
theorem floor_conc {P : Program} {f : FuncId} {fn : Func} (hf : P.funcs[f]? = some fn) (hname : (fn.name == "runtime.NumGoroutine") = false) (hb : fn.body.isNone = true) (hn : Extern.findNext fn = none)
    (he : Extern.find fn = some (Extern.MathFloor.toIntegral "math.archFloor" .down)) {x : Nat} {s : Bool} {m : Nat} {l : Int} (hx : double.read x = .number s m l) (M : List Blk) :
    Conc P (.fn f) [.s (.float .f64 x)] M (.s (.float .f64 (double.write ((double.read x).integral .down)))) M:=by
  intro L w cargs S A
  obtain ⟨cargs⟩:=cargs
  cases A with
  | cons _ v _ vs h hs =>
    cases hs
    have hv:=h.s_inv
    subst hv
    refine .inr ⟨rfl,_,w,?_,L,Evo.refl _ _ _,S,.s _ rfl⟩
    rw [run_callFunc_extern hf hname hb hn he]
    have hd:FloatKind.f64.decode x = .number s m l:=hx
    have key : Extern.MathFloor.toIntegral "math.archFloor" .down #[.float .f64 x] = pure (.float .f64 (double.write ((double.read x).integral .down))) := by
      show Extern.MathFloor.toIntegral.match_1 _ (FloatKind.f64.decode x) _ _ = _
      rw [hd,hx];rfl
    rw [key];rfl
end Go.Nac
namespace Go.Nac
variable [Env]
section
variable {P:Program} {R:CCode → Code → Prop} {M:List Blk} {L:Loc} {w w':World}
theorem below_evo (S:Sim R M L w) (hb:RowKit.Below w.heap.size w w') (hd:Env.mono → w.drawn ≤ w'.drawn):Evo M L w M L w' ∧ Sim R M L w':=by
  have old:∀ b,b < w.heap.size → w'.heap[b]? = w.heap[b]?:=hb.block
  have E:Evo M L w M L w':=⟨hb.os,hb.tape,hb.output,hd,hb.size,fun b hlt hno => ⟨old b hlt,hno⟩,fun i b hi => ⟨b,hi,by
    cases b with
    | row => exact ⟨Nat.le_refl _,fun _ => ⟨rfl,rfl,rfl,fun bb oo c el g1 g2 => ⟨c,g2.congr (old bb g2.lt),rfl⟩⟩⟩
    | map => exact rfl
    | loop => exact ⟨rfl,rfl,rfl,rfl,rfl⟩
    | siter => exact rfl⟩⟩
  exact ⟨E,fun i b hi => (S.mem i b hi).evo E rfl fun p hp => old _ ((S.mem i b hi).lt hp),S.inj,S.envE E⟩
theorem conc_pure {f:FuncId} {args:List PV} {r:PV}
    (h:∀ (L:Loc) (w:World) (cargs:Array Value),Sim (RO P) M L w → LRel M L w args cargs.toList →
      (callFunc f cargs).run P w = .ok (.enter f cargs) w ∧ Calls P f cargs w fun e w' => ∃ v,e = .returned v ∧ RowKit.Below w.heap.size w w' ∧ (Env.mono → w.drawn ≤ w'.drawn) ∧ VRel M L w' r v):Conc P (.fn f) args M r M:=by
  intro L w cargs S A
  obtain ⟨h1,h2⟩:=h L w cargs S A
  refine .inl ⟨h1,h2.mono ?_⟩
  rintro e w' ⟨v,rfl,hb,hd,hv⟩
  obtain ⟨E,S'⟩:=below_evo S hb hd
  exact ⟨L,E,S',hv⟩
theorem below_same (B:Nat) (w:World):RowKit.Below B w w:=RowKit.Below.refl B w
theorem below_drew (B:Nat) (w:World) (n:Nat):RowKit.Below B w (w.drewN n):=⟨rfl,rfl,rfl,Nat.le_refl _,fun _ _ => rfl⟩
theorem below_grow (w:World) (n:Nat) (os:Array Obj):RowKit.Below w.heap.size w (Sort.grow (w.drewN n) os):=by
  refine ⟨rfl,rfl,rfl,by simp [Sort.grow,World.drewN],fun k hk => ?_⟩
  show (w.heap ++ os)[k]? = _
  rw [Array.getElem?_append_left hk]
theorem vrel_fresh (S:Sim R M L w) {xs:List PV} {vs:List Value} {n cap k b o:Nat} (hn:n = xs.length) (hc:xs.length ≤ cap) (hk:∀ x ∈ xs,x.cells.length = k) (h:LRel M L w' (xs.flatMap PV.cells) vs)
    (hb:w.heap.size ≤ b) (hlt:b < w'.heap.size) (hm:∀ m v,vs[m]? = some v → w'.cell? ⟨b,o + m,none⟩ = some v):VRel M L w' (.fs xs) (.slice (some ⟨b,o,none⟩) n cap) :=
  .fs xs _ n cap k vs hn hc hk h fun _ => ⟨b,o,rfl,hlt,fun ho => by have:=ho.lt S;omega,hm⟩
theorem fs_strs {xs:List ByteArray} {v:Value} (h:VRel M L w (.fs (xs.map fun s => .s (.string s))) v) :
    ∃ a cap,v = .slice a xs.length cap ∧ xs.length ≤ cap ∧ (xs ≠ [] → ∃ b o,a = some ⟨b,o,none⟩ ∧ b < w.heap.size ∧ ∀ (j:Nat) x,xs[j]? = some x → w.cell? ⟨b,o + j,none⟩ = some (.string x)):=by
  cases h with
  | fs _ a n cap k vs hn hc hk h hm =>
    refine ⟨a,cap,by simp at hn;rw [hn],by simpa using hc,fun hne => ?_⟩
    obtain ⟨b,o,rfl,h1,_,h2⟩:=hm (by simpa using hne)
    refine ⟨b,o,rfl,h1,fun j x hj => h2 j _ ?_⟩
    have hx:((xs.map fun s => (PV.s (.string s))).flatMap PV.cells)[j]? = some (.s (.string x)):=by
      have e:(xs.map fun s => (PV.s (.string s))).flatMap PV.cells = xs.map fun s => .s (.string s):=by
        clear h hm hk hc hn hj hne
        induction xs with
        | nil => rfl
        | cons y ys ih => simp only [List.map_cons,List.flatMap_cons,ih];rfl
      rw [e];simp [hj]
    obtain ⟨u,h3,h4⟩:=h.get hx
    rw [h4.s_inv] at h3
    exact h3
end
end Go.Nac
namespace Go.Nac
def Yields2F (F:Prog) (X:XRel) (g:FuncId) (cap:List PV) (xs:List (PV × PV)):Prop :=
  ∀ (i:Nat) (N:Nat → List Blk) (m:Nat),m ≤ xs.length → (∀ k,k ≤ m → (N k).length = (N 0).length ∧ lowM (N k).length (N k)) →
    (∀ k x E,k < m → xs[k]? = some x → ACall F X (.yl i) [x.1,x.2] (N k ++ E) (.B true) (N (k + 1) ++ E)) →
    (m = xs.length → ACall F X (.fn g) (.yl i :: cap) (N 0) (.tup []) (N m)) ∧
    ∀ x N',xs[m]? = some x → (N'.length = (N 0).length ∧ lowM N'.length N') → (∀ E,ACall F X (.yl i) [x.1,x.2] (N m ++ E) (.B false) (N' ++ E)) → ACall F X (.fn g) (.yl i :: cap) (N 0) (.tup []) N'
theorem yield_mk2 {F:Prog} {X:XRel} {i n p q:Nat} {kvs:List (Nat × PV)} {A B:CCode} {r x y:PV} {M M':List Blk} (hi:M[i]? = some (.loop .ready none (mk n kvs) [p,q] A B))
    (h:lowM M.length M → lowL M.length [x,y] → Wp (ACall F X) M.length A (thenK (RoundK (ACall F X) M.length i n kvs [p,q] A B r M') (fun _ _ _ => False)) M (mk n ((q,y) :: (p,x) :: kvs))):ACall F X (.yl i) [x,y] M r M':=by
  refine ACall_yl hi rfl fun h1 h2 => ?_
  have:=h h1 h2
  simp only [List.zip_cons_cons,List.zip_nil_right,List.foldl_cons,List.foldl_nil,mk_set]
  exact this
def exGo:Ex → Bool|.normal => true|_ => false
def exSt:Ex → LoopState|.normal => .ready|_ => .done
def exPd:Ex → Option Ex|.normal => none|e => some e
theorem exPost {n i:Nat} {ps:List Nat} {a b:CCode} {ts:List PV} {M' M2:List Blk} {t:List PV} (e:Ex) (h1:∃ ts' ps' a' b',M'[i]? = some (.loop .busy none ts' ps' a' b'))
    (h2:∃ m,n ≤ m ∧ m ≤ M'.length ∧ lowM m (M'.take m) ∧ M2 = (M'.take m).set i (.loop (exSt e) (exPd e) ts ps a b)):roundPost n i ps a b ts (.B (exGo e)) M2 e M' t:=by
  cases e <;> exact ⟨h1,h2,rfl⟩
theorem Wp_cutZ {C:CallR} {n0:Nat} {Q:Post} {M:List Blk} {t:List PV} (hM:lowM M.length M) (hn:n0 = M.length) (ht:lowL M.length t) (hq:Q .normal M t):Wp C n0 .cut Q M t:=by
  have:=Wp_cut_at (C:=C) (Q:=Q) (M:=M) (N:=[]) (t:=t) hM hn 0 (by simp) lowM_nil ht (by simpa using hq)
  simpa using this
def RoundX (ex:Ex) (N:List Blk):Post:=fun e M' _ => e = ex ∧ ∃ T,M' = N ++ T
theorem roundX {ex:Ex} {N M':List Blk} {t:List PV} (T:List Blk) (h:M' = N ++ T):RoundX ex N ex M' t:=⟨rfl,T,h⟩
def RoundB (C:CallR) (m i:Nat) (ex:Ex) (L LB:Blk) (B:CCode) (N M1:List Blk) (t1:List PV):Prop:=M1[i]? = some L ∧ Wp C m B (RoundX ex N) (M1.set i LB) t1
theorem roundB {C:CallR} {m i:Nat} {ex:Ex} {L LB:Blk} {B:CCode} {N M1:List Blk} {t1:List PV} (h:M1[i]? = some L) (hw:Wp C m B (RoundX ex N) (M1.set i LB) t1):RoundB C m i ex L LB B N M1 t1:=⟨h,hw⟩
theorem range_round {F:Prog} {X:XRel} {n p q:Nat} {kvs:List (Nat × PV)} {A B:CCode} {M:List Blk} {Rk Rn:List Blk} {x:PV × PV} (ex:Ex)
    (hM:lowM M.length M) (hl:Rn.length = Rk.length) (hlow:lowM (M.length + Rk.length) Rk) (hlow2:lowM (M.length + Rk.length) Rn) (ht:lowL (M.length + Rk.length) (kvs.map Prod.snd)) (E:List Blk)
    (hy:∀ L LB,lowM (M.length + (Rk.length + (1 + E.length))) E →
      Wp (ACall F X) (M.length + (Rk.length + (1 + E.length))) A (thenK (RoundB (ACall F X) (M.length + (Rk.length + (1 + E.length))) (M.length + Rk.length) ex L LB B (M ++ (Rn ++ LB :: E))) (fun _ _ _ => False)) (M ++ (Rk ++ L :: E)) (mk n ((q,x.2) :: (p,x.1) :: kvs))) :
    ACall F X (.yl (M.length + Rk.length)) [x.1,x.2] ((M ++ Rk) ++ [.loop .ready none (mk n kvs) [p,q] A B] ++ E) (.B (exGo ex))
      ((M ++ Rn) ++ [.loop (exSt ex) (exPd ex) (mk n kvs) [p,q] A B] ++ E):=by
  have hi:((M ++ Rk) ++ [Blk.loop .ready none (mk n kvs) [p,q] A B] ++ E)[M.length + Rk.length]? = some (.loop .ready none (mk n kvs) [p,q] A B):=by
    rw [List.append_assoc,List.getElem?_append_right (by simp),List.length_append,Nat.sub_self];rfl
  refine yield_mk2 hi fun h1 h2 => ?_
  have e:((M ++ Rk) ++ [Blk.loop .ready none (mk n kvs) [p,q] A B] ++ E).length = M.length + (Rk.length + (1 + E.length)):=by simp;omega
  rw [e] at h1 ⊢
  have hE:lowM (M.length + (Rk.length + (1 + E.length))) E:=((lowM_append _ _).1 h1).2
  have:=hy (.loop .ready none (mk n kvs) [p,q] A B) (.loop .busy none (mk n kvs) [p,q] A B) hE
  have e2:(M ++ Rk) ++ [Blk.loop .ready none (mk n kvs) [p,q] A B] ++ E = M ++ (Rk ++ Blk.loop .ready none (mk n kvs) [p,q] A B :: E):=by simp
  rw [e2]
  refine Wp_mono (fun _ _ _ _ _ h => h) A (thenK_mono ?_ (fun _ _ _ h => h)) this
  rintro M1 t1 ⟨g1,g2⟩
  refine roundK g1 (Wp_mono (fun _ _ _ _ _ h => h) B ?_ g2)
  rintro ex' M' t ⟨rfl,T,rfl⟩
  have hN:(M ++ (Rn ++ Blk.loop .busy none (mk n kvs) [p,q] A B :: E)).length = M.length + (Rk.length + (1 + E.length)):=by simp [hl];omega
  have hidx:∀ (b:Blk) (S:List Blk),(M ++ (Rn ++ b :: S))[M.length + Rk.length]? = some b:=by
    intro b S
    rw [getMj,List.getElem?_append_right (by simp [hl]),hl,Nat.sub_self];rfl
  refine exPost ex' ⟨mk n kvs,[p,q],A,B,?_⟩ ⟨M.length + (Rk.length + (1 + E.length)),Nat.le_refl _,by rw [List.length_append,hN];omega,?_,?_⟩
  · rw [show (M ++ (Rn ++ Blk.loop .busy none (mk n kvs) [p,q] A B :: E)) ++ T = M ++ (Rn ++ Blk.loop .busy none (mk n kvs) [p,q] A B :: (E ++ T)) from by simp]
    exact hidx _ _
  · rw [List.take_left' hN]
    refine (lowM_append _ _).2 ⟨lowM_mono (by omega) hM,(lowM_append _ _).2 ⟨lowM_mono (by omega) hlow2,(lowM_cons _ _).2 ⟨?_,hE⟩⟩⟩
    exact lowL_mono (by omega) _ (lowL_mk ht)
  · rw [List.take_left' hN,setMj,List.set_append_right _ _ (by simp [hl]),hl,Nat.sub_self]
    simp
theorem range_pairs {F:Prog} {X:XRel} {g:FuncId} {cap:List PV} {xs:List (PV × PV)} (hg:Yields2F F X g cap xs) {n0 n p q:Nat} {Q:Post} {kvs:List (Nat × PV)} {f:CX} {A B:CCode} {M:List Blk} (R:Nat → List Blk) (m:Nat) (hm:m ≤ xs.length)
    (hM:lowM M.length M) (hf:ev (mk n kvs) f = .fn (.func g) [] cap) (hlen:∀ k,(R k).length = (R 0).length) (hlow:∀ k,k ≤ m → lowM (M.length + (R 0).length) (R k)) (ht:lowL (M.length + (R 0).length) (kvs.map Prod.snd))
    (hy:∀ k x E L LB,k < m → xs[k]? = some x → lowM (M.length + ((R k).length + (1 + E.length))) E →
      Wp (ACall F X) (M.length + ((R k).length + (1 + E.length))) A (thenK (RoundB (ACall F X) (M.length + ((R k).length + (1 + E.length))) (M.length + (R k).length) .normal L LB B (M ++ (R (k + 1) ++ LB :: E))) (fun _ _ _ => False)) (M ++ (R k ++ L :: E)) (mk n ((q,x.2) :: (p,x.1) :: kvs)))
    (hq:(m = xs.length ∧ Q .normal (M ++ R m) (mk n kvs)) ∨ ∃ x ex R',xs[m]? = some x ∧ ex ≠ .normal ∧ R'.length = (R 0).length ∧ lowM (M.length + (R 0).length) R' ∧
      (∀ E L LB,lowM (M.length + ((R m).length + (1 + E.length))) E →
        Wp (ACall F X) (M.length + ((R m).length + (1 + E.length))) A (thenK (RoundB (ACall F X) (M.length + ((R m).length + (1 + E.length))) (M.length + (R m).length) ex L LB B (M ++ (R' ++ LB :: E))) (fun _ _ _ => False)) (M ++ (R m ++ L :: E)) (mk n ((q,x.2) :: (p,x.1) :: kvs))) ∧
      Q ex (M ++ R') (mk n kvs)):Wp (ACall F X) n0 (.rangeFunc f [p,q] A B) Q (M ++ R 0) (mk n kvs):=by
  have hlowR:∀ k,k ≤ m → lowM (M.length + (R 0).length) (M ++ R k):=fun k hk => (lowM_append _ _).2 ⟨lowM_mono (by omega) hM,hlow k hk⟩
  obtain ⟨k1,k2⟩:=hg (M.length + (R 0).length) (fun k => (M ++ R k) ++ [.loop .ready none (mk n kvs) [p,q] A B]) m hm (fun k hk => by
      have e:((M ++ R k) ++ [Blk.loop .ready none (mk n kvs) [p,q] A B]).length = M.length + (R 0).length + 1:=by simp [hlen k];omega
      refine ⟨by rw [e];simp;omega,?_⟩
      rw [e]
      refine (lowM_append _ _).2 ⟨lowM_mono (by omega) (hlowR k hk),?_⟩
      refine (lowM_cons _ _).2 ⟨?_,lowM_nil⟩
      exact lowL_mono (by omega) _ (lowL_mk ht)) (fun k x E hk hx => by
      have:=range_round (F:=F) (X:=X) (n:=n) (p:=p) (q:=q) (kvs:=kvs) (A:=A) (B:=B) (M:=M) (Rk:=R k) (Rn:=R (k + 1)) (x:=x) .normal hM (by rw [hlen,hlen k]) (by rw [hlen k];exact hlow k (by omega)) (by rw [hlen k];exact hlow (k + 1) (by omega)) (by rw [hlen k];exact ht) E (fun L LB hE => hy k x E L LB hk hx hE)
      rw [hlen k] at this
      exact this)
  rcases hq with ⟨rfl,hq⟩|⟨x,ex,R',hx,hex,hl',hlow',hr,hq⟩
  · refine range_mk (M':=M ++ R xs.length) (A':=A) (B':=B) (ps':=[p,q]) (t':=mk n kvs) hf ?_ ?_ ?_ hq
    · rw [List.length_append];exact k1 rfl
    · simp [hlen]
    · rw [List.length_append];exact hlowR _ (Nat.le_refl _)
  · have key:=k2 x ((M ++ R') ++ [.loop .done (some ex) (mk n kvs) [p,q] A B]) hx (by
      have e:((M ++ R') ++ [Blk.loop .done (some ex) (mk n kvs) [p,q] A B]).length = M.length + (R 0).length + 1:=by simp [hl'];omega
      refine ⟨by rw [e];simp;omega,?_⟩
      rw [e]
      refine (lowM_append _ _).2 ⟨lowM_mono (by omega) ((lowM_append _ _).2 ⟨lowM_mono (by omega) hM,hlow'⟩),?_⟩
      refine (lowM_cons _ _).2 ⟨?_,lowM_nil⟩
      exact lowL_mono (by omega) _ (lowL_mk ht)) (fun E => by
      have:=range_round (F:=F) (X:=X) (n:=n) (p:=p) (q:=q) (kvs:=kvs) (A:=A) (B:=B) (M:=M) (Rk:=R m) (Rn:=R') (x:=x) ex hM (by rw [hl',hlen m]) (by rw [hlen m];exact hlow m (Nat.le_refl _)) (by rw [hlen m];exact hlow') (by rw [hlen m];exact ht) E (fun L LB hE => hr E L LB hE)
      rw [hlen m] at this
      cases ex <;> first|exact this|exact absurd rfl hex)
    refine ⟨g,[],cap,M ++ R',.done,some ex,mk n kvs,[p,q],A,B,hf,?_,?_,?_,(by decide),hq⟩
    · rw [List.length_append];exact key
    · simp [hl']
    · rw [List.length_append];exact (lowM_append _ _).2 ⟨lowM_mono (by omega) hM,hlow'⟩
end Go.Nac
namespace Go.Nac
theorem ownR_agg {M:List Blk} {a ver k kk j:Nat} {cs:List PV} (h:cs[j]? = some (.s (.slice none 0 0))) :
    ownR M a ver 0 j k (some (.row true kk ver [.agg cs])) = some (M.set a (.row true kk ver [.agg (setRange cs j [.os M.length 0 0 0])]) ++ [.row true k 0 []]):=by
  have hn:nilAt j ([PV.agg cs])[0]? = true:=by
    show nilAt j (some (PV.agg cs)) = true
    simp only [nilAt,PV.cells,h]
  have hj:j < cs.length:=(List.getElem?_eq_some_iff.1 h).1
  simp only [ownR,hn,if_true]
  have e:putR M a ver 0 j [.os M.length 0 0 0] (some (.row true kk ver [.agg cs])) = some (M.set a (.row true kk ver [.agg (setRange cs j [.os M.length 0 0 0])])):=by
    simp [putR,oneB,PV.cells]
    omega
  rw [e];rfl
end Go.Nac
namespace Go.Nac
section
variable {C:CallR} {d:Option Nat} {os:List COper} {K:List Blk → List PV → Prop} {M:List Blk} {t:List PV}
theorem r_fzload {g:Option Nat} {x:CX}:wpOps C (⟨d,.fz (.load g x),none⟩ :: os) K M t = b2 (freezeO ((loadPV M g (ev t x)).map (·,M))) (kont2 C os K t d):=r_fz rfl
end
theorem frzC_s {M:List Blk} {v:Value} {r:List PV}:freezeAll M (.s v :: r) = freezeAll M r:=rfl
theorem frzC_os {M:List Blk} {i ver off len:Nat} {r:List PV}:freezeAll M (.os i ver off len :: r) = (frzR M i M[i]?).bind fun M => freezeAll M r:=by
  simp only [freezeAll,freeze]
  cases M[i]? with
  | none => rfl
  | some b => cases b <;> rfl
theorem frzC_nil {M:List Blk}:freezeAll M [] = some M:=rfl
end Go.Nac
namespace Go.Nac
def rng (n least most:Int):Int:=if n < least ∨ most < n then 3 else 0
def trn (a b c:Int):Bool:=decide ((a < b ∧ c < b) ∨ (b < a ∧ b < c))
def fst0:List Int → Int
  | [] => 0
  | x :: r => if x = 0 then fst0 r else x
theorem fst0_drop (l:List Int) (k:Nat) (x:Int) (h:l[k]? = some x):fst0 (l.drop k) = if x = 0 then fst0 (l.drop (k + 1)) else x:=by
  obtain ⟨h1,h2⟩:=List.getElem?_eq_some_iff.1 h
  rw [List.drop_eq_getElem_cons h1,h2];rfl
def badLoad (n:Int):Bool:=decide (¬ rng n (-32768) 32768 = 0)
def chkLoads (l:List Int):Int:=if 40000 < l.length then 5 else if (l.filter badLoad).length = 0 then 0 else 3
def prev (l:List Rev) (j k:Nat):Option Rev:=if k < j then none else l[k - j]?
def ordB (p:Option Rev) (r:Rev):Bool:=match p with|some q => decide (r.at_ ≤ q.at_)|none => false
def shpB (pp p:Option Rev) (r:Rev):Bool :=
  match p with
  | none => false
  | some q => decide (r.ld = q.ld) || (match pp with | some z => !trn z.ld q.ld r.ld | none => false)
def errAt (pp p:Option Rev) (r:Rev):Int :=
  fst0 [rng r.at_ 0 39999,rng r.ld (-32768) 32768,if ordB p r = true then 11 else 0,if shpB pp p r = true then 2 else 0]
def chkRev (pp p:Option Rev):List Rev → Int
  | [] => 0
  | r :: rs => if errAt pp p r = 0 then chkRev p (some r) rs else errAt pp p r
def chkRevs (l:List Rev):Int:=if 40000 < l.length then 5 else chkRev none none l
def revStep (out:List Rev) (p:Rev):List Rev :=
  match out.reverse with
  | [] => [p]
  | a :: r => if a.ld = p.ld then out else
    match r with
    | [] => out ++ [p]
    | b :: _ => if trn b.ld a.ld p.ld = true then out ++ [p] else out.dropLast ++ [p]
def revsOf (l:List Rev):List Rev:=l.foldl revStep []
def points (l:List Int):List Rev:=l.zipIdx.map fun p => ⟨p.2,p.1⟩
end Go.Nac
namespace Go.Nac
end Go.Nac
namespace Go.Nac
def dedStep (out:List Rev) (p:Rev):List Rev :=
  match out.reverse with
  | [] => out ++ [p]
  | a :: _ => if p.ld = a.ld then out else out ++ [p]
def dedup (l:List Rev):List Rev:=l.foldl dedStep []
def keepT (p:List Rev) (k:Nat):Bool :=
  decide (k = 0) || decide (k + 1 = p.length) || (match p[k - 1]?,p[k]?,p[k + 1]? with|some a,some b,some c => trn a.ld b.ld c.ld|_,_,_ => false)
def outT (p:List Rev):Nat → List Rev
  | 0 => []
  | k + 1 => outT p k ++ if keepT p k = true then (p[k]?).toList else []
def turning (l:List Rev):List Rev:=outT (dedup l) (dedup l).length
end Go.Nac
namespace Go.Nac
def ordC (c:Cyc):Bool:=decide (c.to_ ≤ c.from_) || decide (c.hi ≤ c.lo)
def errC (c:Cyc):Int:=fst0 [rng c.from_ 0 39999,rng c.to_ 0 39999,rng c.lo (-32768) 32768,rng c.hi (-32768) 32768,if ordC c = true then 11 else 0]
def chkCycs (l:List Cyc):Int:=if 40000 < l.length then 5 else fst0 (l.map errC)
def powW (x:Int):Nat → Int
  | 0 => 1
  | k + 1 => IntKind.i64.wrap (powW x k * x)
end Go.Nac
namespace Go.Nac
def madd (m:Int × Bool) (n:Int):Int × Bool:=if m.2 = true ∨ 1152921504606846976 - m.1 < n then (m.1,true) else (m.1 + n,false)
def mres (m:Int × Bool):Int × Int:=if m.2 = true then (0,4) else (m.1,0)
def mOk (m:Int × Bool):Prop:=0 ≤ m.1 ∧ m.1 ≤ 1152921504606846976
def mRow (v:Nat) (m:Int × Bool):Blk:=.row true 2 v [.agg [.I m.1,.B m.2]]
def rangeW (c:Cyc):Int:=IntKind.i64.wrap (c.hi - c.lo)
def cycDmg (e times:Int) (m:Int × Bool) (l:List Cyc):Int × Bool:=l.foldl (fun m c => madd m (times * powW (c.hi - c.lo) e.toNat)) m
def apartI (a b:Rev):Int:=max (a.ld - b.ld) (b.ld - a.ld)
def halfs:List Rev → List Int
  | a :: b :: r => apartI a b :: halfs (b :: r)
  | _ => []
def halfDmg (e:Int) (m:Int × Bool) (l:List Rev):Int × Bool:=(halfs l).foldl (fun m x => madd m (powW x e.toNat)) m
end Go.Nac
namespace Go.Nac
theorem fst0_zero (l:List Int):fst0 l = 0 ↔ ∀ x ∈ l,x = 0:=by
  induction l with
  | nil => simp [fst0]
  | cons x l ih =>
    simp only [fst0,List.mem_cons,forall_eq_or_imp]
    split
    · rename_i h;simp [h,ih]
    · rename_i h;simp [h]
def goodC (c:Cyc):Prop:=(0 ≤ c.from_ ∧ c.from_ ≤ 39999) ∧ (0 ≤ c.to_ ∧ c.to_ ≤ 39999) ∧ (-32768 ≤ c.lo ∧ c.lo ≤ 32768) ∧ (-32768 ≤ c.hi ∧ c.hi ≤ 32768) ∧ c.from_ < c.to_ ∧ c.lo < c.hi
def goodR (r:Rev):Prop:=(0 ≤ r.at_ ∧ r.at_ ≤ 39999) ∧ (-32768 ≤ r.ld ∧ r.ld ≤ 32768)
def nextR (pp p:Option Rev) (r:Rev):Prop:=(∀ q,p = some q → q.at_ < r.at_ ∧ r.ld ≠ q.ld ∧ ∀ z,pp = some z → trn z.ld q.ld r.ld = true)
def turnsFrom (pp p:Option Rev):List Rev → Prop
  | [] => True
  | r :: rs => goodR r ∧ nextR pp p r ∧ turnsFrom p (some r) rs
end Go.Nac
namespace Go.Nac
def dmgRes (l:List Cyc) (e:Int):Int × Int:=if fst0 [chkCycs l,rng e 1 3] = 0 then mres (cycDmg e 1 (0,false) l) else (0,fst0 [chkCycs l,rng e 1 3])
def halfRes (l:List Rev) (e:Int):Int × Int:=if fst0 [chkRevs l,rng e 1 3] = 0 then mres (halfDmg e (0,false) l) else (0,fst0 [chkRevs l,rng e 1 3])
theorem fst0_two {a b:Int} (h:fst0 [a,b] = 0):a = 0 ∧ b = 0:=by
  have:=(fst0_zero _).1 h
  exact ⟨this a (by simp),this b (by simp)⟩
end Go.Nac
namespace Go.Nac
def closesB (a b c d:Rev):Bool:=decide (apartI b c ≤ apartI a b) && decide (apartI b c ≤ apartI c d)
def mkCyc (b c:Rev):Cyc:=⟨b.at_,c.at_,min b.ld c.ld,max b.ld c.ld⟩
def drain:List Rev → List Cyc × List Rev
  | d :: c :: b :: a :: r => if closesB a b c d = true then (mkCyc b c :: (drain (d :: a :: r)).1,(drain (d :: a :: r)).2) else ([],d :: c :: b :: a :: r)
  | st => ([],st)
termination_by st => st.length
def countStep (s:List Cyc × List Rev) (r:Rev):List Cyc × List Rev:=(s.1 ++ (drain (r :: s.2)).1,(drain (r :: s.2)).2)
def countOf (l:List Rev):List Cyc × List Rev:=l.foldl countStep ([],[])
def closesL (l:List Rev):Bool :=
  match l.reverse with
  | d :: c :: b :: a :: _ => closesB a b c d
  | _ => false
end Go.Nac
namespace Go.Nac
def smallR (a:Rev):Prop:=-32768 ≤ a.ld ∧ a.ld ≤ 32768
def smallC (c:Cyc):Prop:=0 ≤ c.hi - c.lo ∧ c.hi - c.lo ≤ 65536 ∧ -1048576 ≤ c.hi ∧ c.hi ≤ 1048576
def cntRes (l:List Rev):List Cyc × List Rev:=if chkRevs l = 0 then countOf l else ([],[])
def twRes (l:List Int) (e:Int):Int × Int:=mres (halfDmg e (cycDmg e 2 (0,false) (countOf (revsOf (points l))).1) (countOf (revsOf (points l))).2.reverse)
def twiceRes (l:List Int) (e:Int):Int × Int:=if fst0 [chkLoads l,rng e 1 3] = 0 then twRes l e else (0,fst0 [chkLoads l,rng e 1 3])
def crosses (lv:Int) (p:Rev × Rev):Bool:=decide (p.1.ld ≤ lv) && decide (lv < p.2.ld)
def crossN (lv:Int) (l:List Rev):Nat:=((l.zip l.tail).filter (crosses lv)).length
def crossRes (l:List Rev) (lv:Int):Int × Int:=if fst0 [chkRevs l,rng lv (-999999999) 999999999] = 0 then (crossN lv l,0) else (0,fst0 [chkRevs l,rng lv (-999999999) 999999999])
def spread (l:List Rev):Int :=
  match l with
  | [] => 0
  | a :: _ => l.foldl (fun m r => max m r.ld) a.ld - l.foldl (fun m r => min m r.ld) a.ld
def grRes (l:List Rev):Int × Int:=if fst0 [chkRevs l,if l.length < 2 then 7 else 0] = 0 then (spread l,0) else (0,fst0 [chkRevs l,if l.length < 2 then 7 else 0])
end Go.Nac
namespace Go.Nac
def AllInt (es:List (Value × Value)):Prop:=∀ e ∈ es,∃ y:Int,e.1 = .int .i64 y
theorem AllInt.upd {es:List (Value × Value)} (h:AllInt es) (x:Int) (v:Value):AllInt (upd (.int .i64 x) v es):=by
  induction es with
  | nil => intro e he;simp [Nac.upd] at he;exact ⟨x,by rw [he]⟩
  | cons a es ih =>
    obtain ⟨k,u⟩:=a
    intro e he
    simp only [Nac.upd] at he
    split at he
    · rcases List.mem_cons.1 he with rfl|he
      · exact ⟨x,rfl⟩
      · exact h e (by simp [he])
    · rcases List.mem_cons.1 he with rfl|he
      · exact h _ (by simp)
      · exact ih (fun e he => h e (by simp [he])) e he
def smallE (least:Int) (es:List (Value × Value)) (c:Cyc):List (Value × Value):=if c.hi - c.lo < least then upd (.int .i64 c.to_) (.bool true) (upd (.int .i64 c.from_) (.bool true) es) else es
def smallM (least:Int) (cs:List Cyc):List (Value × Value):=cs.foldl (smallE least) []
def inSmall (least:Int) (cs:List Cyc) (x:Int):Bool:=cs.any fun c => decide (c.hi - c.lo < least) && (decide (c.from_ = x) || decide (c.to_ = x))
def filt (l:List Rev) (least:Int):List Rev:=l.filter fun r => !inSmall least (countOf l).1 r.at_
def filtErr (l:List Rev) (least:Int):Int:=fst0 [chkRevs l,rng least (-999999999) 999999999]
def shR (s:Int) (r:Rev):Rev:=⟨r.at_ + s,r.ld⟩
def farB (b:List Rev) (s:Int):Bool:=b.any fun r => decide (¬ rng (r.at_ + s) 0 39999 = 0)
def nearB (a b:List Rev) (s:Int):Bool :=
  match a.getLast?,b.head? with
  | some p,some q => decide (q.at_ + s ≤ p.at_)
  | _,_ => false
def joinErr (a b:List Rev) (s:Int):Int:=if farB b s = true then 3 else if nearB a b s = true then 11 else 0
def joinRes (a b:List Rev) (s:Int):List Rev:=if joinErr a b s = 0 then revsOf (a ++ b.map (shR s)) else []
def shK (b:List Rev) (s:Int) (k:Nat):List Rev:=(b.take k).map (shR s) ++ b.drop k
def jErr (a b:List Rev) (s:Int):Int:=if fst0 [chkRevs a,chkRevs b,rng s 0 40000] = 0 then joinErr a b s else fst0 [chkRevs a,chkRevs b,rng s 0 40000]
def jRes (a b:List Rev) (s:Int):List Rev:=if fst0 [chkRevs a,chkRevs b,rng s 0 40000] = 0 then joinRes a b s else []
def closeShift (l:List Rev):Int :=
  match l.head?,l.getLast? with
  | some a,some z => z.at_ - a.at_ + 1
  | _,_ => 0
def closeErr (l:List Rev):Int:=if chkRevs l = 0 then (if l = [] then 0 else joinErr l l (closeShift l)) else chkRevs l
def closeRes (l:List Rev):List Cyc:=if closeErr l = 0 then (if l = [] then [] else (countOf (joinRes l l (closeShift l))).1) else []
end Go.Nac
namespace Go.Nac
def pwI (x e:Int):Int:=if e = 1 then x else if e = 2 then x * x else x * x * x
def IsRoot (n e r:Int):Prop:=0 ≤ r ∧ pwI r e ≤ n ∧ n < pwI (r + 1) e
open Classical in
noncomputable def rootOf (n e:Int):Int:=if h:∃ r,IsRoot n e r then Classical.choose h else 0
def lifeErr (x:Life):Int:=fst0 [rng x.cap 1 1152921504606846976,rng x.exp 1 3]
noncomputable def eqvRes (l:List Cyc) (e number:Int):Int × Int :=
  if ¬ (dmgRes l e).2 = 0 ∧ ¬ (dmgRes l e).2 = 4 then (0,(dmgRes l e).2)
  else if fst0 [rng number 1 999999999,(dmgRes l e).2] = 0 then (rootOf ((dmgRes l e).1 / number) e,0) else (0,fst0 [rng number 1 999999999,(dmgRes l e).2])
def repRes (x:Life) (l:List Int):Int × Int :=
  if fst0 [lifeErr x,chkLoads l] = 0 then
    (if fst0 [(twRes l x.exp).2,if (twRes l x.exp).1 = 0 then 7 else 0] = 0 then (2 * x.cap / (twRes l x.exp).1,0) else (0,fst0 [(twRes l x.exp).2,if (twRes l x.exp).1 = 0 then 7 else 0]))
  else (0,fst0 [lifeErr x,chkLoads l])
end Go.Nac
namespace Go.Nac
def awL:List Int:=[0,5,5,2,4,-1,3,6]
def awR:List Rev:=[⟨0,0⟩,⟨1,5⟩,⟨3,2⟩,⟨4,4⟩,⟨5,-1⟩,⟨7,6⟩]
def awC:List Cyc:=[⟨3,4,2,4⟩]
def awD:List Rev:=[⟨0,0⟩,⟨1,5⟩,⟨5,-1⟩,⟨7,6⟩]
def awO:List Cyc:=[⟨8,9,0,5⟩,⟨7,13,-1,6⟩]
end Go.Nac
namespace Go.Nac
open Ieee
theorem dbl_least:double.leastPlace = -1074:=by decide
theorem dbl_binade:double.binade = 4503599627370496:=by decide
theorem dbl_inf:double.infRung = 9218868437227405312:=by decide
theorem dbl_sign:double.signWeight = 9223372036854775808:=by decide
theorem dbl_frac:double.fractionBits = 52:=rfl
theorem cut_none (way:Toward) (neg:Bool) (n:Nat):way.cut neg n 0 = n:=by cases way <;> simp [Toward.cut,Nat.mod_one]
theorem cut_two (neg:Bool) (a d:Nat) (ha:a ≠ 0):Toward.even.cut neg (2 * a) (d + 1) = Toward.even.cut neg a d:=by
  unfold Toward.cut
  have h1:(2 * a).log2 = a.log2 + 1:=Nat.log2_two_mul ha
  have h2:(1 <<< min (d + 1) ((2 * a).log2 + 2):Nat) = 2 * (1 <<< min d (a.log2 + 2)):=by
    rw [h1,show min (d + 1) (a.log2 + 1 + 2) = min d (a.log2 + 2) + 1 from by omega,Nat.shiftLeft_eq,Nat.shiftLeft_eq,Nat.pow_succ];omega
  have h3:0 < (1 <<< min d (a.log2 + 2):Nat):=by rw [Nat.shiftLeft_eq];exact Nat.mul_pos (by decide) (Nat.pow_pos (by decide))
  simp only [h2]
  generalize (1 <<< min d (a.log2 + 2):Nat) = g at h3
  have h4:2 * a / (2 * g) = a / g:=Nat.mul_div_mul_left a g (by decide)
  have h5:2 * a % (2 * g) = 2 * (a % g):=Nat.mul_mod_mul_left 2 a g
  rw [h4,h5]
  have e1:decide (2 * g < 2 * (2 * (a % g))) = decide (g < 2 * (a % g)):=decide_eq_decide.2 (by omega)
  have e2:(2 * g == 2 * (2 * (a % g))) = (g == 2 * (a % g)):=by rw [Bool.eq_iff_iff];simp only [beq_iff_eq];omega
  rw [e1,e2]
theorem nearest_two (neg:Bool) (a:Nat) (p:Int) (ha:a ≠ 0):double.nearest neg (2 * a) p = double.nearest neg a (p + 1):=by
  unfold Format.nearest
  rw [if_neg (by omega),if_neg ha,Nat.log2_two_mul ha,dbl_least,dbl_frac]
  have e:max (p + ((a.log2 + 1:Nat):Int) - ((52:Nat):Int)) (-1074) = max (p + 1 + (a.log2:Int) - ((52:Nat):Int)) (-1074):=by congr 1;omega
  simp only [e]
  generalize max (p + 1 + (a.log2:Int) - ((52:Nat):Int)) (-1074) = last
  congr 3
  by_cases h:last ≤ p
  · rw [show (last - p).toNat = 0 from by omega,show (last - (p + 1)).toNat = 0 from by omega,cut_none,cut_none,show (p + 1 - last).toNat = (p - last).toNat + 1 from by omega,
      Nat.shiftLeft_eq,Nat.shiftLeft_eq,Nat.pow_succ]
    rw [Nat.mul_comm 2 a,Nat.mul_assoc,Nat.mul_comm 2]
  · rw [show (p - last).toNat = 0 from by omega,show (p + 1 - last).toNat = 0 from by omega,show (last - p).toNat = (last - (p + 1)).toNat + 1 from by omega]
    exact cut_two neg a _ ha
theorem nearest_pow (neg:Bool) (a:Nat) (k:Nat):∀ p:Int,double.nearest neg (a * 2 ^ k) p = double.nearest neg a (p + k):=by
  by_cases ha:a = 0
  · intro p;subst ha;simp [Format.nearest]
  induction k with
  | zero => intro p;simp
  | succ k ih =>
    intro p
    have:a * 2 ^ (k + 1) = 2 * (a * 2 ^ k):=by rw [Nat.pow_succ,Nat.mul_comm 2,Nat.mul_assoc]
    rw [this,nearest_two _ _ _ (Nat.mul_ne_zero ha (by simp)),ih]
    congr 1;omega
theorem read_word (neg:Bool) {r:Nat} (h:r < 9223372036854775808):double.read (double.word neg r) = if r < 4503599627370496 then .number neg r (-1074)
    else if r < 9218868437227405312 then .number neg (4503599627370496 + r % 4503599627370496) (-1074 + (r / 4503599627370496 - 1:Nat))
    else if r = 9218868437227405312 then .infinity neg else .nan neg (r - 9218868437227405312):=by
  unfold Format.read Format.word
  rw [dbl_sign,dbl_binade,dbl_inf,dbl_least]
  have h1:((if neg = true then 9223372036854775808 + r else r) / 9223372036854775808 % 2 == 1) = neg:=by
    cases neg
    · simp only [Bool.false_eq_true,if_false];rw [Nat.div_eq_of_lt h];rfl
    · simp only [if_true];rw [Nat.add_div_left _ (by decide),Nat.div_eq_of_lt h];rfl
  have h2:(if neg = true then 9223372036854775808 + r else r) % 9223372036854775808 = r:=by
    cases neg
    · simp only [Bool.false_eq_true,if_false];exact Nat.mod_eq_of_lt h
    · simp only [if_true];rw [Nat.add_mod_left];exact Nat.mod_eq_of_lt h
  simp only [h1,h2]
theorem read_nearest (neg:Bool) {a:Nat} {p:Int} (ha:a < 2 ^ 53) (hp:-1074 ≤ p) (hq:p ≤ 970) :
    ∃ (k:Nat) (l:Int),double.read (double.nearest neg a p) = .number neg (a * 2 ^ k) l ∧ l + k = p ∧ -1074 ≤ l:=by
  by_cases h0:a = 0
  · subst h0
    refine ⟨(p + 1074).toNat,-1074,?_,by omega,Int.le_refl _⟩
    unfold Format.nearest
    rw [if_pos rfl,read_word _ (by decide),if_pos (by decide)]
    simp
  have hlog:a.log2 ≤ 52:=by
    have:=(Nat.log2_lt h0 (k:=53)).2 ha;omega
  obtain ⟨last,hl⟩:∃ last,last = max (p + (a.log2:Int) - 52) (-1074):=⟨_,rfl⟩
  refine ⟨(p - last).toNat,last,?_,by omega,by omega⟩
  unfold Format.nearest
  rw [if_neg h0,dbl_least,dbl_frac,dbl_binade,dbl_inf]
  simp only [show ((52:Nat):Int) = 52 from rfl,← hl]
  rw [show (last - p).toNat = 0 from by omega,cut_none,Nat.shiftLeft_eq]
  have hk:a.log2 + (p - last).toNat ≤ 52:=by omega
  have hlt:a * 2 ^ (p - last).toNat < 2 ^ 53:=by
    have h1:a < 2 ^ (a.log2 + 1):=Nat.lt_log2_self
    calc a * 2 ^ (p - last).toNat < 2 ^ (a.log2 + 1) * 2 ^ (p - last).toNat:=Nat.mul_lt_mul_of_pos_right h1 (Nat.pow_pos (by decide))
      _ = 2 ^ (a.log2 + 1 + (p - last).toNat):=(Nat.pow_add ..).symm
      _ ≤ 2 ^ 53:=Nat.pow_le_pow_right (by decide) (by omega)
  by_cases hc:last = -1074
  · rw [hc] at hlt ⊢
    simp only [show (-1074 - -1074:Int).toNat = 0 from rfl,Nat.zero_mul,Nat.zero_add]
    generalize a * 2 ^ (p - -1074).toNat = n at hlt
    rw [Nat.min_eq_left (by omega),read_word _ (by omega)]
    by_cases hn:n < 4503599627370496
    · rw [if_pos hn]
    · rw [if_neg hn,if_pos (by omega)]
      have e1:n / 4503599627370496 = 1:=by omega
      have e2:4503599627370496 + n % 4503599627370496 = n:=by omega
      rw [e1,e2];rfl
  · have hle:last = p + (a.log2:Int) - 52:=by omega
    have hge:2 ^ 52 ≤ a * 2 ^ (p - last).toNat:=by
      have h1:2 ^ a.log2 ≤ a:=Nat.log2_self_le h0
      calc 2 ^ 52 = 2 ^ a.log2 * 2 ^ (p - last).toNat:=by rw [← Nat.pow_add];congr 1;omega
        _ ≤ a * 2 ^ (p - last).toNat:=Nat.mul_le_mul_right _ h1
    generalize a * 2 ^ (p - last).toNat = n at hlt hge
    obtain ⟨j,hj⟩:∃ j:Nat,j = (last - -1074).toNat:=⟨_,rfl⟩
    rw [← hj]
    have hj1:1 ≤ j ∧ j ≤ 2044:=by omega
    have hj2:last = -1074 + j:=by omega
    have hr:j * 4503599627370496 + n < 9218868437227405312:=by omega
    rw [Nat.min_eq_left (Nat.le_of_lt hr),read_word _ (by omega),if_neg (by omega),if_pos hr]
    have e1:(j * 4503599627370496 + n) / 4503599627370496 = j + 1:=by omega
    have e2:4503599627370496 + (j * 4503599627370496 + n) % 4503599627370496 = n:=by omega
    rw [e1,e2,hj2];simp
@[irreducible] def uE:Nat:=1100
theorem uE_eq:uE = 1100:=by unfold uE;rfl
def fV (s:Bool) (m:Nat) (l:Int):Int:=signed s m (l + 1100).toNat
theorem signed_eq (s:Bool) (m u:Nat):signed s m u = if s = true then -((m * 2 ^ u:Nat):Int) else ((m * 2 ^ u:Nat):Int):=by
  unfold signed;rw [Nat.shiftLeft_eq]
theorem signed_mul (s:Bool) (m u k:Nat):signed s m (u + k) = signed s m u * 2 ^ k:=by
  rw [signed_eq,signed_eq]
  cases s <;> simp [Nat.pow_add,Int.natCast_mul,Int.mul_assoc,Int.neg_mul]
theorem fV_pow (s:Bool) (a k:Nat) {l p:Int} (h:l + k = p) (hl:-1100 ≤ l):fV s (a * 2 ^ k) l = fV s a p:=by
  unfold fV
  rw [signed_eq,signed_eq]
  have:a * 2 ^ k * 2 ^ (l + 1100).toNat = a * 2 ^ (p + 1100).toNat:=by
    rw [Nat.mul_assoc,← Nat.pow_add];congr 2;omega
  rw [this]
theorem cmp_lt {a b:Int}:(compare a b = .lt) = (a < b):=by
  apply propext
  simp only [compare,compareOfLessAndEq]
  split
  · simp [*]
  · split <;> simp [*]
theorem cmp_eq {a b:Int}:(compare a b = .eq) = (a = b):=by
  apply propext
  simp only [compare,compareOfLessAndEq]
  split
  · constructor
    · intro h;cases h
    · intro h;omega
  · split <;> simp [*]
theorem cmp_gt {a b:Int}:(compare a b = .gt) = (b < a):=by
  apply propext
  simp only [compare,compareOfLessAndEq]
  split
  · constructor
    · intro h;cases h
    · intro h;omega
  · split
    · constructor
      · intro h;cases h
      · intro h;omega
    · constructor
      · intro;omega
      · intro;rfl
theorem cmp_mul (a b:Int) (k:Nat):compare (a * 2 ^ k) (b * 2 ^ k) = compare a b:=by
  have hk:(0:Int) < 2 ^ k:=Int.pow_pos (by decide)
  have lt:∀ {x y:Int},x < y → compare x y = .lt:=fun h => cmp_lt.mpr h
  have gt:∀ {x y:Int},y < x → compare x y = .gt:=fun h => cmp_gt.mpr h
  rcases Int.lt_trichotomy a b with h|h|h
  · rw [lt h,lt (Int.mul_lt_mul_of_pos_right h hk)]
  · rw [h]
    rw [show compare b b = .eq from cmp_eq.mpr rfl,show compare (b * 2 ^ k) (b * 2 ^ k) = .eq from cmp_eq.mpr rfl]
  · rw [gt h,gt (Int.mul_lt_mul_of_pos_right h hk)]
theorem order_fV {s t:Bool} {m n:Nat} {i j:Int} (hi:-1100 ≤ i) (hj:-1100 ≤ j):(Datum.number s m i).order (.number t n j) = some (compare (fV s m i) (fV t n j)):=by
  show some (compare (signed s m (i - min i j).toNat) (signed t n (j - min i j).toNat)) = _
  congr 1
  rw [← cmp_mul _ _ (min i j + 1100).toNat,← signed_mul,← signed_mul]
  unfold fV
  congr 2 <;> omega
abbrev c16:Nat:=4625196817309499392
theorem read_c16:double.read c16 = .number false 4503599627370496 (-48):=by decide
theorem mul16 {s:Bool} {a:Nat} {p:Int} (ha:a < 2 ^ 53) (hp:-1074 ≤ p) (hq:p ≤ 970):double.mul c16 (double.nearest s a p) = some (double.nearest s a (p + 4)) ∧ double.mul (double.nearest s a p) c16 = some (double.nearest s a (p + 4)):=by
  obtain ⟨k,l,h1,h2,h3⟩:=read_nearest s ha hp hq
  have key:∀ q:Int,q = l + -48 → double.nearest s (a * 2 ^ k * 2 ^ 52) q = double.nearest s a (p + 4):=by
    intro q hq
    rw [nearest_pow,nearest_pow];congr 1;omega
  unfold Format.mul
  rw [h1,read_c16]
  refine ⟨?_,?_⟩
  · show some (double.nearest (false ^^ s) (4503599627370496 * (a * 2 ^ k)) (-48 + l)) = _
    rw [Bool.false_xor,Nat.mul_comm]
    exact congrArg some (key _ (by omega))
  · show some (double.nearest (s ^^ false) (a * 2 ^ k * 4503599627370496) (l + -48)) = _
    rw [Bool.xor_false]
    exact congrArg some (key _ (by omega))
theorem sub_same {b:Nat} {s:Bool} {m:Nat} {l:Int} (h:double.read b = .number s m l):double.sub b b = some 0:=by
  unfold Format.sub
  rw [h]
  show some (double.nearest (if signed s m (l - min l l).toNat + signed (!s) m (l - min l l).toNat = 0 then s && !s else _) _ _) = _
  have:signed s m (l - min l l).toNat + signed (!s) m (l - min l l).toNat = 0:=by
    rw [signed_eq,signed_eq];cases s <;> simp <;> omega
  rw [if_pos this,this]
  have e:(s && !s) = false:=by cases s <;> rfl
  rw [e]
  rfl
theorem order_zero:double.order 0 0 = some .eq:=by decide
def fTr (s:Bool) (m:Nat) (p:Int):Int:=signed s (m * 2 ^ p.toNat / 2 ^ (-p).toNat) 0
theorem signed_zero (s:Bool) (m:Nat):signed s m 0 = if s = true then -(m:Int) else (m:Int):=by rw [signed_eq];simp
theorem cut_zero_div (s:Bool) (n d:Nat):Toward.zero.cut s n d = n / 2 ^ d:=by
  unfold Toward.cut
  simp only [Bool.toNat_false,Nat.add_zero]
  rw [Nat.shiftLeft_eq,Nat.one_mul]
  rcases Nat.le_total d (n.log2 + 2) with h|h
  · rw [Nat.min_eq_left h]
  · rw [Nat.min_eq_right h]
    have hn:n < 2 ^ (n.log2 + 2):=Nat.lt_of_lt_of_le Nat.lt_log2_self (Nat.pow_le_pow_right (by decide) (by omega))
    rw [Nat.div_eq_of_lt hn,Nat.div_eq_of_lt (Nat.lt_of_lt_of_le hn (Nat.pow_le_pow_right (by decide) h))]
theorem tr_pow (s:Bool) (a k:Nat) {l p:Int} (h:l + k = p):fTr s (a * 2 ^ k) l = fTr s a p:=by
  unfold fTr
  congr 1
  rcases Int.le_total 0 l with hl|hl
  · rw [show (-l).toNat = 0 from by omega,show (-p).toNat = 0 from by omega,Nat.mul_assoc,← Nat.pow_add]
    congr 3;omega
  · rw [show l.toNat = 0 from by omega,Nat.pow_zero,Nat.mul_one]
    rcases Int.le_total 0 p with hp|hp
    · rw [show (-p).toNat = 0 from by omega,Nat.pow_zero,Nat.div_one]
      have:a * 2 ^ k = a * 2 ^ p.toNat * 2 ^ (-l).toNat:=by rw [Nat.mul_assoc,← Nat.pow_add];congr 2;omega
      rw [this,Nat.mul_div_cancel _ (Nat.pow_pos (by decide))]
    · rw [show p.toNat = 0 from by omega,Nat.pow_zero,Nat.mul_one]
      rw [show (-l).toNat = (-p).toNat + k from by omega,Nat.pow_add,Nat.mul_div_mul_right _ _ (Nat.pow_pos (by decide))]
theorem toInt_nearest {s:Bool} {a:Nat} {p:Int} (ha:a < 2 ^ 53) (hp:-1074 ≤ p) (hq:p ≤ 970):(double.read (double.nearest s a p)).toInt .zero = some (fTr s a p):=by
  obtain ⟨k,l,h1,h2,h3⟩:=read_nearest s ha hp hq
  rw [h1]
  show some (signed s (Toward.zero.cut s ((a * 2 ^ k) <<< l.toNat) (-l).toNat) 0) = _
  rw [cut_zero_div,Nat.shiftLeft_eq,← tr_pow s a k h2];rfl
def fWhole (s:Bool) (m:Nat) (p:Int):Bool:=decide (fTr s m p * 2 ^ uE = fV s m p)
theorem fV_int (n:Int):fV (decide (n < 0)) n.natAbs 0 = n * 2 ^ uE:=by
  unfold fV
  rw [signed_eq,show ((0:Int) + 1100).toNat = uE from uE_eq.symm]
  generalize uE = u
  by_cases h:n < 0
  · simp only [h,decide_true,if_true]
    rw [Int.natCast_mul,Int.natCast_pow,← Int.neg_mul]
    have e:-((n.natAbs:Nat):Int) = n:=by omega
    rw [e];rfl
  · simp only [h,decide_false,Bool.false_eq_true,if_false]
    rw [Int.natCast_mul,Int.natCast_pow]
    have e:((n.natAbs:Nat):Int) = n:=by omega
    rw [e];rfl
theorem order_nearest {s t:Bool} {a b:Nat} {p q:Int} (ha:a < 2 ^ 53) (hp:-1074 ≤ p) (hp':p ≤ 970) (hb:b < 2 ^ 53) (hq:-1074 ≤ q) (hq':q ≤ 970) :
    double.order (double.nearest s a p) (double.nearest t b q) = some (compare (fV s a p) (fV t b q)):=by
  obtain ⟨k,l,h1,h2,h3⟩:=read_nearest s ha hp hp'
  obtain ⟨j,i,g1,g2,g3⟩:=read_nearest t hb hq hq'
  unfold Format.order
  rw [h1,g1,order_fV (by omega) (by omega),fV_pow s a k h2 (by omega),fV_pow t b j g2 (by omega)]
theorem order_const {s t:Bool} {a n:Nat} {p j:Int} (ha:a < 2 ^ 53) (hp:-1074 ≤ p) (hp':p ≤ 970) {c:Nat} (hc:double.read c = .number t n j) (hj:-1100 ≤ j) :
    double.order (double.nearest s a p) c = some (compare (fV s a p) (fV t n j)):=by
  obtain ⟨k,l,h1,h2,h3⟩:=read_nearest s ha hp hp'
  unfold Format.order
  rw [h1,hc,order_fV (by omega) hj,fV_pow s a k h2 (by omega)]
def fFl (s:Bool) (m:Nat) (p:Int):Nat:=m * 2 ^ p.toNat / 2 ^ (-p).toNat + (s && m * 2 ^ p.toNat % 2 ^ (-p).toNat != 0).toNat
theorem natAbs_fTr (s:Bool) (m:Nat) (p:Int):(fTr s m p).natAbs = m * 2 ^ p.toNat / 2 ^ (-p).toNat:=by
  unfold fTr;rw [signed_zero]
  generalize m * 2 ^ p.toNat / 2 ^ (-p).toNat = n
  cases s <;> simp
theorem fV_zero (s:Bool) (n u:Nat) (hu:u = 1100):fV s n 0 = signed s n u:=by subst hu;rfl
theorem fV_le {s:Bool} {m:Nat} {p:Int} (hp:-1100 ≤ p) {b:Nat} (h1:¬ fV s m p < fV true b 0) (h2:¬ fV false b 0 < fV s m p):m * 2 ^ p.toNat / 2 ^ (-p).toNat ≤ b ∧ m * 2 ^ p.toNat ≤ b * 2 ^ (-p).toNat:=by
  obtain ⟨u,hu⟩:∃ u:Nat,u = 1100:=⟨_,rfl⟩
  rw [fV_zero _ _ u hu] at h1 h2
  obtain ⟨d,hd⟩:∃ d:Nat,d = (-p).toNat:=⟨_,rfl⟩
  obtain ⟨n,hn⟩:∃ n:Nat,n = m * 2 ^ p.toNat:=⟨_,rfl⟩
  have hdu:d ≤ u:=by omega
  have e2:fV s m p = signed s n (u - d):=by
    unfold fV
    rw [signed_eq,signed_eq,hn,Nat.mul_assoc,← Nat.pow_add]
    have:(p + 1100).toNat = p.toNat + (u - d):=by omega
    rw [this]
  rw [e2] at h1 h2
  rw [← hd,← hn]
  have hb:∀ t,signed t b u = signed t (b * 2 ^ d) (u - d):=fun t => by
    rw [signed_eq,signed_eq,Nat.mul_assoc,← Nat.pow_add,show d + (u - d) = u from by omega]
  rw [hb,signed_eq,signed_eq] at h1 h2
  have hpos:0 < 2 ^ (u - d):=Nat.pow_pos (by decide)
  have:n * 2 ^ (u - d) ≤ b * 2 ^ d * 2 ^ (u - d):=by
    cases s
    · simp only [Bool.false_eq_true,if_false] at h2;omega
    · simp only [if_true] at h1;omega
  have h3:n ≤ b * 2 ^ d:=Nat.le_of_mul_le_mul_right this hpos
  exact ⟨Nat.div_le_of_le_mul (by rw [Nat.mul_comm];exact h3),h3⟩
theorem read_single {x:Nat} {s:Bool} {m:Nat} {e:Int} (h:single.read x = .number s m e):m < 2 ^ 53 ∧ -149 ≤ e ∧ e ≤ 104:=by
  unfold Format.read at h
  have e1:single.signWeight = 2147483648:=by decide
  have e2:single.binade = 8388608:=by decide
  have e3:single.infRung = 2139095040:=by decide
  have e4:single.leastPlace = -149:=by decide
  rw [e1,e2,e3,e4] at h
  simp only at h
  split at h
  · cases h;exact ⟨by omega,by omega,by omega⟩
  · split at h
    · cases h;exact ⟨by omega,by omega,by omega⟩
    · split at h <;> cases h
def smpE (x:Nat):Int :=
  match single.read x with
  | .number s m e => if fV s m (e + 4) < fV true 32768 0 ∨ fV false 32768 0 < fV s m (e + 4) ∨ fWhole s m (e + 4) = false then 3 else 0
  | _ => 1
def six (x:Nat):Int :=
  match single.read x with
  | .number s m e => fTr s m (e + 4)
  | _ => 0
def nz (x:Nat):Bool :=
  match single.read x with
  | .number _ m _ => m != 0
  | _ => true
theorem six_small {x:Nat} (h:smpE x = 0):-32768 ≤ six x ∧ six x ≤ 32768:=by
  unfold smpE at h;unfold six
  cases hr:single.read x with
  | number s m e =>
    rw [hr] at h
    simp only at h ⊢
    obtain ⟨_,h1,_⟩:=read_single hr
    split at h
    · cases h
    · rename_i hc
      simp only [not_or] at hc
      have:=(fV_le (by omega) hc.1 hc.2.1).1
      rw [← natAbs_fTr s m (e + 4)] at this
      omega
  | infinity s => rw [hr] at h;cases h
  | nan s t => rw [hr] at h;cases h
end Go.Nac
set_option maxRecDepth 10000
namespace Go.Nac
open Ieee
theorem f64_read (b:Nat):FloatKind.f64.decode b = double.read b:=rfl
theorem f32_read (b:Nat):FloatKind.f32.decode b = single.read b:=rfl
theorem s_ff {x:Nat} {s:Bool} {m:Nat} {e:Int} (h:single.read x = .number s m e):sopV (.ff .f64) [.s (.float .f32 x)] = some (.s (.float .f64 (double.nearest s m e))):=by
  obtain ⟨h1,h2,h3⟩:=read_single h
  obtain ⟨k,l,g1,_,_⟩:=read_nearest s h1 (show (-1074:Int) ≤ e by omega) (by omega)
  have e1:(FloatKind.f64.decode (FloatKind.f64.encode (.number s m e))).isInfinity = false:=by
    show (double.read (double.nearest s m e)).isInfinity = false
    rw [g1];rfl
  simp only [sopV,f32_read,h]
  rw [if_neg (by decide),if_neg (by rw [e1];decide)];rfl
theorem s_ff_nan {x:Nat} {s:Bool} {t:Nat} (h:single.read x = .nan s t):sopV (.ff .f64) [.s (.float .f32 x)] = some (.nan .f64):=by
  simp only [sopV,f32_read,h];rfl
theorem s_ff_inf {x:Nat} {s:Bool} (h:single.read x = .infinity s):sopV (.ff .f64) [.s (.float .f32 x)] = some (.s (.float .f64 (double.word s double.infRung))):=by
  simp only [sopV,f32_read,h];rfl
theorem s_sub {s:Bool} {m:Nat} {e:Int} (h1:m < 2 ^ 53) (h2:-1074 ≤ e) (h3:e ≤ 970):sopV (.fbin .sub) [.s (.float .f64 (double.nearest s m e)),.s (.float .f64 (double.nearest s m e))] = some (.s (.float .f64 0)):=by
  obtain ⟨k,l,g1,_,_⟩:=read_nearest s h1 h2 h3
  have:FloatKind.f64.format.sub (double.nearest s m e) (double.nearest s m e) = some 0:=sub_same g1
  simp only [sopV,if_true,fArith,this]
theorem s_neq0:sopV (.fbin .neq) [.s (.float .f64 0),.s (.float .f64 0)] = some (.B false):=sopV_cmp rfl (by show fCmp .neq (double.order 0 0) = _;rw [order_zero];rfl)
theorem s_nan_sub:sopV (.fbin .sub) [.nan .f64,.nan .f64] = some (.nan .f64):=by simp [sopV,fKind,fArith,show (FloatKind.f64.format.sub 0 0).isSome = true from by decide]
theorem s_nan_neq {c:Nat}:sopV (.fbin .neq) [.nan .f64,.s (.float .f64 c)] = some (.B true):=by simp [sopV,fKind,fArith,fCmp]
theorem x_inf_sub (s:Bool):double.sub (double.word s double.infRung) (double.word s double.infRung) = none:=by cases s <;> decide
theorem s_inf_sub (s:Bool):sopV (.fbin .sub) [.s (.float .f64 (double.word s double.infRung)),.s (.float .f64 (double.word s double.infRung))] = some (.nan .f64):=by
  have:FloatKind.f64.format.sub (double.word s double.infRung) (double.word s double.infRung) = none:=x_inf_sub s
  simp only [sopV,if_true,fArith,this]
section
variable {s:Bool} {m:Nat} {p:Int} (h1:m < 2 ^ 53) (h2:-1074 ≤ p) (h3:p ≤ 966)
include h1 h2 h3
theorem s_mul':sopV (.fbin .mul) [.s (.float .f64 (double.nearest s m p)),.s (.float .f64 c16)] = some (.s (.float .f64 (double.nearest s m (p + 4)))):=by
  have:FloatKind.f64.format.mul (double.nearest s m p) c16 = some (double.nearest s m (p + 4)):=(mul16 h1 h2 (by omega)).2
  simp only [sopV,if_true,fArith,this]
theorem fV_16:fV s m (p + 4) = fV s m p * 16:=by
  unfold fV
  rw [show (p + 4 + 1100).toNat = (p + 1100).toNat + 4 from by omega,signed_mul];rfl
theorem s_cmp {op:BinOp} {c n:Nat} {t:Bool} {j:Int} {r:Bool} (hc:double.read c = .number t n j) (hj:-1100 ≤ j) (ha:∀ a b,fArith op .f64 a b = none) (h:fCmp op (some (compare (fV s m p) (fV t n j))) = some r) :
    sopV (.fbin op) [.s (.float .f64 (double.nearest s m p)),.s (.float .f64 c)] = some (.B r):=by
  have:FloatKind.f64.format.order (double.nearest s m p) c = some (compare (fV s m p) (fV t n j)):=order_const h1 h2 (by omega) hc hj
  exact sopV_cmp (ha _ _) (by rw [this];exact h)
end
theorem cmp_lss {a b:Int}:fCmp .lss (some (compare a b)) = some (decide (a < b)):=by
  simp only [fCmp,Option.some.injEq];rw [Bool.eq_iff_iff];simp [cmp_lt]
theorem cmp_gtr {a b:Int}:fCmp .gtr (some (compare a b)) = some (decide (b < a)):=by
  simp only [fCmp,Option.some.injEq];rw [Bool.eq_iff_iff];simp [cmp_gt]
theorem cmp_neq {a b:Int}:fCmp .neq (some (compare a b)) = some (decide (a ≠ b)):=by
  simp only [fCmp,Option.some.injEq];rw [Bool.eq_iff_iff];simp [cmp_eq]
theorem fV_c (t:Bool) (k:Nat) (j p:Int) (h:j + k = p) (hj:-1100 ≤ j):fV t (2 ^ k) j = fV t 1 p:=by
  have:=fV_pow t 1 k h hj
  rwa [Nat.one_mul] at this
theorem fV_m4 (t:Bool):fV t 1 15 = fV t 1 11 * 16:=by
  rw [show (15:Int) = 11 + 4 from rfl]
  exact fV_16 (by decide) (by decide) (by decide)
theorem fV_lim (t:Bool):fV t 32768 0 = fV t 1 15:=fV_c t 15 0 15 (by decide) (by decide)
section
variable {s:Bool} {m:Nat} {p:Int} (h1:m < 2 ^ 53) (h2:-1070 ≤ p) (h3:p ≤ 966)
include h1 h2 h3
theorem s_lo':sopV (.fbin .lss) [.s (.float .f64 (double.nearest s m p)),.s (.float .f64 13880094051555868672)] = some (.B (decide (fV s m (p + 4) < fV true 32768 0))) :=
  s_cmp h1 (by omega) h3 (t:=true) (n:=2 ^ 52) (j:=-41) (by decide) (by decide) (fun _ _ => rfl) (by
    rw [cmp_lss,fV_c true 52 (-41) 11 (by decide) (by decide),fV_lim,fV_m4,fV_16 h1 (by omega) h3]
    exact congrArg some (decide_eq_decide.2 (by omega)))
theorem s_hi':sopV (.fbin .gtr) [.s (.float .f64 (double.nearest s m p)),.s (.float .f64 4656722014701092864)] = some (.B (decide (fV false 32768 0 < fV s m (p + 4)))) :=
  s_cmp h1 (by omega) h3 (t:=false) (n:=2 ^ 52) (j:=-41) (by decide) (by decide) (fun _ _ => rfl) (by
    rw [cmp_gtr,fV_c false 52 (-41) 11 (by decide) (by decide),fV_lim,fV_m4,fV_16 h1 (by omega) h3]
    exact congrArg some (decide_eq_decide.2 (by omega)))
theorem s_fi (hr:-9223372036854775808 ≤ fTr s m p ∧ fTr s m p ≤ 9223372036854775807):sopV (.fi .i64) [.s (.float .f64 (double.nearest s m p))] = some (.I (fTr s m p)):=by
  have:=toInt_nearest (s:=s) h1 (show -1074 ≤ p by omega) (by omega)
  simp only [sopV,f64_read,this]
  rw [if_pos (by exact hr)]
theorem s_eqi {n:Int} (hn:n = fTr s m p) (hs:n.natAbs < 2 ^ 53):sopV (.fbin .neq) [.s (.float .f64 (FloatKind.f64.nearest n)),.s (.float .f64 (double.nearest s m p))] = some (.B (!fWhole s m p)):=by
  have h:FloatKind.f64.format.order (FloatKind.f64.nearest n) (double.nearest s m p) = some (compare (fV (decide (n < 0)) n.natAbs 0) (fV s m p)):=order_nearest hs (by decide) (by decide) h1 (by omega) (by omega)
  refine sopV_cmp rfl ?_
  rw [h,cmp_neq,fV_int,hn]
  unfold fWhole
  by_cases hc:fTr s m p * 2 ^ uE = fV s m p <;> simp [hc]
end
theorem s_nz {x:Nat}:sopV (.fbin .neq) [.s (.float .f32 x),.s (.float .f32 0)] = some (.B (nz x)):=by
  refine sopV_cmp rfl ?_
  have h0:single.read 0 = .number false 0 (-149):=by decide
  show fCmp .neq ((single.read x).order (single.read 0)) = _
  rw [h0]
  unfold nz
  cases hr:single.read x with
  | nan s t => rfl
  | infinity s => cases s <;> rfl
  | number s m e =>
    show fCmp .neq (some (compare (signed s m (e - min e (-149)).toNat) (signed false 0 (-149 - min e (-149)).toNat))) = _
    rw [cmp_neq]
    simp only [signed_eq,Bool.false_eq_true,if_false,Nat.zero_mul]
    generalize (e - min e (-149)).toNat = u
    have hu:0 < 2 ^ u:=Nat.pow_pos (by decide)
    congr 1
    by_cases hm:m = 0
    · subst hm;simp
    · have:m * 2 ^ u ≠ 0:=Nat.mul_ne_zero hm (by omega)
      have e1:((m * 2 ^ u:Nat):Int) ≠ 0:=by exact_mod_cast this
      have e2:-((m * 2 ^ u:Nat):Int) ≠ 0:=by omega
      cases s
      · simp only [Bool.false_eq_true,if_false];rw [decide_eq_true (by exact_mod_cast e1)];simp [hm]
      · simp only [if_true];rw [decide_eq_true (by exact_mod_cast e2)];simp [hm]
end Go.Nac
namespace Go.Nac
structure Spn where
  fr:Int
  to_:Int
  deriving DecidableEq
def encSpn (x:Spn):PV:=.agg [.I x.fr,.I x.to_]
theorem encSpn_eq (x:Spn):encSpn x = .agg [.I x.fr,.I x.to_]:=rfl
theorem encSpn_cells (x:Spn):(encSpn x).cells = [.I x.fr,.I x.to_]:=nrfl rfl
theorem encSpn_low {n:Nat} (l:List Spn):lowL n (l.map encSpn) = True:=eq_true (lowL_map _ _ fun r => by simp [encSpn,PV.low,lowL])
theorem encSpn_ok (l:List Spn):(l.map encSpn).all (okElem 2) = true:=by rw [List.all_eq_true];intro x hx;obtain ⟨y,_,rfl⟩:=List.mem_map.1 hx;rfl
abbrev encF (b:Nat):PV:=.s (.float .f32 b)
theorem encF_low {n:Nat} (l:List Nat):lowL n (l.map encF) = True:=eq_true (lowL_map _ _ fun r => by simp [PV.low])
theorem encF_ok (l:List Nat):(l.map encF).all (okElem 1) = true:=by rw [List.all_eq_true];intro x hx;obtain ⟨y,_,rfl⟩:=List.mem_map.1 hx;rfl
structure Ser where
  name:ByteArray
  start:Int
  samples:List Nat
  gaps:List Spn
def encSer (x:Ser):PV:=.agg [.s (.string x.name),.I x.start,.fs (x.samples.map encF),.fs (x.gaps.map encSpn)]
theorem encSer_eq (x:Ser):encSer x = .agg [.s (.string x.name),.I x.start,.fs (x.samples.map encF),.fs (x.gaps.map encSpn)]:=rfl
theorem encSer_cells (x:Ser):(encSer x).cells = [.s (.string x.name),.I x.start,.fs (x.samples.map encF),.fs (x.gaps.map encSpn)]:=nrfl rfl
def letterB (c:Nat):Bool:=decide (97 ≤ c ∧ c ≤ 122) || decide (65 ≤ c ∧ c ≤ 90)
def chOk (i c:Nat):Bool:=letterB c || (decide (i ≠ 0) && (decide (c = 95) || decide (48 ≤ c ∧ c ≤ 57)))
def chAt (s:ByteArray) (i:Nat):Nat:=(s[i]?.getD 0).toNat
def nameOk (s:ByteArray):Bool:=decide (s.size ≠ 0) && decide (s.size ≤ 24) && (List.range s.size).all fun i => chOk i (chAt s i)
theorem nameOk_bad {s:ByteArray} {i:Nat} (h:i < s.size) (hc:chOk i (chAt s i) = false):nameOk s = false:=by
  unfold nameOk
  have:((List.range s.size).all fun i => chOk i (chAt s i)) = false:=by
    rw [List.all_eq_false];exact ⟨i,by simpa using h,by simp [hc]⟩
  rw [this,Bool.and_false]
theorem nameOk_good {s:ByteArray} (h0:s.size ≠ 0) (h1:s.size ≤ 24) (h:∀ i,i < s.size → chOk i (chAt s i) = true):nameOk s = true:=by
  unfold nameOk
  have:((List.range s.size).all fun i => chOk i (chAt s i)) = true:=by
    rw [List.all_eq_true];intro i hi;exact h i (by simpa using hi)
  simp [this,h0,h1]
theorem nameOk_zero {s:ByteArray} (h0:s.size = 0):nameOk s = false:=by simp [nameOk,h0]
theorem nameOk_long {s:ByteArray} (h0:24 < s.size):nameOk s = false:=by simp [nameOk];omega
def chkSpn (s:Spn):Int:=if s.fr < 0 ∨ s.to_ ≤ s.fr ∨ 40000 < s.to_ then 14 else 0
def chkSpnsF (last:Int):List Spn → Int
  | [] => 0
  | s :: r => if chkSpn s = 0 then (if s.fr ≤ last then 11 else chkSpnsF s.to_ r) else 14
def chkSpns (l:List Spn):Int:=if 1024 < l.length then 5 else chkSpnsF (-1) l
def lastTo (l:List Spn) (k:Nat):Int:=if k = 0 then -1 else match l[k - 1]? with|some s => s.to_|none => -1
theorem lastTo_succ {l:List Spn} {k:Nat} {s:Spn} (h:l[k]? = some s):lastTo l (k + 1) = s.to_:=by simp [lastTo,h]
theorem chkSpnsF_drop {l:List Spn} {k:Nat} {s:Spn} (h:l[k]? = some s) (last:Int):chkSpnsF last (l.drop k) = if chkSpn s = 0 then (if s.fr ≤ last then 11 else chkSpnsF s.to_ (l.drop (k + 1))) else 14:=by
  obtain ⟨h1,h2⟩:=List.getElem?_eq_some_iff.1 h
  rw [List.drop_eq_getElem_cons h1,h2,chkSpnsF]
theorem chkSpnsF_end {l:List Spn} {k:Nat} (h:l.length ≤ k) (last:Int):chkSpnsF last (l.drop k) = 0:=by
  rw [List.drop_eq_nil_of_le h];rfl
theorem chkSpn_ok {s:Spn} (h:chkSpn s = 0):0 ≤ s.fr ∧ s.fr < s.to_ ∧ s.to_ ≤ 40000:=by
  unfold chkSpn at h;split at h
  · cases h
  · omega
theorem chkSpnsF_ok {l:List Spn}:∀ {last:Int},chkSpnsF last l = 0 → (∀ s:Spn,s ∈ l → 0 ≤ s.fr ∧ s.fr < s.to_ ∧ last < s.fr) ∧ ∀ s:Spn,s ∈ l → ∀ z:Spn,l.getLast? = some z → s.to_ ≤ z.to_:=by
  induction l with
  | nil => intro last _;exact ⟨fun s h => absurd h (by simp),fun s h => absurd h (by simp)⟩
  | cons a l ih =>
    intro last h
    rw [chkSpnsF] at h
    split at h
    · rename_i h0
      split at h
      · cases h
      · rename_i h1
        obtain ⟨g1,g2⟩:=ih h
        have ha:=chkSpn_ok h0
        refine ⟨fun s hs => ?_,fun s hs z hz => ?_⟩
        · rcases List.mem_cons.1 hs with rfl|hs
          · exact ⟨ha.1,ha.2.1,by omega⟩
          · have:=g1 s hs;exact ⟨this.1,this.2.1,by omega⟩
        · cases l with
          | nil => simp at hz hs;subst hz;subst hs;exact Int.le_refl _
          | cons b l =>
            have hz':(b :: l).getLast? = some z:=by simpa using hz
            rcases List.mem_cons.1 hs with rfl|hs
            · have h3:=g2 b (by simp) z hz'
              have h4:=g1 b (by simp)
              omega
            · exact g2 s hs z hz'
    · cases h
def gapAt (g:List Spn) (i:Int):Bool:=g.any fun s => decide (s.fr ≤ i ∧ i < s.to_)
theorem gapAt_snoc (l:List Spn) (k:Nat) (s:Spn) (h:l[k]? = some s) (i:Int):gapAt (l.take (k + 1)) i = (gapAt (l.take k) i || decide (s.fr ≤ i ∧ i < s.to_)):=by
  obtain ⟨h1,h2⟩:=List.getElem?_eq_some_iff.1 h
  unfold gapAt
  rw [List.take_succ_eq_append_getElem h1,h2,List.any_append];simp
def chkGap (l:List Nat) (g:List Spn):Int:=if (List.range l.length).any (fun i => nz (l.getD i 0) && gapAt g i) then 17 else 0
theorem chkGap_bad {l:List Nat} {g:List Spn} {i x:Nat} (h:l[i]? = some x) (h1:nz x = true) (h2:gapAt g i = true):chkGap l g = 17:=by
  unfold chkGap
  rw [if_pos]
  rw [List.any_eq_true]
  refine ⟨i,by simpa using (List.getElem?_eq_some_iff.1 h).1,?_⟩
  rw [List.getD_eq_getElem?_getD,h];simp [h1,h2]
theorem chkGap_good {l:List Nat} {g:List Spn} (h:∀ (i x:Nat),l[i]? = some x → (nz x && gapAt g i) = false):chkGap l g = 0:=by
  unfold chkGap
  rw [if_neg]
  rw [Bool.not_eq_true,List.any_eq_false]
  intro i hi
  have hi:i < l.length:=by simpa using hi
  have:=h i _ (List.getElem?_eq_getElem hi)
  rw [List.getD_eq_getElem?_getD,List.getElem?_eq_getElem hi];simpa using this
def chkLast (l:List Nat) (g:List Spn):Int:=match g.getLast? with|some z => if (l.length:Int) < z.to_ then 14 else 0|none => 0
def chkSer (s:Ser):Int :=
  if nameOk s.name = false then 8 else if ¬ rng s.start 0 999999999 = 0 then 3 else if 40000 < s.samples.length then 5 else
  if ¬ fst0 (s.samples.map smpE) = 0 then fst0 (s.samples.map smpE) else if ¬ chkSpns s.gaps = 0 then chkSpns s.gaps else
  if ¬ chkLast s.samples s.gaps = 0 then 14 else chkGap s.samples s.gaps
def loadsK (l:List Nat) (g:List Spn) (k:Nat):List Int:=((l.take k).zipIdx.filter fun p => !gapAt g p.2).map fun p => six p.1
end Go.Nac
namespace Go.Nac
theorem toList_loop_ne (s:ByteArray):∀ (n i:Nat) (r:List UInt8),s.size - i ≤ n → r ≠ [] → ByteArray.toList.loop s i r ≠ []:=by
  intro n
  induction n with
  | zero =>
    intro i r h hr
    rw [ByteArray.toList.loop,if_neg (by omega)];simpa using hr
  | succ n ih =>
    intro i r h hr
    rw [ByteArray.toList.loop]
    split
    · exact ih _ _ (by omega) (by simp)
    · simpa using hr
theorem toList_ne {s:ByteArray} (h:s.size ≠ 0):s.toList ≠ []:=by
  unfold ByteArray.toList
  rw [ByteArray.toList.loop,if_pos (by omega)]
  exact toList_loop_ne s _ _ _ (Nat.le_refl _) (by simp)
theorem toList_nil {s:ByteArray} (h:s.size = 0):s.toList = []:=by
  unfold ByteArray.toList
  rw [ByteArray.toList.loop,if_neg (by omega)];rfl
theorem bin_neq_empty {s:ByteArray}:bin .neq (.s (.string s)) (.s (.string ⟨#[]⟩)) = some (.B (decide (s.size ≠ 0))):=by
  have e:(⟨#[]⟩:ByteArray).toList = []:=toList_nil rfl
  simp only [bin,binStr,Option.map_some,e]
  by_cases h:s.size = 0
  · rw [toList_nil h];simp [h]
  · have:=toList_ne h
    cases hs:s.toList with
    | nil => exact absurd hs this
    | cons a l => simp [h]
theorem get_bang {s:ByteArray} {i:Nat} {u:UInt8} (h:s[i]? = some u):s.get! i = u:=by
  have hi:i < s.size:=by
    rcases Nat.lt_or_ge i s.size with h1|h1
    · exact h1
    · rw [getElem?_neg s i (by omega)] at h;cases h
  rw [getElem?_pos s i hi] at h
  cases h
  cases s with
  | mk bs => exact getElem!_pos bs i hi
theorem get_some {s:ByteArray} {i:Nat} (h:i < s.size):∃ u,s[i]? = some u:=⟨_,getElem?_pos s i h⟩
theorem chAt_some {s:ByteArray} {i:Nat} {u:UInt8} (h:s[i]? = some u):chAt s i = u.toNat:=by unfold chAt;rw [h];rfl
theorem dec_lo {s:ByteArray} {i:Nat} {u:UInt8} (h:s[i]? = some u) (hu:u.toNat < 128):Utf8.decode s i = (u.toNat,1):=by
  unfold Utf8.decode
  simp only [Nat.add_zero,get_bang h]
  rw [if_pos hu]
theorem dec_hi {s:ByteArray} {i:Nat} {u:UInt8} (h:s[i]? = some u) (hu:¬ u.toNat < 128):128 ≤ (Utf8.decode s i).1:=by
  unfold Utf8.decode
  simp only [Nat.add_zero,get_bang h]
  rw [if_neg hu]
  have e:Utf8.runeError = 65533:=rfl
  split
  · split
    · rename_i h1;exact h1
    · rw [e];decide
  · split
    · split
      · rename_i h1;simp only [ge_iff_le,Bool.and_eq_true,decide_eq_true_eq] at h1;exact Nat.le_trans (by decide) h1.1
      · rw [e];decide
    · split
      · split
        · rename_i h1;simp only [ge_iff_le,Bool.and_eq_true,decide_eq_true_eq] at h1;exact Nat.le_trans (by decide) h1.1
        · rw [e];decide
      · rw [e];decide
theorem idxsV_some {s:ByteArray} {k:Nat} {u:UInt8} (h:s[k]? = some u):idxsV (.s (.string s)) (some k) = some (.s (.int .u8 u.toNat)):=by
  show (s[k]?).map _ = _
  rw [h];rfl
theorem ACall_ext {F:Prog} {X:XRel} {f:FuncId} {args:List PV} {r:PV} {M M':List Blk} (h:X f args M r M'):ACall F X (.fn f) args M r M':=fun C hC => hC.2.2.1 f args M r M' h
section
variable {C:CallR} {K:(List Blk) → List PV → Prop} {M:List Blk} {t:List PV} {d:Option Nat} {os:List COper}
end
end Go.Nac
namespace Go.Nac
def goneRow (n:Nat) (g:List Spn) (k:Nat):List PV:=(List.range n).map fun (i:Nat) => PV.B (gapAt (g.take k) (i:Int))
def innRow (n:Nat) (g:List Spn) (k:Nat) (x:Spn) (j:Nat):List PV:=(List.range n).map fun (i:Nat) => PV.B (gapAt (g.take k) (i:Int) || decide (x.fr ≤ (i:Int) ∧ (i:Int) < (j:Int)))
theorem goneRow_len (n:Nat) (g:List Spn) (k:Nat):(goneRow n g k).length = n:=by simp [goneRow]
theorem innRow_len (n:Nat) (g:List Spn) (k:Nat) (x:Spn) (j:Nat):(innRow n g k x j).length = n:=by simp [innRow]
theorem goneRow_low {m:Nat} (n:Nat) (g:List Spn) (k:Nat):lowL m (goneRow n g k) = True:=eq_true (lowL_map _ _ fun i => by simp [PV.low])
theorem gone_zero (n:Nat) (g:List Spn):goneRow n g 0 = List.replicate n (PV.B false):=by
  apply List.ext_getElem?
  intro i
  simp only [goneRow,List.getElem?_map,List.getElem?_replicate]
  by_cases h:i < n
  · rw [List.getElem?_range h,if_pos h];rfl
  · rw [List.getElem?_eq_none (by simpa using h),if_neg h];rfl
theorem inn_start {n:Nat} {g:List Spn} {k:Nat} {x:Spn} {a:Nat} (h:x.fr = a):innRow n g k x a = goneRow n g k:=by
  unfold innRow goneRow
  refine List.map_congr_left fun i _ => ?_
  rw [h,decide_eq_false (by omega),Bool.or_false]
theorem inn_end {n:Nat} {g:List Spn} {k:Nat} {x:Spn} {b:Nat} (hx:g[k]? = some x) (h:x.to_ = b):innRow n g k x b = goneRow n g (k + 1):=by
  unfold innRow goneRow
  refine List.map_congr_left fun i _ => ?_
  rw [gapAt_snoc g k x hx,h]
theorem inn_get {n:Nat} {g:List Spn} {k:Nat} {x:Spn} {j i:Nat} (h:i < n):(innRow n g k x j)[i]? = some (.B (gapAt (g.take k) i || decide (x.fr ≤ (i:Int) ∧ (i:Int) < (j:Int)))):=by
  simp only [innRow,List.getElem?_map];rw [List.getElem?_range h];rfl
theorem gone_get {n:Nat} {g:List Spn} {k:Nat} {i:Nat} (h:i < n):(goneRow n g k)[i]? = some (.B (gapAt (g.take k) i)):=by
  simp only [goneRow,List.getElem?_map];rw [List.getElem?_range h];rfl
theorem inn_set {n:Nat} {g:List Spn} {k:Nat} {x:Spn} {j:Nat} (ha:x.fr ≤ j) (hj:j < n):(innRow n g k x j).set j (.B true) = innRow n g k x (j + 1):=by
  apply List.ext_getElem?
  intro i
  by_cases e:i = j
  · subst e
    rw [List.getElem?_set_self (by rw [innRow_len];exact hj),inn_get hj]
    rw [decide_eq_true (by omega),Bool.or_true]
  · rw [List.getElem?_set_ne (Ne.symm e)]
    by_cases h:i < n
    · rw [inn_get h,inn_get h]
      have e2:decide (x.fr ≤ (i:Int) ∧ (i:Int) < (j:Int)) = decide (x.fr ≤ (i:Int) ∧ (i:Int) < ((j + 1:Nat):Int)):=decide_eq_decide.2 (by omega)
      rw [e2]
    · rw [List.getElem?_eq_none (by rw [innRow_len];omega),List.getElem?_eq_none (by rw [innRow_len];omega)]
def gapFree (l:List Nat) (g:List Spn) (k:Nat):Prop:=∀ (i x:Nat),i < k → l[i]? = some x → (nz x && gapAt g i) = false
theorem gapFree_zero (l:List Nat) (g:List Spn):gapFree l g 0:=fun i x h => absurd h (by omega)
theorem gapFree_succ {l:List Nat} {g:List Spn} {k x:Nat} (h:gapFree l g k) (h1:l[k]? = some x) (h2:(nz x && gapAt g k) = false):gapFree l g (k + 1):=by
  intro i y hi hy
  rcases Nat.lt_or_ge i k with h3|h3
  · exact h i y h3 hy
  · have:i = k:=by omega
    subst this;rw [h1] at hy;cases hy;exact h2
theorem gapFree_end {l:List Nat} {g:List Spn} {k:Nat} (h:gapFree l g k) (hk:l.length ≤ k):chkGap l g = 0 :=
  chkGap_good fun i x hx => h i x (by have:=(List.getElem?_eq_some_iff.1 hx).1;omega) hx
def serA (s:Ser):Int:=fst0 [if nameOk s.name = false then 8 else 0,rng s.start 0 999999999,if 40000 < s.samples.length then 5 else 0]
def serB (s:Ser):Int :=
  if ¬ fst0 (s.samples.map smpE) = 0 then fst0 (s.samples.map smpE) else if ¬ chkSpns s.gaps = 0 then chkSpns s.gaps else
  if ¬ chkLast s.samples s.gaps = 0 then 14 else chkGap s.samples s.gaps
theorem rng_cases (n a b:Int):rng n a b = 0 ∨ rng n a b = 3:=by unfold rng;split <;> simp
theorem chkSer_eq (s:Ser):chkSer s = if serA s = 0 then serB s else serA s:=by
  unfold chkSer serA serB
  simp only [fst0]
  rcases rng_cases s.start 0 999999999 with h|h <;> cases hn:nameOk s.name <;> by_cases hl:40000 < s.samples.length <;> simp [h,hl]
theorem serA_zero {s:Ser} (h:serA s = 0):nameOk s.name = true ∧ rng s.start 0 999999999 = 0 ∧ s.samples.length ≤ 40000:=by
  unfold serA at h
  simp only [fst0] at h
  rcases rng_cases s.start 0 999999999 with h1|h1 <;> cases hn:nameOk s.name <;> by_cases hl:40000 < s.samples.length <;> simp [h1,hl,hn] at h ⊢ <;> omega
theorem gaps_in {l:List Nat} {g:List Spn} (h1:chkSpns g = 0) (h2:chkLast l g = 0):∀ x:Spn,x ∈ g → 0 ≤ x.fr ∧ x.fr < x.to_ ∧ x.to_ ≤ l.length:=by
  unfold chkSpns at h1
  split at h1
  · cases h1
  · obtain ⟨g1,g2⟩:=chkSpnsF_ok h1
    intro x hx
    have h3:=g1 x hx
    refine ⟨h3.1,h3.2.1,?_⟩
    unfold chkLast at h2
    cases hz:g.getLast? with
    | none => rw [List.getLast?_eq_none_iff] at hz;subst hz;cases hx
    | some z =>
      rw [hz] at h2
      simp only at h2
      have:=g2 x hx z hz
      split at h2
      · cases h2
      · omega
theorem chkLast_nil {l:List Nat}:chkLast l [] = 0:=rfl
theorem chkLast_some {l:List Nat} {g:List Spn} {z:Spn} (h:g[g.length - 1]? = some z):chkLast l g = if (l.length:Int) < z.to_ then 14 else 0:=by
  unfold chkLast
  rw [List.getLast?_eq_getElem?,h]
end Go.Nac
