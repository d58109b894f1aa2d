import GoSem.Dispatch
set_option linter.unusedVariables false
namespace Go.Nac
/-- A value as the plain reading has it. -/
inductive PV where
  | top
  | s (v : Value)
  | agg (cs : List PV)
  | tup (vs : List PV)
  | fs (xs : List PV)
  | fp (cs : List PV)
  | os (i ver off len : Nat)
  | op (i ver e j : Nat)
  | om (i : Nat)
  | fn (f : Fn) (first cap : List PV)
  | yl (i : Nat)
  | nan (k : FloatKind)
  | oi (i : Nat)
  deriving Inhabited
abbrev PV.I (n : Int) : PV := .s (.int .i64 n)
abbrev PV.B (b : Bool) : PV := .s (.bool b)
abbrev PV.nilS : PV := .s (.slice none 0 0)
def PV.cells : PV → List PV
  | .agg cs => cs
  | .top => []
  | v => [v]
/-- It fills one cell. -/
def oneB : PV → Bool
  | .top => false
  | .s (.agg _) => false
  | .s (.tuple _) => false
  | .agg _ => false
  | .tup _ => false
  | _ => true
/-- An element of k cells. -/
def okElem (k : Nat) (e : PV) : Bool := e.cells.length == k && e.cells.all oneB
/-- What cells make again: a scalar, or an aggregate. -/
def mkPV : Option Nat → List PV → Option PV
  | none, [c] => some c
  | none, _ => none
  | some k, cs => if cs.length = k then some (.agg cs) else none
inductive CX where
  | t (n : Nat)
  | k (v : Value)
  | f (f : FuncId)
  deriving Inhabited
abbrev CX.i (n : Int) : CX := .k (.int .i64 n)
def ev (t : List PV) : CX → PV
  | .t n => t.getD n .top
  | .k v => .s v
  | .f f => .fn (.func f) [] []
inductive SK where
  | int | str | bool
  deriving DecidableEq, Inhabited
/-- Operations on scalars alone. -/
inductive SOp where
  | fbin (op : BinOp)
  | ff (k : FloatKind)
  | fi (k : IntKind)
  | itf (k : FloatKind)
  | fneg
  deriving Inhabited
inductive COp where
  | bad
  | mov (x : CX)
  | onil (k : Nat)
  | pick (c a b : CX)
  | alloc (g : Option Nat) (z : List Value)
  | box (own : Bool) (k : Nat) (x : CX)
  | build (z : List Value) (parts : List (Nat × Nat × CX))
  | bsl (own : Bool) (k : Nat) (xs : List CX)
  | load (g : Option Nat) (x : CX)
  | store (k : Nat) (a v : CX)
  | nilc (x : CX)
  | bin (op : BinOp) (x y : CX)
  | binb (op : BinOp) (x y : CX)
  | eqs (neg : Bool) (lay : List SK) (x y : CX)
  | un (op : UnOp) (x : CX)
  | conv (k : IntKind) (x : CX)
  | arrp (n : Nat) (x : CX)
  | mkfn (f : FuncId) (cap : List CX)
  | mkmap
  | mksl (k : Nat) (g : Option Nat) (z : List Value) (bytes : Nat) (len cap : CX)
  | slice (k : Nat) (x : CX) (lo hi : Option CX)
  | slstr (x : CX) (lo hi : Option CX)
  | faddr (off : Nat) (x : CX)
  | field (off : Nat) (g : Option Nat) (x : CX)
  | iaddr (k : Nat) (x i : CX)
  | iaddra (n k : Nat) (x i : CX)
  | idxs (x i : CX)
  | idxa (n k : Nat) (g : Option Nat) (x i : CX)
  | look (sk : SK) (z : Value) (ok : Bool) (m key : CX)
  | mupd (sk : SK) (m key v : CX)
  | ext (i : Nat) (x : CX)
  | len (x : CX)
  | lens (x : CX)
  | append (k bytes : Nat) (x y : CX)
  | copy (k : Nat) (x y : CX)
  | capn (x : CX)
  | appz (k : Nat) (g : Option Nat) (z : List Value) (bytes : Nat) (x n : CX)
  | max (x : CX) (xs : List CX)
  | min (x : CX) (xs : List CX)
  | call (loud : Bool) (f : CX ⊕ FuncId) (args : List CX)
  | fz (c : COp)
  | sop (o : SOp) (xs : List CX)
  | srng (x : CX)
  | snxt (x : CX)
  deriving Inhabited
structure COper where
  dst : Option Nat
  op : COp
  guard : Option (Nat × Bool)
  deriving Inhabited
inductive CCode where
  | skip
  | region (ops : List COper)
  | seq (a b : CCode)
  | cond (c : CX) (a b : CCode)
  | block (id : Nat) (c : CCode)
  | scope (c : CCode)
  | loop (c : CCode)
  | rangeFunc (f : CX) (params : List Nat) (assign body : CCode)
  | exit (id : Nat)
  | goto (l : Nat)
  | label (l : Nat)
  | ret
  | forget (ts : List Nat)
  | frz (t : Nat)
  | keep (ts : List Nat)
  | fix (t : Nat)
  | own (t j k : Nat)
  | holes (k : Nat)
  | regionD (ops : List (COper × Option Nat)) (pairs : List (Nat × Nat))
  | cut
  | bad
  deriving Inhabited
inductive Ex where
  | normal
  | exit (id : Nat)
  | goto (l : Nat)
  | ret
inductive Blk where
  | row (wr : Bool) (k ver : Nat) (xs : List PV)
  | map (es : List (Value × Value))
  | loop (state : LoopState) (pend : Option Ex) (tmps : List PV) (params : List Nat) (assign body : CCode)
  | siter (s : ByteArray) (pos : Nat)
  deriving Inhabited
inductive Callee where
  | fn (f : FuncId)
  | yl (i : Nat)
/-- What calls may do: callee, arguments, memory before, result, memory behind. -/
abbrev CallR := Callee → List PV → (List Blk) → PV → (List Blk) → Prop
structure CFunc where
  nparams : Nat
  ntmps : Nat
  results : List (Nat × Option (Option Nat))   -- a temporary; or a cell behind one
  body : CCode
  hands : Bool := false   -- the row that it hands out is its caller's to write
  deriving Inhabited
def binInt (op : BinOp) (k : IntKind) (a b : Int) : Option Value :=
  match op with
  | .add => some (.int k (k.wrap (a + b)))
  | .sub => some (.int k (k.wrap (a - b)))
  | .mul => some (.int k (k.wrap (a * b)))
  | .quo => if b = 0 then none else some (.int k (k.wrap (a.tdiv b)))
  | .rem => if b = 0 then none else some (.int k (a.tmod b))
  | .eql => some (.bool (a == b))
  | .neq => some (.bool (a != b))
  | .lss => some (.bool (a < b))
  | .leq => some (.bool (a ≤ b))
  | .gtr => some (.bool (a > b))
  | .geq => some (.bool (a ≥ b))
  | _ => none
def binStr (op : BinOp) (x y : ByteArray) : Option Value :=
  match op with
  | .add => if x.size + y.size ≤ 2 ^ 40 then some (.string (x ++ y)) else none
  | .eql => some (.bool (x.toList == y.toList))
  | .neq => some (.bool (!(x.toList == y.toList)))
  | .lss => some (.bool (Op.bytesLess x.toList y.toList))
  | .leq => some (.bool (Op.bytesLess x.toList y.toList || x.toList == y.toList))
  | .gtr => some (.bool (!(Op.bytesLess x.toList y.toList || x.toList == y.toList)))
  | .geq => some (.bool (!(Op.bytesLess x.toList y.toList)))
  | _ => none
def binBool (op : BinOp) (x y : Bool) : Option Value :=
  match op with
  | .eql => some (.bool (x == y))
  | .neq => some (.bool (!(x == y)))
  | _ => none
/-- Cell by cell: integers, bools and strings alone. -/
def eqScalar : Value → Value → Option Bool
  | .int k a, .int k' b => if k = k' then some (a == b) else none
  | .bool a, .bool b => some (a == b)
  | .string a, .string b => some (a == b)
  | _, _ => none
def eqSK : SK → Value → Value → Option Bool
  | .int, .int k a, .int k' b => if k = k' then some (a == b) else none
  | .bool, .bool a, .bool b => some (a == b)
  | .str, .string a, .string b => some (a == b)
  | _, _, _ => none
def eqCells : List SK → List PV → List PV → Option Bool
  | [], [], [] => some true
  | k :: ks, .s x :: xs, .s y :: ys => do
    let a ← eqSK k x y
    let b ← eqCells ks xs ys
    pure (a && b)
  | _, _, _ => none
def bin (op : BinOp) : PV → PV → Option PV
  | .s (.int k a), .s (.int k' b) => if k = k' then (binInt op k a b).map .s else none
  | .s (.string a), .s (.string b) => (binStr op a b).map .s
  | _, _ => none
def binb (op : BinOp) : PV → PV → Option PV
  | .s (.bool a), .s (.bool b) => (binBool op a b).map .s
  | _, _ => none
def un (op : UnOp) : PV → Option PV
  | .s (.int k n) => match op with | .neg => some (.s (.int k (k.wrap (0 - n)))) | _ => none
  | .s (.bool b) => match op with | .not => some (.B (!b)) | _ => none
  | _ => none
def conv (k : IntKind) : PV → Option PV
  | .s (.int _ n) => some (.s (.int k (k.wrap n)))
  | _ => none
/-- What two floats of a kind make; 'none': a NaN. -/
def fArith (op : BinOp) (k : FloatKind) (x y : Nat) : Option (Option Nat) :=
  match op with
  | .add => some (k.format.add x y)
  | .sub => some (k.format.sub x y)
  | .mul => some (k.format.mul x y)
  | .quo => some (k.format.div x y)
  | _ => none
def fCmp (op : BinOp) (c : Option Ordering) : Option Bool :=
  match op with
  | .eql => some (c == some .eq)
  | .neq => some (c != some .eq)
  | .lss => some (c == some .lt)
  | .leq => some (c == some .lt || c == some .eq)
  | .gtr => some (c == some .gt)
  | .geq => some (c == some .gt || c == some .eq)
  | _ => none
def fKind : PV → Option FloatKind
  | .s (.float k _) => some k
  | .nan k => some k
  | _ => none
def sopV : SOp → List PV → Option PV
  | .fbin op, [x, y] =>
    match x, y with
    | .s (.float k a), .s (.float k' b) =>
      if k = k' then
        match fArith op k a b with
        | some (some r) => some (.s (.float k r))
        | some none => some (.nan k)
        | none => (fCmp op (k.format.order a b)).map .B
      else none
    | x, y =>
      match fKind x, fKind y with
      | some k, some k' => if k = k' then (if (fArith op k 0 0).isSome then some (.nan k) else (fCmp op none).map .B) else none
      | _, _ => none
  | .ff d, [.s (.float k b)] =>
    if k = d then some (.s (.float d b)) else
    match k.decode b with
    | .nan _ _ => some (.nan d)
    | .infinity s => some (.s (.float d (d.encode (.infinity s))))
    | .number s m e => if (d.decode (d.encode (.number s m e))).isInfinity then none else some (.s (.float d (d.encode (.number s m e))))
  | .ff d, [.nan k] => some (.nan d)
  | .fi d, [.s (.float k b)] =>
    match (k.decode b).toInt .zero with
    | some n => if d.min ≤ n ∧ n ≤ d.max then some (.s (.int d n)) else none
    | none => none
  | .itf d, [.s (.int _ n)] => some (.s (.float d (d.nearest n)))
  | _, _ => none
def setRange (cs : List PV) (off : Nat) (vs : List PV) : List PV := cs.take off ++ vs ++ cs.drop (off + vs.length)
/-- The cells of an element. -/
def cellsAt (M : (List Blk)) (i ver e j n : Nat) : Option (List PV) :=
  match M[i]? with
  | some (.row _ _ v xs) =>
    if v = ver then
      match xs[e]? with
      | some x => if j + n ≤ x.cells.length then some ((x.cells.drop j).take n) else
          if j + n ≤ ((xs.drop e).flatMap PV.cells).length then some ((((xs.drop e).flatMap PV.cells).drop j).take n) else none
      | none => none
    else none
  | _ => none
def elemPut (M : (List Blk)) (i ver e j : Nat) (vs : List PV) : Option (List Blk) :=
  match M[i]? with
  | some (.row true k v xs) =>
    if v = ver then
      match xs[e]? with
      | some x => if j + vs.length ≤ x.cells.length ∧ vs.all oneB then
          (match x with
           | .agg cs => some (M.set i (.row true k v (xs.set e (.agg (setRange cs j vs)))))
           | _ => match vs with
             | [y] => match y with
               | .agg _ => none
               | y => some (M.set i (.row true k v (xs.set e y)))
             | _ => none)
          else none
      | none => none
    else none
  | _ => none
/-- What a pointer leads to. -/
def loadPV (M : List Blk) (g : Option Nat) : PV → Option PV
  | .fp cs => mkPV g (cs.take (g.getD 1))
  | .op i ver e j => (cellsAt M i ver e j (g.getD 1)).bind fun cs => mkPV g cs
  | _ => none
def liveRow (M : List Blk) (i ver : Nat) : Bool :=
  match M[i]? with
  | some (.row _ _ v _) => v == ver
  | _ => false
/-- What a slice holds. -/
def held (M : (List Blk)) : PV → Option (List PV)
  | .fs xs => some xs
  | .s (.slice none 0 0) => some []
  | .os i ver off len =>
    match M[i]? with
    | some (.row _ _ v xs) => if v = ver ∧ off + len ≤ xs.length then some ((xs.drop off).take len) else none
    | _ => none
  | _ => none
def lenOf : PV → Option Nat
  | .fs xs => some xs.length
  | .s (.slice none 0 0) => some 0
  | .os _ _ _ len => some len
  | _ => none
/-- A slice of a row that is not written any more is read as what it holds. -/
def view1 (M : (List Blk)) : PV → PV
  | .os i ver off len =>
    match M[i]? with
    | some (.row false _ v xs) => if v = ver ∧ off + len ≤ xs.length then .fs ((xs.drop off).take len) else .os i ver off len
    | _ => .os i ver off len
  | .s (.slice none 0 0) => .fs []
  | v => v
def view (M : (List Blk)) : PV → PV
  | .agg cs => .agg (cs.map (view1 M))
  | v => view1 M v
/-- What goes out of a function: rows from n on, and rows that are not written any more, are read as what they hold. -/
def out1 (n : Nat) (M : (List Blk)) : PV → PV
  | .os i ver off len =>
    if n ≤ i then
      match held M (.os i ver off len) with
      | some xs => .fs xs
      | none => .top
    else view1 M (.os i ver off len)
  | .s (.slice none 0 0) => .fs []
  | v => v
def outV (n : Nat) (M : (List Blk)) : PV → PV
  | .agg cs => .agg (cs.map (out1 n M))
  | v => out1 n M v
mutual
def PV.low (n : Nat) : PV → Prop
  | .top => True
  | .s _ => True
  | .agg cs => lowL n cs
  | .tup cs => lowL n cs
  | .fs cs => lowL n cs
  | .fp cs => lowL n cs
  | .os i _ _ _ => i < n
  | .op i _ _ _ => i < n
  | .om i => i < n
  | .fn _ a b => lowL n a ∧ lowL n b
  | .yl i => i < n
  | .nan _ => True
  | .oi i => i < n
def lowL (n : Nat) : List PV → Prop
  | [] => True
  | x :: xs => x.low n ∧ lowL n xs
end
def Blk.low (n : Nat) : Blk → Prop
  | .row _ _ _ xs => lowL n xs
  | .map _ => True
  | .loop _ _ ts _ _ _ => lowL n ts
  | .siter _ _ => True
def lowM (n : Nat) (M : (List Blk)) : Prop := ∀ b ∈ M, b.low n
def freeze (M : (List Blk)) (i : Nat) : Option (List Blk) :=
  match M[i]? with
  | some (.row _ k v xs) => some (M.set i (.row false k v xs))
  | _ => none
def freezeAll (M : (List Blk)) : List PV → Option (List Blk)
  | [] => some M
  | .os i _ _ _ :: r => (freeze M i).bind fun M => freezeAll M r
  | _ :: r => freezeAll M r
def asNat : PV → Option Nat
  | .s (.int _ n) => if 0 ≤ n then some n.toNat else none
  | _ => none
def hiN (len : Nat) : Option PV → Option Nat
  | none => some len
  | some v => asNat v
def loN : Option PV → Option Nat
  | none => some 0
  | some v => asNat v
def bounds (len : Nat) (lo hi : Option PV) : Option (Nat × Nat) :=
  (hiN len hi).bind fun h => (loN lo).bind fun l => if l ≤ h ∧ h ≤ len then some (l, h) else none
def sized (k : Nat) (xs : List PV) : Bool := xs.all fun x => x.cells.length == k
def rowK (M : List Blk) (i : Nat) : Nat :=
  match M[i]? with
  | some (.row _ k _ _) => k
  | _ => 0
/-- A key of its kind. -/
def keyOk : SK → Value → Bool
  | .int, .int _ _ => true
  | .str, .string _ => true
  | .bool, .bool _ => true
  | _, _ => false
def sameKey (a b : Value) : Bool := (eqScalar a b).getD false
def find (k : Value) : List (Value × Value) → Option Value
  | [] => none
  | (a, v) :: r => if sameKey k a then some v else find k r
def upd (k v : Value) : List (Value × Value) → List (Value × Value)
  | [] => [(k, v)]
  | (a, u) :: r => if sameKey k a then (k, v) :: r else (a, u) :: upd k v r
/-- All keys of one kind, that of k. -/
def keysLike (k : Value) (es : List (Value × Value)) : Bool := es.all fun e => (eqScalar k e.1).isSome
def put (t : List PV) (dst : Option Nat) (v : PV) : List PV :=
  match dst with | some d => t.set d v | none => t
def unit : PV := .s (.tuple #[])
def fillParts (cs : List PV) : List (Nat × Nat × PV) → Option (List PV)
  | [] => some cs
  | (off, size, v) :: r => if v.cells.length = size ∧ size ≠ 0 ∧ off + size ≤ cs.length then fillParts (setRange cs off v.cells) r else none
def pickV : PV → PV → PV → Option PV
  | .s (.bool b), x, y => some (if b then x else y)
  | _, _, _ => none
def maxI : PV → PV → Option PV
  | .s (.int k a), .s (.int k' b) => if k = k' then some (.s (.int k (if b > a then b else a))) else none
  | _, _ => none
def minI : PV → PV → Option PV
  | .s (.int k a), .s (.int k' b) => if k = k' then some (.s (.int k (if b < a then b else a))) else none
  | _, _ => none
def foldO (f : PV → PV → Option PV) : PV → List PV → Option PV
  | x, [] => some x
  | x, y :: r => (f x y).bind fun z => foldO f z r
/-- What an operation without a call gives. -/
def res (M : (List Blk)) (ρ : CX → PV) : COp → Option (PV × (List Blk))
  | .bad => none
  | .mov x => some (ρ x, M)
  | .onil k => some (.os M.length 0 0 0, M ++ [.row true k 0 []])
  | .pick c a b => (pickV (ρ c) (ρ a) (ρ b)).map (·, M)
  | .alloc g z => (mkPV g (z.map .s)).map fun e => (.op M.length 0 0 0, M ++ [.row true z.length 0 [e]])
  | .box own k x =>
    if (ρ x).cells.length = k ∧ k ≠ 0 then
      if own then some (.op M.length 0 0 0, M ++ [.row true k 0 [ρ x]]) else some (.fp (view M (ρ x)).cells, M)
    else none
  | .build z parts => (fillParts (z.map .s) (parts.map fun p => (p.1, p.2.1, ρ p.2.2))).map fun cs => (.agg cs, M)
  | .bsl own k xs =>
    if (xs.map ρ).all (fun x => x.cells.length = k) ∧ k ≠ 0 then
      if own then some (.os M.length 0 0 xs.length, M ++ [.row true k 0 (xs.map ρ)]) else some (.fs (xs.map fun x => view M (ρ x)), M)
    else none
  | .load g x => (loadPV M g (ρ x)).map (·, M)
  | .store k a v =>
    match ρ a with
    | .op i ver e j => if (ρ v).cells.length = k ∧ k ≠ 0 then (elemPut M i ver e j (ρ v).cells).map (unit, ·) else none
    | _ => none
  | .nilc x =>
    match ρ x with
    | .fp cs => some (.fp cs, M)
    | .op i ver e j => if liveRow M i ver then some (.op i ver e j, M) else none
    | .fn (.func f) a b => some (.fn (.func f) a b, M)
    | _ => none
  | .bin op x y => (bin op (ρ x) (ρ y)).map (·, M)
  | .binb op x y => (binb op (ρ x) (ρ y)).map (·, M)
  | .eqs neg lay x y =>
    match ρ x, ρ y with
    | .agg xs, .agg ys => (eqCells lay xs ys).map fun b => (.B (if neg then !b else b), M)
    | _, _ => none
  | .un op x => (un op (ρ x)).map (·, M)
  | .conv k x => (conv k (ρ x)).map (·, M)
  | .arrp n x =>
    match ρ x with
    | .fs xs => if n ≤ xs.length ∧ 0 < n then some (.fp ((xs.take n).flatMap PV.cells), M) else none
    | .os i ver off len => if n ≤ len ∧ 0 < n then (held M (.os i ver off len)).map fun _ => (.op i ver off 0, M) else none
    | _ => none
  | .mkfn f cap => some (.fn (.func f) [] (cap.map ρ), M)
  | .mkmap => some (.om M.length, M ++ [.map []])
  | .mksl k g z bytes len cap =>
    match ρ len, ρ cap with
    | .s (.int .i64 l), .s (.int .i64 c) =>
      if 0 ≤ l ∧ l = c ∧ l ≤ 2 ^ 20 ∧ bytes ≤ 2 ^ 20 ∧ z.length = k ∧ 0 < k then
        (mkPV g (z.map .s)).map fun e => (.os M.length 0 0 l.toNat, M ++ [.row true k 0 (List.replicate l.toNat e)])
      else none
    | _, _ => none
  | .slice k x lo hi =>
    match ρ x with
    | .fs xs => if sized k xs then (bounds xs.length (lo.map ρ) (hi.map ρ)).map fun b => (.fs ((xs.drop b.1).take (b.2 - b.1)), M) else none
    | .s (.slice none 0 0) => (bounds 0 (lo.map ρ) (hi.map ρ)).map fun _ => (PV.nilS, M)
    | .os i ver off len => if liveRow M i ver ∧ rowK M i = k then (bounds len (lo.map ρ) (hi.map ρ)).map fun b => (.os i ver (off + b.1) (b.2 - b.1), M) else none
    | _ => none
  | .slstr x lo hi =>
    match ρ x with
    | .s (.string b) => (bounds b.size (lo.map ρ) (hi.map ρ)).map fun p => (.s (.string (b.extract p.1 p.2)), M)
    | _ => none
  | .faddr off x =>
    match ρ x with
    | .fp cs => if off ≤ cs.length then some (.fp (cs.drop off), M) else none
    | .op i ver e j => if liveRow M i ver then some (.op i ver e (j + off), M) else none
    | _ => none
  | .field off g x =>
    match ρ x with
    | .agg cs => (mkPV g ((cs.drop off).take (g.getD 1))).map (·, M)
    | _ => none
  | .iaddr k x i =>
    match ρ x, asNat (ρ i) with
    | .fs xs, some n => match xs[n]? with | some y => if y.cells.length = k then some (.fp y.cells, M) else none | none => none
    | .os a ver off len, some n => if n < len then (match M[a]? with
        | some (.row _ k' v xs) => if v = ver ∧ k' = k ∧ off + len ≤ xs.length then some (.op a ver (off + n) 0, M) else none
        | _ => none) else none
    | _, _ => none
  | .iaddra n k x i =>
    match ρ x, asNat (ρ i) with
    | .fp cs, some m => if m < n ∧ n * k ≤ cs.length then some (.fp ((cs.drop (m * k)).take k), M) else none
    | .op a ver e j, some m => if m < n ∧ liveRow M a ver then some (.op a ver e (j + m * k), M) else none
    | _, _ => none
  | .idxs x i =>
    match ρ x, asNat (ρ i) with
    | .s (.string b), some n => (b[n]?).map fun c => (.s (.int .u8 c.toNat), M)
    | _, _ => none
  | .idxa n k g x i =>
    match ρ x, asNat (ρ i) with
    | .agg cs, some m => if m < n then (mkPV g ((cs.drop (m * k)).take (g.getD 1))).map (·, M) else none
    | _, _ => none
  | .look sk z ok m key =>
    match ρ m, ρ key with
    | .om i, .s q => match M[i]? with
      | some (.map es) => if keyOk sk q ∧ keysLike q es then
          (match find q es with
           | some v => some (if ok then .tup [.s v, .B true] else .s v, M)
           | none => some (if ok then .tup [.s z, .B false] else .s z, M))
          else none
      | _ => none
    | _, _ => none
  | .mupd sk m key v =>
    match ρ m, ρ key, ρ v with
    | .om i, .s q, .s u => match M[i]? with
      | some (.map es) => if keyOk sk q ∧ keysLike q es then some (unit, M.set i (.map (upd q u es))) else none
      | _ => none
    | _, _, _ => none
  | .ext i x =>
    match ρ x with
    | .tup vs => (vs[i]?).map (·, M)
    | _ => none
  | .len x => (lenOf (ρ x)).map fun (n : Nat) => (.I (n : Int), M)
  | .lens x =>
    match ρ x with
    | .s (.string b) => some (.I (b.size : Int), M)
    | _ => none
  | .append k bytes x y =>
    match held M (ρ y) with
    | some ys =>
      if ys.all (okElem k) ∧ k ≠ 0 ∧ bytes ≤ 2 ^ 20 then
        match ρ x with
        | .s (.slice none 0 0) => if ys.length ≤ 2 ^ 20 then some (.os M.length 0 0 ys.length, M ++ [.row true k 0 ys]) else none
        | .os i ver off len => match M[i]? with
          | some (.row true k' v xs) =>
            if v = ver ∧ k' = k ∧ off + len ≤ xs.length ∧ len + ys.length ≤ 2 ^ 20 then
              some (.os i (ver + 1) 0 (len + ys.length), M.set i (.row true k (ver + 1) ((xs.drop off).take len ++ ys)))
            else none
          | _ => none
        | _ => none
      else none
    | none => none
  | .copy k x y =>
    match ρ x, held M (ρ y) with
    | .os i ver off len, some ys => match M[i]? with
      | some (.row true k' v xs) =>
        if v = ver ∧ k' = k ∧ off + len ≤ xs.length ∧ ys.all (okElem k) ∧ k ≠ 0 then
          some (.I ((Nat.min ys.length len : Nat) : Int), M.set i (.row true k ver (setRange xs off (ys.take len))))
        else none
      | _ => none
    | _, _ => none
  | .capn x =>
    match ρ x with
    | .s (.slice none 0 0) => some (.I 0, M)
    | _ => none
  | .appz k g z bytes x n =>
    match ρ x, ρ n with
    | .s (.slice none 0 0), .s (.int .i64 l) =>
      if 0 < l ∧ l ≤ 2 ^ 20 ∧ bytes ≤ 2 ^ 20 ∧ z.length = k ∧ 0 < k then
        (mkPV g (z.map .s)).map fun e => (.os M.length 0 0 l.toNat, M ++ [.row true k 0 (List.replicate l.toNat e)])
      else none
    | _, _ => none
  | .max x xs => (foldO maxI (ρ x) (xs.map ρ)).map (·, M)
  | .min x xs => (foldO minI (ρ x) (xs.map ρ)).map (·, M)
  | .call _ _ _ => none
  | .fz _ => none
  | .sop o xs => (sopV o (xs.map ρ)).map (·, M)
  | .srng x =>
    match ρ x with
    | .s (.string b) => some (.oi M.length, M ++ [.siter b 0])
    | _ => none
  | .snxt x =>
    match ρ x with
    | .oi i => match M[i]? with
      | some (.siter s pos) =>
        if pos < s.size then some (.tup [.B true, .I (pos : Int), .s (.int .i32 (Utf8.decode s pos).1)], M.set i (.siter s (pos + (Utf8.decode s pos).2)))
        else some (.tup [.B false], M)
      | _ => none
    | _ => none
/-- An argument; a constant goes as it is. -/
def argV (M : List Blk) (ρ : CX → PV) : CX → PV
  | .k v => .s v
  | x => view M (ρ x)
/-- What an operation gives: a value, and memory. -/
def Res (C : CallR) (o : COp) (M : (List Blk)) (ρ : CX → PV) (v : PV) (M' : (List Blk)) : Prop :=
  match o with
  | .call loud f args => (loud = false → M' = M) ∧
    match f with
    | .inr g => C (.fn g) (args.map (argV M ρ)) M v M'
    | .inl x => match ρ x with
      | .fn (.func g) first cap => C (.fn g) (first ++ args.map (argV M ρ) ++ cap) M v M'
      | .yl i => C (.yl i) (args.map (argV M ρ)) M v M'
      | _ => False
  | .fz c => ∃ v0 M1, res M ρ c = some (v0, M1) ∧ freezeAll M1 v0.cells = some M' ∧ v = view M' v0
  | o => res M ρ o = some (v, M')
/-- Whether a guard lets an operation in; a temporary of an operation that was passed over lets none in. -/
def wanted : PV → Bool → Option Bool
  | .s (.bool b), want => some (b == want)
  | .s (.tuple _), _ => some false
  | _, _ => none
def wpOp (C : CallR) (o : COper) (K : (List Blk) → List PV → Prop) (M : (List Blk)) (t : List PV) : Prop :=
  match o.guard with
  | none => ∃ v M', Res C o.op M (ev t) v M' ∧ K M' (put t o.dst v)
  | some (g, want) => ∃ b, wanted (t.getD g .top) want = some b ∧
      (if b = true then ∃ v M', Res C o.op M (ev t) v M' ∧ K M' (put t o.dst v) else K M (put t o.dst unit))
def wpOps (C : CallR) : List COper → ((List Blk) → List PV → Prop) → (List Blk) → List PV → Prop
  | [], K, M, t => K M t
  | o :: os, K, M, t => wpOp C o (wpOps C os K) M t
/-- A place where a row will lie. -/
def hole : Blk := .row false 0 0 []
/-- The row that an operation lays, and whether a pointer leads to it. -/
def allocB (ρ : CX → PV) : COp → Option (Bool × Nat × List PV)
  | .alloc g z => (mkPV g (z.map .s)).map fun e => (true, z.length, [e])
  | .box own k x => if own = true ∧ (ρ x).cells.length = k ∧ k ≠ 0 then some (true, k, [ρ x]) else none
  | .bsl own k xs => if own = true ∧ (xs.map ρ).all (fun x => x.cells.length = k) ∧ k ≠ 0 then some (false, k, xs.map ρ) else none
  | .onil k => some (false, k, [])
  | _ => none
def refs1 : PV → List Nat
  | .os i _ _ _ => [i]
  | .op i _ _ _ => [i]
  | .om i => [i]
  | .oi i => [i]
  | _ => []
def refs : PV → List Nat
  | .agg cs => cs.flatMap refs1
  | v => refs1 v
/-- Which blocks an operation reads, and which it writes. -/
def fpOp (ρ : CX → PV) : COp → Option (List Nat × List Nat)
  | .load _ x => some (refs (ρ x), [])
  | .nilc x => some (refs (ρ x), [])
  | .arrp _ x => some (refs (ρ x), [])
  | .slice _ x _ _ => some (refs (ρ x), [])
  | .faddr _ x => some (refs (ρ x), [])
  | .iaddr _ x _ => some (refs (ρ x), [])
  | .iaddra _ _ x _ => some (refs (ρ x), [])
  | .look _ _ _ m _ => some (refs (ρ m), [])
  | .box own _ x => if own then none else some (refs (ρ x), [])
  | .bsl own _ xs => if own then none else some (xs.flatMap fun x => refs (ρ x), [])
  | .store _ a _ => some ([], refs (ρ a))
  | .append _ _ x y => some (refs (ρ y), refs (ρ x))
  | .copy _ x y => some (refs (ρ y), refs (ρ x))
  | .mupd _ m _ _ => some ([], refs (ρ m))
  | _ => none
abbrev Foot := Option (List Nat × List Nat)
def fpD (n : Nat) (ρ : CX → PV) (o : COper × Option Nat) : Foot :=
  match o.2 with
  | some r => some ([], [n - r])
  | none => fpOp ρ o.1.op
def resD (C : CallR) (p : Option Nat) (c : COp) (M : List Blk) (ρ : CX → PV) (v : PV) (M' : List Blk) : Prop :=
  match p with
  | none => Res C c M ρ v M'
  | some r => ∃ o k xs, allocB ρ c = some (o, k, xs) ∧ M[M.length - r]? = some hole ∧
      v = (if o = true then .op (M.length - r) 1 0 0 else .os (M.length - r) 1 0 xs.length) ∧ M' = M.set (M.length - r) (.row true k 1 xs)
def apartL (a b : List Nat) : Prop := ∀ x ∈ a, ∀ y ∈ b, x ≠ y
def okPair : Foot → Foot → Prop
  | some (r1, w1), some (r2, w2) => apartL w1 r2 ∧ apartL w1 w2 ∧ apartL r1 w2
  | _, _ => False
def pairsOk (pairs : List (Nat × Nat)) (tr : List Foot) : Prop := ∀ p ∈ pairs, okPair (tr.getD p.1 none) (tr.getD p.2 none)
def wpD (C : CallR) : List (COper × Option Nat) → List Foot → (List Foot → List Blk → List PV → Prop) → List Blk → List PV → Prop
  | [], tr, K, M, t => K tr M t
  | o :: os, tr, K, M, t => o.1.guard = none ∧ ∃ v M', resD C o.2 o.1.op M (ev t) v M' ∧ M'.length = M.length ∧ wpD C os (tr ++ [fpD M.length (ev t) o]) K M' (put t o.1.dst v)
abbrev Post := Ex → (List Blk) → List PV → Prop
def thenK (K : (List Blk) → List PV → Prop) (Q : Post) : Post
  | .normal, M, t => K M t
  | e, M, t => Q e M t
def blockK (id : Nat) (Q : Post) : Post
  | .exit j, M, t => if j = id then Q .normal M t else Q (.exit j) M t
  | e, M, t => Q e M t
/-- A scope through which the run goes without a goto. -/
def scopeK (Q : Post) : Post
  | .goto _, _, _ => False
  | e, M, t => Q e M t
def loopWp (B : Post → (List Blk) → List PV → Prop) (Q : Post) (M : (List Blk)) (t : List PV) : Prop :=
  ∀ R : (List Blk) → List PV → Prop, (∀ M t, B (thenK R Q) M t → R M t) → R M t
/-- A nil slice that lies in a cell behind a pointer is read as an empty row of its own. -/
def ownNil (M : List Blk) (p : PV) (j k : Nat) : Option (List Blk) :=
  match p with
  | .op a ver e j0 =>
    match M[a]? with
    | some (.row _ _ _ xs) =>
      match (xs[e]?.map PV.cells).bind (·[j0 + j]?) with
      | some (.s (.slice none 0 0)) => (elemPut M a ver e (j0 + j) [.os M.length 0 0 0]).map (· ++ [.row true k 0 []])
      | _ => none
    | _ => none
  | _ => none
def forgetL : List Nat → List PV → List PV
  | [], t => t
  | i :: r, t => forgetL r (t.set i .top)
/-- Only what is named is kept. -/
def keepL (ks : List Nat) (t : List PV) : List PV := (List.range t.length).map fun i => if ks.contains i then t.getD i .top else .top
/-- What code does. -/
def Wp (C : CallR) (n0 : Nat) : CCode → Post → (List Blk) → List PV → Prop
  | .skip, Q, M, t => Q .normal M t
  | .region ops, Q, M, t => wpOps C ops (Q .normal) M t
  | .seq a b, Q, M, t => Wp C n0 a (thenK (Wp C n0 b Q) Q) M t
  | .cond c a b, Q, M, t => ∃ x, ev t c = .B x ∧ (if x then Wp C n0 a Q M t else Wp C n0 b Q M t)
  | .block id c, Q, M, t => Wp C n0 c (blockK id Q) M t
  | .scope c, Q, M, t => Wp C n0 c (scopeK Q) M t
  | .loop c, Q, M, t => loopWp (fun Q M t => Wp C n0 c Q M t) Q M t
  | .rangeFunc f ps a b, Q, M, t =>
    ∃ g first cap M' st pend t' ps' a' b', ev t f = .fn (.func g) first cap ∧
      C (.fn g) (first ++ [.yl M.length] ++ cap) (M ++ [.loop .ready none t ps a b]) (.tup []) (M' ++ [.loop st pend t' ps' a' b']) ∧ M'.length = M.length ∧ lowM M.length M' ∧ st ≠ .busy ∧
      Q (pend.getD .normal) M' t
  | .exit id, Q, M, t => Q (.exit id) M t
  | .goto l, Q, M, t => Q (.goto l) M t
  | .label _, Q, M, t => Q .normal M t
  | .ret, Q, M, t => Q .ret M t
  | .forget ts, Q, M, t => Q .normal M (forgetL ts t)
  | .frz i, Q, M, t => ∃ M', freezeAll M (t.getD i .top).cells = some M' ∧ Q .normal M' t
  | .keep ks, Q, M, t => Q .normal M (keepL ks t)
  | .fix i, Q, M, t => ∃ M', freezeAll M (t.getD i .top).cells = some M' ∧ Q .normal M' (t.set i (view M' (t.getD i .top)))
  | .own i j k, Q, M, t => ∃ M', ownNil M (t.getD i .top) j k = some M' ∧ Q .normal M' t
  | .holes k, Q, M, t => Q .normal (M ++ List.replicate k hole) t
  | .regionD ops pairs, Q, M, t => wpD C ops [] (fun tr M t => pairsOk pairs tr ∧ Q .normal M t) M t
  | .cut, Q, M, t => ∃ n, n0 ≤ n ∧ n ≤ M.length ∧ lowM n (M.take n) ∧ lowL n t ∧ Q .normal (M.take n) t
  | .bad, _, _, _ => False
def resOf (M : (List Blk)) (t : List PV) : List (Nat × Option (Option Nat)) → Option (List PV)
  | [] => some []
  | (i, none) :: r => (resOf M t r).map (t.getD i .top :: ·)
  | (i, some g) :: r =>
    match res M (ev t) (.load g (.t i)), resOf M t r with
    | some (v, _), some vs => some (v :: vs)
    | _, _ => none
def mkRes (n : Nat) (M : (List Blk)) : List PV → PV
  | [v] => outV n M v
  | vs => .tup (vs.map (outV n M))
abbrev Prog := FuncId → Option CFunc
def bodyPost (n : Nat) (rs : List (Nat × Option (Option Nat))) (r : PV) (M2 : (List Blk)) : Post := fun e M' t =>
  (match e with | .ret | .normal => True | _ => False) ∧ ∃ m, n ≤ m ∧ m ≤ M'.length ∧ lowM m (M'.take m) ∧ M2 = M'.take m ∧
    ∃ vs, resOf M' t rs = some vs ∧ (r = mkRes m M' vs ∨ r = PV.nilS ∧ vs = [PV.nilS]) ∧ r.low m
/-- The row that a function hands out as its own. -/
def ownPost (n : Nat) (rs : List (Nat × Option (Option Nat))) (r : PV) (M2 : (List Blk)) : Post := fun e M' t =>
  (match e with | .ret | .normal => True | _ => False) ∧ n ≤ M'.length ∧ lowM n (M'.take n) ∧
    ∃ i v off len k xs, resOf M' t rs = some [.os i v off len] ∧ n ≤ i ∧ M'[i]? = some (.row true k v xs) ∧ lowL n xs ∧
      r = .os n v off len ∧ M2 = M'.take n ++ [.row true k v xs]
def roundPost (n i : Nat) (ps : List Nat) (a b : CCode) (ts : List PV) (r : PV) (M2 : (List Blk)) : Post := fun e M' _ =>
  (∃ ts' ps' a' b', M'[i]? = some (.loop .busy none ts' ps' a' b')) ∧ (∃ m, n ≤ m ∧ m ≤ M'.length ∧ lowM m (M'.take m) ∧
    M2 = (M'.take m).set i (.loop (match e with | .normal => .ready | _ => .done) (match e with | .normal => none | e => some e) ts ps a b)) ∧
    r = .B (match e with | .normal => true | _ => false)
/-- Calls, by the functions of F and the foreign contracts of X. -/
def CallOk (F : Prog) (X : FuncId → List PV → PV → Prop) (C : CallR) : Prop :=
  (∀ f cf args M r M', F f = some cf → args.length = cf.nparams →
    (lowM M.length M → lowL M.length args → Wp C M.length cf.body (bodyPost M.length cf.results r M') M (args ++ List.replicate (cf.ntmps - args.length) .top)) → C (.fn f) args M r M') ∧
  (∀ f cf args M r M', F f = some cf → args.length = cf.nparams →
    (lowM M.length M → lowL M.length args → Wp C M.length cf.body (ownPost M.length cf.results r M') M (args ++ List.replicate (cf.ntmps - args.length) .top)) → C (.fn f) args M r M') ∧
  (∀ f args M r, X f args r → C (.fn f) args M r M) ∧
  (∀ i args M r M' ps a b ts, M[i]? = some (.loop .ready none ts ps a b) → args.length = ps.length →
    (lowM M.length M → lowL M.length args →
      Wp C M.length a (thenK (fun M1 t1 => (∃ ts' ps' a' b', M1[i]? = some (.loop .ready none ts' ps' a' b')) ∧
        Wp C M.length b (roundPost M.length i ps a b ts r M') (M1.set i (.loop .busy none ts ps a b)) t1) (fun _ _ _ => False))
      M ((ps.zip args).foldl (fun t p => t.set p.1 p.2) ts)) →
    C (.yl i) args M r M')
def ACall (F : Prog) (X : FuncId → List PV → PV → Prop) : CallR := fun f args M r M' => ∀ C, CallOk F X C → C f args M r M'
end Go.Nac

