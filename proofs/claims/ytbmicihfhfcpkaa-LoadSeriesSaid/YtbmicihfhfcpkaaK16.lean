import Derived.Test.YtbmicihfhfcpkaaK15
set_option linter.unusedVariables false
set_option linter.unusedSimpArgs false
namespace Go.Nac
section
variable {M : List Blk} {k : IntKind} {a b : Int} {p q : Bool} {x y z : PV} {xs ys cs : List PV}
theorem lenOf_fs : lenOf (.fs xs) = some xs.length := nrfl rfl
theorem lenOf_os {i v o n : Nat} : lenOf (.os i v o n) = some n := nrfl rfl
theorem lenOf_nil : lenOf (.s (.slice none 0 0)) = some 0 := nrfl rfl
theorem lensV_s {s : ByteArray} : lensV (.s (.string s)) = some (.I (s.size : Int)) := nrfl rfl
theorem bin_add : bin .add (.s (.int k a)) (.s (.int k b)) = some (.s (.int k (k.wrap (a + b)))) := by simp [bin, binInt]
theorem bin_sub : bin .sub (.s (.int k a)) (.s (.int k b)) = some (.s (.int k (k.wrap (a - b)))) := by simp [bin, binInt]
theorem bin_mul : bin .mul (.s (.int k a)) (.s (.int k b)) = some (.s (.int k (k.wrap (a * b)))) := by simp [bin, binInt]
theorem bin_quo : bin .quo (.s (.int k a)) (.s (.int k b)) = if b = 0 then none else some (.s (.int k (k.wrap (a.tdiv b)))) := by simp only [bin, binInt, if_true]; split <;> rfl
theorem bin_rem : bin .rem (.s (.int k a)) (.s (.int k b)) = if b = 0 then none else some (.s (.int k (a.tmod b))) := by simp only [bin, binInt, if_true]; split <;> rfl
theorem bin_eql : bin .eql (.s (.int k a)) (.s (.int k b)) = some (.B (decide (a = b))) := by simp only [bin, binInt, if_true, Option.map_some]; congr
theorem bin_neq : bin .neq (.s (.int k a)) (.s (.int k b)) = some (.B (decide (¬ a = b))) := by
  simp only [bin, binInt, if_true, Option.map_some, Option.some.injEq, PV.s.injEq, Value.bool.injEq]
  by_cases h : a = b <;> simp [h]
theorem bin_lss : bin .lss (.s (.int k a)) (.s (.int k b)) = some (.B (decide (a < b))) := by simp [bin, binInt]
theorem bin_leq : bin .leq (.s (.int k a)) (.s (.int k b)) = some (.B (decide (a ≤ b))) := by simp [bin, binInt]
theorem bin_gtr : bin .gtr (.s (.int k a)) (.s (.int k b)) = some (.B (decide (b < a))) := by simp [bin, binInt]
theorem bin_geq : bin .geq (.s (.int k a)) (.s (.int k b)) = some (.B (decide (b ≤ a))) := by simp [bin, binInt]
theorem srngO_s {b : ByteArray} : srngO M (.s (.string b)) = some (.oi M.length, M ++ [.siter b 0]) := nrfl rfl
theorem snxtO_oi {i : Nat} : snxtO M (.oi i) = snxtR M i M[i]? := nrfl rfl
theorem snxtR_some {i pos : Nat} {s : ByteArray} (h : pos < s.size) : snxtR M i (some (.siter s pos)) = some (.tup [.B true, .I pos, .s (.int .i32 (Utf8.decode s pos).1)], M.set i (.siter s (pos + (Utf8.decode s pos).2))) := if_pos h
theorem snxtR_none {i pos : Nat} {s : ByteArray} (h : ¬ pos < s.size) : snxtR M i (some (.siter s pos)) = some (.tup [.B false], M) := if_neg h
theorem sopV_cmp {op : BinOp} {fk : FloatKind} {u v : Nat} {r : Bool} (h : fArith op fk u v = none) (h1 : fCmp op (fk.format.order u v) = some r) : sopV (.fbin op) [.s (.float fk u), .s (.float fk v)] = some (.B r) := by simp only [sopV, if_true, h, h1, Option.map_some]
theorem sopV_itf {fk : FloatKind} : sopV (.itf fk) [.s (.int k a)] = some (.s (.float fk (fk.nearest a))) := nrfl rfl
theorem sopV_ff {fk : FloatKind} {u : Nat} : sopV (.ff fk) [.s (.float fk u)] = some (.s (.float fk u)) := by simp only [sopV, if_true]
theorem cells_float {fk : FloatKind} {u : Nat} : (PV.s (.float fk u)).cells = [.s (.float fk u)] := nrfl rfl
theorem cells_nan {fk : FloatKind} : (PV.nan fk).cells = [.nan fk] := nrfl rfl
theorem oneB_float {fk : FloatKind} {u : Nat} : oneB (.s (.float fk u)) = true := nrfl rfl
theorem oneB_nan {fk : FloatKind} : oneB (.nan fk) = true := nrfl rfl
theorem view_float {fk : FloatKind} {u : Nat} : view M (.s (.float fk u)) = .s (.float fk u) := nrfl rfl
theorem view_nan {fk : FloatKind} : view M (.nan fk) = .nan fk := nrfl rfl
theorem view_oi {i : Nat} : view M (.oi i) = .oi i := nrfl rfl
theorem view1_float {fk : FloatKind} {u : Nat} : view1 M (.s (.float fk u)) = .s (.float fk u) := nrfl rfl
theorem view1_nan {fk : FloatKind} : view1 M (.nan fk) = .nan fk := nrfl rfl
theorem outV_float {n : Nat} {fk : FloatKind} {u : Nat} : outV n M (.s (.float fk u)) = .s (.float fk u) := nrfl rfl
theorem outV_nan {n : Nat} {fk : FloatKind} : outV n M (.nan fk) = .nan fk := nrfl rfl
theorem out1_float {n : Nat} {fk : FloatKind} {u : Nat} : out1 n M (.s (.float fk u)) = .s (.float fk u) := nrfl rfl
theorem binb_eql : binb .eql (.B p) (.B q) = some (.B (p == q)) := nrfl rfl
theorem binb_neq : binb .neq (.B p) (.B q) = some (.B (!(p == q))) := nrfl rfl
theorem un_neg : un .neg (.s (.int k a)) = some (.s (.int k (k.wrap (-a)))) := by simp [un]
theorem un_not : un .not (.B p) = some (.B (!p)) := nrfl rfl
theorem conv_int {k' : IntKind} : conv k' (.s (.int k a)) = some (.s (.int k' (k'.wrap a))) := nrfl rfl
theorem pickV_t : pickV (.B true) x y = some x := nrfl rfl
theorem pickV_f : pickV (.B false) x y = some y := nrfl rfl
theorem pickV_or : pickV (.B p) (.B true) (.B q) = some (.B (p || q)) := by cases p <;> rfl
theorem pickV_and : pickV (.B p) (.B q) (.B false) = some (.B (p && q)) := by cases p <;> rfl
theorem asNat_int : asNat (.s (.int k a)) = if 0 ≤ a then some a.toNat else none := nrfl rfl
theorem wrap_in {a : Int} (h : -9223372036854775808 ≤ a ∧ a ≤ 9223372036854775807) : IntKind.i64.wrap a = a := wrap64_in h
theorem extV_tup {i : Nat} : extV i (.tup xs) = xs[i]? := nrfl rfl
theorem foldO_nil {f : PV → PV → Option PV} : foldO f x [] = some x := nrfl rfl
theorem foldO_cons {f : PV → PV → Option PV} : foldO f x (y :: xs) = (f x y).bind fun z => foldO f z xs := nrfl rfl
theorem maxI_int : maxI (.s (.int k a)) (.s (.int k b)) = some (.s (.int k (max a b))) := by
  simp only [maxI, if_true, Option.some.injEq, PV.s.injEq, Value.int.injEq, true_and]; omega
theorem minI_int : minI (.s (.int k a)) (.s (.int k b)) = some (.s (.int k (min a b))) := by
  simp only [minI, if_true, Option.some.injEq, PV.s.injEq, Value.int.injEq, true_and]; omega
theorem cells_agg : (PV.agg cs).cells = cs := nrfl rfl
theorem cells_s {v : Value} : (PV.s v).cells = [.s v] := nrfl rfl
theorem cells_fs : (PV.fs cs).cells = [.fs cs] := nrfl rfl
theorem cells_os {i v o n : Nat} : (PV.os i v o n).cells = [.os i v o n] := nrfl rfl
theorem cells_op {i v o n : Nat} : (PV.op i v o n).cells = [.op i v o n] := nrfl rfl
theorem cells_om {i : Nat} : (PV.om i).cells = [.om i] := nrfl rfl
theorem cells_fp : (PV.fp cs).cells = [.fp cs] := nrfl rfl
theorem cells_fn {f : Fn} : (PV.fn f xs ys).cells = [.fn f xs ys] := nrfl rfl
theorem oneB_int : oneB (.s (.int k a)) = true := nrfl rfl
theorem oneB_bool : oneB (.s (.bool p)) = true := nrfl rfl
theorem oneB_str {s : ByteArray} : oneB (.s (.string s)) = true := nrfl rfl
theorem oneB_nil : oneB (.s (.slice none 0 0)) = true := nrfl rfl
theorem oneB_fs : oneB (.fs xs) = true := nrfl rfl
theorem oneB_os {i v o n : Nat} : oneB (.os i v o n) = true := nrfl rfl
theorem oneB_op {i v o n : Nat} : oneB (.op i v o n) = true := nrfl rfl
theorem oneB_om {i : Nat} : oneB (.om i) = true := nrfl rfl
theorem okElem_eq {n : Nat} : okElem n x = (x.cells.length == n && x.cells.all oneB) := nrfl rfl
theorem mkPV_none : mkPV none [x] = some x := nrfl rfl
theorem mkPV_some {n : Nat} (h : xs.length = n) : mkPV (some n) xs = some (.agg xs) := by simp [mkPV, h]
theorem loadPV_fp {n : Nat} (h : n ≤ cs.length) : loadPV M (some n) (.fp cs) = some (.agg (cs.take n)) := by
  simp only [loadPV, Option.getD_some]; exact mkPV_some (by simp; omega)
theorem loadPV_fp1 : loadPV M none (.fp (x :: cs)) = some x := by simp [loadPV, mkPV]
def cellsR (ver e j n : Nat) : Option Blk → Option (List PV)
  | some (.row _ _ v xs) =>
    if v = ver then
      match xs[e]? with
      | some x => if j + n ≤ x.cells.length then some ((x.cells.drop j).take n) else
          if j + n ≤ ((xs.drop e).flatMap PV.cells).length then some ((((xs.drop e).flatMap PV.cells).drop j).take n) else none
      | none => none
    else none
  | _ => none
theorem cellsAt_eq {i ver e j n : Nat} : cellsAt M i ver e j n = cellsR ver e j n M[i]? := by
  unfold cellsAt
  cases M[i]? with
  | none => rfl
  | some b => cases b <;> rfl
theorem loadPV_op {g : Option Nat} {i ver e j : Nat} : loadPV M g (.op i ver e j) = (cellsR ver e j (g.getD 1) M[i]?).bind fun cs => mkPV g cs := by
  rw [← cellsAt_eq]; rfl
def cellsE (xs : List PV) (e j n : Nat) : Option PV → Option (List PV)
  | some x => if j + n ≤ x.cells.length then some ((x.cells.drop j).take n) else
      if j + n ≤ ((xs.drop e).flatMap PV.cells).length then some ((((xs.drop e).flatMap PV.cells).drop j).take n) else none
  | none => none
theorem cellsR_eq {w : Bool} {kk ver e j n : Nat} : cellsR ver e j n (some (.row w kk ver xs)) = cellsE xs e j n xs[e]? := by
  simp only [cellsR, if_true]
  cases xs[e]? <;> rfl
theorem cellsE_some {e j n : Nat} (h : j + n ≤ x.cells.length) : cellsE xs e j n (some x) = some ((x.cells.drop j).take n) := by simp only [cellsE, if_pos h]
def putR (M : List Blk) (i ver e j : Nat) (vs : List PV) : Option Blk → Option (List Blk)
  | some (.row true k v xs) =>
    if v = ver then
      match xs[e]? with
      | some x => if j + vs.length ≤ x.cells.length ∧ vs.all oneB then
          (match x with
           | .agg cs => some (M.set i (.row true k v (xs.set e (.agg (setRange cs j vs)))))
           | _ => match vs with
             | [y] => match y with
               | .agg _ => none
               | y => some (M.set i (.row true k v (xs.set e y)))
             | _ => none)
          else none
      | none => none
    else none
  | _ => none
theorem elemPut_eq {i ver e j : Nat} {vs : List PV} : elemPut M i ver e j vs = putR M i ver e j vs M[i]? := by
  unfold elemPut
  cases M[i]? with
  | none => rfl
  | some b => cases b with
    | row w => cases w <;> rfl
    | _ => rfl
theorem putR_agg {kk i ver e j : Nat} {vs : List PV} (hx : xs[e]? = some (.agg cs)) (h : j + vs.length ≤ cs.length) (h1 : vs.all oneB = true) :
    putR M i ver e j vs (some (.row true kk ver xs)) = some (M.set i (.row true kk ver (xs.set e (.agg (setRange cs j vs))))) := by
  unfold putR
  simp only [if_true, hx]
  exact if_pos ⟨h, h1⟩
theorem putR_one {kk i ver e : Nat} {v : PV} (hx : xs[e]? = some x) (hx1 : oneB x = true) (h1 : oneB v = true) :
    putR M i ver e 0 [v] (some (.row true kk ver xs)) = some (M.set i (.row true kk ver (xs.set e v))) := by
  unfold putR
  simp only [if_true, hx]
  have hc : 0 + [v].length ≤ x.cells.length := by cases x <;> first | (cases hx1; done) | (simp [PV.cells])
  rw [if_pos ⟨hc, by simp [h1]⟩]
  cases x <;> first | (cases hx1; done) | skip
  all_goals (cases v <;> first | (cases h1; done) | rfl)
theorem putR_one1 {kk i ver : Nat} {v : PV} (hx1 : oneB x = true) (h1 : oneB v = true) :
    putR M i ver 0 0 [v] (some (.row true kk ver [x])) = some (M.set i (.row true kk ver [v])) := by
  rw [putR_one (x := x) rfl hx1 h1]; rfl
def putE (M : List Blk) (i k ver e j : Nat) (xs vs : List PV) : Option PV → Option (List Blk)
  | some x => putR M i ver 0 j vs (some (.row true k ver [x])) |>.bind fun _ => putR M i ver e j vs (some (.row true k ver xs))
  | none => none
theorem putR_eq {i kk ver e j : Nat} {vs : List PV} : putR M i ver e j vs (some (.row true kk ver xs)) = putE M i kk ver e j xs vs xs[e]? := by
  cases h : xs[e]? with
  | none => simp only [putR, if_true, h, putE]
  | some x =>
    simp only [putE]
    simp only [putR, if_true, h, List.getElem?_cons_zero]
    split
    · split
      · rfl
      · split
        · split <;> first | rfl | (rename_i h1 _ _ _ _ h2; exact absurd rfl (h2 _))
        · rfl
    · rfl
theorem putE_agg {kk i ver e j : Nat} {vs : List PV} (h : j + vs.length ≤ cs.length) (h1 : vs.all oneB = true) (hx : xs[e]? = some (.agg cs)) :
    putE M i kk ver e j xs vs (some (.agg cs)) = some (M.set i (.row true kk ver (xs.set e (.agg (setRange cs j vs))))) := by
  rw [← hx, ← putR_eq, putR_agg hx h h1]
theorem putE_one {kk i ver e : Nat} {v : PV} (hx1 : oneB x = true) (h1 : oneB v = true) (hx : xs[e]? = some x) :
    putE M i kk ver e 0 xs [v] (some x) = some (M.set i (.row true kk ver (xs.set e v))) := by
  rw [← hx, ← putR_eq, putR_one hx hx1 h1]
theorem storeO_op {kk i ver e j : Nat} (h : y.cells.length = kk) (hk : kk ≠ 0) : storeO M kk (.op i ver e j) y = (putR M i ver e j y.cells M[i]?).map (unit, ·) := by
  rw [← elemPut_eq]; simp only [storeO]; rw [if_pos ⟨h, hk⟩]
theorem allocO_some {n : Nat} : allocO M n (some x) = some (.op M.length 0 0 0, M ++ [.row true n 0 [x]]) := nrfl rfl
theorem boxO_own {n : Nat} (h : x.cells.length = n) (hn : n ≠ 0) : boxO M true n x = some (.op M.length 0 0 0, M ++ [.row true n 0 [x]]) := by simp [boxO, h, hn]
theorem boxO_fp {n : Nat} (h : x.cells.length = n) (hn : n ≠ 0) : boxO M false n x = some (.fp (view M x).cells, M) := by simp [boxO, h, hn]
theorem bslO_own {n : Nat} (h : xs.all (fun x => x.cells.length = n) = true) (hn : n ≠ 0) : bslO M true n xs = some (.os M.length 0 0 xs.length, M ++ [.row true n 0 xs]) := by
  simp only [bslO]; rw [if_pos ⟨h, hn⟩]; rfl
theorem bslO_own0 {n : Nat} (hn : n ≠ 0) : bslO M true n [] = some (.os M.length 0 0 0, M ++ [.row true n 0 []]) := bslO_own (by simp) hn
theorem bslO_fs0 {n : Nat} (hn : n ≠ 0) : bslO M false n [] = some (.fs [], M) := by simp [bslO, hn]
theorem bslO_fs {n : Nat} (h : xs.all (fun x => x.cells.length = n) = true) (hn : n ≠ 0) : bslO M false n xs = some (.fs (xs.map (view M)), M) := by
  simp only [bslO]; rw [if_pos ⟨h, hn⟩]; rfl
theorem mkslO_some {kk bytes : Nat} {g : Option Nat} {zv : List Value} (h0 : 0 ≤ a) (h1 : a ≤ 1048576) (hb : bytes ≤ 1048576) (hz : zv.length = kk) (hk : 0 < kk) :
    mkslO M kk g zv bytes (.s (.int .i64 a)) (.s (.int .i64 a)) = (mkPV g (zv.map .s)).map fun e => (.os M.length 0 0 a.toNat, M ++ [.row true kk 0 (List.replicate a.toNat e)]) := by
  exact if_pos ⟨h0, rfl, by omega, by omega, hz, hk⟩
theorem iaddrV_fs {n m : Nat} : iaddrV M n (.fs xs) (some m) = elemP n xs[m]? := nrfl rfl
theorem elemP_some {n : Nat} (h : x.cells.length = n) : elemP n (some x) = some (.fp x.cells) := by simp [elemP, h]
theorem iaddrV_os {n m i ver off len : Nat} (h : m < len) : iaddrV M n (.os i ver off len) (some m) = rowP n i ver off len m M[i]? := by simp [iaddrV, h]
theorem rowP_some {n i ver off len m : Nat} {w : Bool} (h : off + len ≤ xs.length) : rowP n i ver off len m (some (.row w n ver xs)) = some (.op i ver (off + m) 0) := by simp [rowP, h]
theorem faddrV_fp {off : Nat} (h : off ≤ cs.length) : faddrV M off (.fp cs) = some (.fp (cs.drop off)) := by simp [faddrV, h]
def liveR (ver : Nat) : Option Blk → Bool
  | some (.row _ _ v _) => v == ver
  | _ => false
theorem liveRow_eq {i ver : Nat} : liveRow M i ver = liveR ver M[i]? := by
  unfold liveRow
  cases M[i]? with
  | none => rfl
  | some b => cases b <;> rfl
theorem liveR_some {ver kk : Nat} {w : Bool} : liveR ver (some (.row w kk ver xs)) = true := by simp [liveR]
theorem faddrV_op {off i ver e j : Nat} : faddrV M off (.op i ver e j) = if liveR ver M[i]? = true then some (.op i ver e (j + off)) else none := by simp only [faddrV, liveRow_eq]
theorem nilcV_fp : nilcV M (.fp cs) = some (.fp cs) := nrfl rfl
theorem nilcV_op {i ver e j : Nat} : nilcV M (.op i ver e j) = if liveR ver M[i]? = true then some (.op i ver e j) else none := by simp only [nilcV, liveRow_eq]
theorem nilcV_fn {f : FuncId} : nilcV M (.fn (.func f) xs ys) = some (.fn (.func f) xs ys) := nrfl rfl
theorem fieldV_agg {off : Nat} : fieldV off none (.agg cs) = mkPV none ((cs.drop off).take 1) := nrfl rfl
theorem fieldV_aggs {off n : Nat} : fieldV off (some n) (.agg cs) = mkPV (some n) ((cs.drop off).take n) := nrfl rfl
theorem sliceV_fs {n : Nat} {lo hi : Option PV} (h : sized n xs = true) : sliceV M n (.fs xs) lo hi = (bounds xs.length lo hi).map fun b => .fs ((xs.drop b.1).take (b.2 - b.1)) := by simp [sliceV, h]
theorem sized_nil {n : Nat} : sized n [] = true := nrfl rfl
theorem natZ : ((0 : Nat) : Int) = 0 := nrfl rfl
theorem natO : ((1 : Nat) : Int) = 1 := nrfl rfl
theorem min10 : min (1 : Int) 0 = 0 := nrfl rfl
theorem sliceV_nil {n : Nat} {lo hi : Option PV} : sliceV M n (.s (.slice none 0 0)) lo hi = (bounds 0 lo hi).map fun _ => PV.nilS := nrfl rfl
def rowKR : Option Blk → Nat
  | some (.row _ k _ _) => k
  | _ => 0
theorem rowK_eq {i : Nat} : rowK M i = rowKR M[i]? := by
  unfold rowK
  cases M[i]? with
  | none => rfl
  | some b => cases b <;> rfl
def sliceR (i ver off len n : Nat) (lo hi : Option PV) : Option Blk → Option PV
  | some (.row _ k v _) => if v = ver ∧ k = n then (bounds len lo hi).map fun b => .os i ver (off + b.1) (b.2 - b.1) else none
  | _ => none
theorem sliceV_os {n i ver off len : Nat} {lo hi : Option PV} : sliceV M n (.os i ver off len) lo hi = sliceR i ver off len n lo hi M[i]? := by
  simp only [sliceV, liveRow_eq, rowK_eq]
  cases M[i]? with
  | none => rfl
  | some b => cases b <;> simp [liveR, rowKR, sliceR]
theorem sliceR_row {n i ver off len : Nat} {lo hi : Option PV} {w : Bool} : sliceR i ver off len n lo hi (some (.row w n ver xs)) = (bounds len lo hi).map fun b => .os i ver (off + b.1) (b.2 - b.1) := by simp [sliceR]
theorem iaddraV_op {n k a ver e j m : Nat} : iaddraV M n k (.op a ver e j) (some m) = if m < n ∧ liveR ver M[a]? = true then some (.op a ver e (j + m * k)) else none := by simp only [iaddraV, liveRow_eq]
theorem iaddraV_fp {n k m : Nat} : iaddraV M n k (.fp cs) (some m) = if m < n ∧ n * k ≤ cs.length then some (.fp ((cs.drop (m * k)).take k)) else none := nrfl rfl
theorem arrpV_fs {n : Nat} : arrpV M n (.fs xs) = if n ≤ xs.length ∧ 0 < n then some (.fp ((xs.take n).flatMap PV.cells)) else none := nrfl rfl
theorem appR_cut {M : List Blk} {k bytes i ver len : Nat} {xs ys : List PV} (hl : len ≤ xs.length) (hy : ys.all (okElem k) = true) (hk : k ≠ 0) (hb : bytes ≤ 2 ^ 20) (hs : len + ys.length ≤ 1048576) :
    appR M k bytes i ver 0 len ys (some (.row true k ver xs)) = some (.os i (ver + 1) 0 (len + ys.length), M.set i (.row true k (ver + 1) (xs.take len ++ ys))) := by
  show (if (ys.all (okElem k) = true ∧ k ≠ 0 ∧ bytes ≤ 2 ^ 20) ∧ ver = ver ∧ k = k ∧ 0 + len ≤ xs.length ∧ len + ys.length ≤ 2 ^ 20 then some (PV.os i (ver + 1) 0 (len + ys.length), M.set i (Blk.row true k (ver + 1) ((xs.drop 0).take len ++ ys))) else none) = _
  rw [if_pos ⟨⟨hy, hk, hb⟩, rfl, rfl, by omega, by omega⟩]; simp
theorem bounds_eq {n : Nat} {lo hi : Option PV} : bounds n lo hi = (hiN n hi).bind fun h => (loN lo).bind fun l => if l ≤ h ∧ h ≤ n then some (l, h) else none := nrfl rfl
theorem hiN_none {n : Nat} : hiN n none = some n := nrfl rfl
theorem hiN_some {n : Nat} {v : PV} : hiN n (some v) = asNat v := nrfl rfl
theorem loN_none : loN none = some 0 := nrfl rfl
theorem loN_some {v : PV} : loN (some v) = asNat v := nrfl rfl
theorem held_fs : held M (.fs xs) = some xs := nrfl rfl
theorem held_nil : held M (.s (.slice none 0 0)) = some [] := nrfl rfl
def heldR (ver off len : Nat) : Option Blk → Option (List PV)
  | some (.row _ _ v xs) => if v = ver ∧ off + len ≤ xs.length then some ((xs.drop off).take len) else none
  | _ => none
theorem held_os {i ver off len : Nat} : held M (.os i ver off len) = heldR ver off len M[i]? := by
  unfold held
  simp only [heldR]
  cases M[i]? with
  | none => rfl
  | some b => cases b <;> rfl
theorem heldR_all {ver kk len : Nat} {w : Bool} (h : len = xs.length) : heldR ver 0 len (some (.row w kk ver xs)) = some xs := by subst h; simp [heldR]
theorem heldR_some {ver kk off len : Nat} {w : Bool} (h : off + len ≤ xs.length) : heldR ver off len (some (.row w kk ver xs)) = some ((xs.drop off).take len) := by simp [heldR, h]
theorem arrpV_os {n i ver off len : Nat} : arrpV M n (.os i ver off len) = if n ≤ len ∧ 0 < n then (heldR ver off len M[i]?).map fun _ => .op i ver off 0 else none := by simp only [arrpV, held_os]
def viewR (i ver off len : Nat) : Option Blk → PV
  | some (.row false _ v xs) => if v = ver ∧ off + len ≤ xs.length then .fs ((xs.drop off).take len) else .os i ver off len
  | _ => .os i ver off len
theorem view_int : view M (.s (.int k a)) = .s (.int k a) := nrfl rfl
theorem view_bool : view M (.B p) = .B p := nrfl rfl
theorem view_str {s : ByteArray} : view M (.s (.string s)) = .s (.string s) := nrfl rfl
theorem view_nil : view M (.s (.slice none 0 0)) = .fs [] := nrfl rfl
theorem view_fs : view M (.fs xs) = .fs xs := nrfl rfl
theorem view_fp : view M (.fp xs) = .fp xs := nrfl rfl
theorem view_om {i : Nat} : view M (.om i) = .om i := nrfl rfl
theorem view_op {i v e j : Nat} : view M (.op i v e j) = .op i v e j := nrfl rfl
theorem view_yl {i : Nat} : view M (.yl i) = .yl i := nrfl rfl
theorem view_fn {f : Fn} : view M (.fn f xs ys) = .fn f xs ys := nrfl rfl
theorem view_tup : view M (.tup xs) = .tup xs := nrfl rfl
theorem view_top : view M .top = .top := nrfl rfl
theorem view_agg : view M (.agg cs) = .agg (cs.map (view1 M)) := nrfl rfl
theorem view1_int : view1 M (.s (.int k a)) = .s (.int k a) := nrfl rfl
theorem view1_bool : view1 M (.B p) = .B p := nrfl rfl
theorem view1_str {s : ByteArray} : view1 M (.s (.string s)) = .s (.string s) := nrfl rfl
theorem view1_nil : view1 M (.s (.slice none 0 0)) = .fs [] := nrfl rfl
theorem view1_fs : view1 M (.fs xs) = .fs xs := nrfl rfl
theorem view_os {i ver off len : Nat} : view M (.os i ver off len) = viewR i ver off len M[i]? := by
  simp only [view, view1]
  cases M[i]? with
  | none => rfl
  | some b => cases b with
    | row w => cases w <;> rfl
    | _ => rfl
theorem view1_os {i ver off len : Nat} : view1 M (.os i ver off len) = viewR i ver off len M[i]? := by rw [← view_os]; rfl
theorem viewR_true {i ver off len kk v : Nat} : viewR i ver off len (some (.row true kk v xs)) = .os i ver off len := nrfl rfl
theorem viewR_all {i ver kk len : Nat} (h : len = xs.length) : viewR i ver 0 len (some (.row false kk ver xs)) = .fs xs := by subst h; simp [viewR]
theorem argV_t {ρ : CX → PV} {n : Nat} : argV M ρ (.t n) = view M (ρ (.t n)) := nrfl rfl
theorem argV_k {ρ : CX → PV} {v : Value} : argV M ρ (.k v) = .s v := nrfl rfl
theorem argV_f {ρ : CX → PV} {f : FuncId} : argV M ρ (.f f) = view M (ρ (.f f)) := nrfl rfl
def frzR (M : List Blk) (i : Nat) : Option Blk → Option (List Blk)
  | some (.row _ k v xs) => some (M.set i (.row false k v xs))
  | _ => none
theorem freezeAll_os {i ver off len : Nat} : freezeAll M [.os i ver off len] = frzR M i M[i]? := by
  simp only [freezeAll, freeze]
  cases M[i]? with
  | none => rfl
  | some b => cases b <;> rfl
theorem freezeAll_fs : freezeAll M [.fs xs] = some M := nrfl rfl
theorem freezeAll_nil : freezeAll M [.s (.slice none 0 0)] = some M := nrfl rfl
theorem frzR_row {i kk v : Nat} {w : Bool} : frzR M i (some (.row w kk v xs)) = some (M.set i (.row false kk v xs)) := nrfl rfl
theorem freezeO_some : freezeO (some (x, M)) = (freezeAll M x.cells).map fun M' => (view M' x, M') := nrfl rfl
theorem eqCells_nil : eqCells [] [] [] = some true := nrfl rfl
theorem eqCells_int {ks : List SK} : eqCells (.int :: ks) (.s (.int k a) :: xs) (.s (.int k b) :: ys) = (eqCells ks xs ys).map fun r => decide (a = b) && r := by
  simp only [eqCells, eqSK, if_true, bind, Option.bind_some, pure]
  cases eqCells ks xs ys with
  | none => rfl
  | some r => simp only [Option.bind_some, Option.map_some]; congr
theorem eqCells_bool {ks : List SK} : eqCells (.bool :: ks) (.B p :: xs) (.B q :: ys) = (eqCells ks xs ys).map fun r => (p == q) && r := by
  simp only [eqCells, eqSK, bind, Option.bind_some, pure]
  cases eqCells ks xs ys <;> rfl
theorem eqsV_agg {neg : Bool} {lay : List SK} : eqsV neg lay (.agg xs) (.agg ys) = (eqCells lay xs ys).map fun r => .B (if neg = true then !r else r) := nrfl rfl
theorem Wp_cut0 {C : CallR} {n0 : Nat} {Q : Post} {t : List PV} (hM : lowM M.length M) (hn : n0 ≤ M.length) (ht : lowL M.length t) (hq : Q .normal M t) : Wp C n0 .cut Q M t := by
  refine ⟨M.length, hn, Nat.le_refl _, ?_, ht, ?_⟩ <;> rw [List.take_length] <;> assumption
/-- A nil slice in a cell that is made an own row. -/
def nilAt (j : Nat) : Option PV → Bool
  | some x => match x.cells[j]? with
    | some (.s (.slice none 0 0)) => true
    | _ => false
  | none => false
def ownR (M : List Blk) (a ver e j k : Nat) : Option Blk → Option (List Blk)
  | some (.row w kk v xs) => if nilAt j xs[e]? = true then (putR M a ver e j [.os M.length 0 0 0] (some (.row w kk v xs))).map (· ++ [.row true k 0 []]) else none
  | _ => none
def ownO (M : List Blk) (j k : Nat) : PV → Option (List Blk)
  | .op a ver e j0 => ownR M a ver e (j0 + j) k M[a]?
  | _ => none
def ownP (Q : Post) (t : List PV) : Option (List Blk) → Prop
  | some M' => Q .normal M' t
  | none => False
theorem Wp_own {C : CallR} {n0 : Nat} {Q : Post} {t : List PV} {i j k : Nat} : Wp C n0 (.own i j k) Q M t = ownP Q t (ownO M j k (t.getD i .top)) := by
  apply propext
  show (∃ M', ownNil M (t.getD i .top) j k = some M' ∧ Q .normal M' t) ↔ _
  have : ownNil M (t.getD i .top) j k = ownO M j k (t.getD i .top) := by
    generalize t.getD i .top = p
    cases p <;> try rfl
    rename_i a ver e j0
    simp only [ownNil, ownO]
    cases hb : M[a]? with
    | none => rfl
    | some b =>
      cases b <;> try rfl
      rename_i w kk v xs
      simp only [ownR, ← hb, ← elemPut_eq]
      cases hx : xs[e]? with
      | none => rfl
      | some x =>
        simp only [Option.map_some, Option.bind_some]
        by_cases hn : nilAt (j0 + j) (some x) = true
        · rw [if_pos hn]
          simp only [nilAt] at hn
          split at hn
          · rename_i h3; rw [h3]; rfl
          · cases hn
        · rw [if_neg hn]
          split
          · rename_i h3; exfalso; apply hn; simp only [nilAt]; rw [h3]; rfl
          · rfl
  rw [this]
  cases ownO M j k (t.getD i .top) with
  | none => simp [ownP]
  | some M' => simp [ownP]
theorem ownP_some {Q : Post} {t : List PV} {M' : List Blk} : ownP Q t (some M') = Q .normal M' t := nrfl rfl
theorem ownO_op {a ver e j0 j k : Nat} : ownO M j k (.op a ver e j0) = ownR M a ver e (j0 + j) k M[a]? := nrfl rfl
theorem ownR_one {a ver k : Nat} {kk : Nat} : ownR M a ver 0 0 k (some (.row true kk ver [.s (.slice none 0 0)])) = some (M.set a (.row true kk ver [.os M.length 0 0 0]) ++ [.row true k 0 []]) := by
  show (putR M a ver 0 0 [.os M.length 0 0 0] _).map _ = _
  rw [putR_one1 rfl rfl]; rfl
section
variable {C : CallR} {d : Option Nat} {os : List (COper × Option Nat)} {tr : List Foot} {K : List Foot → List Blk → List PV → Prop} {t : List PV}
def dK (C : CallR) (os : List (COper × Option Nat)) (tr : List Foot) (fp : Foot) (K : List Foot → List Blk → List PV → Prop) (n : Nat) (M : List Blk) (t : List PV) : Prop := M.length = n ∧ wpD C os (tr ++ [fp]) K M t
theorem dK_eq {fp : Foot} {n : Nat} : dK C os tr fp K n M t = (M.length = n ∧ wpD C os (tr ++ [fp]) K M t) := nrfl rfl
theorem d_op {o : COp} : wpD C ((⟨d, o, none⟩, none) :: os) tr K M t = wpOps C [⟨d, o, none⟩] (dK C os tr (fpOp (ev t) o) K M.length) M t := by
  apply propext
  constructor
  · rintro ⟨_, v, M', h1, h2, h3⟩
    exact ⟨v, M', h1, h2, h3⟩
  · rintro ⟨v, M', h1, h2, h3⟩
    exact ⟨rfl, v, M', h1, h2, h3⟩
theorem d_nil : wpD C [] tr K M t = K tr M t := nrfl rfl
def allocD (C : CallR) (os : List (COper × Option Nat)) (tr : List Foot) (K : List Foot → List Blk → List PV → Prop) (M : List Blk) (t : List PV) (d : Option Nat) (i n : Nat) : Option PV → Option Blk → Prop
  | some e, some (.row false 0 0 []) => wpD C os (tr ++ [some ([], [i])]) K (M.set i (.row true n 1 [e])) (put t d (.op i 1 0 0))
  | _, _ => False
theorem d_alloc {g : Option Nat} {z : List Value} {r : Nat} : wpD C ((⟨d, .alloc g z, none⟩, some r) :: os) tr K M t = allocD C os tr K M t d (M.length - r) z.length (mkPV g (z.map .s)) M[M.length - r]? := by
  apply propext
  constructor
  · rintro ⟨_, v, M', ⟨o, k, xs, h1, h2, rfl, rfl⟩, h4, h5⟩
    simp only [allocB, Option.map_eq_some_iff] at h1
    obtain ⟨e, h6, h7⟩ := h1
    cases h7
    rw [h6, h2]
    exact h5
  · intro h
    cases he : mkPV g (z.map .s) with
    | none => rw [he] at h; exact h.elim
    | some e =>
      rw [he] at h
      cases hb : M[M.length - r]? with
      | none => rw [hb] at h; exact h.elim
      | some b =>
        rw [hb] at h
        unfold allocD at h
        split at h
        · rename_i h1 h2
          cases h1; cases h2
          exact ⟨rfl, _, _, ⟨true, z.length, [_], by simp only [allocB, he]; rfl, hb, rfl, rfl⟩, by simp, h⟩
        · exact h.elim
theorem allocD_some {i n : Nat} : allocD C os tr K M t d i n (some x) (some (.row false 0 0 [])) = wpD C os (tr ++ [some ([], [i])]) K (M.set i (.row true n 1 [x])) (put t d (.op i 1 0 0)) := nrfl rfl
def bslD (C : CallR) (os : List (COper × Option Nat)) (tr : List Foot) (K : List Foot → List Blk → List PV → Prop) (M : List Blk) (t : List PV) (d : Option Nat) (i k : Nat) (vs : List PV) : Option Blk → Prop
  | some (.row false 0 0 []) => if vs.all (fun x => x.cells.length = k) ∧ k ≠ 0 then wpD C os (tr ++ [some ([], [i])]) K (M.set i (.row true k 1 vs)) (put t d (.os i 1 0 vs.length)) else False
  | _ => False
theorem d_bsl {k r : Nat} {xs : List CX} : wpD C ((⟨d, .bsl true k xs, none⟩, some r) :: os) tr K M t = bslD C os tr K M t d (M.length - r) k (xs.map (ev t)) M[M.length - r]? := by
  apply propext
  constructor
  · rintro ⟨_, v, M', ⟨o, k', ys, h1, h2, rfl, rfl⟩, h4, h5⟩
    simp only [allocB] at h1
    split at h1
    · rename_i hc
      cases h1
      rw [h2]
      show (if _ then _ else _)
      rw [if_pos hc.2]
      simpa [fpD] using h5
    · cases h1
  · intro h
    cases hb : M[M.length - r]? with
    | none => rw [hb] at h; exact h.elim
    | some b =>
      rw [hb] at h
      unfold bslD at h
      split at h
      · rename_i h2
        cases h2
        split at h
        · rename_i hc
          exact ⟨rfl, _, _, ⟨false, k, xs.map (ev t), if_pos ⟨rfl, hc⟩, hb, rfl, rfl⟩, by simp, by simpa [fpD] using h⟩
        · exact h.elim
      · exact h.elim
theorem bslD_nil {i k : Nat} (hk : k ≠ 0) : bslD C os tr K M t d i k [] (some (.row false 0 0 [])) = wpD C os (tr ++ [some ([], [i])]) K (M.set i (.row true k 1 [])) (put t d (.os i 1 0 0)) := by
  show (if _ then _ else _) = _
  rw [if_pos ⟨by simp, hk⟩]; rfl
theorem hole_eq : hole = .row false 0 0 [] := nrfl rfl
theorem refs_op {i v e j : Nat} : refs (.op i v e j) = [i] := nrfl rfl
theorem refs_os {i v e j : Nat} : refs (.os i v e j) = [i] := nrfl rfl
theorem refs_om {i : Nat} : refs (.om i) = [i] := nrfl rfl
theorem refs_oi {i : Nat} : refs (.oi i) = [i] := nrfl rfl
theorem refs_fs : refs (.fs xs) = [] := nrfl rfl
theorem refs_fp : refs (.fp xs) = [] := nrfl rfl
theorem refs_s {v : Value} : refs (.s v) = [] := nrfl rfl
end
theorem mkRes_one {n : Nat} : mkRes n M [x] = outV n M x := nrfl rfl
theorem mkRes_two {n : Nat} : mkRes n M (x :: y :: xs) = .tup ((x :: y :: xs).map (outV n M)) := nrfl rfl
theorem outV_int {n : Nat} : outV n M (.s (.int k a)) = .s (.int k a) := nrfl rfl
theorem outV_bool {n : Nat} : outV n M (.B p) = .B p := nrfl rfl
theorem outV_str {n : Nat} {s : ByteArray} : outV n M (.s (.string s)) = .s (.string s) := nrfl rfl
theorem outV_nil {n : Nat} : outV n M (.s (.slice none 0 0)) = .fs [] := nrfl rfl
theorem outV_fs {n : Nat} : outV n M (.fs xs) = .fs xs := nrfl rfl
theorem outV_agg {n : Nat} : outV n M (.agg cs) = .agg (cs.map (out1 n M)) := nrfl rfl
theorem outV_fn {n : Nat} {f : Fn} : outV n M (.fn f xs ys) = .fn f xs ys := nrfl rfl
theorem out1_int {n : Nat} : out1 n M (.s (.int k a)) = .s (.int k a) := nrfl rfl
theorem out1_bool {n : Nat} : out1 n M (.B p) = .B p := nrfl rfl
theorem out1_str {n : Nat} {s : ByteArray} : out1 n M (.s (.string s)) = .s (.string s) := nrfl rfl
theorem out1_fs {n : Nat} : out1 n M (.fs xs) = .fs xs := nrfl rfl
theorem out1_nil {n : Nat} : out1 n M (.s (.slice none 0 0)) = .fs [] := nrfl rfl
def orTop : Option (List PV) → PV
  | some xs => .fs xs
  | none => .top
theorem out1_os {n i ver off len : Nat} (h : n ≤ i) : out1 n M (.os i ver off len) = orTop (heldR ver off len M[i]?) := by
  rw [← held_os]; simp only [out1]; rw [if_pos h]; cases held M (.os i ver off len) <;> rfl
theorem outV_os {n i ver off len : Nat} (h : n ≤ i) : outV n M (.os i ver off len) = orTop (heldR ver off len M[i]?) := out1_os h
theorem orTop_some : orTop (some xs) = .fs xs := nrfl rfl
theorem resOf_nil {t : List PV} : resOf M t [] = some [] := nrfl rfl
theorem resOf_cons {t : List PV} {i : Nat} {r : List (Nat × Option (Option Nat))} : resOf M t ((i, none) :: r) = (resOf M t r).map (t.getD i .top :: ·) := nrfl rfl
def consO : Option PV → Option (List PV) → Option (List PV)
  | some v, some vs => some (v :: vs)
  | _, _ => none
theorem resOf_cell {t : List PV} {i : Nat} {g : Option Nat} {r : List (Nat × Option (Option Nat))} : resOf M t ((i, some g) :: r) = consO (loadPV M g (t.getD i .top)) (resOf M t r) := by
  simp only [resOf, res, ev]
  cases loadPV M g (t.getD i .top) <;> cases resOf M t r <;> rfl
theorem consO_some {vs : List PV} : consO (some x) (some vs) = some (x :: vs) := nrfl rfl
theorem range_mk {C : CallR} {n0 n : Nat} {Q : Post} {kvs : List (Nat × PV)} {f : CX} {ps : List Nat} {A B : CCode} {g : FuncId} {cap : List PV} {M' : List Blk} {t' : List PV} {ps' : List Nat} {A' B' : CCode}
    (hf : ev (mk n kvs) f = .fn (.func g) [] cap) (hc : C (.fn g) (.yl M.length :: cap) (M ++ [.loop .ready none (mk n kvs) ps A B]) (.tup []) (M' ++ [.loop .ready none t' ps' A' B']))
    (hl : M'.length = M.length) (hlow : lowM M.length M') (hq : Q .normal M' (mk n kvs)) : Wp C n0 (.rangeFunc f ps A B) Q M (mk n kvs) :=
  ⟨g, [], cap, M', .ready, none, t', ps', A', B', hf, hc, hl, hlow, by decide, hq⟩
/-- Behind the assignments of a round. -/
def RoundK (C : CallR) (m i n : Nat) (kvs : List (Nat × PV)) (ps : List Nat) (A B : CCode) (r : PV) (M' : List Blk) (M1 : List Blk) (t1 : List PV) : Prop :=
  (∃ ts' ps' a' b', M1[i]? = some (.loop .ready none ts' ps' a' b')) ∧ Wp C m B (roundPost m i ps A B (mk n kvs) r M') (M1.set i (.loop .busy none (mk n kvs) ps A B)) t1
theorem roundK {C : CallR} {m i n : Nat} {kvs : List (Nat × PV)} {ps : List Nat} {A B : CCode} {r : PV} {M' M1 : List Blk} {t1 : List PV} {ts' : List PV} {ps' : List Nat} {a' b' : CCode} (h : M1[i]? = some (.loop .ready none ts' ps' a' b'))
    (hw : Wp C m B (roundPost m i ps A B (mk n kvs) r M') (M1.set i (.loop .busy none (mk n kvs) ps A B)) t1) : RoundK C m i n kvs ps A B r M' M1 t1 := ⟨⟨_, _, _, _, h⟩, hw⟩
theorem yield_mk {F : Prog} {X : FuncId → List PV → PV → Prop} {i n p : Nat} {kvs : List (Nat × PV)} {A B : CCode} {r : PV} {M' : List Blk} (hi : M[i]? = some (.loop .ready none (mk n kvs) [p] A B))
    (h : lowM M.length M → lowL M.length [x] → Wp (ACall F X) M.length A (thenK (RoundK (ACall F X) M.length i n kvs [p] A B r M') (fun _ _ _ => False)) M (mk n ((p, x) :: kvs))) : ACall F X (.yl i) [x] M r M' := by
  refine ACall_yl hi rfl fun h1 h2 => ?_
  have := h h1 h2
  simp only [List.zip_cons_cons, List.zip_nil_right, List.foldl_cons, List.foldl_nil, mk_set]
  exact this
theorem low_s {n : Nat} {v : Value} : (PV.s v).low n = True := by simp [PV.low]
theorem low_agg {n : Nat} : (PV.agg cs).low n = lowL n cs := by simp [PV.low]
theorem low_tup {n : Nat} : (PV.tup cs).low n = lowL n cs := by simp [PV.low]
theorem low_fs {n : Nat} : (PV.fs cs).low n = lowL n cs := by simp [PV.low]
theorem low_fp {n : Nat} : (PV.fp cs).low n = lowL n cs := by simp [PV.low]
theorem low_os {n i v o l : Nat} : (PV.os i v o l).low n = (i < n) := by simp [PV.low]
theorem low_op {n i v o l : Nat} : (PV.op i v o l).low n = (i < n) := by simp [PV.low]
theorem low_om {n i : Nat} : (PV.om i).low n = (i < n) := by simp [PV.low]
theorem low_fn {n : Nat} {f : Fn} : (PV.fn f xs ys).low n = (lowL n xs ∧ lowL n ys) := by simp [PV.low]
theorem low_nan {n : Nat} {fk : FloatKind} : (PV.nan fk).low n = True := by simp [PV.low]
theorem low_oi {n i : Nat} : (PV.oi i).low n = (i < n) := by simp [PV.low]
theorem low_yl {n i : Nat} : (PV.yl i).low n = (i < n) := by simp [PV.low]
theorem low_top {n : Nat} : PV.top.low n = True := by simp [PV.low]
theorem lowL_nil {n : Nat} : lowL n [] = True := by simp [lowL]
theorem lowL_cons {n : Nat} : lowL n (x :: xs) = (x.low n ∧ lowL n xs) := by simp [lowL]
/-- No reference at all. -/
def Clean (x : PV) : Prop := ∀ n, x.low n
theorem lowL_map' {α : Type} {f : α → PV} {n : Nat} {l : List α} (h : ∀ a, (f a).low n) : lowL n (l.map f) = True := eq_true (lowL_map f l h)
theorem Wp_cut_at {C : CallR} {n0 : Nat} {Q : Post} {N : List Blk} {t : List PV} (hM : lowM M.length M) (hn : n0 = M.length) (j : Nat) (hj : j ≤ N.length) (hN : lowM (M.length + j) (N.take j)) (ht : lowL (M.length + j) t) (hq : Q .normal (M ++ N.take j) t) :
    Wp C n0 .cut Q (M ++ N) t := by
  subst hn
  refine ⟨M.length + j, by omega, by simp; omega, ?_, ht, ?_⟩
  · rw [takeM]; exact (lowM_append _ _).2 ⟨lowM_mono (by omega) hM, hN⟩
  · rw [takeM]; exact hq
theorem post_fin {n : Nat} {rs : List (Nat × Option (Option Nat))} {r : PV} {N : List Blk} {t : List PV} {e : Ex} (he : (match e with | .ret | .normal => True | _ => False)) (hM : lowM M.length M) (hn : n = M.length)
    (h : (resOf (M ++ N) t rs).map (mkRes M.length (M ++ N)) = some r) (hl : r.low M.length) : bodyPost n rs r M e (M ++ N) t := by
  cases hv : resOf (M ++ N) t rs with
  | none => rw [hv] at h; cases h
  | some vs => rw [hv] at h; exact post_ret he hM hn hv (Option.some.inj h) hl
theorem post_fin0 {n : Nat} {rs : List (Nat × Option (Option Nat))} {r : PV} {t : List PV} {e : Ex} (he : (match e with | .ret | .normal => True | _ => False)) (hM : lowM M.length M) (hn : n = M.length)
    (h : (resOf M t rs).map (mkRes M.length M) = some r) (hl : r.low M.length) : bodyPost n rs r M e M t := by
  cases hv : resOf M t rs with
  | none => rw [hv] at h; cases h
  | some vs => rw [hv] at h; exact post_ret0 he hM hn hv (Option.some.inj h) hl
theorem post_nil {n : Nat} {rs : List (Nat × Option (Option Nat))} {N : List Blk} {t : List PV} {e : Ex} (he : (match e with | .ret | .normal => True | _ => False)) (hM : lowM M.length M) (hn : n = M.length)
    (h : resOf (M ++ N) t rs = some [PV.nilS]) : bodyPost n rs PV.nilS M e (M ++ N) t := by
  subst hn
  exact ⟨he, M.length, Nat.le_refl _, by simp, by simpa using hM, by simp, _, h, .inr ⟨rfl, rfl⟩, by simp [PV.low]⟩
theorem own_fin {rs : List (Nat × Option (Option Nat))} {N : List Blk} {t : List PV} {e : Ex} {j k v off len : Nat} (he : (match e with | .ret | .normal => True | _ => False)) (hM : lowM M.length M)
    (hv : resOf (M ++ N) t rs = some [.os (M.length + j) v off len]) (hj : N[j]? = some (.row true k v xs)) (hx : lowL M.length xs) : ownPost M.length rs (.os M.length v off len) (M ++ [.row true k v xs]) e (M ++ N) t := by
  refine ⟨he, by simp, by simpa using hM, M.length + j, v, off, len, k, xs, hv, by omega, by rw [getMj]; exact hj, hx, rfl, by simp⟩
theorem lowM_nil' {n : Nat} : lowM n [] = True := eq_true lowM_nil
theorem lowM_cons' {n : Nat} {b : Blk} {bs : List Blk} : lowM n (b :: bs) = (b.low n ∧ lowM n bs) := propext (lowM_cons b bs)
theorem lowL_app' {n : Nat} : lowL n (xs ++ ys) = (lowL n xs ∧ lowL n ys) := propext (lowL_append xs ys)
theorem blow_row {w : Bool} {kk v n : Nat} : (Blk.row w kk v xs).low n = lowL n xs := nrfl rfl
theorem blow_siter {s : ByteArray} {p n : Nat} : (Blk.siter s p).low n = True := nrfl rfl
theorem blow_map {es : List (Value × Value)} {n : Nat} : (Blk.map es).low n = True := nrfl rfl
theorem take_snoc {α β : Type} {l : List α} {i : Nat} {x : α} {f : α → β} (h : l[i]? = some x) : (l.take (i + 1)).map f = (l.take i).map f ++ [f x] := by
  obtain ⟨h1, h2⟩ := List.getElem?_eq_some_iff.1 h
  rw [List.take_succ_eq_append_getElem h1, h2, List.map_append]; rfl
theorem mk0 (n : Nat) : [] ++ List.replicate (n - ([] : List PV).length) .top = mk n [] := mk_zip [] n (Nat.zero_le _)
theorem mk1 (n : Nat) (h : 1 ≤ n) (a : PV) : [a] ++ List.replicate (n - [a].length) .top = mk n [(0, a)] := mk_zip [a] n h
theorem mk2 (n : Nat) (h : 2 ≤ n) (a b : PV) : [a, b] ++ List.replicate (n - [a, b].length) .top = mk n [(0, a), (1, b)] := mk_zip [a, b] n h
theorem mk3 (n : Nat) (h : 3 ≤ n) (a b c : PV) : [a, b, c] ++ List.replicate (n - [a, b, c].length) .top = mk n [(0, a), (1, b), (2, c)] := mk_zip [a, b, c] n h
theorem mk4 (n : Nat) (h : 4 ≤ n) (a b c d : PV) : [a, b, c, d] ++ List.replicate (n - [a, b, c, d].length) .top = mk n [(0, a), (1, b), (2, c), (3, d)] := mk_zip [a, b, c, d] n h
theorem ret_ok : (match Ex.ret with | .ret | .normal => True | _ => False) := trivial
theorem normal_ok : (match Ex.normal with | .ret | .normal => True | _ => False) := trivial
end
end Go.Nac

