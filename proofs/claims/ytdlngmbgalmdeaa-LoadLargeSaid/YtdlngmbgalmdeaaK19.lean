import Derived.Test.YtdlngmbgalmdeaaK18
set_option linter.unusedVariables false
namespace Go.Nac
section
variable {M : List Blk} {k : IntKind} {a : Int}
theorem lookV_om {i : Nat} {sk : SK} {z q : Value} {ok : Bool} : lookV M sk z ok (.om i) (.s q) = lookB z ok sk q M[i]? := nrfl rfl
theorem lookB_no {sk : SK} {z q : Value} {es : List (Value × Value)} (h1 : keyOk sk q = true) (h2 : keysLike q es = true) : lookB z false sk q (some (.map es)) = some (.s ((find q es).getD z)) := by
  simp only [lookB, h1, h2, and_self, if_true]
  cases find q es <;> rfl
theorem lookB_ok {sk : SK} {z q : Value} {es : List (Value × Value)} (h1 : keyOk sk q = true) (h2 : keysLike q es = true) : lookB z true sk q (some (.map es)) = some (.tup [.s ((find q es).getD z), .B (find q es).isSome]) := by
  simp only [lookB, h1, h2, and_self, if_true]
  cases find q es <;> rfl
theorem mupdO_om {i : Nat} {sk : SK} {q u : Value} : mupdO M sk (.om i) (.s q) (.s u) = mupdB M i sk q u M[i]? := nrfl rfl
theorem mupdB_map {i : Nat} {sk : SK} {q u : Value} {es : List (Value × Value)} (h1 : keyOk sk q = true) (h2 : keysLike q es = true) : mupdB M i sk q u (some (.map es)) = some (unit, M.set i (.map (upd q u es))) := by
  simp only [mupdB, h1, h2, and_self, if_true]
theorem keyOk_int : keyOk .int (.int k a) = true := nrfl rfl
theorem keyOk_str {s : ByteArray} : keyOk .str (.string s) = true := nrfl rfl
theorem oneB_mapn : oneB (.s (.map none)) = true := nrfl rfl
section
variable {C : CallR} {K : (List Blk) → List PV → Prop} {t : List PV} {d : Option Nat} {os : List COper} {xs ys : List PV}
def capnV : PV → Option PV
  | .s (.slice none 0 0) => some (.I 0)
  | _ => none
theorem r_capn {x : CX} : wpOps C (⟨d, .capn x, none⟩ :: os) K M t = b1 (capnV (ev t x)) (kont C os K M t d) := wpOps_q rfl (by
  simp only [res, capnV]
  generalize ev t x = vx
  split
  · rfl
  · split
    · rename_i h; exact absurd rfl h
    · rfl)
theorem capnV_nil : capnV (.s (.slice none 0 0)) = some (.I 0) := nrfl rfl
def appzO (M : List Blk) (k : Nat) (g : Option Nat) (z : List Value) (bytes : Nat) : PV → PV → Option (PV × List Blk)
  | .s (.slice none 0 0), .s (.int .i64 l) =>
      if 0 < l ∧ l ≤ 2 ^ 20 ∧ bytes ≤ 2 ^ 20 ∧ z.length = k ∧ 0 < k then
        (mkPV g (z.map .s)).map fun e => (.os M.length 0 0 l.toNat, M ++ [.row true k 0 (List.replicate l.toNat e)])
      else none
  | _, _ => none
theorem r_appz {k : Nat} {g : Option Nat} {z : List Value} {bytes : Nat} {x n : CX} : wpOps C (⟨d, .appz k g z bytes x n, none⟩ :: os) K M t = b2 (appzO M k g z bytes (ev t x) (ev t n)) (kont2 C os K t d) := by
  rw [wpOps_l rfl]; rfl
theorem appzO_some {kk bytes : Nat} {g : Option Nat} {zv : List Value} (h0 : 0 < a) (h1 : a ≤ 1048576) (hb : bytes ≤ 1048576) (hz : zv.length = kk) (hk : 0 < kk) :
    appzO M kk g zv bytes (.s (.slice none 0 0)) (.s (.int .i64 a)) = (mkPV g (zv.map .s)).map fun e => (.os M.length 0 0 a.toNat, M ++ [.row true kk 0 (List.replicate a.toNat e)]) := by
  exact if_pos ⟨h0, by omega, by omega, hz, hk⟩
def copyR (M : List Blk) (k i ver off len : Nat) (ys : List PV) : Option Blk → Option (PV × List Blk)
  | some (.row true k' v xs) => if v = ver ∧ k' = k ∧ off + len ≤ xs.length ∧ ys.all (okElem k) ∧ k ≠ 0 then
          some (.I ((Nat.min ys.length len : Nat) : Int), M.set i (.row true k ver (setRange xs off (ys.take len)))) else none
  | _ => none
def copyO (M : List Blk) (k : Nat) : PV → Option (List PV) → Option (PV × List Blk)
  | .os i ver off len, some ys => copyR M k i ver off len ys M[i]?
  | _, _ => none
theorem r_copy {k : Nat} {x y : CX} : wpOps C (⟨d, .copy k x y, none⟩ :: os) K M t = b2 (copyO M k (ev t x) (held M (ev t y))) (kont2 C os K t d) := by
  rw [wpOps_l rfl]
  simp only [res]
  generalize ev t x = vx; generalize held M (ev t y) = vy
  cases vx <;> cases vy <;> first | rfl | skip
theorem copyO_os {kk i ver off len : Nat} : copyO M kk (.os i ver off len) (some ys) = copyR M kk i ver off len ys M[i]? := nrfl rfl
theorem copyR_all {kk i ver len : Nat} (hl : len = xs.length) (hy : ys.length = len) (ho : ys.all (okElem kk) = true) (hk : kk ≠ 0) :
    copyR M kk i ver 0 len ys (some (.row true kk ver xs)) = some (.I (len : Int), M.set i (.row true kk ver ys)) := by
  show (if _ then _ else _) = _
  rw [if_pos ⟨rfl, rfl, by omega, ho, hk⟩]
  have e1 : ys.take len = ys := List.take_of_length_le (by omega)
  have e2 : setRange xs 0 ys = ys := by simp [setRange]; omega
  rw [e1, e2, hy]; simp
end
end
end Go.Nac

