import Derived.Test.YtdlngmbgalmdeaaK1
import Derived.Attr
/- Forward evaluation: equations for simp that open one step and leave what follows closed. -/
set_option linter.unusedVariables false
namespace Go.Nac
section
variable {C : CallR} {n0 : Nat} {Q : Post} {K : (List Blk) → List PV → Prop} {M : (List Blk)} {t : List PV}

def bindP (r : Option (PV × (List Blk))) (f : PV → (List Blk) → Prop) : Prop := match r with | some (v, M) => f v M | none => False
theorem bindP_congr {r r' : Option (PV × (List Blk))} {f : PV → (List Blk) → Prop} (h : r = r') : bindP r f = bindP r' f := by rw [h]
theorem bindP_some {v : PV} {M : (List Blk)} {f : PV → (List Blk) → Prop} : bindP (some (v, M)) f = f v M := nrfl rfl
theorem Wp_congr {c : CCode} {M' : (List Blk)} {t' : List PV} (h : M = M') (h' : t = t') : Wp C n0 c Q M t = Wp C n0 c Q M' t' := by rw [h, h']
theorem wpOps_congr {os : List COper} {M' : (List Blk)} {t' : List PV} (h : M = M') (h' : t = t') : wpOps C os K M t = wpOps C os K M' t' := by rw [h, h']
theorem thenK_congr {e : Ex} {M' : (List Blk)} {t' : List PV} (h : M = M') (h' : t = t') : thenK K Q e M t = thenK K Q e M' t' := by rw [h, h']
theorem blockK_congr {e : Ex} {M' : (List Blk)} {t' : List PV} {id : Nat} (h : M = M') (h' : t = t') : blockK id Q e M t = blockK id Q e M' t' := by rw [h, h']

def COp.isCall : COp → Bool
  | .bad .. => false
  | .mov .. => false
  | .onil .. => false
  | .pick .. => false
  | .alloc .. => false
  | .box .. => false
  | .build .. => false
  | .bsl .. => false
  | .load .. => false
  | .store .. => false
  | .nilc .. => false
  | .bin .. => false
  | .binb .. => false
  | .eqs .. => false
  | .un .. => false
  | .conv .. => false
  | .arrp .. => false
  | .mkfn .. => false
  | .mkmap .. => false
  | .mksl .. => false
  | .slice .. => false
  | .slstr .. => false
  | .faddr .. => false
  | .field .. => false
  | .iaddr .. => false
  | .iaddra .. => false
  | .idxs .. => false
  | .idxa .. => false
  | .look .. => false
  | .mupd .. => false
  | .ext .. => false
  | .len .. => false
  | .lens .. => false
  | .append .. => false
  | .copy .. => false
  | .capn .. => false
  | .appz .. => false
  | .max .. => false
  | .min .. => false
  | .call .. => true
  | .fz .. => true
theorem Res_eq {o : COp} (h : o.isCall = false) {ρ : CX → PV} {v : PV} {M' : (List Blk)} : Res C o M ρ v M' ↔ res M ρ o = some (v, M') := by
  cases o <;> first | (simp [COp.isCall] at h; done) | rfl
theorem wpOps_nil : wpOps C [] K M t = K M t := nrfl rfl
theorem wpOps_op {d : Option Nat} {o : COp} {os : List COper} (h : o.isCall = false) :
    wpOps C (⟨d, o, none⟩ :: os) K M t = bindP (res M (ev t) o) (fun v M' => wpOps C os K M' (put t d v)) := by
  apply propext
  show (∃ v M', Res C o M (ev t) v M' ∧ wpOps C os K M' (put t d v)) ↔ _
  simp only [Res_eq h]
  cases hr : res M (ev t) o with
  | none => simp [bindP]
  | some p =>
    obtain ⟨v, M'⟩ := p
    simp only [bindP, Option.some.injEq, Prod.mk.injEq]
    constructor
    · rintro ⟨a, b, ⟨rfl, rfl⟩, h⟩; exact h
    · exact fun h => ⟨_, _, ⟨rfl, rfl⟩, h⟩
theorem ops_mov {d : Option Nat} {os : List COper} {x : CX} : wpOps C (⟨d, .mov x, none⟩ :: os) K M t = bindP (res M (ev t) (.mov x)) (fun v M' => wpOps C os K M' (put t d v)) := wpOps_op rfl
theorem ops_onil {d : Option Nat} {os : List COper} {k : Nat} : wpOps C (⟨d, .onil k, none⟩ :: os) K M t = bindP (res M (ev t) (.onil k)) (fun v M' => wpOps C os K M' (put t d v)) := wpOps_op rfl
theorem ops_pick {d : Option Nat} {os : List COper} {c a b : CX} : wpOps C (⟨d, .pick c a b, none⟩ :: os) K M t = bindP (res M (ev t) (.pick c a b)) (fun v M' => wpOps C os K M' (put t d v)) := wpOps_op rfl
theorem ops_alloc {d : Option Nat} {os : List COper} {g : Option Nat} {z : List Value} : wpOps C (⟨d, .alloc g z, none⟩ :: os) K M t = bindP (res M (ev t) (.alloc g z)) (fun v M' => wpOps C os K M' (put t d v)) := wpOps_op rfl
theorem ops_box {d : Option Nat} {os : List COper} {own : Bool} {k : Nat} {x : CX} : wpOps C (⟨d, .box own k x, none⟩ :: os) K M t = bindP (res M (ev t) (.box own k x)) (fun v M' => wpOps C os K M' (put t d v)) := wpOps_op rfl
theorem ops_build {d : Option Nat} {os : List COper} {z : List Value} {parts : List (Nat × Nat × CX)} : wpOps C (⟨d, .build z parts, none⟩ :: os) K M t = bindP (res M (ev t) (.build z parts)) (fun v M' => wpOps C os K M' (put t d v)) := wpOps_op rfl
theorem ops_bsl {d : Option Nat} {os : List COper} {own : Bool} {k : Nat} {xs : List CX} : wpOps C (⟨d, .bsl own k xs, none⟩ :: os) K M t = bindP (res M (ev t) (.bsl own k xs)) (fun v M' => wpOps C os K M' (put t d v)) := wpOps_op rfl
theorem ops_load {d : Option Nat} {os : List COper} {g : Option Nat} {x : CX} : wpOps C (⟨d, .load g x, none⟩ :: os) K M t = bindP (res M (ev t) (.load g x)) (fun v M' => wpOps C os K M' (put t d v)) := wpOps_op rfl
theorem ops_store {d : Option Nat} {os : List COper} {k : Nat} {a v : CX} : wpOps C (⟨d, .store k a v, none⟩ :: os) K M t = bindP (res M (ev t) (.store k a v)) (fun v M' => wpOps C os K M' (put t d v)) := wpOps_op rfl
theorem ops_nilc {d : Option Nat} {os : List COper} {x : CX} : wpOps C (⟨d, .nilc x, none⟩ :: os) K M t = bindP (res M (ev t) (.nilc x)) (fun v M' => wpOps C os K M' (put t d v)) := wpOps_op rfl
theorem ops_bin {d : Option Nat} {os : List COper} {op : BinOp} {x y : CX} : wpOps C (⟨d, .bin op x y, none⟩ :: os) K M t = bindP (res M (ev t) (.bin op x y)) (fun v M' => wpOps C os K M' (put t d v)) := wpOps_op rfl
theorem ops_binb {d : Option Nat} {os : List COper} {op : BinOp} {x y : CX} : wpOps C (⟨d, .binb op x y, none⟩ :: os) K M t = bindP (res M (ev t) (.binb op x y)) (fun v M' => wpOps C os K M' (put t d v)) := wpOps_op rfl
theorem ops_eqs {d : Option Nat} {os : List COper} {neg : Bool} {lay : List SK} {x y : CX} : wpOps C (⟨d, .eqs neg lay x y, none⟩ :: os) K M t = bindP (res M (ev t) (.eqs neg lay x y)) (fun v M' => wpOps C os K M' (put t d v)) := wpOps_op rfl
theorem ops_un {d : Option Nat} {os : List COper} {op : UnOp} {x : CX} : wpOps C (⟨d, .un op x, none⟩ :: os) K M t = bindP (res M (ev t) (.un op x)) (fun v M' => wpOps C os K M' (put t d v)) := wpOps_op rfl
theorem ops_conv {d : Option Nat} {os : List COper} {k : IntKind} {x : CX} : wpOps C (⟨d, .conv k x, none⟩ :: os) K M t = bindP (res M (ev t) (.conv k x)) (fun v M' => wpOps C os K M' (put t d v)) := wpOps_op rfl
theorem ops_arrp {d : Option Nat} {os : List COper} {n : Nat} {x : CX} : wpOps C (⟨d, .arrp n x, none⟩ :: os) K M t = bindP (res M (ev t) (.arrp n x)) (fun v M' => wpOps C os K M' (put t d v)) := wpOps_op rfl
theorem ops_mkfn {d : Option Nat} {os : List COper} {f : FuncId} {cap : List CX} : wpOps C (⟨d, .mkfn f cap, none⟩ :: os) K M t = bindP (res M (ev t) (.mkfn f cap)) (fun v M' => wpOps C os K M' (put t d v)) := wpOps_op rfl
theorem ops_mkmap {d : Option Nat} {os : List COper} : wpOps C (⟨d, .mkmap , none⟩ :: os) K M t = bindP (res M (ev t) (.mkmap )) (fun v M' => wpOps C os K M' (put t d v)) := wpOps_op rfl
theorem ops_mksl {d : Option Nat} {os : List COper} {k : Nat} {g : Option Nat} {z : List Value} {bytes : Nat} {len cap : CX} : wpOps C (⟨d, .mksl k g z bytes len cap, none⟩ :: os) K M t = bindP (res M (ev t) (.mksl k g z bytes len cap)) (fun v M' => wpOps C os K M' (put t d v)) := wpOps_op rfl
theorem ops_slice {d : Option Nat} {os : List COper} {k : Nat} {x : CX} {lo hi : Option CX} : wpOps C (⟨d, .slice k x lo hi, none⟩ :: os) K M t = bindP (res M (ev t) (.slice k x lo hi)) (fun v M' => wpOps C os K M' (put t d v)) := wpOps_op rfl
theorem ops_slstr {d : Option Nat} {os : List COper} {x : CX} {lo hi : Option CX} : wpOps C (⟨d, .slstr x lo hi, none⟩ :: os) K M t = bindP (res M (ev t) (.slstr x lo hi)) (fun v M' => wpOps C os K M' (put t d v)) := wpOps_op rfl
theorem ops_faddr {d : Option Nat} {os : List COper} {off : Nat} {x : CX} : wpOps C (⟨d, .faddr off x, none⟩ :: os) K M t = bindP (res M (ev t) (.faddr off x)) (fun v M' => wpOps C os K M' (put t d v)) := wpOps_op rfl
theorem ops_field {d : Option Nat} {os : List COper} {off : Nat} {g : Option Nat} {x : CX} : wpOps C (⟨d, .field off g x, none⟩ :: os) K M t = bindP (res M (ev t) (.field off g x)) (fun v M' => wpOps C os K M' (put t d v)) := wpOps_op rfl
theorem ops_iaddr {d : Option Nat} {os : List COper} {k : Nat} {x i : CX} : wpOps C (⟨d, .iaddr k x i, none⟩ :: os) K M t = bindP (res M (ev t) (.iaddr k x i)) (fun v M' => wpOps C os K M' (put t d v)) := wpOps_op rfl
theorem ops_iaddra {d : Option Nat} {os : List COper} {n k : Nat} {x i : CX} : wpOps C (⟨d, .iaddra n k x i, none⟩ :: os) K M t = bindP (res M (ev t) (.iaddra n k x i)) (fun v M' => wpOps C os K M' (put t d v)) := wpOps_op rfl
theorem ops_idxs {d : Option Nat} {os : List COper} {x i : CX} : wpOps C (⟨d, .idxs x i, none⟩ :: os) K M t = bindP (res M (ev t) (.idxs x i)) (fun v M' => wpOps C os K M' (put t d v)) := wpOps_op rfl
theorem ops_idxa {d : Option Nat} {os : List COper} {n k : Nat} {g : Option Nat} {x i : CX} : wpOps C (⟨d, .idxa n k g x i, none⟩ :: os) K M t = bindP (res M (ev t) (.idxa n k g x i)) (fun v M' => wpOps C os K M' (put t d v)) := wpOps_op rfl
theorem ops_look {d : Option Nat} {os : List COper} {sk : SK} {z : Value} {ok : Bool} {m key : CX} : wpOps C (⟨d, .look sk z ok m key, none⟩ :: os) K M t = bindP (res M (ev t) (.look sk z ok m key)) (fun v M' => wpOps C os K M' (put t d v)) := wpOps_op rfl
theorem ops_mupd {d : Option Nat} {os : List COper} {sk : SK} {m key v : CX} : wpOps C (⟨d, .mupd sk m key v, none⟩ :: os) K M t = bindP (res M (ev t) (.mupd sk m key v)) (fun v M' => wpOps C os K M' (put t d v)) := wpOps_op rfl
theorem ops_ext {d : Option Nat} {os : List COper} {i : Nat} {x : CX} : wpOps C (⟨d, .ext i x, none⟩ :: os) K M t = bindP (res M (ev t) (.ext i x)) (fun v M' => wpOps C os K M' (put t d v)) := wpOps_op rfl
theorem ops_len {d : Option Nat} {os : List COper} {x : CX} : wpOps C (⟨d, .len x, none⟩ :: os) K M t = bindP (res M (ev t) (.len x)) (fun v M' => wpOps C os K M' (put t d v)) := wpOps_op rfl
theorem ops_lens {d : Option Nat} {os : List COper} {x : CX} : wpOps C (⟨d, .lens x, none⟩ :: os) K M t = bindP (res M (ev t) (.lens x)) (fun v M' => wpOps C os K M' (put t d v)) := wpOps_op rfl
theorem ops_append {d : Option Nat} {os : List COper} {k bytes : Nat} {x y : CX} : wpOps C (⟨d, .append k bytes x y, none⟩ :: os) K M t = bindP (res M (ev t) (.append k bytes x y)) (fun v M' => wpOps C os K M' (put t d v)) := wpOps_op rfl
theorem ops_copy {d : Option Nat} {os : List COper} {k : Nat} {x y : CX} : wpOps C (⟨d, .copy k x y, none⟩ :: os) K M t = bindP (res M (ev t) (.copy k x y)) (fun v M' => wpOps C os K M' (put t d v)) := wpOps_op rfl
theorem ops_max {d : Option Nat} {os : List COper} {x : CX} {xs : List CX} : wpOps C (⟨d, .max x xs, none⟩ :: os) K M t = bindP (res M (ev t) (.max x xs)) (fun v M' => wpOps C os K M' (put t d v)) := wpOps_op rfl
theorem ops_min {d : Option Nat} {os : List COper} {x : CX} {xs : List CX} : wpOps C (⟨d, .min x xs, none⟩ :: os) K M t = bindP (res M (ev t) (.min x xs)) (fun v M' => wpOps C os K M' (put t d v)) := wpOps_op rfl
def guardP (x : PV) (want : Bool) (a b : Prop) : Prop := ∃ c, x = .B c ∧ if c = want then a else b
theorem guardP_congr {x x' : PV} {want : Bool} {a b : Prop} (h : x = x') : guardP x want a b = guardP x' want a b := by rw [h]
theorem guardP_B {c want : Bool} {a b : Prop} : guardP (.B c) want a b = (if c = want then a else b) := by
  apply propext
  unfold guardP
  constructor
  · rintro ⟨c', h, k⟩
    simp only [PV.s.injEq, Value.bool.injEq] at h
    subst h; exact k
  · exact fun k => ⟨c, rfl, k⟩
def guardW (x : PV) (want : Bool) (a b : Prop) : Prop := ∃ c, wanted x want = some c ∧ if c = true then a else b
theorem guardW_congr {x x' : PV} {want : Bool} {a b : Prop} (h : x = x') : guardW x want a b = guardW x' want a b := by rw [h]
theorem guardW_B {c want : Bool} {a b : Prop} : guardW (.B c) want a b = (if c = want then a else b) := by
  apply propext
  unfold guardW
  constructor
  · rintro ⟨c', h, k⟩
    simp only [wanted, Option.some.injEq] at h
    subst h
    by_cases e : c = want
    · rw [if_pos e]; rw [if_pos (by simpa using e)] at k; exact k
    · rw [if_neg e]; rw [if_neg (by simpa using e)] at k; exact k
  · intro k
    refine ⟨c == want, rfl, ?_⟩
    by_cases e : c = want
    · rw [if_pos e] at k; rw [if_pos (by simpa using e)]; exact k
    · rw [if_neg e] at k; rw [if_neg (by simpa using e)]; exact k
theorem guardW_unit {want : Bool} {a b : Prop} : guardW unit want a b = b := by
  apply propext
  exact ⟨fun ⟨c, h, k⟩ => by simp only [unit, wanted, Option.some.injEq] at h; subst h; simpa using k, fun k => ⟨false, rfl, by simpa using k⟩⟩
theorem wpOps_guard {d : Option Nat} {o : COp} {os : List COper} {g : Nat} {want : Bool} :
    wpOps C (⟨d, o, some (g, want)⟩ :: os) K M t = guardW (t.getD g .top) want (wpOps C (⟨d, o, none⟩ :: os) K M t) (wpOps C os K M (put t d unit)) := by
  rfl
theorem Wp_skip : Wp C n0 .skip Q M t = Q .normal M t := nrfl rfl
theorem Wp_region {ops : List COper} : Wp C n0 (.region ops) Q M t = wpOps C ops (Q .normal) M t := nrfl rfl
theorem Wp_seq {a b : CCode} : Wp C n0 (.seq a b) Q M t = Wp C n0 a (thenK (Wp C n0 b Q) Q) M t := nrfl rfl
theorem Wp_cond {c : CX} {a b : CCode} : Wp C n0 (.cond c a b) Q M t = guardP (ev t c) true (Wp C n0 a Q M t) (Wp C n0 b Q M t) := by
  apply propext
  show (∃ x, ev t c = .B x ∧ (if x then Wp C n0 a Q M t else Wp C n0 b Q M t)) ↔ _
  unfold guardP
  rfl
theorem Wp_block {id : Nat} {c : CCode} : Wp C n0 (.block id c) Q M t = Wp C n0 c (blockK id Q) M t := nrfl rfl
theorem Wp_scope {c : CCode} : Wp C n0 (.scope c) Q M t = Wp C n0 c (scopeK Q) M t := nrfl rfl
theorem scopeK_normal : scopeK Q .normal M t = Q .normal M t := nrfl rfl
theorem scopeK_exit {id : Nat} : scopeK Q (.exit id) M t = Q (.exit id) M t := nrfl rfl
theorem scopeK_ret : scopeK Q .ret M t = Q .ret M t := nrfl rfl
theorem Wp_exit {id : Nat} : Wp C n0 (.exit id) Q M t = Q (.exit id) M t := nrfl rfl
theorem Wp_goto {id : Nat} : Wp C n0 (.goto id) Q M t = Q (.goto id) M t := nrfl rfl
theorem Wp_label {id : Nat} : Wp C n0 (.label id) Q M t = Q .normal M t := nrfl rfl
theorem Wp_ret : Wp C n0 .ret Q M t = Q .ret M t := nrfl rfl
theorem Wp_forget {ts : List Nat} : Wp C n0 (.forget ts) Q M t = Q .normal M (forgetL ts t) := nrfl rfl
theorem Wp_cut : Wp C n0 .cut Q M t = ∃ n, n0 ≤ n ∧ n ≤ M.length ∧ lowM n (M.take n) ∧ lowL n t ∧ Q .normal (M.take n) t := nrfl rfl
theorem Wp_holes {k : Nat} : Wp C n0 (.holes k) Q M t = Q .normal (M ++ List.replicate k hole) t := nrfl rfl
theorem Wp_regionD {ops : List (COper × Option Nat)} {pairs : List (Nat × Nat)} : Wp C n0 (.regionD ops pairs) Q M t = wpD C ops [] (fun tr M t => pairsOk pairs tr ∧ Q .normal M t) M t := nrfl rfl
theorem thenK_normal : thenK K Q .normal M t = K M t := nrfl rfl
theorem thenK_exit {id : Nat} : thenK K Q (.exit id) M t = Q (.exit id) M t := nrfl rfl
theorem thenK_ret : thenK K Q .ret M t = Q .ret M t := nrfl rfl
theorem thenK_goto {l : Nat} : thenK K Q (.goto l) M t = Q (.goto l) M t := nrfl rfl
theorem blockK_normal {id : Nat} : blockK id Q .normal M t = Q .normal M t := nrfl rfl
theorem blockK_ret {id : Nat} : blockK id Q .ret M t = Q .ret M t := nrfl rfl
theorem blockK_goto {id l : Nat} : blockK id Q (.goto l) M t = Q (.goto l) M t := nrfl rfl
theorem blockK_exit {id j : Nat} : blockK id Q (.exit j) M t = (if j = id then Q .normal M t else Q (.exit j) M t) := nrfl rfl
theorem put_some {d : Nat} {v : PV} : put t (some d) v = t.set d v := nrfl rfl
theorem put_none {v : PV} : put t none v = t := nrfl rfl
theorem ev_t {n : Nat} : ev t (.t n) = t.getD n .top := nrfl rfl
theorem ev_k {v : Value} : ev t (.k v) = .s v := nrfl rfl
theorem ev_f {f : FuncId} : ev t (.f f) = .fn (.func f) [] [] := nrfl rfl
theorem getD0 {x d : PV} {xs : List PV} : (x :: xs).getD 0 d = x := nrfl rfl
theorem getDs {x d : PV} {xs : List PV} {n : Nat} : (x :: xs).getD (n + 1) d = xs.getD n d := nrfl rfl
theorem set0 {x v : PV} {xs : List PV} : (x :: xs).set 0 v = v :: xs := nrfl rfl
theorem sets {x v : PV} {xs : List PV} {n : Nat} : (x :: xs).set (n + 1) v = x :: xs.set n v := nrfl rfl
theorem forgetL_nil : forgetL [] t = t := nrfl rfl
theorem forgetL_cons {i : Nat} {r : List Nat} : forgetL (i :: r) t = forgetL r (t.set i .top) := nrfl rfl
end

/-! ### memory beyond what was there -/
theorem getM0 {M rs : (List Blk)} : (M ++ rs)[M.length]? = rs[0]? := by rw [List.getElem?_append_right (Nat.le_refl _), Nat.sub_self]
theorem getMj {M rs : (List Blk)} {j : Nat} : (M ++ rs)[M.length + j]? = rs[j]? := by rw [List.getElem?_append_right (Nat.le_add_right _ _), Nat.add_sub_cancel_left]
theorem setM0 {M rs : (List Blk)} {b : Blk} : (M ++ rs).set M.length b = M ++ rs.set 0 b := by rw [List.set_append_right _ _ (Nat.le_refl _), Nat.sub_self]
theorem setMj {M rs : (List Blk)} {j : Nat} {b : Blk} : (M ++ rs).set (M.length + j) b = M ++ rs.set j b := by rw [List.set_append_right _ _ (Nat.le_add_right _ _), Nat.add_sub_cancel_left]
theorem takeM {M rs : (List Blk)} {j : Nat} : (M ++ rs).take (M.length + j) = M ++ rs.take j := by rw [List.take_append]; simp [List.take_of_length_le]
theorem takeM0 {M rs : (List Blk)} : (M ++ rs).take M.length = M := by simp
theorem wrap64_in {x : Int} (h : -9223372036854775808 ≤ x ∧ x ≤ 9223372036854775807) : IntKind.i64.wrap x = x := by simp [IntKind.wrap, IntKind.bits, IntKind.signed]; omega
end Go.Nac
