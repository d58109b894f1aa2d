import Derived.Test.YtbmicihfhfcpkaaK1
import Derived.Attr
set_option linter.unusedVariables false
namespace Go.Nac
section
variable {C : CallR} {n0 : Nat} {Q : Post} {K : (List Blk) → List PV → Prop} {M : (List Blk)} {t : List PV}
def bindP (r : Option (PV × (List Blk))) (f : PV → (List Blk) → Prop) : Prop := match r with | some (v, M) => f v M | none => False
theorem Wp_congr {c : CCode} {M' : (List Blk)} {t' : List PV} (h : M = M') (h' : t = t') : Wp C n0 c Q M t = Wp C n0 c Q M' t' := by rw [h, h']
theorem wpOps_congr {os : List COper} {M' : (List Blk)} {t' : List PV} (h : M = M') (h' : t = t') : wpOps C os K M t = wpOps C os K M' t' := by rw [h, h']
theorem thenK_congr {e : Ex} {M' : (List Blk)} {t' : List PV} (h : M = M') (h' : t = t') : thenK K Q e M t = thenK K Q e M' t' := by rw [h, h']
theorem blockK_congr {e : Ex} {M' : (List Blk)} {t' : List PV} {id : Nat} (h : M = M') (h' : t = t') : blockK id Q e M t = blockK id Q e M' t' := by rw [h, h']
def COp.isCall : COp → Bool
  | .bad .. => false
  | .mov .. => false
  | .onil .. => false
  | .pick .. => false
  | .alloc .. => false
  | .box .. => false
  | .build .. => false
  | .bsl .. => false
  | .load .. => false
  | .store .. => false
  | .nilc .. => false
  | .bin .. => false
  | .binb .. => false
  | .eqs .. => false
  | .un .. => false
  | .conv .. => false
  | .arrp .. => false
  | .mkfn .. => false
  | .mkmap .. => false
  | .mksl .. => false
  | .slice .. => false
  | .slstr .. => false
  | .faddr .. => false
  | .field .. => false
  | .iaddr .. => false
  | .iaddra .. => false
  | .idxs .. => false
  | .idxa .. => false
  | .look .. => false
  | .mupd .. => false
  | .ext .. => false
  | .len .. => false
  | .lens .. => false
  | .append .. => false
  | .copy .. => false
  | .capn .. => false
  | .appz .. => false
  | .max .. => false
  | .min .. => false
  | .call .. => true
  | .fz .. => true
  | .sop .. => false
  | .srng .. => false
  | .snxt .. => false
theorem Res_eq {o : COp} (h : o.isCall = false) {ρ : CX → PV} {v : PV} {M' : (List Blk)} : Res C o M ρ v M' ↔ res M ρ o = some (v, M') := by
  cases o <;> first | (simp [COp.isCall] at h; done) | rfl
theorem wpOps_nil : wpOps C [] K M t = K M t := nrfl rfl
theorem wpOps_op {d : Option Nat} {o : COp} {os : List COper} (h : o.isCall = false) :
    wpOps C (⟨d, o, none⟩ :: os) K M t = bindP (res M (ev t) o) (fun v M' => wpOps C os K M' (put t d v)) := by
  apply propext
  show (∃ v M', Res C o M (ev t) v M' ∧ wpOps C os K M' (put t d v)) ↔ _
  simp only [Res_eq h]
  cases hr : res M (ev t) o with
  | none => simp [bindP]
  | some p =>
    obtain ⟨v, M'⟩ := p
    simp only [bindP, Option.some.injEq, Prod.mk.injEq]
    constructor
    · rintro ⟨a, b, ⟨rfl, rfl⟩, h⟩; exact h
    · exact fun h => ⟨_, _, ⟨rfl, rfl⟩, h⟩
def guardP (x : PV) (want : Bool) (a b : Prop) : Prop := ∃ c, x = .B c ∧ if c = want then a else b
theorem guardP_B {c want : Bool} {a b : Prop} : guardP (.B c) want a b = (if c = want then a else b) := by
  apply propext
  unfold guardP
  constructor
  · rintro ⟨c', h, k⟩
    simp only [PV.s.injEq, Value.bool.injEq] at h
    subst h; exact k
  · exact fun k => ⟨c, rfl, k⟩
def guardW (x : PV) (want : Bool) (a b : Prop) : Prop := ∃ c, wanted x want = some c ∧ if c = true then a else b
theorem guardW_B {c want : Bool} {a b : Prop} : guardW (.B c) want a b = (if c = want then a else b) := by
  apply propext
  unfold guardW
  constructor
  · rintro ⟨c', h, k⟩
    simp only [wanted, Option.some.injEq] at h
    subst h
    by_cases e : c = want
    · rw [if_pos e]; rw [if_pos (by simpa using e)] at k; exact k
    · rw [if_neg e]; rw [if_neg (by simpa using e)] at k; exact k
  · intro k
    refine ⟨c == want, rfl, ?_⟩
    by_cases e : c = want
    · rw [if_pos e] at k; rw [if_pos (by simpa using e)]; exact k
    · rw [if_neg e] at k; rw [if_neg (by simpa using e)]; exact k
theorem guardW_unit {want : Bool} {a b : Prop} : guardW unit want a b = b := by
  apply propext
  exact ⟨fun ⟨c, h, k⟩ => by simp only [unit, wanted, Option.some.injEq] at h; subst h; simpa using k, fun k => ⟨false, rfl, by simpa using k⟩⟩
theorem Wp_skip : Wp C n0 .skip Q M t = Q .normal M t := nrfl rfl
theorem Wp_region {ops : List COper} : Wp C n0 (.region ops) Q M t = wpOps C ops (Q .normal) M t := nrfl rfl
theorem Wp_seq {a b : CCode} : Wp C n0 (.seq a b) Q M t = Wp C n0 a (thenK (Wp C n0 b Q) Q) M t := nrfl rfl
theorem Wp_cond {c : CX} {a b : CCode} : Wp C n0 (.cond c a b) Q M t = guardP (ev t c) true (Wp C n0 a Q M t) (Wp C n0 b Q M t) := by
  apply propext
  show (∃ x, ev t c = .B x ∧ (if x then Wp C n0 a Q M t else Wp C n0 b Q M t)) ↔ _
  unfold guardP
  rfl
theorem Wp_block {id : Nat} {c : CCode} : Wp C n0 (.block id c) Q M t = Wp C n0 c (blockK id Q) M t := nrfl rfl
theorem Wp_scope {c : CCode} : Wp C n0 (.scope c) Q M t = Wp C n0 c (scopeK Q) M t := nrfl rfl
theorem scopeK_normal : scopeK Q .normal M t = Q .normal M t := nrfl rfl
theorem scopeK_exit {id : Nat} : scopeK Q (.exit id) M t = Q (.exit id) M t := nrfl rfl
theorem scopeK_ret : scopeK Q .ret M t = Q .ret M t := nrfl rfl
theorem Wp_exit {id : Nat} : Wp C n0 (.exit id) Q M t = Q (.exit id) M t := nrfl rfl
theorem Wp_goto {id : Nat} : Wp C n0 (.goto id) Q M t = Q (.goto id) M t := nrfl rfl
theorem Wp_label {id : Nat} : Wp C n0 (.label id) Q M t = Q .normal M t := nrfl rfl
theorem Wp_ret : Wp C n0 .ret Q M t = Q .ret M t := nrfl rfl
theorem Wp_holes {k : Nat} : Wp C n0 (.holes k) Q M t = Q .normal (M ++ List.replicate k hole) t := nrfl rfl
theorem Wp_regionD {ops : List (COper × Option Nat)} {pairs : List (Nat × Nat)} : Wp C n0 (.regionD ops pairs) Q M t = wpD C ops [] (fun tr M t => pairsOk pairs tr ∧ Q .normal M t) M t := nrfl rfl
theorem thenK_normal : thenK K Q .normal M t = K M t := nrfl rfl
theorem thenK_exit {id : Nat} : thenK K Q (.exit id) M t = Q (.exit id) M t := nrfl rfl
theorem thenK_ret : thenK K Q .ret M t = Q .ret M t := nrfl rfl
theorem thenK_goto {l : Nat} : thenK K Q (.goto l) M t = Q (.goto l) M t := nrfl rfl
theorem blockK_normal {id : Nat} : blockK id Q .normal M t = Q .normal M t := nrfl rfl
theorem blockK_ret {id : Nat} : blockK id Q .ret M t = Q .ret M t := nrfl rfl
theorem blockK_goto {id l : Nat} : blockK id Q (.goto l) M t = Q (.goto l) M t := nrfl rfl
theorem blockK_exit {id j : Nat} : blockK id Q (.exit j) M t = (if j = id then Q .normal M t else Q (.exit j) M t) := nrfl rfl
theorem put_none {v : PV} : put t none v = t := nrfl rfl
theorem ev_k {v : Value} : ev t (.k v) = .s v := nrfl rfl
theorem ev_f {f : FuncId} : ev t (.f f) = .fn (.func f) [] [] := nrfl rfl
end
theorem getM0 {M rs : (List Blk)} : (M ++ rs)[M.length]? = rs[0]? := by rw [List.getElem?_append_right (Nat.le_refl _), Nat.sub_self]
theorem getMj {M rs : (List Blk)} {j : Nat} : (M ++ rs)[M.length + j]? = rs[j]? := by rw [List.getElem?_append_right (Nat.le_add_right _ _), Nat.add_sub_cancel_left]
theorem setM0 {M rs : (List Blk)} {b : Blk} : (M ++ rs).set M.length b = M ++ rs.set 0 b := by rw [List.set_append_right _ _ (Nat.le_refl _), Nat.sub_self]
theorem setMj {M rs : (List Blk)} {j : Nat} {b : Blk} : (M ++ rs).set (M.length + j) b = M ++ rs.set j b := by rw [List.set_append_right _ _ (Nat.le_add_right _ _), Nat.add_sub_cancel_left]
theorem takeM {M rs : (List Blk)} {j : Nat} : (M ++ rs).take (M.length + j) = M ++ rs.take j := by rw [List.take_append]; simp [List.take_of_length_le]
theorem wrap64_in {x : Int} (h : -9223372036854775808 ≤ x ∧ x ≤ 9223372036854775807) : IntKind.i64.wrap x = x := by simp [IntKind.wrap, IntKind.bits, IntKind.signed]; omega
end Go.Nac

