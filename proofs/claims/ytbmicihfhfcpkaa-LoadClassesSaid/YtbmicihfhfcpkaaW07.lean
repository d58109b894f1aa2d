/- The equations by which plain code runs, as one set. -/
import Derived.Test.YtbmicihfhfcpkaaW06
namespace Go.Nac
attribute [go_sem] QnN Qg0 QjM Qmh QlJ Qos QlV QlP Qj8 Qjz Qhi Qc2 QfS QgO Qgf QcT Qeq QfZ Qe4 QcS
attribute [go_sem] Qeg QfP r_mov Qnj QmS Qnc r_bin Qod r_eqs r_un QnW r_len QnM r_max r_min r_ext Qmn Qm9 Qnw Qmy Qn6 Qm7 Qnh QmC QlF QkT QjE
attribute [go_sem] Qoj QnY QlN Ql0 r_box r_bsl Qlh Qnp QiU QlL Qmq QnZ Qot Qln QlX Qmp Qnx QkS ev_mk ev_k ev_f QmA QnO QlA Qig Qbk
attribute [go_sem] List.map_cons List.map_nil Option.map_some Option.map_none QmN gK_tt gK_ff gK_tf gK_ft QlC Qns cK_t cK_f Qgg Qjc Qjh Qiy Qmd Qm0 QlG Qlj
attribute [go_sem] Qla QlE Qml QmI Qk6 QmB Ql1 Qk7 QjC Qi4 Qm6 QnH Qkt Qmm QmP QjX QiA QhY QjS Qhz Qga Qkb QiZ
attribute [go_sem] Qhc Ql2 Qkl QiI Qko Qkn QkN Qkq QjU Qhy QiR QiQ QkZ Qli Qmi QmL QhG Qcu QhS QfQ QhW Qie
attribute [go_sem] Qen Qjm Qlz Qc3 Qmr QfB Qh4 QfW QhT Qib Qiw QfF Qht QjA Qkc Qjx Qgv Qed Qmw Qjk
attribute [go_sem] Qcc QhC Qgh QkM Qh1 QjH Qjs QlB Qmu Qmt Qle QkV QlZ Qjq Qi0 Qkp Qh5 Qgm QhL Qhh Qji Qfl
attribute [go_sem] Qjr QfV QgQ Qow Qnt Qm8 Qd2 QdA QcJ QkG Qdz QhM Qg3 QiP Qhk QkD QjL QmR Qi7 QlY
attribute [go_sem] Qkh QhO QiJ QmU QiX Qfm Qld QfL QgY Qgw Qgc QfE QmX Qda Qdg Qix getM0 getMj setM0 setMj List.getElem?_cons_zero
attribute [go_sem] List.getElem?_cons_succ List.set_cons_zero List.set_cons_succ List.append_assoc List.cons_append List.nil_append List.length_append List.length_cons List.length_nil List.length_map List.getElem?_map
attribute [go_sem] List.all_cons List.all_nil Bool.and_true Bool.true_and Bool.and_self List.take_succ_cons List.take_zero List.drop_succ_cons List.drop_zero Option.getD_none Option.getD_some Option.bind_some
attribute [go_sem] Option.bind_none Option.map_map decide_eq_true_eq decide_true decide_false Bool.false_eq_true if_true if_false Int.natCast_nonneg Int.toNat_natCast Nat.zero_add Nat.add_zero eq_self beq_self_eq_true
attribute [go_sem] List.getElem?_nil Qme Q5 setRange ne_eq not_true not_false_eq_true and_true true_and and_self List.map_map Function.comp_def Qc4 Int.ofNat_lt Int.natCast_inj Qkk QjB QjJ
attribute [go_sem] Nat.add_assoc List.flatMap_cons List.flatMap_nil List.append_nil decide_eq_false_iff_not Classical.not_not Bool.not_eq_true Bool.not_true Bool.not_false Bool.true_eq_false Option.some.injEq Int.sub_zero
attribute [go_sem] Int.add_zero Int.zero_sub Int.zero_add Bool.decide_eq_true Bool.not_not Bool.false_or Bool.or_false Bool.true_or Bool.or_true Bool.false_and Bool.and_false Bool.or_self Bool.or_eq_true
attribute [go_sem] Bool.or_eq_false_iff Bool.and_eq_true Bool.and_eq_false_iff Qih QeL Qeb QeT Qdu QkB Qhw Qi2 Qnq QgM QmF Qj4 Qba Qcd
attribute [go_sem] Qja Qit Qf8 QgV Qi9 QkL Qj5 Qki Nat.le_refl Nat.zero_le Nat.sub_zero Nat.sub_self Nat.add_sub_cancel natZ natO min10 Nat.le_add_left List.take_nil
attribute [go_sem] QmT QgZ r_sop Qof QnV Qlq QjD Qf3 QfG QkA Qll Qey QgR Qgo QiO QfD Qj3 Qk2 Qek Qhm Qgn Qj2 QfR Qlb Qlt QnF Qgq
attribute [go_sem] List.drop_nil dK_eq d_op d_nil QmY QeI QlS Qms QmO QmQ QmZ QkW Qnm fpOp QhZ QeB Qe0 Nat.add_sub_add_left d_bsl Qkd Qnv
attribute [go_sem] QhA QdY List.length_reverse QhJ Qf7 QgE QfJ Qku QiV Nat.zero_mul Nat.one_mul Int.cast_ofNat_Int Int.lt_irrefl List.length_replicate Nat.le_add_right
attribute [go_sem] List.length_take List.length_drop QhE Qhf Qf4 Qh7 QiM QkK low_s Qlf Qlc Qov Qn8 Qoe Qoa Qox Qn2 QmW Qkv Qhp
attribute [go_sem] Nat.lt_add_right_iff_pos Nat.lt_succ_self Nat.lt_add_one Nat.add_lt_add_iff_left Nat.zero_lt_succ Nat.lt_irrefl QiE implies_true Vf Qe9 Qde Qe1 QeQ QnL
attribute [go_sem] ev_g Qm4 QlM QgA QfC r_b2s Qmb Qmj QiN Qiq Qel QiH r_s2b Qjw Qlo Qoo QkO QjY Qjb QnX Qlv Qjn QlQ Qaq Qg2 Qef Qhj QkR QjQ Qg6 QgT QkH Qk3 Qd9
attribute [go_sem] Qjv Qnb QiS r_usd Qjd Ql5 Qom QhK Qj7 Qia QnI Qg1 Qjf QeY Qm3 Qhr QgB isS_s r_clr Ql4 Qkf Qk4 QiT Ql7 QjV Qjo QjP QjI Qmv Qlm QjK Qk1 QmD Qog Qor Qlw Qhv QgW QmM Qij QgJ
attribute [go_sem] Qn0 Qjy Qhs Qni QjF QjW QiW
end Go.Nac
set_option linter.unusedSimpArgs false
set_option linter.unusedVariables false
set_option linter.unnecessarySimpa false
set_option maxRecDepth 10000
namespace Go.Nac.L9
attribute [local congr] QaZ Ye Qbc Jh Je YR Qbi Qbj
section
variable {X:XRel}
abbrev Q (X:XRel) (f:FuncId) (args:List PV) (r:PV):Prop:=∀ M,ACall F X (.fn f) args M r M
theorem Vs (b:Bool) (e:Int):Q X 56 [.B b,.I e] (.I (if b = true then e else 0)):=by
 intro M
 (refine Qe (cf:=L9.c56) rfl rfl fun hM hA => ?_;simp only [L9.c56,zO,zF,zT,zM,CX.i];rw [mk2 _ (by decide)];simp -implicitDefEqProofs (disch:=first|omega|(simp only [go_sem,seval];first|done|omega)) only [go_sem,seval])
 repeat' (first|(refine Qi ?_ ?_ <;> intro hc <;> (try simp only [decide_eq_true_eq,decide_eq_false_iff_not,Classical.not_not,Bool.not_eq_true,Bool.not_eq_true',Bool.not_eq_false',Bool.false_or,Bool.or_false,Bool.true_or,Bool.or_true,Bool.false_and,Bool.and_false,Bool.true_and,Bool.and_true] at hc) <;> (try simp -implicitDefEqProofs (disch:=first|omega|(simp only [go_sem,seval,hc];first|done|omega)) only [go_sem,seval,hc]))|(refine QA ?_ ?_ <;> intro hc <;> (try simp only [decide_eq_true_eq,decide_eq_false_iff_not,Classical.not_not,Bool.not_eq_true,Bool.not_eq_true',Bool.not_eq_false',Bool.false_or,Bool.or_false,Bool.true_or,Bool.or_true,Bool.false_and,Bool.and_false,Bool.true_and,Bool.and_true] at hc) <;> (try simp -implicitDefEqProofs (disch:=first|omega|(simp only [go_sem,seval,hc];first|done|omega)) only [go_sem,seval,hc])))
 (all_goals (first|refine pfN hM ?_ ?_|refine pf0 hM ?_ ?_);all_goals first|(simp only [go_sem,seval]<;>omega)|skip;all_goals (try simp -implicitDefEqProofs (disch:=first|omega|(simp only [go_sem,seval];first|done|omega)) only [go_sem,seval]))
theorem Vb (n a b:Int):Q X 52 [.I n,.I a,.I b] (.I (rng n a b)):=by
 intro M
 (refine Qe (cf:=L9.c52) rfl rfl fun hM hA => ?_;simp only [L9.c52,zO,zF,zT,zM,CX.i];rw [mk3 _ (by decide)];simp -implicitDefEqProofs (disch:=first|omega|(simp only [go_sem,seval];first|done|omega)) only [go_sem,seval])
 repeat' (first|(refine Qb (Vs _ _ _) ?_;(try simp -implicitDefEqProofs (disch:=first|omega|(simp only [go_sem,seval];first|done|omega)) only [go_sem,seval]))|(refine Qi ?_ ?_ <;> intro hc <;> (try simp only [decide_eq_true_eq,decide_eq_false_iff_not,Classical.not_not,Bool.not_eq_true,Bool.not_eq_true',Bool.not_eq_false',Bool.false_or,Bool.or_false,Bool.true_or,Bool.or_true,Bool.false_and,Bool.and_false,Bool.true_and,Bool.and_true] at hc) <;> (try simp -implicitDefEqProofs (disch:=first|omega|(simp only [go_sem,seval,hc];first|done|omega)) only [go_sem,seval,hc]))|(refine QA ?_ ?_ <;> intro hc <;> (try simp only [decide_eq_true_eq,decide_eq_false_iff_not,Classical.not_not,Bool.not_eq_true,Bool.not_eq_true',Bool.not_eq_false',Bool.false_or,Bool.or_false,Bool.true_or,Bool.or_true,Bool.false_and,Bool.and_false,Bool.true_and,Bool.and_true] at hc) <;> (try simp -implicitDefEqProofs (disch:=first|omega|(simp only [go_sem,seval,hc];first|done|omega)) only [go_sem,seval,hc])))
 (all_goals (first|refine pfN hM ?_ ?_|refine pf0 hM ?_ ?_);all_goals first|(simp only [go_sem,seval]<;>omega)|skip;all_goals (try simp -implicitDefEqProofs (disch:=first|omega|(simp only [go_sem,seval];first|done|omega)) only [go_sem,seval]))
 all_goals simp [rng, *]
theorem QU (n a b:Int):Q X 20 [.I n,.I a,.I b] (.I (rng n a b)):=by
 intro M
 (refine Qe (cf:=L9.c20) rfl rfl fun hM hA => ?_;simp only [L9.c20,zO,zF,zT,zM,CX.i];rw [mk3 _ (by decide)];simp -implicitDefEqProofs (disch:=first|omega|(simp only [go_sem,seval];first|done|omega)) only [go_sem,seval])
 repeat' (first|(refine Qi ?_ ?_ <;> intro hc <;> (try simp only [decide_eq_true_eq,decide_eq_false_iff_not,Classical.not_not,Bool.not_eq_true,Bool.not_eq_true',Bool.not_eq_false',Bool.false_or,Bool.or_false,Bool.true_or,Bool.or_true,Bool.false_and,Bool.and_false,Bool.true_and,Bool.and_true] at hc) <;> (try simp -implicitDefEqProofs (disch:=first|omega|(simp only [go_sem,seval,hc];first|done|omega)) only [go_sem,seval,hc]))|(refine QA ?_ ?_ <;> intro hc <;> (try simp only [decide_eq_true_eq,decide_eq_false_iff_not,Classical.not_not,Bool.not_eq_true,Bool.not_eq_true',Bool.not_eq_false',Bool.false_or,Bool.or_false,Bool.true_or,Bool.or_true,Bool.false_and,Bool.and_false,Bool.true_and,Bool.and_true] at hc) <;> (try simp -implicitDefEqProofs (disch:=first|omega|(simp only [go_sem,seval,hc];first|done|omega)) only [go_sem,seval,hc])))
 (all_goals (first|refine pfN hM ?_ ?_|refine pf0 hM ?_ ?_);all_goals first|(simp only [go_sem,seval]<;>omega)|skip;all_goals (try simp -implicitDefEqProofs (disch:=first|omega|(simp only [go_sem,seval];first|done|omega)) only [go_sem,seval]))
 all_goals simp [rng, *]
theorem Vx (n:Int):Q X 44 [.I n] (.I (rng n (-32768) 32768)):=by
 intro M
 (refine Qe (cf:=L9.c44) rfl rfl fun hM hA => ?_;simp only [L9.c44,zO,zF,zT,zM,CX.i];rw [mk1 _ (by decide)];simp -implicitDefEqProofs (disch:=first|omega|(simp only [go_sem,seval];first|done|omega)) only [go_sem,seval])
 repeat' (first|(refine Qb (Vb _ _ _ _) ?_;(try simp -implicitDefEqProofs (disch:=first|omega|(simp only [go_sem,seval];first|done|omega)) only [go_sem,seval]))|(refine Qi ?_ ?_ <;> intro hc <;> (try simp only [decide_eq_true_eq,decide_eq_false_iff_not,Classical.not_not,Bool.not_eq_true,Bool.not_eq_true',Bool.not_eq_false',Bool.false_or,Bool.or_false,Bool.true_or,Bool.or_true,Bool.false_and,Bool.and_false,Bool.true_and,Bool.and_true] at hc) <;> (try simp -implicitDefEqProofs (disch:=first|omega|(simp only [go_sem,seval,hc];first|done|omega)) only [go_sem,seval,hc]))|(refine QA ?_ ?_ <;> intro hc <;> (try simp only [decide_eq_true_eq,decide_eq_false_iff_not,Classical.not_not,Bool.not_eq_true,Bool.not_eq_true',Bool.not_eq_false',Bool.false_or,Bool.or_false,Bool.true_or,Bool.or_true,Bool.false_and,Bool.and_false,Bool.true_and,Bool.and_true] at hc) <;> (try simp -implicitDefEqProofs (disch:=first|omega|(simp only [go_sem,seval,hc];first|done|omega)) only [go_sem,seval,hc])))
 (all_goals (first|refine pfN hM ?_ ?_|refine pf0 hM ?_ ?_);all_goals first|(simp only [go_sem,seval]<;>omega)|skip;all_goals (try simp -implicitDefEqProofs (disch:=first|omega|(simp only [go_sem,seval];first|done|omega)) only [go_sem,seval]))
theorem Vk (n:Int):Q X 60 [.I n] (.I (rng n 0 39999)):=by
 intro M
 (refine Qe (cf:=L9.c60) rfl rfl fun hM hA => ?_;simp only [L9.c60,zO,zF,zT,zM,CX.i];rw [mk1 _ (by decide)];simp -implicitDefEqProofs (disch:=first|omega|(simp only [go_sem,seval];first|done|omega)) only [go_sem,seval])
 repeat' (first|(refine Qb (Vb _ _ _ _) ?_;(try simp -implicitDefEqProofs (disch:=first|omega|(simp only [go_sem,seval];first|done|omega)) only [go_sem,seval]))|(refine Qi ?_ ?_ <;> intro hc <;> (try simp only [decide_eq_true_eq,decide_eq_false_iff_not,Classical.not_not,Bool.not_eq_true,Bool.not_eq_true',Bool.not_eq_false',Bool.false_or,Bool.or_false,Bool.true_or,Bool.or_true,Bool.false_and,Bool.and_false,Bool.true_and,Bool.and_true] at hc) <;> (try simp -implicitDefEqProofs (disch:=first|omega|(simp only [go_sem,seval,hc];first|done|omega)) only [go_sem,seval,hc]))|(refine QA ?_ ?_ <;> intro hc <;> (try simp only [decide_eq_true_eq,decide_eq_false_iff_not,Classical.not_not,Bool.not_eq_true,Bool.not_eq_true',Bool.not_eq_false',Bool.false_or,Bool.or_false,Bool.true_or,Bool.or_true,Bool.false_and,Bool.and_false,Bool.true_and,Bool.and_true] at hc) <;> (try simp -implicitDefEqProofs (disch:=first|omega|(simp only [go_sem,seval,hc];first|done|omega)) only [go_sem,seval,hc])))
 (all_goals (first|refine pfN hM ?_ ?_|refine pf0 hM ?_ ?_);all_goals first|(simp only [go_sem,seval]<;>omega)|skip;all_goals (try simp -implicitDefEqProofs (disch:=first|omega|(simp only [go_sem,seval];first|done|omega)) only [go_sem,seval]))
theorem Vn (n:Int):Q X 67 [.I n] (.I (rng n 1 3)):=by
 intro M
 (refine Qe (cf:=L9.c67) rfl rfl fun hM hA => ?_;simp only [L9.c67,zO,zF,zT,zM,CX.i];rw [mk1 _ (by decide)];simp -implicitDefEqProofs (disch:=first|omega|(simp only [go_sem,seval];first|done|omega)) only [go_sem,seval])
 repeat' (first|(refine Qb (Vb _ _ _ _) ?_;(try simp -implicitDefEqProofs (disch:=first|omega|(simp only [go_sem,seval];first|done|omega)) only [go_sem,seval]))|(refine Qi ?_ ?_ <;> intro hc <;> (try simp only [decide_eq_true_eq,decide_eq_false_iff_not,Classical.not_not,Bool.not_eq_true,Bool.not_eq_true',Bool.not_eq_false',Bool.false_or,Bool.or_false,Bool.true_or,Bool.or_true,Bool.false_and,Bool.and_false,Bool.true_and,Bool.and_true] at hc) <;> (try simp -implicitDefEqProofs (disch:=first|omega|(simp only [go_sem,seval,hc];first|done|omega)) only [go_sem,seval,hc]))|(refine QA ?_ ?_ <;> intro hc <;> (try simp only [decide_eq_true_eq,decide_eq_false_iff_not,Classical.not_not,Bool.not_eq_true,Bool.not_eq_true',Bool.not_eq_false',Bool.false_or,Bool.or_false,Bool.true_or,Bool.or_true,Bool.false_and,Bool.and_false,Bool.true_and,Bool.and_true] at hc) <;> (try simp -implicitDefEqProofs (disch:=first|omega|(simp only [go_sem,seval,hc];first|done|omega)) only [go_sem,seval,hc])))
 (all_goals (first|refine pfN hM ?_ ?_|refine pf0 hM ?_ ?_);all_goals first|(simp only [go_sem,seval]<;>omega)|skip;all_goals (try simp -implicitDefEqProofs (disch:=first|omega|(simp only [go_sem,seval];first|done|omega)) only [go_sem,seval]))
theorem Y0 (n:Int):Q X 57 [.I n] (.I (rng n (-999999999) 999999999)):=by
 intro M
 (refine Qe (cf:=L9.c57) rfl rfl fun hM hA => ?_;simp only [L9.c57,zO,zF,zT,zM,CX.i];rw [mk1 _ (by decide)];simp -implicitDefEqProofs (disch:=first|omega|(simp only [go_sem,seval];first|done|omega)) only [go_sem,seval])
 repeat' (first|(refine Qb (Vb _ _ _ _) ?_;(try simp -implicitDefEqProofs (disch:=first|omega|(simp only [go_sem,seval];first|done|omega)) only [go_sem,seval]))|(refine Qi ?_ ?_ <;> intro hc <;> (try simp only [decide_eq_true_eq,decide_eq_false_iff_not,Classical.not_not,Bool.not_eq_true,Bool.not_eq_true',Bool.not_eq_false',Bool.false_or,Bool.or_false,Bool.true_or,Bool.or_true,Bool.false_and,Bool.and_false,Bool.true_and,Bool.and_true] at hc) <;> (try simp -implicitDefEqProofs (disch:=first|omega|(simp only [go_sem,seval,hc];first|done|omega)) only [go_sem,seval,hc]))|(refine QA ?_ ?_ <;> intro hc <;> (try simp only [decide_eq_true_eq,decide_eq_false_iff_not,Classical.not_not,Bool.not_eq_true,Bool.not_eq_true',Bool.not_eq_false',Bool.false_or,Bool.or_false,Bool.true_or,Bool.or_true,Bool.false_and,Bool.and_false,Bool.true_and,Bool.and_true] at hc) <;> (try simp -implicitDefEqProofs (disch:=first|omega|(simp only [go_sem,seval,hc];first|done|omega)) only [go_sem,seval,hc])))
 (all_goals (first|refine pfN hM ?_ ?_|refine pf0 hM ?_ ?_);all_goals first|(simp only [go_sem,seval]<;>omega)|skip;all_goals (try simp -implicitDefEqProofs (disch:=first|omega|(simp only [go_sem,seval];first|done|omega)) only [go_sem,seval]))
theorem VL (n:Int):Q X 50 [.I n] (.I (rng n (-32768) 32768)):=by
 intro M
 (refine Qe (cf:=L9.c50) rfl rfl fun hM hA => ?_;simp only [L9.c50,zO,zF,zT,zM,CX.i];rw [mk1 _ (by decide)];simp -implicitDefEqProofs (disch:=first|omega|(simp only [go_sem,seval];first|done|omega)) only [go_sem,seval])
 repeat' (first|(refine Qb (QU _ _ _ _) ?_;(try simp -implicitDefEqProofs (disch:=first|omega|(simp only [go_sem,seval];first|done|omega)) only [go_sem,seval]))|(refine Qi ?_ ?_ <;> intro hc <;> (try simp only [decide_eq_true_eq,decide_eq_false_iff_not,Classical.not_not,Bool.not_eq_true,Bool.not_eq_true',Bool.not_eq_false',Bool.false_or,Bool.or_false,Bool.true_or,Bool.or_true,Bool.false_and,Bool.and_false,Bool.true_and,Bool.and_true] at hc) <;> (try simp -implicitDefEqProofs (disch:=first|omega|(simp only [go_sem,seval,hc];first|done|omega)) only [go_sem,seval,hc]))|(refine QA ?_ ?_ <;> intro hc <;> (try simp only [decide_eq_true_eq,decide_eq_false_iff_not,Classical.not_not,Bool.not_eq_true,Bool.not_eq_true',Bool.not_eq_false',Bool.false_or,Bool.or_false,Bool.true_or,Bool.or_true,Bool.false_and,Bool.and_false,Bool.true_and,Bool.and_true] at hc) <;> (try simp -implicitDefEqProofs (disch:=first|omega|(simp only [go_sem,seval,hc];first|done|omega)) only [go_sem,seval,hc])))
 (all_goals (first|refine pfN hM ?_ ?_|refine pf0 hM ?_ ?_);all_goals first|(simp only [go_sem,seval]<;>omega)|skip;all_goals (try simp -implicitDefEqProofs (disch:=first|omega|(simp only [go_sem,seval];first|done|omega)) only [go_sem,seval]))
theorem JV (n:Int):Q X 88 [.I n] (.B (decide (¬ rng n (-32768) 32768 = 0))):=by
 intro M
 (refine Qe (cf:=L9.c88) rfl rfl fun hM hA => ?_;simp only [L9.c88,zO,zF,zT,zM,CX.i];rw [mk1 _ (by decide)];simp -implicitDefEqProofs (disch:=first|omega|(simp only [go_sem,seval];first|done|omega)) only [go_sem,seval])
 repeat' (first|(refine Qb (Vx _ _) ?_;(try simp -implicitDefEqProofs (disch:=first|omega|(simp only [go_sem,seval];first|done|omega)) only [go_sem,seval]))|(refine Qi ?_ ?_ <;> intro hc <;> (try simp only [decide_eq_true_eq,decide_eq_false_iff_not,Classical.not_not,Bool.not_eq_true,Bool.not_eq_true',Bool.not_eq_false',Bool.false_or,Bool.or_false,Bool.true_or,Bool.or_true,Bool.false_and,Bool.and_false,Bool.true_and,Bool.and_true] at hc) <;> (try simp -implicitDefEqProofs (disch:=first|omega|(simp only [go_sem,seval,hc];first|done|omega)) only [go_sem,seval,hc]))|(refine QA ?_ ?_ <;> intro hc <;> (try simp only [decide_eq_true_eq,decide_eq_false_iff_not,Classical.not_not,Bool.not_eq_true,Bool.not_eq_true',Bool.not_eq_false',Bool.false_or,Bool.or_false,Bool.true_or,Bool.or_true,Bool.false_and,Bool.and_false,Bool.true_and,Bool.and_true] at hc) <;> (try simp -implicitDefEqProofs (disch:=first|omega|(simp only [go_sem,seval,hc];first|done|omega)) only [go_sem,seval,hc])))
 (all_goals (first|refine pfN hM ?_ ?_|refine pf0 hM ?_ ?_);all_goals first|(simp only [go_sem,seval]<;>omega)|skip;all_goals (try simp -implicitDefEqProofs (disch:=first|omega|(simp only [go_sem,seval];first|done|omega)) only [go_sem,seval]))
theorem Zz (a b c:Int):Q X 86 [.I a,.I b,.I c] (.B (trn a b c)):=by
 intro M
 (refine Qe (cf:=L9.c86) rfl rfl fun hM hA => ?_;simp only [L9.c86,zO,zF,zT,zM,CX.i];rw [mk3 _ (by decide)];simp -implicitDefEqProofs (disch:=first|omega|(simp only [go_sem,seval];first|done|omega)) only [go_sem,seval])
 repeat' (first|(refine Qi ?_ ?_ <;> intro hc <;> (try simp only [decide_eq_true_eq,decide_eq_false_iff_not,Classical.not_not,Bool.not_eq_true,Bool.not_eq_true',Bool.not_eq_false',Bool.false_or,Bool.or_false,Bool.true_or,Bool.or_true,Bool.false_and,Bool.and_false,Bool.true_and,Bool.and_true] at hc) <;> (try simp -implicitDefEqProofs (disch:=first|omega|(simp only [go_sem,seval,hc];first|done|omega)) only [go_sem,seval,hc]))|(refine QA ?_ ?_ <;> intro hc <;> (try simp only [decide_eq_true_eq,decide_eq_false_iff_not,Classical.not_not,Bool.not_eq_true,Bool.not_eq_true',Bool.not_eq_false',Bool.false_or,Bool.or_false,Bool.true_or,Bool.or_true,Bool.false_and,Bool.and_false,Bool.true_and,Bool.and_true] at hc) <;> (try simp -implicitDefEqProofs (disch:=first|omega|(simp only [go_sem,seval,hc];first|done|omega)) only [go_sem,seval,hc])))
 (all_goals (first|refine pfN hM ?_ ?_|refine pf0 hM ?_ ?_);all_goals first|(simp only [go_sem,seval]<;>omega)|skip;all_goals (try simp -implicitDefEqProofs (disch:=first|omega|(simp only [go_sem,seval];first|done|omega)) only [go_sem,seval]))
 all_goals simp [trn, *] <;> omega
theorem Yy (a b c:Int):Q X 58 [.I a,.I b,.I c] (.B (trn a b c)):=by
 intro M
 (refine Qe (cf:=L9.c58) rfl rfl fun hM hA => ?_;simp only [L9.c58,zO,zF,zT,zM,CX.i];rw [mk3 _ (by decide)];simp -implicitDefEqProofs (disch:=first|omega|(simp only [go_sem,seval];first|done|omega)) only [go_sem,seval])
 repeat' (first|(refine Qi ?_ ?_ <;> intro hc <;> (try simp only [decide_eq_true_eq,decide_eq_false_iff_not,Classical.not_not,Bool.not_eq_true,Bool.not_eq_true',Bool.not_eq_false',Bool.false_or,Bool.or_false,Bool.true_or,Bool.or_true,Bool.false_and,Bool.and_false,Bool.true_and,Bool.and_true] at hc) <;> (try simp -implicitDefEqProofs (disch:=first|omega|(simp only [go_sem,seval,hc];first|done|omega)) only [go_sem,seval,hc]))|(refine QA ?_ ?_ <;> intro hc <;> (try simp only [decide_eq_true_eq,decide_eq_false_iff_not,Classical.not_not,Bool.not_eq_true,Bool.not_eq_true',Bool.not_eq_false',Bool.false_or,Bool.or_false,Bool.true_or,Bool.or_true,Bool.false_and,Bool.and_false,Bool.true_and,Bool.and_true] at hc) <;> (try simp -implicitDefEqProofs (disch:=first|omega|(simp only [go_sem,seval,hc];first|done|omega)) only [go_sem,seval,hc])))
 (all_goals (first|refine pfN hM ?_ ?_|refine pf0 hM ?_ ?_);all_goals first|(simp only [go_sem,seval]<;>omega)|skip;all_goals (try simp -implicitDefEqProofs (disch:=first|omega|(simp only [go_sem,seval];first|done|omega)) only [go_sem,seval]))
 all_goals simp [trn, *] <;> omega
theorem QcO (xs:List PV) (n:Int):Q X 11 [.fs xs,.I n] (.B (decide ((xs.length:Int) ≤ n))):=by
 intro M
 (refine Qe (cf:=L9.c11) rfl rfl fun hM hA => ?_;simp only [L9.c11,zO,zF,zT,zM,CX.i];rw [mk2 _ (by decide)];simp -implicitDefEqProofs (disch:=first|omega|(simp only [go_sem,seval];first|done|omega)) only [go_sem,seval])
 (all_goals (first|refine pfN hM ?_ ?_|refine pf0 hM ?_ ?_);all_goals first|(simp only [go_sem,seval]<;>omega)|skip;all_goals (try simp -implicitDefEqProofs (disch:=first|omega|(simp only [go_sem,seval];first|done|omega)) only [go_sem,seval]))
theorem VE (l:List Int) (hl:l.length ≤ 1048576):Q X 19 [.fs (l.map .I)] (.I (fst0 l)):=by
 intro M
 (refine Qe (cf:=L9.c19) rfl rfl fun hM hA => ?_;simp only [L9.c19,zO,zF,zT,zM,CX.i];rw [mk1 _ (by decide)];simp -implicitDefEqProofs (disch:=first|omega|(simp only [go_sem,seval];first|done|omega)) only [go_sem,seval])
 refine Qm (α:=Nat) 0 (fun k => k ≤ l.length ∧ fst0 l = fst0 (l.drop k)) (fun k => M) (fun k => [(0,.fs (l.map .I)),(3,.I k)]) (fun k => l.length - k) ⟨Nat.zero_le _,rfl⟩ rfl rfl ?_
 rintro k ⟨hk,hs⟩
 by_cases hlt:k < l.length
 ·obtain ⟨x,h1⟩:∃ x,l[k]? = some x:=⟨_,List.getElem?_eq_getElem hlt⟩
  have h2:=Y8 l k x h1
  simp -implicitDefEqProofs (disch:=first|omega|(simp only [go_sem,seval,hlt,h1];first|done|omega)) only [go_sem,seval,hlt,h1]
  refine Qi ?_ ?_ <;> intro hc <;> (try simp only [decide_eq_true_eq,decide_eq_false_iff_not,Classical.not_not,Bool.not_eq_true,Bool.not_eq_true',Bool.not_eq_false',Bool.false_or,Bool.or_false,Bool.true_or,Bool.or_true,Bool.false_and,Bool.and_false,Bool.true_and,Bool.and_true] at hc) <;> simp -implicitDefEqProofs (disch:=first|omega|(simp only [go_sem,seval,h1,hc];first|done|omega)) only [go_sem,seval,h1,hc]
  ·(first|refine pfN hM ?_ ?_|refine pf0 hM ?_ ?_)
   ·simp -implicitDefEqProofs (disch:=first|omega|(simp only [go_sem,seval,hs,h2,hc];first|done|omega)) only [go_sem,seval,hs,h2,hc]
   ·(simp only [go_sem,seval]<;>omega)
  ·exact again' (k + 1) ⟨by omega,by rw [hs,h2,if_pos hc]⟩ (by omega) rfl rfl
 ·simp -implicitDefEqProofs (disch:=first|omega|(simp only [go_sem,seval,hlt];first|done|omega)) only [go_sem,seval,hlt]
  (first|refine pfN hM ?_ ?_|refine pf0 hM ?_ ?_)
  ·simp -implicitDefEqProofs (disch:=first|omega|(simp only [go_sem,seval,hs];first|done|omega)) only [go_sem,seval,hs]
   rw [List.drop_eq_nil_of_le (by omega)];rfl
  ·(simp only [go_sem,seval]<;>omega)
theorem QI (l:List Int) (hl:l.length ≤ 1048576):Q X 51 [.fs (l.map .I)] (.I (fst0 l)):=by
 intro M
 (refine Qe (cf:=L9.c51) rfl rfl fun hM hA => ?_;simp only [L9.c51,zO,zF,zT,zM,CX.i];rw [mk1 _ (by decide)];simp -implicitDefEqProofs (disch:=first|omega|(simp only [go_sem,seval];first|done|omega)) only [go_sem,seval])
 refine Qm (α:=Nat) 0 (fun k => k ≤ l.length ∧ fst0 l = fst0 (l.drop k)) (fun k => M) (fun k => [(5,.fs (l.map .I)),(6,.I l.length),(7,.I k)]) (fun k => l.length - k) ⟨Nat.zero_le _,rfl⟩ rfl rfl ?_
 rintro k ⟨hk,hs⟩
 by_cases hlt:k < l.length
 ·obtain ⟨x,h1⟩:∃ x,l[k]? = some x:=⟨_,List.getElem?_eq_getElem hlt⟩
  have h2:=Y8 l k x h1
  simp -implicitDefEqProofs (disch:=first|omega|(simp only [go_sem,seval,hlt,h1];first|done|omega)) only [go_sem,seval,hlt,h1]
  refine Qi ?_ ?_ <;> intro hc <;> (try simp only [decide_eq_true_eq,decide_eq_false_iff_not,Classical.not_not,Bool.not_eq_true,Bool.not_eq_true',Bool.not_eq_false',Bool.false_or,Bool.or_false,Bool.true_or,Bool.or_true,Bool.false_and,Bool.and_false,Bool.true_and,Bool.and_true] at hc) <;> simp -implicitDefEqProofs (disch:=first|omega|(simp only [go_sem,seval,h1,hc];first|done|omega)) only [go_sem,seval,h1,hc]
  ·(first|refine pfN hM ?_ ?_|refine pf0 hM ?_ ?_)
   ·simp -implicitDefEqProofs (disch:=first|omega|(simp only [go_sem,seval,hs,h2,hc];first|done|omega)) only [go_sem,seval,hs,h2,hc]
   ·(simp only [go_sem,seval]<;>omega)
  ·exact again' (k + 1) ⟨by omega,by rw [hs,h2,if_pos hc]⟩ (by omega) rfl rfl
 ·simp -implicitDefEqProofs (disch:=first|omega|(simp only [go_sem,seval,hlt];first|done|omega)) only [go_sem,seval,hlt]
  (first|refine pfN hM ?_ ?_|refine pf0 hM ?_ ?_)
  ·simp -implicitDefEqProofs (disch:=first|omega|(simp only [go_sem,seval,hs];first|done|omega)) only [go_sem,seval,hs]
   rw [List.drop_eq_nil_of_le (by omega)];rfl
  ·(simp only [go_sem,seval]<;>omega)
theorem Qc5 (l:List Rev) (hl:l.length ≤ 1048576):Q X 36 [.fs (l.map Qd)] (.fs (l.map Qd)):=by
 intro M
 (refine Qe (cf:=L9.c36) rfl rfl fun hM hA => ?_;simp only [L9.c36,zO,zF,zT,zM,CX.i];rw [mk1 _ (by decide)];simp -implicitDefEqProofs (disch:=first|omega|(simp only [go_sem,seval];first|done|omega)) only [go_sem,seval])
 refine Qm (α:=Nat) 0 (fun k => k ≤ l.length) (fun k => M ++ [.row true 2 k ((l.take k).map Qd)])
  (fun k => [(3,.os M.length k 0 k),(6,.fs (l.map Qd)),(7,.I l.length),(8,.I k)]) (fun k => l.length - k) (Nat.zero_le _) rfl rfl ?_
 intro k hk
 by_cases hlt:k < l.length
 ·obtain ⟨x,h1⟩:∃ x,l[k]? = some x:=⟨_,List.getElem?_eq_getElem hlt⟩
  have h2:k = ((l.take k).map Qd).length:=by simp;omega
  simp -implicitDefEqProofs (disch:=first|omega|(simp only [go_sem,seval,hlt,h1,Qa];first|done|omega)) only [go_sem,seval,hlt,h1,Qa]
  refine Qo hM rfl 1 (by simp) (by first|done|(simp only [go_sem,seval,Qf] <;> first|done|(refine ⟨?_,?_⟩ <;> omega)|omega)) (Qr (by first|done|(simp only [go_sem,seval,Qf] <;> first|done|(refine ⟨?_,?_⟩ <;> omega)|omega))) ?_
  simp -implicitDefEqProofs (disch:=first|omega|(simp only [go_sem,seval];first|done|omega)) only [go_sem,seval]
  exact again' (k + 1) (by omega) (by omega) (by rw [QC h1];rfl) rfl
 ·simp -implicitDefEqProofs (disch:=first|omega|(simp only [go_sem,seval,hlt];first|done|omega)) only [go_sem,seval,hlt]
  (first|refine pfN hM ?_ ?_|refine pf0 hM ?_ ?_)
  ·simp -implicitDefEqProofs (disch:=first|omega|(simp only [go_sem,seval];first|done|omega)) only [go_sem,seval]
   rw [List.take_of_length_le (by omega)]
  ·(simp only [go_sem,seval,Qf]<;>omega)
theorem QaM (l:List Rev) (hl:l.length ≤ 1048576):Q X 15 [.fs (l.map Qd)] (.fs (l.map Qd)):=by
 intro M
 (refine Qe (cf:=L9.c15) rfl rfl fun hM hA => ?_;simp only [L9.c15,zO,zF,zT,zM,CX.i];rw [mk1 _ (by decide)];simp -implicitDefEqProofs (disch:=first|omega|(simp only [go_sem,seval];first|done|omega)) only [go_sem,seval])
 refine Qm (α:=Nat) 0 (fun k => k ≤ l.length) (fun k => M ++ [.row true 2 k ((l.take k).map Qd)])
  (fun k => [(3,.os M.length k 0 k),(6,.fs (l.map Qd)),(7,.I l.length),(8,.I k)]) (fun k => l.length - k) (Nat.zero_le _) rfl rfl ?_
 intro k hk
 by_cases hlt:k < l.length
 ·obtain ⟨x,h1⟩:∃ x,l[k]? = some x:=⟨_,List.getElem?_eq_getElem hlt⟩
  have h2:k = ((l.take k).map Qd).length:=by simp;omega
  simp -implicitDefEqProofs (disch:=first|omega|(simp only [go_sem,seval,hlt,h1,Qa];first|done|omega)) only [go_sem,seval,hlt,h1,Qa]
  refine Qo hM rfl 1 (by simp) (by first|done|(simp only [go_sem,seval,Qf] <;> first|done|(refine ⟨?_,?_⟩ <;> omega)|omega)) (Qr (by first|done|(simp only [go_sem,seval,Qf] <;> first|done|(refine ⟨?_,?_⟩ <;> omega)|omega))) ?_
  simp -implicitDefEqProofs (disch:=first|omega|(simp only [go_sem,seval];first|done|omega)) only [go_sem,seval]
  exact again' (k + 1) (by omega) (by omega) (by rw [QC h1];rfl) rfl
 ·simp -implicitDefEqProofs (disch:=first|omega|(simp only [go_sem,seval,hlt];first|done|omega)) only [go_sem,seval,hlt]
  (first|refine pfN hM ?_ ?_|refine pf0 hM ?_ ?_)
  ·simp -implicitDefEqProofs (disch:=first|omega|(simp only [go_sem,seval];first|done|omega)) only [go_sem,seval]
   rw [List.take_of_length_le (by omega)]
  ·(simp only [go_sem,seval,Qf]<;>omega)
theorem Qce (l:List Cyc) (hl:l.length ≤ 1048576):Q X 38 [.fs (l.map Qn)] (.fs (l.map Qn)):=by
 intro M
 (refine Qe (cf:=L9.c38) rfl rfl fun hM hA => ?_;simp only [L9.c38,zO,zF,zT,zM,CX.i];rw [mk1 _ (by decide)];simp -implicitDefEqProofs (disch:=first|omega|(simp only [go_sem,seval];first|done|omega)) only [go_sem,seval])
 refine Qm (α:=Nat) 0 (fun k => k ≤ l.length) (fun k => M ++ [.row true 4 k ((l.take k).map Qn)])
  (fun k => [(3,.os M.length k 0 k),(6,.fs (l.map Qn)),(7,.I l.length),(8,.I k)]) (fun k => l.length - k) (Nat.zero_le _) rfl rfl ?_
 intro k hk
 by_cases hlt:k < l.length
 ·obtain ⟨x,h1⟩:∃ x,l[k]? = some x:=⟨_,List.getElem?_eq_getElem hlt⟩
  have h2:k = ((l.take k).map Qn).length:=by simp;omega
  simp -implicitDefEqProofs (disch:=first|omega|(simp only [go_sem,seval,hlt,h1,Qk];first|done|omega)) only [go_sem,seval,hlt,h1,Qk]
  refine Qo hM rfl 1 (by simp) (by first|done|(simp only [go_sem,seval,Qj] <;> first|done|(refine ⟨?_,?_⟩ <;> omega)|omega)) (Qr (by first|done|(simp only [go_sem,seval,Qj] <;> first|done|(refine ⟨?_,?_⟩ <;> omega)|omega))) ?_
  simp -implicitDefEqProofs (disch:=first|omega|(simp only [go_sem,seval];first|done|omega)) only [go_sem,seval]
  exact again' (k + 1) (by omega) (by omega) (by rw [QC h1];rfl) rfl
 ·simp -implicitDefEqProofs (disch:=first|omega|(simp only [go_sem,seval,hlt];first|done|omega)) only [go_sem,seval,hlt]
  (first|refine pfN hM ?_ ?_|refine pf0 hM ?_ ?_)
  ·simp -implicitDefEqProofs (disch:=first|omega|(simp only [go_sem,seval];first|done|omega)) only [go_sem,seval]
   rw [List.take_of_length_le (by omega)]
  ·(simp only [go_sem,seval,Qj]<;>omega)
theorem QK (l:List Cyc) (hl:l.length ≤ 1048576):Q X 13 [.fs (l.map Qn)] (.fs (l.map Qn)):=by
 intro M
 (refine Qe (cf:=L9.c13) rfl rfl fun hM hA => ?_;simp only [L9.c13,zO,zF,zT,zM,CX.i];rw [mk1 _ (by decide)];simp -implicitDefEqProofs (disch:=first|omega|(simp only [go_sem,seval];first|done|omega)) only [go_sem,seval])
 refine Qm (α:=Nat) 0 (fun k => k ≤ l.length) (fun k => M ++ [.row true 4 k ((l.take k).map Qn)])
  (fun k => [(3,.os M.length k 0 k),(6,.fs (l.map Qn)),(7,.I l.length),(8,.I k)]) (fun k => l.length - k) (Nat.zero_le _) rfl rfl ?_
 intro k hk
 by_cases hlt:k < l.length
 ·obtain ⟨x,h1⟩:∃ x,l[k]? = some x:=⟨_,List.getElem?_eq_getElem hlt⟩
  have h2:k = ((l.take k).map Qn).length:=by simp;omega
  simp -implicitDefEqProofs (disch:=first|omega|(simp only [go_sem,seval,hlt,h1,Qk];first|done|omega)) only [go_sem,seval,hlt,h1,Qk]
  refine Qo hM rfl 1 (by simp) (by first|done|(simp only [go_sem,seval,Qj] <;> first|done|(refine ⟨?_,?_⟩ <;> omega)|omega)) (Qr (by first|done|(simp only [go_sem,seval,Qj] <;> first|done|(refine ⟨?_,?_⟩ <;> omega)|omega))) ?_
  simp -implicitDefEqProofs (disch:=first|omega|(simp only [go_sem,seval];first|done|omega)) only [go_sem,seval]
  exact again' (k + 1) (by omega) (by omega) (by rw [QC h1];rfl) rfl
 ·simp -implicitDefEqProofs (disch:=first|omega|(simp only [go_sem,seval,hlt];first|done|omega)) only [go_sem,seval,hlt]
  (first|refine pfN hM ?_ ?_|refine pf0 hM ?_ ?_)
  ·simp -implicitDefEqProofs (disch:=first|omega|(simp only [go_sem,seval];first|done|omega)) only [go_sem,seval]
   rw [List.take_of_length_le (by omega)]
  ·(simp only [go_sem,seval,Qj]<;>omega)
theorem Jz (a b:List Rev) (hl:a.length ≤ 1048576):Q X 35 [.fs (a.map Qd),.fs (b.map Qd)] (.B (decide (a = b))):=by
 intro M
 (refine Qe (cf:=L9.c35) rfl rfl fun hM hA => ?_;simp only [L9.c35,zO,zF,zT,zM,CX.i];rw [mk2 _ (by decide)];simp -implicitDefEqProofs (disch:=first|omega|(simp only [go_sem,seval];first|done|omega)) only [go_sem,seval])
 refine Qi ?_ ?_ <;> intro hc <;> simp only [decide_eq_true_eq,decide_eq_false_iff_not,Classical.not_not] at hc
 ·simp -implicitDefEqProofs (disch:=first|omega|(simp only [go_sem,seval];first|done|omega)) only [go_sem,seval]
  (first|refine pfN hM ?_ ?_|refine pf0 hM ?_ ?_)
  ·simp -implicitDefEqProofs (disch:=first|omega|(simp only [go_sem,seval];first|done|omega)) only [go_sem,seval]
   congr 2;symm;rw [decide_eq_false_iff_not];rintro rfl;exact hc rfl
  ·(simp only [go_sem,seval]<;>omega)
 ·simp -implicitDefEqProofs (disch:=first|omega|(simp only [go_sem,seval];first|done|omega)) only [go_sem,seval]
  have hc:b.length = a.length:=by omega
  refine Qm (α:=Nat) 0 (fun k => k ≤ a.length ∧ a.take k = b.take k) (fun k => M) (fun k => [(0,.fs (a.map Qd)),(1,.fs (b.map Qd)),(5,.I k)]) (fun k => a.length - k) ⟨Nat.zero_le _,rfl⟩ rfl rfl ?_
  rintro k ⟨hk,hs⟩
  by_cases hlt:k < a.length
  ·obtain ⟨x,h1⟩:∃ x,a[k]? = some x:=⟨_,List.getElem?_eq_getElem hlt⟩
   obtain ⟨y,h2⟩:∃ y,b[k]? = some y:=⟨_,List.getElem?_eq_getElem (by omega)⟩
   simp -implicitDefEqProofs (disch:=first|omega|(simp only [go_sem,seval,hlt,h1,h2,Qa];first|done|omega)) only [go_sem,seval,hlt,h1,h2,Qa]
   refine Qi ?_ ?_ <;> intro he
   ·simp -implicitDefEqProofs (disch:=first|omega|(simp only [go_sem,seval];first|done|omega)) only [go_sem,seval]
    (first|refine pfN hM ?_ ?_|refine pf0 hM ?_ ?_)
    ·simp -implicitDefEqProofs (disch:=first|omega|(simp only [go_sem,seval];first|done|omega)) only [go_sem,seval]
     congr 2;symm;rw [decide_eq_false_iff_not];rintro rfl
     rw [h1] at h2;cases h2;simp at he
    ·(simp only [go_sem,seval]<;>omega)
   ·simp -implicitDefEqProofs (disch:=first|omega|(simp only [go_sem,seval];first|done|omega)) only [go_sem,seval]
    have hxy:x = y:=by cases x;cases y;simp at he;simp [he]
    refine again' (k + 1) ⟨by omega,?_⟩ (by omega) rfl rfl
    have g1:=QC (f:=id) h1;have g2:=QC (f:=id) h2
    simp only [List.map_id] at g1 g2
    rw [g1,g2,hs,hxy]
  ·simp -implicitDefEqProofs (disch:=first|omega|(simp only [go_sem,seval,hlt];first|done|omega)) only [go_sem,seval,hlt]
   (first|refine pfN hM ?_ ?_|refine pf0 hM ?_ ?_)
   ·simp -implicitDefEqProofs (disch:=first|omega|(simp only [go_sem,seval];first|done|omega)) only [go_sem,seval]
    congr 2;symm;rw [decide_eq_true_eq]
    rw [List.take_of_length_le (by omega),List.take_of_length_le (by omega)] at hs;exact hs
   ·(simp only [go_sem,seval]<;>omega)
theorem Yt (a b:List Cyc) (hl:a.length ≤ 1048576):Q X 37 [.fs (a.map Qn),.fs (b.map Qn)] (.B (decide (a = b))):=by
 intro M
 (refine Qe (cf:=L9.c37) rfl rfl fun hM hA => ?_;simp only [L9.c37,zO,zF,zT,zM,CX.i];rw [mk2 _ (by decide)];simp -implicitDefEqProofs (disch:=first|omega|(simp only [go_sem,seval];first|done|omega)) only [go_sem,seval])
 refine Qi ?_ ?_ <;> intro hc <;> simp only [decide_eq_true_eq,decide_eq_false_iff_not,Classical.not_not] at hc
 ·simp -implicitDefEqProofs (disch:=first|omega|(simp only [go_sem,seval];first|done|omega)) only [go_sem,seval]
  (first|refine pfN hM ?_ ?_|refine pf0 hM ?_ ?_)
  ·simp -implicitDefEqProofs (disch:=first|omega|(simp only [go_sem,seval];first|done|omega)) only [go_sem,seval]
   congr 2;symm;rw [decide_eq_false_iff_not];rintro rfl;exact hc rfl
  ·(simp only [go_sem,seval]<;>omega)
 ·simp -implicitDefEqProofs (disch:=first|omega|(simp only [go_sem,seval];first|done|omega)) only [go_sem,seval]
  have hc:b.length = a.length:=by omega
  refine Qm (α:=Nat) 0 (fun k => k ≤ a.length ∧ a.take k = b.take k) (fun k => M) (fun k => [(0,.fs (a.map Qn)),(1,.fs (b.map Qn)),(5,.I k)]) (fun k => a.length - k) ⟨Nat.zero_le _,rfl⟩ rfl rfl ?_
  rintro k ⟨hk,hs⟩
  by_cases hlt:k < a.length
  ·obtain ⟨x,h1⟩:∃ x,a[k]? = some x:=⟨_,List.getElem?_eq_getElem hlt⟩
   obtain ⟨y,h2⟩:∃ y,b[k]? = some y:=⟨_,List.getElem?_eq_getElem (by omega)⟩
   simp -implicitDefEqProofs (disch:=first|omega|(simp only [go_sem,seval,hlt,h1,h2,Qk];first|done|omega)) only [go_sem,seval,hlt,h1,h2,Qk]
   refine Qi ?_ ?_ <;> intro he
   ·simp -implicitDefEqProofs (disch:=first|omega|(simp only [go_sem,seval];first|done|omega)) only [go_sem,seval]
    (first|refine pfN hM ?_ ?_|refine pf0 hM ?_ ?_)
    ·simp -implicitDefEqProofs (disch:=first|omega|(simp only [go_sem,seval];first|done|omega)) only [go_sem,seval]
     congr 2;symm;rw [decide_eq_false_iff_not];rintro rfl
     rw [h1] at h2;cases h2;simp at he
    ·(simp only [go_sem,seval]<;>omega)
   ·simp -implicitDefEqProofs (disch:=first|omega|(simp only [go_sem,seval];first|done|omega)) only [go_sem,seval]
    have hxy:x = y:=by cases x;cases y;simp at he;simp [he]
    refine again' (k + 1) ⟨by omega,?_⟩ (by omega) rfl rfl
    have g1:=QC (f:=id) h1;have g2:=QC (f:=id) h2
    simp only [List.map_id] at g1 g2
    rw [g1,g2,hs,hxy]
  ·simp -implicitDefEqProofs (disch:=first|omega|(simp only [go_sem,seval,hlt];first|done|omega)) only [go_sem,seval,hlt]
   (first|refine pfN hM ?_ ?_|refine pf0 hM ?_ ?_)
   ·simp -implicitDefEqProofs (disch:=first|omega|(simp only [go_sem,seval];first|done|omega)) only [go_sem,seval]
    congr 2;symm;rw [decide_eq_true_eq]
    rw [List.take_of_length_le (by omega),List.take_of_length_le (by omega)] at hs;exact hs
   ·(simp only [go_sem,seval]<;>omega)
theorem Qa2 (a b:List Int) (hl:a.length ≤ 1048576):Q X 10 [.fs (a.map .I),.fs (b.map .I)] (.B (decide (a = b))):=by
 intro M
 (refine Qe (cf:=L9.c10) rfl rfl fun hM hA => ?_;simp only [L9.c10,zO,zF,zT,zM,CX.i];rw [mk2 _ (by decide)];simp -implicitDefEqProofs (disch:=first|omega|(simp only [go_sem,seval];first|done|omega)) only [go_sem,seval])
 refine Qi ?_ ?_ <;> intro hc <;> simp only [decide_eq_true_eq,decide_eq_false_iff_not,Classical.not_not] at hc
 ·simp -implicitDefEqProofs (disch:=first|omega|(simp only [go_sem,seval];first|done|omega)) only [go_sem,seval]
  (first|refine pfN hM ?_ ?_|refine pf0 hM ?_ ?_)
  ·simp -implicitDefEqProofs (disch:=first|omega|(simp only [go_sem,seval];first|done|omega)) only [go_sem,seval]
   congr 2;symm;rw [decide_eq_false_iff_not];rintro rfl;exact hc rfl
  ·(simp only [go_sem,seval]<;>omega)
 ·simp -implicitDefEqProofs (disch:=first|omega|(simp only [go_sem,seval];first|done|omega)) only [go_sem,seval]
  have hc:b.length = a.length:=by omega
  refine Qm (α:=Nat) 0 (fun k => k ≤ a.length ∧ a.take k = b.take k) (fun k => M) (fun k => [(0,.fs (a.map .I)),(1,.fs (b.map .I)),(5,.I k)]) (fun k => a.length - k) ⟨Nat.zero_le _,rfl⟩ rfl rfl ?_
  rintro k ⟨hk,hs⟩
  by_cases hlt:k < a.length
  ·obtain ⟨x,h1⟩:∃ x,a[k]? = some x:=⟨_,List.getElem?_eq_getElem hlt⟩
   obtain ⟨y,h2⟩:∃ y,b[k]? = some y:=⟨_,List.getElem?_eq_getElem (by omega)⟩
   simp -implicitDefEqProofs (disch:=first|omega|(simp only [go_sem,seval,hlt,h1,h2];first|done|omega)) only [go_sem,seval,hlt,h1,h2]
   refine Qi ?_ ?_ <;> intro he
   ·simp -implicitDefEqProofs (disch:=first|omega|(simp only [go_sem,seval];first|done|omega)) only [go_sem,seval]
    (first|refine pfN hM ?_ ?_|refine pf0 hM ?_ ?_)
    ·simp -implicitDefEqProofs (disch:=first|omega|(simp only [go_sem,seval];first|done|omega)) only [go_sem,seval]
     congr 2;symm;rw [decide_eq_false_iff_not];rintro rfl
     rw [h1] at h2;cases h2;simp at he
    ·(simp only [go_sem,seval]<;>omega)
   ·simp -implicitDefEqProofs (disch:=first|omega|(simp only [go_sem,seval];first|done|omega)) only [go_sem,seval]
    have hxy:x = y:=by simpa using he
    refine again' (k + 1) ⟨by omega,?_⟩ (by omega) rfl rfl
    have g1:=QC (f:=id) h1;have g2:=QC (f:=id) h2
    simp only [List.map_id] at g1 g2
    rw [g1,g2,hs,hxy]
  ·simp -implicitDefEqProofs (disch:=first|omega|(simp only [go_sem,seval,hlt];first|done|omega)) only [go_sem,seval,hlt]
   (first|refine pfN hM ?_ ?_|refine pf0 hM ?_ ?_)
   ·simp -implicitDefEqProofs (disch:=first|omega|(simp only [go_sem,seval];first|done|omega)) only [go_sem,seval]
    congr 2;symm;rw [decide_eq_true_eq]
    rw [List.take_of_length_le (by omega),List.take_of_length_le (by omega)] at hs;exact hs
   ·(simp only [go_sem,seval]<;>omega)
theorem QcH (l:List Rev) (hl:l.length ≤ 1048576):Q X 39 [.fs (l.map Qd)] (.fs ((l.map Rev.ld).map .I)):=by
 intro M
 (refine Qe (cf:=L9.c39) rfl rfl fun hM hA => ?_;simp only [L9.c39,zO,zF,zT,zM,CX.i];rw [mk1 _ (by decide)];simp -implicitDefEqProofs (disch:=first|omega|(simp only [go_sem,seval];first|done|omega)) only [go_sem,seval])
 refine Qm (α:=Nat) 0 (fun k => k ≤ l.length) (fun k => M ++ [.row true 1 k ((l.take k).map fun r => .I r.ld)])
  (fun k => [(0,.fs (l.map Qd)),(3,.os M.length k 0 k),(4,.I k)]) (fun k => l.length - k) (Nat.zero_le _) rfl rfl ?_
 intro k hk
 by_cases hlt:k < l.length
 ·obtain ⟨x,h1⟩:∃ x,l[k]? = some x:=⟨_,List.getElem?_eq_getElem hlt⟩
  have h2:k = ((l.take k).map fun r => PV.I r.ld).length:=by simp;omega
  simp -implicitDefEqProofs (disch:=first|omega|(simp only [go_sem,seval,hlt,h1,Qa];first|done|omega)) only [go_sem,seval,hlt,h1,Qa]
  exact again' (k + 1) (by omega) (by omega) (by rw [QC h1]) rfl
 ·simp -implicitDefEqProofs (disch:=first|omega|(simp only [go_sem,seval,hlt];first|done|omega)) only [go_sem,seval,hlt]
  (first|refine pfN hM ?_ ?_|refine pf0 hM ?_ ?_)
  ·simp -implicitDefEqProofs (disch:=first|omega|(simp only [go_sem,seval];first|done|omega)) only [go_sem,seval]
   rw [List.take_of_length_le (by omega)]
  ·(simp only [go_sem,seval,Z6]<;>omega)
theorem Qci:Q X 28 [] (.fs ([0,5,5,2,4,-1,3,6].map .I)):=by
 intro M
 (refine Qe (cf:=L9.c28) rfl rfl fun hM hA => ?_;simp only [L9.c28,zO,zF,zT,zM,CX.i];rw [mk0];simp -implicitDefEqProofs (disch:=first|omega|(simp only [go_sem,seval];first|done|omega)) only [go_sem,seval])
 (all_goals (first|refine pfN hM ?_ ?_|refine pf0 hM ?_ ?_);all_goals first|(simp only [go_sem,seval]<;>omega)|skip;all_goals (try simp -implicitDefEqProofs (disch:=first|omega|(simp only [go_sem,seval];first|done|omega)) only [go_sem,seval]))
theorem Jd (l:List Rev) (hl:l.length ≤ 1048576):Q X 18 [.fs (l.map Qd)] (.I (Qt l)):=by
 intro M
 (refine Qe (cf:=L9.c18) rfl rfl fun hM hA => ?_;simp only [L9.c18,zO,zF,zT,zM,CX.i];rw [mk1 _ (by decide)];simp -implicitDefEqProofs (disch:=first|omega|(simp only [go_sem,seval];first|done|omega)) only [go_sem,seval])
 refine Qi ?_ ?_ <;> intro hc <;> simp only [decide_eq_true_eq,decide_eq_false_iff_not,Classical.not_not] at hc
 ·simp -implicitDefEqProofs (disch:=first|omega|(simp only [go_sem,seval];first|done|omega)) only [go_sem,seval]
  (first|refine pfN hM ?_ ?_|refine pf0 hM ?_ ?_)
  ·simp -implicitDefEqProofs (disch:=first|omega|(simp only [go_sem,seval];first|done|omega)) only [go_sem,seval]
   congr 2;simp [Qt];omega
  ·(simp only [go_sem,seval]<;>omega)
 ·simp -implicitDefEqProofs (disch:=first|omega|(simp only [go_sem,seval];first|done|omega)) only [go_sem,seval]
  refine Qm (α:=Nat) 0 (fun k => k ≤ l.length ∧ Vg none none l = Vg (prev l 2 k) (prev l 1 k) (l.drop k)) (fun k => M) (fun k => [(0,.fs (l.map Qd)),(3,.I k)]) (fun k => l.length - k) ⟨Nat.zero_le _,rfl⟩ rfl rfl ?_
  rintro k ⟨hk,hs⟩
  by_cases hlt:k < l.length
  ·obtain ⟨x,h1⟩:∃ x,l[k]? = some x:=⟨_,List.getElem?_eq_getElem hlt⟩
   have hd:=QaW h1
   have fin:∀ e:Int,e = errAt (prev l 2 k) (prev l 1 k) x → ¬ e = 0 → Qt l = e:=by
    intro e h2 h3
    rw [h2] at h3 ⊢
    rw [if_neg h3] at hd
    simp only [Qt];rw [if_neg (by omega),hs,hd]
   have nxt:errAt (prev l 2 k) (prev l 1 k) x = 0 → Vg none none l = Vg (prev l 2 (k + 1)) (prev l 1 (k + 1)) (l.drop (k + 1)):=by
    intro h;rw [hs,hd,if_pos h]
   rcases (by omega:k = 0 ∨ k = 1 ∨ 2 ≤ k) with h0|h0|h0
   ·have f1:¬ (0:Int) < k:=by omega
    have f2:¬ (1:Int) < k:=by omega
    have p1:prev l 1 k = none:=by simp [prev,h0]
    have p2:prev l 2 k = none:=by simp [prev,h0]
    rw [p1,p2] at fin nxt
    simp -implicitDefEqProofs (disch:=first|omega|(simp only [go_sem,seval,hlt,h1,Qa];first|done|omega)) only [go_sem,seval,hlt,h1,Qa]
    repeat' (first|(refine Qb (QU _ _ _ _) ?_;(try simp -implicitDefEqProofs (disch:=first|omega|(simp only [go_sem,seval,h1,Qa,f1,f2];first|done|omega)) only [go_sem,seval,h1,Qa,f1,f2]))|(refine Qb (VL _ _) ?_;(try simp -implicitDefEqProofs (disch:=first|omega|(simp only [go_sem,seval,h1,Qa,f1,f2];first|done|omega)) only [go_sem,seval,h1,Qa,f1,f2]))|(refine Qb (VE [_,_] (by simp) _) ?_;(try simp -implicitDefEqProofs (disch:=first|omega|(simp only [go_sem,seval,h1,Qa,f1,f2];first|done|omega)) only [go_sem,seval,h1,Qa,f1,f2]))|(refine Qb (Yy _ _ _ _) ?_;(try simp -implicitDefEqProofs (disch:=first|omega|(simp only [go_sem,seval,h1,Qa,f1,f2];first|done|omega)) only [go_sem,seval,h1,Qa,f1,f2]))|(refine Qi ?_ ?_ <;> intro hc <;> (try simp only [decide_eq_true_eq,decide_eq_false_iff_not,Classical.not_not,Bool.not_eq_true,Bool.not_eq_true',Bool.not_eq_false',Bool.false_or,Bool.or_false,Bool.true_or,Bool.or_true,Bool.false_and,Bool.and_false,Bool.true_and,Bool.and_true] at hc) <;> (try simp -implicitDefEqProofs (disch:=first|omega|(simp only [go_sem,seval,h1,Qa,f1,f2,hc];first|done|omega)) only [go_sem,seval,h1,Qa,f1,f2,hc]))|(refine QA ?_ ?_ <;> intro hc <;> (try simp only [decide_eq_true_eq,decide_eq_false_iff_not,Classical.not_not,Bool.not_eq_true,Bool.not_eq_true',Bool.not_eq_false',Bool.false_or,Bool.or_false,Bool.true_or,Bool.or_true,Bool.false_and,Bool.and_false,Bool.true_and,Bool.and_true] at hc) <;> (try simp -implicitDefEqProofs (disch:=first|omega|(simp only [go_sem,seval,h1,Qa,f1,f2,hc];first|done|omega)) only [go_sem,seval,h1,Qa,f1,f2,hc])))
    all_goals try (refine again' (k + 1) ⟨by omega,nxt ?_⟩ (by omega) rfl rfl;rw [YF (by assumption)];simp [ordB,shpB,fst0, *];done)
    all_goals (first|refine pfN hM ?_ ?_|refine pf0 hM ?_ ?_)
    all_goals first|(simp only [go_sem,seval]<;>omega)|skip
    all_goals simp -implicitDefEqProofs (disch:=first|omega|(simp only [go_sem,seval];first|done|omega)) only [go_sem,seval]
    all_goals refine congrArg PV.I (fin _ ?_ ?_).symm
    all_goals first|exact Qb4 (by assumption)|(rw [YF (by assumption)];simp [ordB,shpB,fst0, *];done)|assumption|decide
   ·have f1:(0:Int) < k:=by omega
    have f2:¬ (1:Int) < k:=by omega
    have e1:(k:Int) - 1 = ((k - 1:Nat):Int):=by omega
    obtain ⟨p,g1⟩:∃ p,l[k - 1]? = some p:=⟨_,List.getElem?_eq_getElem (by omega)⟩
    have p1:prev l 1 k = some p:=by simp [prev,g1];omega
    have p2:prev l 2 k = none:=by simp [prev,h0]
    rw [p1,p2] at fin nxt
    simp -implicitDefEqProofs (disch:=first|omega|(simp only [go_sem,seval,hlt,h1,Qa];first|done|omega)) only [go_sem,seval,hlt,h1,Qa]
    repeat' (first|(refine Qb (QU _ _ _ _) ?_;(try simp -implicitDefEqProofs (disch:=first|omega|(simp only [go_sem,seval,h1,Qa,f1,f2,e1,g1];first|done|omega)) only [go_sem,seval,h1,Qa,f1,f2,e1,g1]))|(refine Qb (VL _ _) ?_;(try simp -implicitDefEqProofs (disch:=first|omega|(simp only [go_sem,seval,h1,Qa,f1,f2,e1,g1];first|done|omega)) only [go_sem,seval,h1,Qa,f1,f2,e1,g1]))|(refine Qb (VE [_,_] (by simp) _) ?_;(try simp -implicitDefEqProofs (disch:=first|omega|(simp only [go_sem,seval,h1,Qa,f1,f2,e1,g1];first|done|omega)) only [go_sem,seval,h1,Qa,f1,f2,e1,g1]))|(refine Qb (Yy _ _ _ _) ?_;(try simp -implicitDefEqProofs (disch:=first|omega|(simp only [go_sem,seval,h1,Qa,f1,f2,e1,g1];first|done|omega)) only [go_sem,seval,h1,Qa,f1,f2,e1,g1]))|(refine Qi ?_ ?_ <;> intro hc <;> (try simp only [decide_eq_true_eq,decide_eq_false_iff_not,Classical.not_not,Bool.not_eq_true,Bool.not_eq_true',Bool.not_eq_false',Bool.false_or,Bool.or_false,Bool.true_or,Bool.or_true,Bool.false_and,Bool.and_false,Bool.true_and,Bool.and_true] at hc) <;> (try simp -implicitDefEqProofs (disch:=first|omega|(simp only [go_sem,seval,h1,Qa,f1,f2,e1,g1,hc];first|done|omega)) only [go_sem,seval,h1,Qa,f1,f2,e1,g1,hc]))|(refine QA ?_ ?_ <;> intro hc <;> (try simp only [decide_eq_true_eq,decide_eq_false_iff_not,Classical.not_not,Bool.not_eq_true,Bool.not_eq_true',Bool.not_eq_false',Bool.false_or,Bool.or_false,Bool.true_or,Bool.or_true,Bool.false_and,Bool.and_false,Bool.true_and,Bool.and_true] at hc) <;> (try simp -implicitDefEqProofs (disch:=first|omega|(simp only [go_sem,seval,h1,Qa,f1,f2,e1,g1,hc];first|done|omega)) only [go_sem,seval,h1,Qa,f1,f2,e1,g1,hc])))
    all_goals try (refine again' (k + 1) ⟨by omega,nxt ?_⟩ (by omega) rfl rfl;rw [YF (by assumption)];simp [ordB,shpB,fst0, *];done)
    all_goals (first|refine pfN hM ?_ ?_|refine pf0 hM ?_ ?_)
    all_goals first|(simp only [go_sem,seval]<;>omega)|skip
    all_goals simp -implicitDefEqProofs (disch:=first|omega|(simp only [go_sem,seval];first|done|omega)) only [go_sem,seval]
    all_goals refine congrArg PV.I (fin _ ?_ ?_).symm
    all_goals first|exact Qb4 (by assumption)|(rw [YF (by assumption)];simp [ordB,shpB,fst0, *];done)|assumption|decide
   ·have f1:(0:Int) < k:=by omega
    have f2:(1:Int) < k:=by omega
    have e1:(k:Int) - 1 = ((k - 1:Nat):Int):=by omega
    have e2:(k:Int) - 2 = ((k - 2:Nat):Int):=by omega
    obtain ⟨p,g1⟩:∃ p,l[k - 1]? = some p:=⟨_,List.getElem?_eq_getElem (by omega)⟩
    obtain ⟨z,g2⟩:∃ p,l[k - 2]? = some p:=⟨_,List.getElem?_eq_getElem (by omega)⟩
    have p1:prev l 1 k = some p:=by simp [prev,g1];omega
    have p2:prev l 2 k = some z:=by simp [prev,g2];omega
    rw [p1,p2] at fin nxt
    simp -implicitDefEqProofs (disch:=first|omega|(simp only [go_sem,seval,hlt,h1,Qa];first|done|omega)) only [go_sem,seval,hlt,h1,Qa]
    repeat' (first|(refine Qb (QU _ _ _ _) ?_;(try simp -implicitDefEqProofs (disch:=first|omega|(simp only [go_sem,seval,h1,Qa,f1,f2,e1,e2,g1,g2];first|done|omega)) only [go_sem,seval,h1,Qa,f1,f2,e1,e2,g1,g2]))|(refine Qb (VL _ _) ?_;(try simp -implicitDefEqProofs (disch:=first|omega|(simp only [go_sem,seval,h1,Qa,f1,f2,e1,e2,g1,g2];first|done|omega)) only [go_sem,seval,h1,Qa,f1,f2,e1,e2,g1,g2]))|(refine Qb (VE [_,_] (by simp) _) ?_;(try simp -implicitDefEqProofs (disch:=first|omega|(simp only [go_sem,seval,h1,Qa,f1,f2,e1,e2,g1,g2];first|done|omega)) only [go_sem,seval,h1,Qa,f1,f2,e1,e2,g1,g2]))|(refine Qb (Yy _ _ _ _) ?_;(try simp -implicitDefEqProofs (disch:=first|omega|(simp only [go_sem,seval,h1,Qa,f1,f2,e1,e2,g1,g2];first|done|omega)) only [go_sem,seval,h1,Qa,f1,f2,e1,e2,g1,g2]))|(refine Qi ?_ ?_ <;> intro hc <;> (try simp only [decide_eq_true_eq,decide_eq_false_iff_not,Classical.not_not,Bool.not_eq_true,Bool.not_eq_true',Bool.not_eq_false',Bool.false_or,Bool.or_false,Bool.true_or,Bool.or_true,Bool.false_and,Bool.and_false,Bool.true_and,Bool.and_true] at hc) <;> (try simp -implicitDefEqProofs (disch:=first|omega|(simp only [go_sem,seval,h1,Qa,f1,f2,e1,e2,g1,g2,hc];first|done|omega)) only [go_sem,seval,h1,Qa,f1,f2,e1,e2,g1,g2,hc]))|(refine QA ?_ ?_ <;> intro hc <;> (try simp only [decide_eq_true_eq,decide_eq_false_iff_not,Classical.not_not,Bool.not_eq_true,Bool.not_eq_true',Bool.not_eq_false',Bool.false_or,Bool.or_false,Bool.true_or,Bool.or_true,Bool.false_and,Bool.and_false,Bool.true_and,Bool.and_true] at hc) <;> (try simp -implicitDefEqProofs (disch:=first|omega|(simp only [go_sem,seval,h1,Qa,f1,f2,e1,e2,g1,g2,hc];first|done|omega)) only [go_sem,seval,h1,Qa,f1,f2,e1,e2,g1,g2,hc])))
    all_goals try (refine again' (k + 1) ⟨by omega,nxt ?_⟩ (by omega) rfl rfl;rw [YF (by assumption)];simp [ordB,shpB,fst0, *];done)
    all_goals (first|refine pfN hM ?_ ?_|refine pf0 hM ?_ ?_)
    all_goals first|(simp only [go_sem,seval]<;>omega)|skip
    all_goals simp -implicitDefEqProofs (disch:=first|omega|(simp only [go_sem,seval];first|done|omega)) only [go_sem,seval]
    all_goals refine congrArg PV.I (fin _ ?_ ?_).symm
    all_goals first|exact Qb4 (by assumption)|(rw [YF (by assumption)];simp [ordB,shpB,fst0, *];done)|assumption|decide
  ·simp -implicitDefEqProofs (disch:=first|omega|(simp only [go_sem,seval,hlt];first|done|omega)) only [go_sem,seval,hlt]
   (first|refine pfN hM ?_ ?_|refine pf0 hM ?_ ?_)
   ·simp -implicitDefEqProofs (disch:=first|omega|(simp only [go_sem,seval];first|done|omega)) only [go_sem,seval]
    rw [Qb1 (by omega)] at hs
    simp [Qt,hs];omega
   ·(simp only [go_sem,seval]<;>omega)
theorem QS (l:List Rev) (hl:l.length ≤ 1048576):Q X 55 [.fs (l.map Qd)] (.I (Qt l)):=by
 intro M
 (refine Qe (cf:=L9.c55) rfl rfl fun hM hA => ?_;simp only [L9.c55,zO,zF,zT,zM,CX.i];rw [mk1 _ (by decide)];simp -implicitDefEqProofs (disch:=first|omega|(simp only [go_sem,seval];first|done|omega)) only [go_sem,seval])
 refine Qi ?_ ?_ <;> intro hc <;> simp only [decide_eq_true_eq,decide_eq_false_iff_not,Classical.not_not] at hc
 ·simp -implicitDefEqProofs (disch:=first|omega|(simp only [go_sem,seval];first|done|omega)) only [go_sem,seval]
  (first|refine pfN hM ?_ ?_|refine pf0 hM ?_ ?_)
  ·simp -implicitDefEqProofs (disch:=first|omega|(simp only [go_sem,seval];first|done|omega)) only [go_sem,seval]
   congr 2;simp [Qt];omega
  ·(simp only [go_sem,seval]<;>omega)
 ·simp -implicitDefEqProofs (disch:=first|omega|(simp only [go_sem,seval];first|done|omega)) only [go_sem,seval]
  refine Qm (α:=Nat) 0 (fun k => k ≤ l.length ∧ Vg none none l = Vg (prev l 2 k) (prev l 1 k) (l.drop k)) (fun k => M) (fun k => [(0,.fs (l.map Qd)),(11,.fs (l.map Qd)),(12,.I l.length),(13,.I k)]) (fun k => l.length - k) ⟨Nat.zero_le _,rfl⟩ rfl rfl ?_
  rintro k ⟨hk,hs⟩
  by_cases hlt:k < l.length
  ·obtain ⟨x,h1⟩:∃ x,l[k]? = some x:=⟨_,List.getElem?_eq_getElem hlt⟩
   have hd:=QaW h1
   have fin:∀ e:Int,e = errAt (prev l 2 k) (prev l 1 k) x → ¬ e = 0 → Qt l = e:=by
    intro e h2 h3
    rw [h2] at h3 ⊢
    rw [if_neg h3] at hd
    simp only [Qt];rw [if_neg (by omega),hs,hd]
   have nxt:errAt (prev l 2 k) (prev l 1 k) x = 0 → Vg none none l = Vg (prev l 2 (k + 1)) (prev l 1 (k + 1)) (l.drop (k + 1)):=by
    intro h;rw [hs,hd,if_pos h]
   rcases (by omega:k = 0 ∨ k = 1 ∨ 2 ≤ k) with h0|h0|h0
   ·have f1:¬ (0:Int) < k:=by omega
    have f2:¬ (1:Int) < k:=by omega
    have p1:prev l 1 k = none:=by simp [prev,h0]
    have p2:prev l 2 k = none:=by simp [prev,h0]
    rw [p1,p2] at fin nxt
    simp -implicitDefEqProofs (disch:=first|omega|(simp only [go_sem,seval,hlt,h1,Qa,f1,f2];first|done|omega)) only [go_sem,seval,hlt,h1,Qa,f1,f2]
    repeat' (first|(refine Qb (Vk _ _) ?_;(try simp -implicitDefEqProofs (disch:=first|omega|(simp only [go_sem,seval,h1,Qa,f1,f2];first|done|omega)) only [go_sem,seval,h1,Qa,f1,f2]))|(refine Qb (Vx _ _) ?_;(try simp -implicitDefEqProofs (disch:=first|omega|(simp only [go_sem,seval,h1,Qa,f1,f2];first|done|omega)) only [go_sem,seval,h1,Qa,f1,f2]))|(refine Qb (Vs _ _ _) ?_;(try simp -implicitDefEqProofs (disch:=first|omega|(simp only [go_sem,seval,h1,Qa,f1,f2];first|done|omega)) only [go_sem,seval,h1,Qa,f1,f2]))|(refine Qb (QI [_,_,_,_] (by simp) _) ?_;(try simp -implicitDefEqProofs (disch:=first|omega|(simp only [go_sem,seval,h1,Qa,f1,f2];first|done|omega)) only [go_sem,seval,h1,Qa,f1,f2]))|(refine Qb (Zz _ _ _ _) ?_;(try simp -implicitDefEqProofs (disch:=first|omega|(simp only [go_sem,seval,h1,Qa,f1,f2];first|done|omega)) only [go_sem,seval,h1,Qa,f1,f2]))|(refine Qi ?_ ?_ <;> intro hc <;> (try simp only [decide_eq_true_eq,decide_eq_false_iff_not,Classical.not_not,Bool.not_eq_true,Bool.not_eq_true',Bool.not_eq_false',Bool.false_or,Bool.or_false,Bool.true_or,Bool.or_true,Bool.false_and,Bool.and_false,Bool.true_and,Bool.and_true] at hc) <;> (try simp -implicitDefEqProofs (disch:=first|omega|(simp only [go_sem,seval,h1,Qa,f1,f2,hc];first|done|omega)) only [go_sem,seval,h1,Qa,f1,f2,hc]))|(refine QA ?_ ?_ <;> intro hc <;> (try simp only [decide_eq_true_eq,decide_eq_false_iff_not,Classical.not_not,Bool.not_eq_true,Bool.not_eq_true',Bool.not_eq_false',Bool.false_or,Bool.or_false,Bool.true_or,Bool.or_true,Bool.false_and,Bool.and_false,Bool.true_and,Bool.and_true] at hc) <;> (try simp -implicitDefEqProofs (disch:=first|omega|(simp only [go_sem,seval,h1,Qa,f1,f2,hc];first|done|omega)) only [go_sem,seval,h1,Qa,f1,f2,hc])))
    all_goals try (refine Qo hM rfl 0 (by simp) (by first|done|(simp only [go_sem,seval,Qf] <;> first|done|(refine ⟨?_,?_⟩ <;> omega)|omega)) (Qr (by first|done|(simp only [go_sem,seval,Qf] <;> first|done|(refine ⟨?_,?_⟩ <;> omega)|omega))) ?_;simp -implicitDefEqProofs (disch:=first|omega|(simp only [go_sem,seval];first|done|omega)) only [go_sem,seval];refine again' (k + 1) ⟨by omega,nxt (by simpa [errAt,ordB,shpB, *] using hc)⟩ (by omega) rfl rfl;done)
    all_goals (first|refine pfN hM ?_ ?_|refine pf0 hM ?_ ?_)
    all_goals first|(simp only [go_sem,seval]<;>omega)|skip
    all_goals simp -implicitDefEqProofs (disch:=first|omega|(simp only [go_sem,seval];first|done|omega)) only [go_sem,seval]
    all_goals refine congrArg PV.I (fin _ (by simp [errAt,ordB,shpB, *]) (by first|assumption|simpa using hc)).symm
   ·have f1:(0:Int) < k:=by omega
    have f2:¬ (1:Int) < k:=by omega
    have e1:(k:Int) - 1 = ((k - 1:Nat):Int):=by omega
    obtain ⟨p,g1⟩:∃ p,l[k - 1]? = some p:=⟨_,List.getElem?_eq_getElem (by omega)⟩
    have p1:prev l 1 k = some p:=by simp [prev,g1];omega
    have p2:prev l 2 k = none:=by simp [prev,h0]
    rw [p1,p2] at fin nxt
    simp -implicitDefEqProofs (disch:=first|omega|(simp only [go_sem,seval,hlt,h1,Qa,f1,f2,e1,g1];first|done|omega)) only [go_sem,seval,hlt,h1,Qa,f1,f2,e1,g1]
    repeat' (first|(refine Qb (Vk _ _) ?_;(try simp -implicitDefEqProofs (disch:=first|omega|(simp only [go_sem,seval,h1,Qa,f1,f2,e1,g1];first|done|omega)) only [go_sem,seval,h1,Qa,f1,f2,e1,g1]))|(refine Qb (Vx _ _) ?_;(try simp -implicitDefEqProofs (disch:=first|omega|(simp only [go_sem,seval,h1,Qa,f1,f2,e1,g1];first|done|omega)) only [go_sem,seval,h1,Qa,f1,f2,e1,g1]))|(refine Qb (Vs _ _ _) ?_;(try simp -implicitDefEqProofs (disch:=first|omega|(simp only [go_sem,seval,h1,Qa,f1,f2,e1,g1];first|done|omega)) only [go_sem,seval,h1,Qa,f1,f2,e1,g1]))|(refine Qb (QI [_,_,_,_] (by simp) _) ?_;(try simp -implicitDefEqProofs (disch:=first|omega|(simp only [go_sem,seval,h1,Qa,f1,f2,e1,g1];first|done|omega)) only [go_sem,seval,h1,Qa,f1,f2,e1,g1]))|(refine Qb (Zz _ _ _ _) ?_;(try simp -implicitDefEqProofs (disch:=first|omega|(simp only [go_sem,seval,h1,Qa,f1,f2,e1,g1];first|done|omega)) only [go_sem,seval,h1,Qa,f1,f2,e1,g1]))|(refine Qi ?_ ?_ <;> intro hc <;> (try simp only [decide_eq_true_eq,decide_eq_false_iff_not,Classical.not_not,Bool.not_eq_true,Bool.not_eq_true',Bool.not_eq_false',Bool.false_or,Bool.or_false,Bool.true_or,Bool.or_true,Bool.false_and,Bool.and_false,Bool.true_and,Bool.and_true] at hc) <;> (try simp -implicitDefEqProofs (disch:=first|omega|(simp only [go_sem,seval,h1,Qa,f1,f2,e1,g1,hc];first|done|omega)) only [go_sem,seval,h1,Qa,f1,f2,e1,g1,hc]))|(refine QA ?_ ?_ <;> intro hc <;> (try simp only [decide_eq_true_eq,decide_eq_false_iff_not,Classical.not_not,Bool.not_eq_true,Bool.not_eq_true',Bool.not_eq_false',Bool.false_or,Bool.or_false,Bool.true_or,Bool.or_true,Bool.false_and,Bool.and_false,Bool.true_and,Bool.and_true] at hc) <;> (try simp -implicitDefEqProofs (disch:=first|omega|(simp only [go_sem,seval,h1,Qa,f1,f2,e1,g1,hc];first|done|omega)) only [go_sem,seval,h1,Qa,f1,f2,e1,g1,hc])))
    all_goals try (refine Qo hM rfl 0 (by simp) (by first|done|(simp only [go_sem,seval,Qf] <;> first|done|(refine ⟨?_,?_⟩ <;> omega)|omega)) (Qr (by first|done|(simp only [go_sem,seval,Qf] <;> first|done|(refine ⟨?_,?_⟩ <;> omega)|omega))) ?_;simp -implicitDefEqProofs (disch:=first|omega|(simp only [go_sem,seval];first|done|omega)) only [go_sem,seval];refine again' (k + 1) ⟨by omega,nxt (by simpa [errAt,ordB,shpB, *] using hc)⟩ (by omega) rfl rfl;done)
    all_goals (first|refine pfN hM ?_ ?_|refine pf0 hM ?_ ?_)
    all_goals first|(simp only [go_sem,seval]<;>omega)|skip
    all_goals simp -implicitDefEqProofs (disch:=first|omega|(simp only [go_sem,seval];first|done|omega)) only [go_sem,seval]
    all_goals refine congrArg PV.I (fin _ (by simp [errAt,ordB,shpB, *]) (by first|assumption|simpa using hc)).symm
   ·have f1:(0:Int) < k:=by omega
    have f2:(1:Int) < k:=by omega
    have e1:(k:Int) - 1 = ((k - 1:Nat):Int):=by omega
    have e2:(k:Int) - 2 = ((k - 2:Nat):Int):=by omega
    obtain ⟨p,g1⟩:∃ p,l[k - 1]? = some p:=⟨_,List.getElem?_eq_getElem (by omega)⟩
    obtain ⟨z,g2⟩:∃ p,l[k - 2]? = some p:=⟨_,List.getElem?_eq_getElem (by omega)⟩
    have p1:prev l 1 k = some p:=by simp [prev,g1];omega
    have p2:prev l 2 k = some z:=by simp [prev,g2];omega
    rw [p1,p2] at fin nxt
    simp -implicitDefEqProofs (disch:=first|omega|(simp only [go_sem,seval,hlt,h1,Qa,f1,f2,e1,e2,g1,g2];first|done|omega)) only [go_sem,seval,hlt,h1,Qa,f1,f2,e1,e2,g1,g2]
    repeat' (first|(refine Qb (Vk _ _) ?_;(try simp -implicitDefEqProofs (disch:=first|omega|(simp only [go_sem,seval,h1,Qa,f1,f2,e1,e2,g1,g2];first|done|omega)) only [go_sem,seval,h1,Qa,f1,f2,e1,e2,g1,g2]))|(refine Qb (Vx _ _) ?_;(try simp -implicitDefEqProofs (disch:=first|omega|(simp only [go_sem,seval,h1,Qa,f1,f2,e1,e2,g1,g2];first|done|omega)) only [go_sem,seval,h1,Qa,f1,f2,e1,e2,g1,g2]))|(refine Qb (Vs _ _ _) ?_;(try simp -implicitDefEqProofs (disch:=first|omega|(simp only [go_sem,seval,h1,Qa,f1,f2,e1,e2,g1,g2];first|done|omega)) only [go_sem,seval,h1,Qa,f1,f2,e1,e2,g1,g2]))|(refine Qb (QI [_,_,_,_] (by simp) _) ?_;(try simp -implicitDefEqProofs (disch:=first|omega|(simp only [go_sem,seval,h1,Qa,f1,f2,e1,e2,g1,g2];first|done|omega)) only [go_sem,seval,h1,Qa,f1,f2,e1,e2,g1,g2]))|(refine Qb (Zz _ _ _ _) ?_;(try simp -implicitDefEqProofs (disch:=first|omega|(simp only [go_sem,seval,h1,Qa,f1,f2,e1,e2,g1,g2];first|done|omega)) only [go_sem,seval,h1,Qa,f1,f2,e1,e2,g1,g2]))|(refine Qi ?_ ?_ <;> intro hc <;> (try simp only [decide_eq_true_eq,decide_eq_false_iff_not,Classical.not_not,Bool.not_eq_true,Bool.not_eq_true',Bool.not_eq_false',Bool.false_or,Bool.or_false,Bool.true_or,Bool.or_true,Bool.false_and,Bool.and_false,Bool.true_and,Bool.and_true] at hc) <;> (try simp -implicitDefEqProofs (disch:=first|omega|(simp only [go_sem,seval,h1,Qa,f1,f2,e1,e2,g1,g2,hc];first|done|omega)) only [go_sem,seval,h1,Qa,f1,f2,e1,e2,g1,g2,hc]))|(refine QA ?_ ?_ <;> intro hc <;> (try simp only [decide_eq_true_eq,decide_eq_false_iff_not,Classical.not_not,Bool.not_eq_true,Bool.not_eq_true',Bool.not_eq_false',Bool.false_or,Bool.or_false,Bool.true_or,Bool.or_true,Bool.false_and,Bool.and_false,Bool.true_and,Bool.and_true] at hc) <;> (try simp -implicitDefEqProofs (disch:=first|omega|(simp only [go_sem,seval,h1,Qa,f1,f2,e1,e2,g1,g2,hc];first|done|omega)) only [go_sem,seval,h1,Qa,f1,f2,e1,e2,g1,g2,hc])))
    all_goals try (refine Qo hM rfl 0 (by simp) (by first|done|(simp only [go_sem,seval,Qf] <;> first|done|(refine ⟨?_,?_⟩ <;> omega)|omega)) (Qr (by first|done|(simp only [go_sem,seval,Qf] <;> first|done|(refine ⟨?_,?_⟩ <;> omega)|omega))) ?_;simp -implicitDefEqProofs (disch:=first|omega|(simp only [go_sem,seval];first|done|omega)) only [go_sem,seval];refine again' (k + 1) ⟨by omega,nxt (by simpa [errAt,ordB,shpB, *] using hc)⟩ (by omega) rfl rfl;done)
    all_goals (first|refine pfN hM ?_ ?_|refine pf0 hM ?_ ?_)
    all_goals first|(simp only [go_sem,seval]<;>omega)|skip
    all_goals simp -implicitDefEqProofs (disch:=first|omega|(simp only [go_sem,seval];first|done|omega)) only [go_sem,seval]
    all_goals refine congrArg PV.I (fin _ (by simp [errAt,ordB,shpB, *]) (by first|assumption|simpa using hc)).symm
  ·simp -implicitDefEqProofs (disch:=first|omega|(simp only [go_sem,seval,hlt];first|done|omega)) only [go_sem,seval,hlt]
   (first|refine pfN hM ?_ ?_|refine pf0 hM ?_ ?_)
   ·simp -implicitDefEqProofs (disch:=first|omega|(simp only [go_sem,seval];first|done|omega)) only [go_sem,seval]
    rw [Qb1 (by omega)] at hs
    simp [Qt,hs];omega
   ·(simp only [go_sem,seval]<;>omega)
theorem QbO {p:Int → Bool} {g:FuncId} {cap:List PV} {l:List Int} {M:List Blk} (hl:l.length ≤ 1048576) (hg:∀ n N,ACall F X (.fn g) (.I n :: cap) (M ++ N) (.B (p n)) (M ++ N)) :
  ACall F X (.fn 87) [.fs (l.map .I),.fn (.func g) [] cap] M (.fs ((l.filter p).map .I)) M:=by
 (refine Qe (cf:=L9.c87) rfl rfl fun hM hA => ?_;simp only [L9.c87,zO,zF,zT,zM,CX.i];rw [mk2 _ (by decide)];simp -implicitDefEqProofs (disch:=first|omega|(simp only [go_sem,seval];first|done|omega)) only [go_sem,seval])
 have hcap:lowL M.length cap:=by simp only [lowL,PV.low] at hA;exact hA.2.1.2
 refine Qm (α:=Nat) 0 (fun k => k ≤ l.length) (fun k => M ++ [.row true 1 ((l.take k).filter p).length (((l.take k).filter p).map .I)])
  (fun k => [(1,.fn (.func g) [] cap),(5,.os M.length ((l.take k).filter p).length 0 ((l.take k).filter p).length),(8,.fs (l.map .I)),(9,.I l.length),(10,.I k)]) (fun k => l.length - k) (Nat.zero_le _) rfl rfl ?_
 intro k hk
 by_cases hlt:k < l.length
 ·obtain ⟨x,h1⟩:∃ x,l[k]? = some x:=⟨_,List.getElem?_eq_getElem hlt⟩
  have hf:=Ja p h1
  have hfl:((l.take k).filter p).length ≤ k:=Nat.le_trans (List.length_filter_le _ _) (by simp;omega)
  simp -implicitDefEqProofs (disch:=first|omega|(simp only [go_sem,seval,hlt,h1];first|done|omega)) only [go_sem,seval,hlt,h1]
  refine Qb (hg x _) ?_
  simp -implicitDefEqProofs (disch:=first|omega|(simp only [go_sem,seval];first|done|omega)) only [go_sem,seval]
  have hcap1:=Q0 (Nat.le_add_right M.length 1) cap hcap
  refine Qi ?_ ?_ <;> intro hc <;> (try simp only [decide_eq_true_eq,decide_eq_false_iff_not,Classical.not_not,Bool.not_eq_true,Bool.not_eq_true',Bool.not_eq_false',Bool.false_or,Bool.or_false,Bool.true_or,Bool.or_true,Bool.false_and,Bool.and_false,Bool.true_and,Bool.and_true] at hc) <;> simp -implicitDefEqProofs (disch:=first|omega|(simp only [go_sem,seval,h1,hc];first|done|omega)) only [go_sem,seval,h1,hc]
  ·rw [if_pos hc] at hf
   refine Qo hM rfl 1 (by simp) (by first|done|(simp only [go_sem,seval,Z6,hcap1] <;> first|done|(refine ⟨?_,?_⟩ <;> omega)|omega)) (Qr (by first|done|(simp only [go_sem,seval,Z6,hcap1] <;> first|done|(refine ⟨?_,?_⟩ <;> omega)|omega))) ?_
   simp -implicitDefEqProofs (disch:=first|omega|(simp only [go_sem,seval];first|done|omega)) only [go_sem,seval]
   exact again' (k + 1) (by omega) (by omega) (by rw [hf];simp) (by rw [hf];simp)
  ·rw [if_neg (by simp [hc]),List.append_nil] at hf
   refine Qo hM rfl 1 (by simp) (by first|done|(simp only [go_sem,seval,Z6,hcap1] <;> first|done|(refine ⟨?_,?_⟩ <;> omega)|omega)) (Qr (by first|done|(simp only [go_sem,seval,Z6,hcap1] <;> first|done|(refine ⟨?_,?_⟩ <;> omega)|omega))) ?_
   simp -implicitDefEqProofs (disch:=first|omega|(simp only [go_sem,seval];first|done|omega)) only [go_sem,seval]
   exact again' (k + 1) (by omega) (by omega) (by rw [hf]) (by rw [hf];rfl)
 ·simp -implicitDefEqProofs (disch:=first|omega|(simp only [go_sem,seval,hlt];first|done|omega)) only [go_sem,seval,hlt]
  (first|refine pfN hM ?_ ?_|refine pf0 hM ?_ ?_)
  ·simp -implicitDefEqProofs (disch:=first|omega|(simp only [go_sem,seval];first|done|omega)) only [go_sem,seval]
   rw [List.take_of_length_le (by omega)]
  ·(simp only [go_sem,seval,Z6]<;>omega)
theorem Zu (l:List Int) (hl:l.length ≤ 1048576):Q X 61 [.fs (l.map .I)] (.I (QZ l)):=by
 intro M
 have hf:(l.filter Yc).length ≤ l.length:=List.length_filter_le _ _
 (refine Qe (cf:=L9.c61) rfl rfl fun hM hA => ?_;simp only [L9.c61,zO,zF,zT,zM,CX.i];rw [mk1 _ (by decide)];simp -implicitDefEqProofs (disch:=first|omega|(simp only [go_sem,seval];first|done|omega)) only [go_sem,seval])
 refine Qb (QbO (p:=Yc) hl fun n N => JV n _) ?_
 simp -implicitDefEqProofs (disch:=first|omega|(simp only [go_sem,seval];first|done|omega)) only [go_sem,seval]
 repeat' (first|(refine Qb (Vs _ _ _) ?_;(try simp -implicitDefEqProofs (disch:=first|omega|(simp only [go_sem,seval];first|done|omega)) only [go_sem,seval]))|(refine Qb (QI [_,_] (by simp) _) ?_;(try simp -implicitDefEqProofs (disch:=first|omega|(simp only [go_sem,seval];first|done|omega)) only [go_sem,seval]))|(refine Qi ?_ ?_ <;> intro hc <;> (try simp only [decide_eq_true_eq,decide_eq_false_iff_not,Classical.not_not,Bool.not_eq_true,Bool.not_eq_true',Bool.not_eq_false',Bool.false_or,Bool.or_false,Bool.true_or,Bool.or_true,Bool.false_and,Bool.and_false,Bool.true_and,Bool.and_true] at hc) <;> (try simp -implicitDefEqProofs (disch:=first|omega|(simp only [go_sem,seval,hc];first|done|omega)) only [go_sem,seval,hc]))|(refine QA ?_ ?_ <;> intro hc <;> (try simp only [decide_eq_true_eq,decide_eq_false_iff_not,Classical.not_not,Bool.not_eq_true,Bool.not_eq_true',Bool.not_eq_false',Bool.false_or,Bool.or_false,Bool.true_or,Bool.or_true,Bool.false_and,Bool.and_false,Bool.true_and,Bool.and_true] at hc) <;> (try simp -implicitDefEqProofs (disch:=first|omega|(simp only [go_sem,seval,hc];first|done|omega)) only [go_sem,seval,hc])))
 (first|refine pfN hM ?_ ?_|refine pf0 hM ?_ ?_)
 ·simp -implicitDefEqProofs (disch:=first|omega|(simp only [go_sem,seval];first|done|omega)) only [go_sem,seval]
  refine congrArg PV.I ?_
  simp only [QZ,fst0]
  generalize (l.filter Yc).length = m
  by_cases h1:40000 < l.length
  ·have h2:(40000:Int) < l.length:=by omega
   have h3:¬ (l.length:Int) ≤ 40000:=by omega
   simp [h1,h2,h3]
  ·have h2:¬ (40000:Int) < l.length:=by omega
   by_cases hm:m = 0
   ·subst hm;simp [h1,h2]
   ·have:(0:Int) < m:=by omega
    simp [h1,h2,hm,this]
 ·(simp only [go_sem,seval]<;>omega)
abbrev Yields (X:XRel):=Qfy F X
theorem Qbe (l:List Int) (hl:l.length ≤ 1048576):Yields X 90 [.fp [.fs (l.map .I)]] ((points l).map Qd):=by
 intro i N hN hy
 have hpl:((points l).map Qd).length = l.length:=by simp [points]
 refine Qe (cf:=c90) rfl rfl fun hM hA => ?_
 have hi:i < (N 0).length:=by simp only [lowL,PV.low] at hA;exact hA.1
 simp only [c90,zO,zF,zT,zM,CX.i]
 rw [mk2 _ (by decide)]
 simp -implicitDefEqProofs (disch:=first|omega|(simp only [go_sem,seval];first|done|omega)) only [go_sem,seval]
 refine Qm (α:=Nat) 0 (fun k => k ≤ l.length) (fun k => N k) (fun k => [(0,.yl i),(5,.fs (l.map .I)),(6,.I l.length),(7,.I k)]) (fun k => l.length - k) (Nat.zero_le _) rfl rfl ?_
 intro k hk
 by_cases hlt:k < l.length
 ·obtain ⟨x,h1⟩:∃ x,l[k]? = some x:=⟨_,List.getElem?_eq_getElem hlt⟩
  have hp:((points l).map Qd)[k]? = some (Qd ⟨k,x⟩):=by simp [points,h1]
  simp -implicitDefEqProofs (disch:=first|omega|(simp only [go_sem,seval,hlt,h1];first|done|omega)) only [go_sem,seval,hlt,h1]
  have hy1:=hy k _ [] hp
  simp only [List.append_nil] at hy1
  refine V7 hy1 ?_
  have hk1:=hN (k + 1) (by omega)
  simp -implicitDefEqProofs (disch:=first|omega|(simp only [go_sem,seval];first|done|omega)) only [go_sem,seval]
  refine Qcg hk1.2 (by omega) (Qr ?_) ?_
  ·have:i < (N (k + 1)).length:=by omega
   simp only [go_sem,seval,this]
  ·simp -implicitDefEqProofs (disch:=first|omega|(simp only [go_sem,seval];first|done|omega)) only [go_sem,seval]
   exact again' (k + 1) (by omega) (by omega) rfl rfl
 ·simp -implicitDefEqProofs (disch:=first|omega|(simp only [go_sem,seval,hlt];first|done|omega)) only [go_sem,seval,hlt]
  have e:(points l).length = k:=by simp [points];omega
  have hk0:=hN k (by omega)
  rw [e]
  refine Vr ZD hk0.2 hk0.1.symm ?_ ?_
  ·simp -implicitDefEqProofs (disch:=first|omega|(simp only [go_sem,seval];first|done|omega)) only [go_sem,seval]
   rfl
  ·(simp only [go_sem,seval]<;>omega)
theorem ZW (l:List Rev) (hl:l.length ≤ 1048576):Yields X 111 [.fp [.fs (l.map Qd)]] (l.map Qd):=by
 intro i N hN hy
 have hpl:(l.map Qd).length = l.length:=by simp
 refine Qe (cf:=c111) rfl rfl fun hM hA => ?_
 have hi:i < (N 0).length:=by simp only [lowL,PV.low] at hA;exact hA.1
 simp only [c111,zO,zF,zT,zM,CX.i]
 rw [mk2 _ (by decide)]
 simp -implicitDefEqProofs (disch:=first|omega|(simp only [go_sem,seval];first|done|omega)) only [go_sem,seval]
 refine Qm (α:=Nat) 0 (fun k => k ≤ l.length) (fun k => N k) (fun k => [(0,.yl i),(5,.fs (l.map Qd)),(6,.I l.length),(7,.I k)]) (fun k => l.length - k) (Nat.zero_le _) rfl rfl ?_
 intro k hk
 have hk0:=hN k (by omega)
 by_cases hlt:k < l.length
 ·obtain ⟨x,h1⟩:∃ x,l[k]? = some x:=⟨_,List.getElem?_eq_getElem hlt⟩
  have hp:(l.map Qd)[k]? = some (Qd x):=by simp [h1]
  have hk1:=hN (k + 1) (by omega)
  simp -implicitDefEqProofs (disch:=first|omega|(simp only [go_sem,seval,hlt,h1,Qa];first|done|omega)) only [go_sem,seval,hlt,h1,Qa]
  refine V7 (hy k _ _ hp) ?_
  simp -implicitDefEqProofs (disch:=first|omega|(simp only [go_sem,seval];first|done|omega)) only [go_sem,seval]
  refine Qo hk1.2 (by omega) 0 (by simp) YQ (Qr ?_) ?_
  ·have:i < (N (k + 1)).length:=by omega
   simp only [go_sem,seval,this,Nat.add_zero]
  ·simp -implicitDefEqProofs (disch:=first|omega|(simp only [go_sem,seval];first|done|omega)) only [go_sem,seval]
   exact again' (k + 1) (by omega) (by omega) rfl rfl
 ·simp -implicitDefEqProofs (disch:=first|omega|(simp only [go_sem,seval,hlt];first|done|omega)) only [go_sem,seval,hlt]
  have e:l.length = k:=by omega
  rw [e]
  refine Vr ZD hk0.2 hk0.1.symm ?_ ?_
  ·simp -implicitDefEqProofs (disch:=first|omega|(simp only [go_sem,seval];first|done|omega)) only [go_sem,seval]
   rfl
  ·(simp only [go_sem,seval]<;>omega)
theorem QhB {l:List Rev} {k:Nat} {x:Rev} (h:l[k]? = some x):QJ (l.take (k + 1)) = QN (QJ (l.take k)) x:=by
 obtain ⟨h1,h2⟩:=List.getElem?_eq_some_iff.1 h
 unfold QJ
 rw [List.take_succ_eq_append_getElem h1,h2,List.foldl_append];rfl
theorem QeG (o:List Rev) (x:Rev):(QN o x).length ≤ o.length + 1:=by
 unfold QN
 split
 ·simp
 ·split
  ·omega
  ·split
   ·simp
   ·split <;> simp <;> omega
theorem Qa7 (l:List Rev):(QJ l).length ≤ l.length:=by
 unfold QJ
 have:∀ (l o:List Rev),(l.foldl QN o).length ≤ o.length + l.length:=by
  intro l
  induction l with
  | nil => intro o;simp
  | cons x l ih => intro o;have:=ih (QN o x);have:=QeG o x;simp only [List.foldl_cons,List.length_cons];omega
 simpa using this l []
theorem VW {l:List Rev} {g:FuncId} {cap:List PV} (hl:l.length ≤ 1048576) (hg:Yields X g cap (l.map Qd)):Q X 89 [.fn (.func g) [] cap] (.fs ((QJ l).map Qd)):=by
 intro M
 (refine Qe (cf:=L9.c89) rfl rfl fun hM hA => ?_;simp only [L9.c89,zO,zF,zT,zM,CX.i];rw [mk1 _ (by decide)];simp -implicitDefEqProofs (disch:=first|omega|(simp only [go_sem,seval];first|done|omega)) only [go_sem,seval])
 have hcap:lowL M.length cap:=by simp only [lowL,PV.low] at hA;exact hA.1.2
 have hlen:∀ k,(QJ (l.take k)).length ≤ k:=fun k => Nat.le_trans (Qa7 _) (List.length_take_le _ _)
 refine Qgs hg (fun k => [.row true 1 0 [.os (M.length + 1) (QJ (l.take k)).length 0 (QJ (l.take k)).length],.row true 2 (QJ (l.take k)).length ((QJ (l.take k)).map Qd)]) hM (by simp -implicitDefEqProofs (disch:=first|omega|(simp only [go_sem,seval];first|done|omega)) only [go_sem,seval]) (fun k => rfl) ?_ ?_ ?_ ?_
 ·intro k _
  simp only [go_sem,seval,Qf]
  try simp
 ·refine (?_:lowL (M.length + (0 + 1 + 1)) _)
  simp only [go_sem,seval,Q0 (Nat.le_add_right M.length 2) cap hcap]
 ·intro k x E L LB hx hE
  obtain ⟨y,h1,rfl⟩:∃ y,l[k]? = some y ∧ Qd y = x:=by simpa using hx
  have hk:k < l.length:=(List.getElem?_eq_some_iff.1 h1).1
  have hs:=QhB h1
  have ho:=hlen k
  simp only [hs]
  generalize QJ (l.take k) = o at ho ⊢
  clear hs hlen hx
  simp -implicitDefEqProofs (disch:=first|omega|(simp only [go_sem,seval,Qa];first|done|omega)) only [go_sem,seval,Qa]
  refine Qnl (by rw [getMj];rfl) ?_
  simp -implicitDefEqProofs (disch:=first|omega|(simp only [go_sem,seval,Qa];first|done|omega)) only [go_sem,seval,Qa]
  have ho2:o.length ≤ 1048575:=by omega
  rcases (by omega:o.length = 0 ∨ 1 ≤ o.length) with h0|h0
  ·have f1:¬ (0:Int) < o.length:=by omega
   have f2:¬ (1:Int) < o.length:=by omega
   rw [QgK h0]
   simp -implicitDefEqProofs (disch:=first|omega|(simp only [go_sem,seval,Qa,f1,f2];first|done|omega)) only [go_sem,seval,Qa,f1,f2]
   refine Qar [.row true 2 0 [.agg [.I y.at_,.I y.ld]]] ?_
   simp [Qd]
  ·obtain ⟨a,g1⟩:∃ p,o[o.length - 1]? = some p:=⟨_,List.getElem?_eq_getElem (by omega)⟩
   have f1:(0:Int) < o.length:=by omega
   have e1:(o.length:Int) - 1 = ((o.length - 1:Nat):Int):=by omega
   have l1:o.length - 1 < o.length:=by omega
   simp -implicitDefEqProofs (disch:=first|omega|(simp only [go_sem,seval,Qa,f1,e1,g1,l1];first|done|omega)) only [go_sem,seval,Qa,f1,e1,g1,l1]
   refine Qi ?_ ?_ <;> intro hc <;> (try simp only [decide_eq_true_eq,decide_eq_false_iff_not,Classical.not_not,Bool.not_eq_true,Bool.not_eq_true',Bool.not_eq_false',Bool.false_or,Bool.or_false,Bool.true_or,Bool.or_true,Bool.false_and,Bool.and_false,Bool.true_and,Bool.and_true] at hc) <;> simp -implicitDefEqProofs (disch:=first|omega|(simp only [go_sem,seval,Qa,f1,e1,g1,l1,hc];first|done|omega)) only [go_sem,seval,Qa,f1,e1,g1,l1,hc]
   ·rw [Qgl g1 hc]
    refine Qar [.row true 2 0 [.agg [.I y.at_,.I y.ld]]] ?_
    simp [Qd]
   ·rcases (by omega:o.length = 1 ∨ 2 ≤ o.length) with h2|h2
    ·have f2:¬ (1:Int) < o.length:=by omega
     rw [Qim g1 hc h2]
     simp -implicitDefEqProofs (disch:=first|omega|(simp only [go_sem,seval,Qa,f1,f2];first|done|omega)) only [go_sem,seval,Qa,f1,f2]
     refine Qar [.row true 2 0 [.agg [.I y.at_,.I y.ld]]] ?_
     simp [Qd]
    ·have f2:(1:Int) < o.length:=by omega
     have e2:(o.length:Int) - 2 = ((o.length - 2:Nat):Int):=by omega
     have l2:o.length - 2 < o.length:=by omega
     obtain ⟨b,g2⟩:∃ p,o[o.length - 2]? = some p:=⟨_,List.getElem?_eq_getElem (by omega)⟩
     rw [Qic g1 g2 h2 hc]
     simp -implicitDefEqProofs (disch:=first|omega|(simp only [go_sem,seval,Qa,f1,f2,e1,e2,g1,g2,l1,l2];first|done|omega)) only [go_sem,seval,Qa,f1,f2,e1,e2,g1,g2,l1,l2]
     refine Qb (Zz _ _ _ _) ?_
     simp -implicitDefEqProofs (disch:=first|omega|(simp only [go_sem,seval,Qa];first|done|omega)) only [go_sem,seval,Qa]
     refine Qi ?_ ?_ <;> intro hc <;> (try simp only [decide_eq_true_eq,decide_eq_false_iff_not,Classical.not_not,Bool.not_eq_true,Bool.not_eq_true',Bool.not_eq_false',Bool.false_or,Bool.or_false,Bool.true_or,Bool.or_true,Bool.false_and,Bool.and_false,Bool.true_and,Bool.and_true] at hc) <;> simp -implicitDefEqProofs (disch:=first|omega|(simp only [go_sem,seval,Qa,VS,f1,f2,e1,g1,l1,hc];first|done|omega)) only [go_sem,seval,Qa,VS,f1,f2,e1,g1,l1,hc]
     ·refine Qar [.row true 2 0 [.agg [.I y.at_,.I y.ld]]] ?_
      simp [Qd]
     ·refine Qar [.row true 2 0 [.agg [.I y.at_,.I y.ld]]] ?_
      simp [Qd]
 ·simp -implicitDefEqProofs (disch:=first|omega|(simp only [go_sem,seval];first|done|omega)) only [go_sem,seval]
  (first|refine pfN hM ?_ ?_|refine pf0 hM ?_ ?_)
  ·simp -implicitDefEqProofs (disch:=first|omega|(simp only [go_sem,seval];first|done|omega)) only [go_sem,seval]
   rw [List.take_of_length_le (Nat.le_refl _),List.take_of_length_le (by simp)]
  ·(simp only [go_sem,seval,Qf]<;>omega)
theorem Jr (l:List Int) (hl:l.length ≤ 1048576):Q X 62 [.fs (l.map .I)] (.fs ((QJ (points l)).map Qd)):=by
 intro M
 (refine Qe (cf:=L9.c62) rfl rfl fun hM hA => ?_;simp only [L9.c62,zO,zF,zT,zM,CX.i];rw [mk1 _ (by decide)];simp -implicitDefEqProofs (disch:=first|omega|(simp only [go_sem,seval];first|done|omega)) only [go_sem,seval])
 refine Qb (VW (by simp [points];omega) (Qbe l hl) _) ?_
 simp -implicitDefEqProofs (disch:=first|omega|(simp only [go_sem,seval];first|done|omega)) only [go_sem,seval]
 (all_goals (first|refine pfN hM ?_ ?_|refine pf0 hM ?_ ?_);all_goals first|(simp only [go_sem,seval,Qf]<;>omega)|skip;all_goals (try simp -implicitDefEqProofs (disch:=first|omega|(simp only [go_sem,seval];first|done|omega)) only [go_sem,seval]))
theorem Qa6 (l:List Int) (hl:l.length ≤ 1048576):Q X 27 [.fs (l.map .I)] (.tup [.fs ((if QZ l = 0 then QJ (points l) else []).map Qd),.I (QZ l)]):=by
 intro M
 (refine Qe (cf:=L9.c27) rfl rfl fun hM hA => ?_;simp only [L9.c27,zO,zF,zT,zM,CX.i];rw [mk1 _ (by decide)];simp -implicitDefEqProofs (disch:=first|omega|(simp only [go_sem,seval];first|done|omega)) only [go_sem,seval])
 repeat' (first|(refine Qb (Zu _ hl _) ?_;(try simp -implicitDefEqProofs (disch:=first|omega|(simp only [go_sem,seval];first|done|omega)) only [go_sem,seval]))|(refine Qb (Jr _ hl _) ?_;(try simp -implicitDefEqProofs (disch:=first|omega|(simp only [go_sem,seval];first|done|omega)) only [go_sem,seval]))|(refine Qi ?_ ?_ <;> intro hc <;> (try simp only [decide_eq_true_eq,decide_eq_false_iff_not,Classical.not_not,Bool.not_eq_true,Bool.not_eq_true',Bool.not_eq_false',Bool.false_or,Bool.or_false,Bool.true_or,Bool.or_true,Bool.false_and,Bool.and_false,Bool.true_and,Bool.and_true] at hc) <;> (try simp -implicitDefEqProofs (disch:=first|omega|(simp only [go_sem,seval,hc];first|done|omega)) only [go_sem,seval,hc]))|(refine QA ?_ ?_ <;> intro hc <;> (try simp only [decide_eq_true_eq,decide_eq_false_iff_not,Classical.not_not,Bool.not_eq_true,Bool.not_eq_true',Bool.not_eq_false',Bool.false_or,Bool.or_false,Bool.true_or,Bool.or_true,Bool.false_and,Bool.and_false,Bool.true_and,Bool.and_true] at hc) <;> (try simp -implicitDefEqProofs (disch:=first|omega|(simp only [go_sem,seval,hc];first|done|omega)) only [go_sem,seval,hc])))
 ·(first|refine pfN hM ?_ ?_|refine pf0 hM ?_ ?_)
  ·simp -implicitDefEqProofs (disch:=first|omega|(simp only [go_sem,seval,hc];first|done|omega)) only [go_sem,seval,hc]
  ·(simp only [go_sem,seval,Qf]<;>omega)
 ·(first|refine pfN hM ?_ ?_|refine pf0 hM ?_ ?_)
  ·simp -implicitDefEqProofs (disch:=first|omega|(simp only [go_sem,seval,hc];first|done|omega)) only [go_sem,seval,hc]
  ·(simp only [go_sem,seval,Qf]<;>omega)
theorem Qx (l:List Cyc) (hl:l.length ≤ 1048576):Q X 24 [.fs (l.map Qn)] (.I (Qv l)):=by
 intro M
 (refine Qe (cf:=L9.c24) rfl rfl fun hM hA => ?_;simp only [L9.c24,zO,zF,zT,zM,CX.i];rw [mk1 _ (by decide)];simp -implicitDefEqProofs (disch:=first|omega|(simp only [go_sem,seval];first|done|omega)) only [go_sem,seval])
 refine Qi ?_ ?_ <;> intro hc <;> simp only [decide_eq_true_eq,decide_eq_false_iff_not,Classical.not_not] at hc
 ·simp -implicitDefEqProofs (disch:=first|omega|(simp only [go_sem,seval];first|done|omega)) only [go_sem,seval]
  (first|refine pfN hM ?_ ?_|refine pf0 hM ?_ ?_)
  ·simp -implicitDefEqProofs (disch:=first|omega|(simp only [go_sem,seval];first|done|omega)) only [go_sem,seval]
   congr 2;simp [Qv];omega
  ·(simp only [go_sem,seval]<;>omega)
 ·simp -implicitDefEqProofs (disch:=first|omega|(simp only [go_sem,seval];first|done|omega)) only [go_sem,seval]
  have hcl:Qv l = fst0 (l.map errC):=by rw [Qv,if_neg (by omega)]
  refine Qm (α:=Nat) 0 (fun k => k ≤ l.length ∧ Qv l = fst0 ((l.map errC).drop k)) (fun k => M) (fun k => [(9,.fs (l.map Qn)),(10,.I l.length),(11,.I k)]) (fun k => l.length - k) ⟨Nat.zero_le _,hcl⟩ rfl rfl ?_
  rintro k ⟨hk,hs⟩
  by_cases hlt:k < l.length
  ·obtain ⟨x,h1⟩:∃ x,l[k]? = some x:=⟨_,List.getElem?_eq_getElem hlt⟩
   have h2:=Y8 (l.map errC) k (errC x) (by simp [h1])
   have fin:∀ e:Int,e = errC x → ¬ e = 0 → Qv l = e:=by
    intro e h3 h4
    rw [h3] at h4 ⊢
    rw [hs,h2,if_neg h4]
   have nxt:errC x = 0 → Qv l = fst0 ((l.map errC).drop (k + 1)):=by
    intro h;rw [hs,h2,if_pos h]
   clear h2
   simp -implicitDefEqProofs (disch:=first|omega|(simp only [go_sem,seval,hlt,h1,Qk];first|done|omega)) only [go_sem,seval,hlt,h1,Qk]
   repeat' (first|(refine Qb (Vk _ _) ?_;(try simp -implicitDefEqProofs (disch:=first|omega|(simp only [go_sem,seval,h1,Qk];first|done|omega)) only [go_sem,seval,h1,Qk]))|(refine Qb (Vx _ _) ?_;(try simp -implicitDefEqProofs (disch:=first|omega|(simp only [go_sem,seval,h1,Qk];first|done|omega)) only [go_sem,seval,h1,Qk]))|(refine Qb (Vs _ _ _) ?_;(try simp -implicitDefEqProofs (disch:=first|omega|(simp only [go_sem,seval,h1,Qk];first|done|omega)) only [go_sem,seval,h1,Qk]))|(refine Qb (QI [_,_,_,_,_] (by simp) _) ?_;(try simp -implicitDefEqProofs (disch:=first|omega|(simp only [go_sem,seval,h1,Qk];first|done|omega)) only [go_sem,seval,h1,Qk]))|(refine Qi ?_ ?_ <;> intro hc <;> (try simp only [decide_eq_true_eq,decide_eq_false_iff_not,Classical.not_not,Bool.not_eq_true,Bool.not_eq_true',Bool.not_eq_false',Bool.false_or,Bool.or_false,Bool.true_or,Bool.or_true,Bool.false_and,Bool.and_false,Bool.true_and,Bool.and_true] at hc) <;> (try simp -implicitDefEqProofs (disch:=first|omega|(simp only [go_sem,seval,h1,Qk,hc];first|done|omega)) only [go_sem,seval,h1,Qk,hc]))|(refine QA ?_ ?_ <;> intro hc <;> (try simp only [decide_eq_true_eq,decide_eq_false_iff_not,Classical.not_not,Bool.not_eq_true,Bool.not_eq_true',Bool.not_eq_false',Bool.false_or,Bool.or_false,Bool.true_or,Bool.or_true,Bool.false_and,Bool.and_false,Bool.true_and,Bool.and_true] at hc) <;> (try simp -implicitDefEqProofs (disch:=first|omega|(simp only [go_sem,seval,h1,Qk,hc];first|done|omega)) only [go_sem,seval,h1,Qk,hc])))
   all_goals try (refine Qo hM rfl 0 (by simp) (by first|done|(simp only [go_sem,seval,Qj] <;> first|done|(refine ⟨?_,?_⟩ <;> omega)|omega)) (Qr (by first|done|(simp only [go_sem,seval,Qj] <;> first|done|(refine ⟨?_,?_⟩ <;> omega)|omega))) ?_;simp -implicitDefEqProofs (disch:=first|omega|(simp only [go_sem,seval];first|done|omega)) only [go_sem,seval];refine again' (k + 1) ⟨by omega,nxt (by simpa [errC,ordC, *] using hc)⟩ (by omega) rfl rfl;done)
   all_goals (first|refine pfN hM ?_ ?_|refine pf0 hM ?_ ?_)
   all_goals first|(simp only [go_sem,seval]<;>omega)|skip
   all_goals simp -implicitDefEqProofs (disch:=first|omega|(simp only [go_sem,seval];first|done|omega)) only [go_sem,seval]
   all_goals refine congrArg PV.I (fin _ (by simp [errC,ordC, *]) (by first|assumption|simpa using hc)).symm
  ·simp -implicitDefEqProofs (disch:=first|omega|(simp only [go_sem,seval,hlt];first|done|omega)) only [go_sem,seval,hlt]
   (first|refine pfN hM ?_ ?_|refine pf0 hM ?_ ?_)
   ·simp -implicitDefEqProofs (disch:=first|omega|(simp only [go_sem,seval];first|done|omega)) only [go_sem,seval]
    rw [hs,List.drop_eq_nil_of_le (by simp;omega)];rfl
   ·(simp only [go_sem,seval]<;>omega)
theorem JU (l:List Cyc) (hl:l.length ≤ 1048576):Q X 17 [.fs (l.map Qn)] (.I (Qv l)):=by
 intro M
 (refine Qe (cf:=L9.c17) rfl rfl fun hM hA => ?_;simp only [L9.c17,zO,zF,zT,zM,CX.i];rw [mk1 _ (by decide)];simp -implicitDefEqProofs (disch:=first|omega|(simp only [go_sem,seval];first|done|omega)) only [go_sem,seval])
 refine Qi ?_ ?_ <;> intro hc <;> simp only [decide_eq_true_eq,decide_eq_false_iff_not,Classical.not_not] at hc
 ·simp -implicitDefEqProofs (disch:=first|omega|(simp only [go_sem,seval];first|done|omega)) only [go_sem,seval]
  (first|refine pfN hM ?_ ?_|refine pf0 hM ?_ ?_)
  ·simp -implicitDefEqProofs (disch:=first|omega|(simp only [go_sem,seval];first|done|omega)) only [go_sem,seval]
   congr 2;simp [Qv];omega
  ·(simp only [go_sem,seval]<;>omega)
 ·simp -implicitDefEqProofs (disch:=first|omega|(simp only [go_sem,seval];first|done|omega)) only [go_sem,seval]
  have hcl:Qv l = fst0 (l.map errC):=by rw [Qv,if_neg (by omega)]
  refine Qm (α:=Nat) 0 (fun k => k ≤ l.length ∧ Qv l = fst0 ((l.map errC).drop k)) (fun k => M) (fun k => [(0,.fs (l.map Qn)),(3,.I k)]) (fun k => l.length - k) ⟨Nat.zero_le _,hcl⟩ rfl rfl ?_
  rintro k ⟨hk,hs⟩
  by_cases hlt:k < l.length
  ·obtain ⟨x,h1⟩:∃ x,l[k]? = some x:=⟨_,List.getElem?_eq_getElem hlt⟩
   have h2:=Y8 (l.map errC) k (errC x) (by simp [h1])
   have fin:∀ e:Int,e = errC x → ¬ e = 0 → Qv l = e:=by
    intro e h3 h4
    rw [h3] at h4 ⊢
    rw [hs,h2,if_neg h4]
   have nxt:errC x = 0 → Qv l = fst0 ((l.map errC).drop (k + 1)):=by
    intro h;rw [hs,h2,if_pos h]
   clear h2
   simp -implicitDefEqProofs (disch:=first|omega|(simp only [go_sem,seval,hlt,h1,Qk];first|done|omega)) only [go_sem,seval,hlt,h1,Qk]
   repeat' (first|(refine Qb (QU _ _ _ _) ?_;(try simp -implicitDefEqProofs (disch:=first|omega|(simp only [go_sem,seval,h1,Qk];first|done|omega)) only [go_sem,seval,h1,Qk]))|(refine Qb (VL _ _) ?_;(try simp -implicitDefEqProofs (disch:=first|omega|(simp only [go_sem,seval,h1,Qk];first|done|omega)) only [go_sem,seval,h1,Qk]))|(refine Qb (VE [_,_,_,_] (by simp) _) ?_;(try simp -implicitDefEqProofs (disch:=first|omega|(simp only [go_sem,seval,h1,Qk];first|done|omega)) only [go_sem,seval,h1,Qk]))|(refine Qi ?_ ?_ <;> intro hc <;> (try simp only [decide_eq_true_eq,decide_eq_false_iff_not,Classical.not_not,Bool.not_eq_true,Bool.not_eq_true',Bool.not_eq_false',Bool.false_or,Bool.or_false,Bool.true_or,Bool.or_true,Bool.false_and,Bool.and_false,Bool.true_and,Bool.and_true] at hc) <;> (try simp -implicitDefEqProofs (disch:=first|omega|(simp only [go_sem,seval,h1,Qk,hc];first|done|omega)) only [go_sem,seval,h1,Qk,hc]))|(refine QA ?_ ?_ <;> intro hc <;> (try simp only [decide_eq_true_eq,decide_eq_false_iff_not,Classical.not_not,Bool.not_eq_true,Bool.not_eq_true',Bool.not_eq_false',Bool.false_or,Bool.or_false,Bool.true_or,Bool.or_true,Bool.false_and,Bool.and_false,Bool.true_and,Bool.and_true] at hc) <;> (try simp -implicitDefEqProofs (disch:=first|omega|(simp only [go_sem,seval,h1,Qk,hc];first|done|omega)) only [go_sem,seval,h1,Qk,hc])))
   ·(first|refine pfN hM ?_ ?_|refine pf0 hM ?_ ?_)
    ·simp -implicitDefEqProofs (disch:=first|omega|(simp only [go_sem,seval];first|done|omega)) only [go_sem,seval]
     exact congrArg PV.I (fin _ (Qne hc).symm hc).symm
    ·(simp only [go_sem,seval]<;>omega)
   all_goals rename_i hc0
   ·(first|refine pfN hM ?_ ?_|refine pf0 hM ?_ ?_)
    ·simp -implicitDefEqProofs (disch:=first|omega|(simp only [go_sem,seval];first|done|omega)) only [go_sem,seval]
     exact congrArg PV.I (fin _ (by rw [QdR hc0];simp [ordC,hc]) (by decide)).symm
    ·(simp only [go_sem,seval]<;>omega)
   all_goals rename_i hc1
   ·(first|refine pfN hM ?_ ?_|refine pf0 hM ?_ ?_)
    ·simp -implicitDefEqProofs (disch:=first|omega|(simp only [go_sem,seval];first|done|omega)) only [go_sem,seval]
     exact congrArg PV.I (fin _ (by rw [QdR hc1];simp [ordC,hc]) (by decide)).symm
    ·(simp only [go_sem,seval]<;>omega)
   ·exact again' (k + 1) ⟨by omega,nxt (by rw [QdR hc1];simp [ordC,hc];omega)⟩ (by omega) rfl rfl
  ·simp -implicitDefEqProofs (disch:=first|omega|(simp only [go_sem,seval,hlt];first|done|omega)) only [go_sem,seval,hlt]
   (first|refine pfN hM ?_ ?_|refine pf0 hM ?_ ?_)
   ·simp -implicitDefEqProofs (disch:=first|omega|(simp only [go_sem,seval];first|done|omega)) only [go_sem,seval]
    rw [hs,List.drop_eq_nil_of_le (by simp;omega)];rfl
   ·(simp only [go_sem,seval]<;>omega)
theorem ZQ (x e:Int) (he:e ≤ 4611686018427387904):Q X 95 [.I x,.I e] (.I (powW x e.toNat)):=by
 intro M
 (refine Qe (cf:=L9.c95) rfl rfl fun hM hA => ?_;simp only [L9.c95,zO,zF,zT,zM,CX.i];rw [mk2 _ (by decide)];simp -implicitDefEqProofs (disch:=first|omega|(simp only [go_sem,seval];first|done|omega)) only [go_sem,seval])
 refine Qm (α:=Nat) 0 (fun k => k ≤ e.toNat) (fun k => M) (fun k => [(0,.I x),(5,.I (powW x k)),(6,.I e),(7,.I k)]) (fun k => e.toNat - k) (Nat.zero_le _) rfl rfl ?_
 intro k hk
 by_cases hlt:(k:Int) < e
 ·simp -implicitDefEqProofs (disch:=first|omega|(simp only [go_sem,seval,hlt];first|done|omega)) only [go_sem,seval,hlt]
  exact again' (k + 1) (by omega) (by omega) rfl rfl
 ·simp -implicitDefEqProofs (disch:=first|omega|(simp only [go_sem,seval,hlt];first|done|omega)) only [go_sem,seval,hlt]
  (first|refine pfN hM ?_ ?_|refine pf0 hM ?_ ?_)
  ·simp -implicitDefEqProofs (disch:=first|omega|(simp only [go_sem,seval];first|done|omega)) only [go_sem,seval]
   rw [show k = e.toNat by omega]
  ·(simp only [go_sem,seval]<;>omega)
theorem ZY (a b:Rev) (ha:QG a) (hb:QG b):Q X 91 [Qd a,Qd b] (.I (VN a b)):=by
 intro M
 unfold QG at ha hb
 (refine Qe (cf:=L9.c91) rfl rfl fun hM hA => ?_;simp only [L9.c91,zO,zF,zT,zM,CX.i];rw [mk2 _ (by decide)];simp -implicitDefEqProofs (disch:=first|omega|(simp only [go_sem,seval,VS,Qa];first|done|omega)) only [go_sem,seval,VS,Qa])
 (all_goals (first|refine pfN hM ?_ ?_|refine pf0 hM ?_ ?_);all_goals first|(simp only [go_sem,seval]<;>omega)|skip;all_goals (try simp -implicitDefEqProofs (disch:=first|omega|(simp only [go_sem,seval];first|done|omega)) only [go_sem,seval]))
 rfl
theorem Qe7 (n:Int) (hn:-4611686018427387904 ≤ n ∧ n ≤ 4611686018427387904):Q X 59 [.I n] (.I (max n (-n))):=by
 intro M
 (refine Qe (cf:=L9.c59) rfl rfl fun hM hA => ?_;simp only [L9.c59,zO,zF,zT,zM,CX.i];rw [mk1 _ (by decide)];simp -implicitDefEqProofs (disch:=first|omega|(simp only [go_sem,seval];first|done|omega)) only [go_sem,seval])
 (all_goals (first|refine pfN hM ?_ ?_|refine pf0 hM ?_ ?_);all_goals first|(simp only [go_sem,seval]<;>omega)|skip;all_goals (try simp -implicitDefEqProofs (disch:=first|omega|(simp only [go_sem,seval];first|done|omega)) only [go_sem,seval]))
theorem QaP {M:List Blk} {i v:Nat} {m:Int × Bool} {n:Int} (hi:M[i]? = some (mRow v m)) (hm:mOk m) (hn:0 ≤ n ∧ n ≤ 4611686018427387904) :
  ACall F X (.fn 94) [.op i v 0 0,.I n] M (.tup []) (M.set i (mRow v (madd m n))):=by
 unfold mRow at *
 unfold mOk at hm
 have hlt:i < M.length:=(List.getElem?_eq_some_iff.1 hi).1
 (refine Qe (cf:=L9.c94) rfl rfl fun hM hA => ?_;simp only [L9.c94,zO,zF,zT,zM,CX.i];rw [mk2 _ (by decide)];simp -implicitDefEqProofs (disch:=first|omega|(simp only [go_sem,seval,hi];first|done|omega)) only [go_sem,seval,hi])
 have hset:∀ m':Int × Bool,lowM (M.set i (.row true 2 v [.agg [.I m'.1,.B m'.2]])).length (M.set i (.row true 2 v [.agg [.I m'.1,.B m'.2]])):=by
  intro m' b hb
  rw [List.length_set]
  rcases List.mem_or_eq_of_mem_set hb with h|rfl
  ·exact hM b h
  ·(simp only [go_sem,seval]<;>omega)
 repeat' (first|(refine Qi ?_ ?_ <;> intro hc <;> (try simp only [decide_eq_true_eq,decide_eq_false_iff_not,Classical.not_not,Bool.not_eq_true,Bool.not_eq_true',Bool.not_eq_false',Bool.false_or,Bool.or_false,Bool.true_or,Bool.or_true,Bool.false_and,Bool.and_false,Bool.true_and,Bool.and_true] at hc) <;> (try simp -implicitDefEqProofs (disch:=first|omega|(simp only [go_sem,seval,hi,hc];first|done|omega)) only [go_sem,seval,hi,hc]))|(refine QA ?_ ?_ <;> intro hc <;> (try simp only [decide_eq_true_eq,decide_eq_false_iff_not,Classical.not_not,Bool.not_eq_true,Bool.not_eq_true',Bool.not_eq_false',Bool.false_or,Bool.or_false,Bool.true_or,Bool.or_true,Bool.false_and,Bool.and_false,Bool.true_and,Bool.and_true] at hc) <;> (try simp -implicitDefEqProofs (disch:=first|omega|(simp only [go_sem,seval,hi,hc];first|done|omega)) only [go_sem,seval,hi,hc])))
 ·have e:madd m n = (m.1,true):=by simp [madd,hc]
  rw [e]
  refine Vr J6 (hset (m.1,true)) (by simp) ?_ ?_
  ·simp -implicitDefEqProofs (disch:=first|omega|(simp only [go_sem,seval];first|done|omega)) only [go_sem,seval]
   rfl
  ·(simp only [go_sem,seval]<;>omega)
 ·have e:madd m n = (m.1,true):=by simp [madd,hc]
  rw [e]
  refine Vr J6 (hset (m.1,true)) (by simp) ?_ ?_
  ·simp -implicitDefEqProofs (disch:=first|omega|(simp only [go_sem,seval];first|done|omega)) only [go_sem,seval]
   rfl
  ·(simp only [go_sem,seval]<;>omega)
 ·rename_i hf
  have e:madd m n = (m.1 + n,false):=by simp [madd,hc,hf]
  rw [e,hf]
  refine Vr ZD (hset (m.1 + n,false)) (by simp) ?_ ?_
  ·simp -implicitDefEqProofs (disch:=first|omega|(simp only [go_sem,seval];first|done|omega)) only [go_sem,seval]
   rfl
  ·(simp only [go_sem,seval]<;>omega)
theorem QaN {M N:List Blk} {i:Nat} {b:Blk} (h:i < M.length):(M.set i b ++ N)[i]? = some b:=by
 rw [List.getElem?_append_left (by simpa using h),List.getElem?_set_self h]
theorem QaE {M N:List Blk} {i:Nat} {b c:Blk} (h:i < M.length):(M.set i b ++ N).set i c = M.set i c ++ N:=by
 rw [List.set_append_left _ _ (by simpa using h),List.set_set]
theorem Ya {M:List Blk} {i v:Nat} {m:Int × Bool} (hi:M[i]? = some (mRow v m)) :
  ACall F X (.fn 69) [.op i v 0 0] M (.tup [.I (mres m).1,.I (mres m).2]) M:=by
 unfold mRow at *
 (refine Qe (cf:=L9.c69) rfl rfl fun hM hA => ?_;simp only [L9.c69,zO,zF,zT,zM,CX.i];rw [mk1 _ (by decide)];simp -implicitDefEqProofs (disch:=first|omega|(simp only [go_sem,seval,hi];first|done|omega)) only [go_sem,seval,hi])
 repeat' (first|(refine Qi ?_ ?_ <;> intro hc <;> (try simp only [decide_eq_true_eq,decide_eq_false_iff_not,Classical.not_not,Bool.not_eq_true,Bool.not_eq_true',Bool.not_eq_false',Bool.false_or,Bool.or_false,Bool.true_or,Bool.or_true,Bool.false_and,Bool.and_false,Bool.true_and,Bool.and_true] at hc) <;> (try simp -implicitDefEqProofs (disch:=first|omega|(simp only [go_sem,seval,hi,hc];first|done|omega)) only [go_sem,seval,hi,hc]))|(refine QA ?_ ?_ <;> intro hc <;> (try simp only [decide_eq_true_eq,decide_eq_false_iff_not,Classical.not_not,Bool.not_eq_true,Bool.not_eq_true',Bool.not_eq_false',Bool.false_or,Bool.or_false,Bool.true_or,Bool.or_true,Bool.false_and,Bool.and_false,Bool.true_and,Bool.and_true] at hc) <;> (try simp -implicitDefEqProofs (disch:=first|omega|(simp only [go_sem,seval,hi,hc];first|done|omega)) only [go_sem,seval,hi,hc])))
 ·(first|refine pfN hM ?_ ?_|refine pf0 hM ?_ ?_)
  ·simp -implicitDefEqProofs (disch:=first|omega|(simp only [go_sem,seval];first|done|omega)) only [go_sem,seval]
   simp [mres,hc]
  ·(simp only [go_sem,seval]<;>omega)
 ·(first|refine pfN hM ?_ ?_|refine pf0 hM ?_ ?_)
  ·simp -implicitDefEqProofs (disch:=first|omega|(simp only [go_sem,seval];first|done|omega)) only [go_sem,seval]
   simp [mres,hc]
  ·(simp only [go_sem,seval]<;>omega)
theorem QeF {l:List Cyc} {k:Nat} {x:Cyc} (e times:Int) (m:Int × Bool) (h:l[k]? = some x):Vl e times m (l.take (k + 1)) = madd (Vl e times m (l.take k)) (times * powW (x.hi - x.lo) e.toNat):=by
 obtain ⟨h1,h2⟩:=List.getElem?_eq_some_iff.1 h
 unfold Vl
 rw [List.take_succ_eq_append_getElem h1,h2,List.foldl_append];rfl
theorem Jy {M:List Blk} {i v:Nat} {m:Int × Bool} {l:List Cyc} {e times:Int} (hi:M[i]? = some (mRow v m)) (hm:mOk m) (hl:l.length ≤ 1048576) (hs:∀ c ∈ l,VG c) (he:1 ≤ e ∧ e ≤ 3) (ht:0 ≤ times ∧ times ≤ 2) :
  ACall F X (.fn 68) [.op i v 0 0,.fs (l.map Qn),.I e,.I times] M (.tup []) (M.set i (mRow v (Vl e times m l))):=by
 have hlt:i < M.length:=(List.getElem?_eq_some_iff.1 hi).1
 (refine Qe (cf:=L9.c68) rfl rfl fun hM hA => ?_;simp only [L9.c68,zO,zF,zT,zM,CX.i];rw [mk4 _ (by decide)];simp -implicitDefEqProofs (disch:=first|omega|(simp only [go_sem,seval];first|done|omega)) only [go_sem,seval])
 have hset:∀ m':Int × Bool,lowM (M.set i (mRow v m')).length (M.set i (mRow v m')):=by
  intro m' b hb
  rw [List.length_set]
  rcases List.mem_or_eq_of_mem_set hb with h|rfl
  ·exact hM b h
  ·unfold mRow;(simp only [go_sem,seval]<;>omega)
 refine Qm (α:=Nat) 0 (fun k => k ≤ l.length ∧ mOk (Vl e times m (l.take k))) (fun k => M.set i (mRow v (Vl e times m (l.take k)))) (fun k => [(0,.op i v 0 0),(2,.I e),(3,.I times),(10,.fs (l.map Qn)),(11,.I l.length),(12,.I k)]) (fun k => l.length - k) ⟨Nat.zero_le _,hm⟩ ?_ rfl ?_
 ·simp only [List.take_zero,Vl,List.foldl_nil]
  apply List.ext_getElem?
  intro j
  by_cases e:j = i
  ·subst e;rw [List.getElem?_set_self hlt];exact hi
  ·rw [List.getElem?_set_ne (Ne.symm e)]
 rintro k ⟨hk,hmk⟩
 by_cases hlt2:k < l.length
 ·obtain ⟨x,h1⟩:∃ x,l[k]? = some x:=⟨_,List.getElem?_eq_getElem hlt2⟩
  have hsn:=QeF e times m h1
  have hx:=hs x (List.mem_of_getElem? h1)
  unfold VG at hx
  have hp:=Qbn he hx.1 hx.2.1
  generalize Vl e times m (l.take k) = mk at hsn hmk ⊢
  generalize hpw:powW (x.hi - x.lo) e.toNat = pw at hp hsn
  simp -implicitDefEqProofs (disch:=first|omega|(simp only [go_sem,seval,hlt2,h1,Qk];first|done|omega)) only [go_sem,seval,hlt2,h1,Qk]
  refine Qb (ZQ _ _ (by omega) _) ?_
  rw [hpw]
  have hm2:0 ≤ times * pw ∧ times * pw ≤ 2 * 281474976710656:=⟨Int.mul_nonneg ht.1 hp.1,Int.mul_le_mul ht.2 hp.2 hp.1 (by omega)⟩
  simp -implicitDefEqProofs (disch:=first|omega|(simp only [go_sem,seval];first|done|omega)) only [go_sem,seval]
  refine V7 (QaP (QaN hlt) hmk (by omega)) ?_
  rw [QaE hlt]
  simp -implicitDefEqProofs (disch:=first|omega|(simp only [go_sem,seval];first|done|omega)) only [go_sem,seval]
  refine Qo (hset _) (by simp) 0 (by simp) YQ (Qr ?_) ?_
  ·have:i < (M.set i (mRow v (madd mk (times * pw)))).length + 0:=by simpa using hlt
   simp only [go_sem,seval,Qj]
   simpa using hlt
  ·simp -implicitDefEqProofs (disch:=first|omega|(simp only [go_sem,seval];first|done|omega)) only [go_sem,seval]
   exact again' (k + 1) ⟨by omega,by rw [hsn];exact Qas hmk hm2.1⟩ (by omega) (by rw [hsn]) rfl
 ·simp -implicitDefEqProofs (disch:=first|omega|(simp only [go_sem,seval,hlt2];first|done|omega)) only [go_sem,seval,hlt2]
  rw [List.take_of_length_le (by omega)]
  refine Vr ZD (hset _) (by simp) ?_ ?_
  ·simp -implicitDefEqProofs (disch:=first|omega|(simp only [go_sem,seval];first|done|omega)) only [go_sem,seval]
   rfl
  ·(simp only [go_sem,seval]<;>omega)
def hd (e:Int) (m:Int × Bool) (l:List Rev) (k:Nat):Int × Bool:=((halfs l).take k).foldl (fun m x => madd m (powW x e.toNat)) m
theorem Qlr {l:List Rev} {k:Nat} {p q:Rev} (e:Int) (m:Int × Bool) (h:l[k]? = some p) (h':l[k + 1]? = some q):hd e m l (k + 1) = madd (hd e m l k) (powW (VN p q) e.toNat):=by
 obtain ⟨h1,h2⟩:=List.getElem?_eq_some_iff.1 (QcC l k p q h h')
 unfold hd
 rw [List.take_succ_eq_append_getElem h1,h2,List.foldl_append];rfl
theorem Qj1 {p q:Rev} (hp:QG p) (hq:QG q):0 ≤ VN p q ∧ VN p q ≤ 65536:=by unfold QG at hp hq;unfold VN;omega
theorem Jx {M:List Blk} {i v:Nat} {m:Int × Bool} {l:List Rev} {e:Int} (hi:M[i]? = some (mRow v m)) (hm:mOk m) (hl:l.length ≤ 1048576) (hs:∀ c ∈ l,QG c) (he:1 ≤ e ∧ e ≤ 3) :
  ACall F X (.fn 70) [.op i v 0 0,.fs (l.map Qd),.I e] M (.tup []) (M.set i (mRow v (V5 e m l))):=by
 have hlt:i < M.length:=(List.getElem?_eq_some_iff.1 hi).1
 have hself:M.set i (mRow v m) = M:=by
  apply List.ext_getElem?
  intro j
  by_cases e:j = i
  ·subst e;rw [List.getElem?_set_self hlt];exact hi.symm
  ·rw [List.getElem?_set_ne (Ne.symm e)]
 cases l with
 | nil =>
  simp only [V5,halfs,List.foldl_nil]
  rw [hself]
  (refine Qe (cf:=L9.c70) rfl rfl fun hM hA => ?_;simp only [L9.c70,zO,zF,zT,zM,CX.i];rw [mk3 _ (by decide)];simp -implicitDefEqProofs (disch:=first|omega|(simp only [go_sem,seval];first|done|omega)) only [go_sem,seval])
  refine Qm (α:=Unit) () (fun _ => True) (fun _ => M) (fun _ => [(0,.op i v 0 0),(1,.fs []),(2,.I e),(12,.fs []),(13,.I 0),(14,.I 0)]) (fun _ => 0) trivial rfl rfl ?_
  intro _ _
  simp -implicitDefEqProofs (disch:=first|omega|(simp only [go_sem,seval,Int.lt_irrefl];first|done|omega)) only [go_sem,seval,Int.lt_irrefl]
  refine Vr ZD hM rfl ?_ ?_
  ·simp -implicitDefEqProofs (disch:=first|omega|(simp only [go_sem,seval];first|done|omega)) only [go_sem,seval]
   rfl
  ·(simp only [go_sem,seval]<;>omega)
 | cons a r =>
  have hl':r.length ≤ 1048576:=by simp at hl;omega
  have hsz:sized 2 (Qd a :: r.map Qd) = true:=Qac (a :: r)
  have htk:List.take r.length (r.map Qd) = r.map Qd:=List.take_of_length_le (by simp)
  have hmin:min (1:Int) ((r.length + 1:Nat):Int) = 1:=by omega
  have hset:lowM M.length M → ∀ m':Int × Bool,lowM (M.set i (mRow v m')).length (M.set i (mRow v m')):=by
   intro hM m' b hb
   rw [List.length_set]
   rcases List.mem_or_eq_of_mem_set hb with h|rfl
   ·exact hM b h
   ·unfold mRow;(simp only [go_sem,seval]<;>omega)
  (refine Qe (cf:=L9.c70) rfl rfl fun hM hA => ?_;simp only [L9.c70,zO,zF,zT,zM,CX.i];rw [mk3 _ (by decide)];simp -implicitDefEqProofs (disch:=first|omega|(simp only [go_sem,seval,hsz,htk,hmin];first|done|omega)) only [go_sem,seval,hsz,htk,hmin])
  have hset:=hset hM
  have hsR:∀ c ∈ a :: r,QG c:=hs
  refine Qm (α:=Nat) 0 (fun k => k ≤ r.length ∧ mOk (hd e m (a :: r) k)) (fun k => M.set i (mRow v (hd e m (a :: r) k))) (fun k => [(0,.op i v 0 0),(1,.fs (Qd a :: r.map Qd)),(2,.I e),(12,.fs (r.map Qd)),(13,.I r.length),(14,.I k)]) (fun k => r.length - k) ⟨Nat.zero_le _,hm⟩ hself.symm rfl ?_
  rintro k ⟨hk,hmk⟩
  by_cases hlt2:k < r.length
  ·obtain ⟨q,h1⟩:∃ x,r[k]? = some x:=⟨_,List.getElem?_eq_getElem hlt2⟩
   obtain ⟨p,h2⟩:∃ x,(a :: r)[k]? = some x:=⟨_,List.getElem?_eq_getElem (by simp;omega)⟩
   have h2':(Qd a :: r.map Qd)[k]? = some (Qd p):=by rw [← List.map_cons,List.getElem?_map,h2];rfl
   have hsn:=Qlr e m h2 (show (a :: r)[k + 1]? = some q from h1)
   have hp:=hsR p (List.mem_of_getElem? h2)
   have hq:=hsR q (List.mem_cons_of_mem _ (List.mem_of_getElem? h1))
   have hap:=Qj1 hp hq
   have hpw:=Qbn he hap.1 hap.2
   generalize hd e m (a :: r) k = mk at hsn hmk ⊢
   simp -implicitDefEqProofs (disch:=first|omega|(simp only [go_sem,seval,hlt2,h1,h2',Qa];first|done|omega)) only [go_sem,seval,hlt2,h1,h2',Qa]
   refine Qb (ZY p q hp hq _) ?_
   simp -implicitDefEqProofs (disch:=first|omega|(simp only [go_sem,seval];first|done|omega)) only [go_sem,seval]
   refine Qb (ZQ _ _ (by omega) _) ?_
   simp -implicitDefEqProofs (disch:=first|omega|(simp only [go_sem,seval];first|done|omega)) only [go_sem,seval]
   refine V7 (QaP (QaN hlt) hmk (by omega)) ?_
   rw [QaE hlt]
   simp -implicitDefEqProofs (disch:=first|omega|(simp only [go_sem,seval];first|done|omega)) only [go_sem,seval]
   refine Qo (hset _) (by simp) 0 (by simp) YQ (Qr ?_) ?_
   ·have:i < (M.set i (mRow v (madd mk (powW (VN p q) e.toNat)))).length + 0:=by simpa using hlt
    simp only [go_sem,seval,Qf]
    simpa using hlt
   ·simp -implicitDefEqProofs (disch:=first|omega|(simp only [go_sem,seval];first|done|omega)) only [go_sem,seval]
    exact again' (k + 1) ⟨by omega,by rw [hsn];exact Qas hmk hpw.1⟩ (by omega) (by rw [hsn]) rfl
  ·simp -implicitDefEqProofs (disch:=first|omega|(simp only [go_sem,seval,hlt2];first|done|omega)) only [go_sem,seval,hlt2]
   have e1:hd e m (a :: r) k = V5 e m (a :: r):=by
    unfold hd V5
    rw [List.take_of_length_le (by rw [Qco];simp;omega)]
   rw [e1]
   refine Vr ZD (hset _) (by simp) ?_ ?_
   ·simp -implicitDefEqProofs (disch:=first|omega|(simp only [go_sem,seval];first|done|omega)) only [go_sem,seval]
    rfl
   ·(simp only [go_sem,seval]<;>omega)
theorem QhP {l:List Cyc} (h:Qv l = 0):∀ c ∈ l,VG c:=fun c hc => by
 have:=(Z1.1 h).2 c hc
 unfold goodC at this;unfold VG;omega
theorem ZH {l:List Rev} (h:Qt l = 0):∀ c ∈ l,QG c:=fun c hc => by
 have:=Vm _ _ _ (VA.1 h).2 c hc
 exact this.2
theorem JQ (l:List Cyc) (e:Int) (hl:l.length ≤ 1048576):Q X 32 [.fs (l.map Qn),.I e] (.tup [.I (Vc l e).1,.I (Vc l e).2]):=by
 intro M
 (refine Qe (cf:=L9.c32) rfl rfl fun hM hA => ?_;simp only [L9.c32,zO,zF,zT,zM,CX.i];rw [mk2 _ (by decide)];simp -implicitDefEqProofs (disch:=first|omega|(simp only [go_sem,seval];first|done|omega)) only [go_sem,seval])
 refine Qb (Qx l hl _) ?_
 simp -implicitDefEqProofs (disch:=first|omega|(simp only [go_sem,seval];first|done|omega)) only [go_sem,seval]
 repeat' (first|(refine Qb (Vn _ _) ?_;(try simp -implicitDefEqProofs (disch:=first|omega|(simp only [go_sem,seval];first|done|omega)) only [go_sem,seval]))|(refine Qb (QI [_,_] (by simp) _) ?_;(try simp -implicitDefEqProofs (disch:=first|omega|(simp only [go_sem,seval];first|done|omega)) only [go_sem,seval]))|(refine Qi ?_ ?_ <;> intro hc <;> (try simp only [decide_eq_true_eq,decide_eq_false_iff_not,Classical.not_not,Bool.not_eq_true,Bool.not_eq_true',Bool.not_eq_false',Bool.false_or,Bool.or_false,Bool.true_or,Bool.or_true,Bool.false_and,Bool.and_false,Bool.true_and,Bool.and_true] at hc) <;> (try simp -implicitDefEqProofs (disch:=first|omega|(simp only [go_sem,seval,hc];first|done|omega)) only [go_sem,seval,hc]))|(refine QA ?_ ?_ <;> intro hc <;> (try simp only [decide_eq_true_eq,decide_eq_false_iff_not,Classical.not_not,Bool.not_eq_true,Bool.not_eq_true',Bool.not_eq_false',Bool.false_or,Bool.or_false,Bool.true_or,Bool.or_true,Bool.false_and,Bool.and_false,Bool.true_and,Bool.and_true] at hc) <;> (try simp -implicitDefEqProofs (disch:=first|omega|(simp only [go_sem,seval,hc];first|done|omega)) only [go_sem,seval,hc])))
 ·(first|refine pfN hM ?_ ?_|refine pf0 hM ?_ ?_)
  ·simp -implicitDefEqProofs (disch:=first|omega|(simp only [go_sem,seval];first|done|omega)) only [go_sem,seval]
   simp [Vc,hc]
  ·(simp only [go_sem,seval]<;>omega)
 ·have he:=QY hc
  have hr:=Q8.1 he.2
  have hself:(M ++ [mRow 0 (0,false)])[M.length]? = some (mRow 0 (0,false)):=by rw [getM0];rfl
  refine V7 (Jy hself ⟨by decide,by decide⟩ hl (QhP he.1) hr (by omega)) ?_
  rw [setM0]
  simp -implicitDefEqProofs (disch:=first|omega|(simp only [go_sem,seval];first|done|omega)) only [go_sem,seval]
  refine Qb (Ya (m:=Vl e 1 (0,false) l) (v:=0) (by rw [getM0];rfl)) ?_
  simp -implicitDefEqProofs (disch:=first|omega|(simp only [go_sem,seval];first|done|omega)) only [go_sem,seval]
  (first|refine pfN hM ?_ ?_|refine pf0 hM ?_ ?_)
  ·simp -implicitDefEqProofs (disch:=first|omega|(simp only [go_sem,seval];first|done|omega)) only [go_sem,seval]
   simp [Vc,hc]
  ·(simp only [go_sem,seval]<;>omega)
theorem Qex (l:List Rev) (e:Int) (hl:l.length ≤ 1048576):Q X 33 [.fs (l.map Qd),.I e] (.tup [.I (Jn l e).1,.I (Jn l e).2]):=by
 intro M
 (refine Qe (cf:=L9.c33) rfl rfl fun hM hA => ?_;simp only [L9.c33,zO,zF,zT,zM,CX.i];rw [mk2 _ (by decide)];simp -implicitDefEqProofs (disch:=first|omega|(simp only [go_sem,seval];first|done|omega)) only [go_sem,seval])
 refine Qb (QS l hl _) ?_
 simp -implicitDefEqProofs (disch:=first|omega|(simp only [go_sem,seval];first|done|omega)) only [go_sem,seval]
 repeat' (first|(refine Qb (Vn _ _) ?_;(try simp -implicitDefEqProofs (disch:=first|omega|(simp only [go_sem,seval];first|done|omega)) only [go_sem,seval]))|(refine Qb (QI [_,_] (by simp) _) ?_;(try simp -implicitDefEqProofs (disch:=first|omega|(simp only [go_sem,seval];first|done|omega)) only [go_sem,seval]))|(refine Qi ?_ ?_ <;> intro hc <;> (try simp only [decide_eq_true_eq,decide_eq_false_iff_not,Classical.not_not,Bool.not_eq_true,Bool.not_eq_true',Bool.not_eq_false',Bool.false_or,Bool.or_false,Bool.true_or,Bool.or_true,Bool.false_and,Bool.and_false,Bool.true_and,Bool.and_true] at hc) <;> (try simp -implicitDefEqProofs (disch:=first|omega|(simp only [go_sem,seval,hc];first|done|omega)) only [go_sem,seval,hc]))|(refine QA ?_ ?_ <;> intro hc <;> (try simp only [decide_eq_true_eq,decide_eq_false_iff_not,Classical.not_not,Bool.not_eq_true,Bool.not_eq_true',Bool.not_eq_false',Bool.false_or,Bool.or_false,Bool.true_or,Bool.or_true,Bool.false_and,Bool.and_false,Bool.true_and,Bool.and_true] at hc) <;> (try simp -implicitDefEqProofs (disch:=first|omega|(simp only [go_sem,seval,hc];first|done|omega)) only [go_sem,seval,hc])))
 ·(first|refine pfN hM ?_ ?_|refine pf0 hM ?_ ?_)
  ·simp -implicitDefEqProofs (disch:=first|omega|(simp only [go_sem,seval];first|done|omega)) only [go_sem,seval]
   simp [Jn,hc]
  ·(simp only [go_sem,seval]<;>omega)
 ·have he:=QY hc
  have hr:=Q8.1 he.2
  have hself:(M ++ [mRow 0 (0,false)])[M.length]? = some (mRow 0 (0,false)):=by rw [getM0];rfl
  refine V7 (Jx hself ⟨by decide,by decide⟩ hl (ZH he.1) hr) ?_
  rw [setM0]
  simp -implicitDefEqProofs (disch:=first|omega|(simp only [go_sem,seval];first|done|omega)) only [go_sem,seval]
  refine Qb (Ya (m:=V5 e (0,false) l) (v:=0) (by rw [getM0];rfl)) ?_
  simp -implicitDefEqProofs (disch:=first|omega|(simp only [go_sem,seval];first|done|omega)) only [go_sem,seval]
  (first|refine pfN hM ?_ ?_|refine pf0 hM ?_ ?_)
  ·simp -implicitDefEqProofs (disch:=first|omega|(simp only [go_sem,seval];first|done|omega)) only [go_sem,seval]
   simp [Jn,hc]
  ·(simp only [go_sem,seval]<;>omega)
theorem Qf6 {l:List Rev} {k:Nat} (h:∀ c ∈ l,QG c):∀ c ∈ (QD (l.take k)).2,QG c:=fun c hc => h c (List.mem_of_mem_take (Qaj _ c hc))
end
end Go.Nac.L9
