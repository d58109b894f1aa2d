/- The equations by which plain code runs, as one set. -/
import Derived.Test.YtbmicihfhfcpkaaGreatDoorW06
namespace Go.Nac
attribute [go_sem] Qoa Qhq Qlg Qma Qmi Qoy QmN QmT Qln Qjr Qiu Qd3 Qgk QhX Qgj Qc4 Qfm QgX Qfn Qc9
attribute [go_sem] QeP QgB r_mov Qoh QlS QoN r_bin QoS r_eqs r_un Qol r_len QoK r_max r_min r_ext Qmc Qn0 Qpe Qmx QoR Qo9 Qo1 QnS Qm9 QnH QjD
attribute [go_sem] Qn7 QoT Qnj QmS r_box r_bsl Qnv Qob Qj4 Qm6 QmX Qos QoJ Qmb Qnl Qmn Qo7 Qk4 ev_mk ev_k ev_f QlQ QoQ Qmu Qi4 QbC
attribute [go_sem] List.map_cons List.map_nil Option.map_some Option.map_none QlO gK_tt gK_ff gK_tf gK_ft Ql9 QoL cK_t cK_f Qf7 QjI Qj7 Qhy Qm1 Qms Qnf QmE
attribute [go_sem] QmV Qme Ql1 Qmq Ql2 QlE QlA Qnu Qkc QjU Qpf Qpu QkH QlI Qna Qjk Qi7 QiS Qkg Qi1 Qgr Qlu Qkl
attribute [go_sem] QhB QnA Qjn Qjs Qjl QkT Qkw QjM Qjq Qix Qk8 QjO Qnd Qmg QnP QnE QhI QcG Qhs Qf4 Qhi Qhz
attribute [go_sem] QeC Qkr Qm7 Qef QmM Qg5 Qh1 Qf8 QiO Qhh QhS QfY Qii Qj2 Qlc Qld Qgz QeQ Ql7 Qlb
attribute [go_sem] Qcj QhV Qgd Qlj Qhw QkJ QkF QmL QnK QnT Qne QlX QlV Qjm Qkk Qj6 Qho QgL QiV QhC QkI QfU
attribute [go_sem] QjJ QgP QiE Qop QoE Qpb QdO Qdx Qdd Qkj Qes Qij Qiw QkE QiY Qlo QkY Qlz QjQ QlW
attribute [go_sem] Qk1 QiG Qjx Qmd QkM QfJ Qmh QgK QiW QgV Qgu Qgo Qno Qel Qeq Qi8 getM0 getMj setM0 setMj List.getElem?_cons_zero
attribute [go_sem] List.getElem?_cons_succ List.set_cons_zero List.set_cons_succ List.append_assoc List.cons_append List.nil_append List.length_append List.length_cons List.length_nil List.length_map List.getElem?_map
attribute [go_sem] List.all_cons List.all_nil Bool.and_true Bool.true_and Bool.and_self List.take_succ_cons List.take_zero List.drop_succ_cons List.drop_zero Option.getD_none Option.getD_some Option.bind_some
attribute [go_sem] Option.bind_none Option.map_map decide_eq_true_eq decide_true decide_false Bool.false_eq_true if_true if_false Int.natCast_nonneg Int.toNat_natCast Nat.zero_add Nat.add_zero eq_self beq_self_eq_true
attribute [go_sem] List.getElem?_nil Qmm QZ setRange ne_eq not_true not_false_eq_true and_true true_and and_self List.map_map Function.comp_def Qd0 Int.ofNat_lt Int.natCast_inj QjH Qlv QkL
attribute [go_sem] Nat.add_assoc List.flatMap_cons List.flatMap_nil List.append_nil decide_eq_false_iff_not Classical.not_not Bool.not_eq_true Bool.not_true Bool.not_false Bool.true_eq_false Option.some.injEq Int.sub_zero
attribute [go_sem] Int.add_zero Int.zero_sub Int.zero_add Bool.decide_eq_true Bool.not_not Bool.false_or Bool.or_false Bool.true_or Bool.or_true Bool.false_and Bool.and_false Bool.or_self Bool.or_eq_true
attribute [go_sem] Bool.or_eq_false_iff Bool.and_eq_true Bool.and_eq_false_iff QiZ QeL QeH QeR Qeo Qla QiF QkV Qot QiQ Qny Qlp Qll Qcw
attribute [go_sem] Qj3 Qh8 QgS QiP Qkz Qkn Qlm QjY Nat.le_refl Nat.zero_le Nat.sub_zero Nat.sub_self Nat.add_sub_cancel natZ natO min10 Nat.le_add_left List.take_nil
attribute [go_sem] Qng QhA r_sop Qo3 Qo4 Qlx Qkb QgY QgW QkA Qm0 Qfp QhF QgR Qk5 QgJ Qj1 QnB Qev QiR QgH QjN Qgp Qnt QmO Qpg QgZ
attribute [go_sem] List.drop_nil dK_eq d_op d_nil Ql6 QeD Qly QlN Qnm Qns QnO Qm4 Qpl fpOp Qi5 QeT Qey Nat.add_sub_add_left d_bsl QjZ QoH
attribute [go_sem] Qhk QdM List.length_reverse Qhl Qgh Qf1 Qgt Qks QjX Nat.zero_mul Nat.one_mul Int.cast_ofNat_Int Int.lt_irrefl List.length_replicate Nat.le_add_right
attribute [go_sem] List.length_take List.length_drop QhZ QiK Qf3 Qhm Qjy Qlr low_s QlU QlC Qn5 Qov Qn2 Qoo Qn3 QoC Ql4 Qki Qik
attribute [go_sem] Nat.lt_add_right_iff_pos Nat.lt_succ_self Nat.lt_add_one Nat.add_lt_add_iff_left Nat.zero_lt_succ Nat.lt_irrefl Qhc implies_true QM Qfd QdP Qff Qe2 Qn4
attribute [go_sem] ev_g QoZ Qnc QgA QgM r_b2s Qmz QnL Qj9 QhJ Qe0 QjP r_s2b QjT QlP QoW Qkd Qjt Qk3 QoP QlF QjK Qmk J7 Qir Qfk Qi6 Qj5 Qka Qil Qiz QkK QmP Qeu
attribute [go_sem] Qjo Qpm Qjz r_usd Qjv Qm2 QnY Qh4 Qky Qip QoX Qhu Qkf Qfq QmR Qg9 Qgl isS_s r_clr QlH Qj0 QmZ Qjp QnN QjB QkQ QjL Qk7 QmJ Qnq Qjg Qmy QlB Qn9 Qn1 QmI Qg8 Qiy Qml QhR Qi9
end Go.Nac
set_option linter.unusedSimpArgs false
set_option linter.unusedVariables false
set_option linter.unnecessarySimpa false
set_option maxRecDepth 10000
namespace Go.Nac.L7
attribute [local congr] Qa8 YZ Qbf Jn Jf YU Qbc QaZ
section
variable {X:XRel}
abbrev Q (X:XRel) (f:FuncId) (args:List PV) (r:PV):Prop:=∀ M,ACall F X (.fn f) args M r M
theorem Vj (b:Bool) (e:Int):Q X 52 [.B b,.I e] (.I (if b = true then e else 0)):=by
 intro M
 (refine Qd (cf:=L7.c52) rfl rfl fun hM hA => ?_;simp only [L7.c52,zO,zF,zT,zM,CX.i];rw [mk2 _ (by decide)];simp -implicitDefEqProofs (disch:=first|omega|(simp only [go_sem,seval];first|done|omega)) only [go_sem,seval])
 repeat' (first|(refine Qg ?_ ?_ <;> intro hc <;> (try simp only [decide_eq_true_eq,decide_eq_false_iff_not,Classical.not_not,Bool.not_eq_true,Bool.not_eq_true',Bool.not_eq_false',Bool.false_or,Bool.or_false,Bool.true_or,Bool.or_true,Bool.false_and,Bool.and_false,Bool.true_and,Bool.and_true] at hc) <;> (try simp -implicitDefEqProofs (disch:=first|omega|(simp only [go_sem,seval,hc];first|done|omega)) only [go_sem,seval,hc]))|(refine Qq ?_ ?_ <;> intro hc <;> (try simp only [decide_eq_true_eq,decide_eq_false_iff_not,Classical.not_not,Bool.not_eq_true,Bool.not_eq_true',Bool.not_eq_false',Bool.false_or,Bool.or_false,Bool.true_or,Bool.or_true,Bool.false_and,Bool.and_false,Bool.true_and,Bool.and_true] at hc) <;> (try simp -implicitDefEqProofs (disch:=first|omega|(simp only [go_sem,seval,hc];first|done|omega)) only [go_sem,seval,hc])))
 (all_goals (first|refine pfN hM ?_ ?_|refine pf0 hM ?_ ?_);all_goals first|(simp only [go_sem,seval]<;>omega)|skip;all_goals (try simp -implicitDefEqProofs (disch:=first|omega|(simp only [go_sem,seval];first|done|omega)) only [go_sem,seval]))
theorem Va (n a b:Int):Q X 60 [.I n,.I a,.I b] (.I (rng n a b)):=by
 intro M
 (refine Qd (cf:=L7.c60) rfl rfl fun hM hA => ?_;simp only [L7.c60,zO,zF,zT,zM,CX.i];rw [mk3 _ (by decide)];simp -implicitDefEqProofs (disch:=first|omega|(simp only [go_sem,seval];first|done|omega)) only [go_sem,seval])
 repeat' (first|(refine Qb (Vj _ _ _) ?_;(try simp -implicitDefEqProofs (disch:=first|omega|(simp only [go_sem,seval];first|done|omega)) only [go_sem,seval]))|(refine Qg ?_ ?_ <;> intro hc <;> (try simp only [decide_eq_true_eq,decide_eq_false_iff_not,Classical.not_not,Bool.not_eq_true,Bool.not_eq_true',Bool.not_eq_false',Bool.false_or,Bool.or_false,Bool.true_or,Bool.or_true,Bool.false_and,Bool.and_false,Bool.true_and,Bool.and_true] at hc) <;> (try simp -implicitDefEqProofs (disch:=first|omega|(simp only [go_sem,seval,hc];first|done|omega)) only [go_sem,seval,hc]))|(refine Qq ?_ ?_ <;> intro hc <;> (try simp only [decide_eq_true_eq,decide_eq_false_iff_not,Classical.not_not,Bool.not_eq_true,Bool.not_eq_true',Bool.not_eq_false',Bool.false_or,Bool.or_false,Bool.true_or,Bool.or_true,Bool.false_and,Bool.and_false,Bool.true_and,Bool.and_true] at hc) <;> (try simp -implicitDefEqProofs (disch:=first|omega|(simp only [go_sem,seval,hc];first|done|omega)) only [go_sem,seval,hc])))
 (all_goals (first|refine pfN hM ?_ ?_|refine pf0 hM ?_ ?_);all_goals first|(simp only [go_sem,seval]<;>omega)|skip;all_goals (try simp -implicitDefEqProofs (disch:=first|omega|(simp only [go_sem,seval];first|done|omega)) only [go_sem,seval]))
 all_goals simp [rng, *]
theorem VA (n a b:Int):Q X 39 [.I n,.I a,.I b] (.I (rng n a b)):=by
 intro M
 (refine Qd (cf:=L7.c39) rfl rfl fun hM hA => ?_;simp only [L7.c39,zO,zF,zT,zM,CX.i];rw [mk3 _ (by decide)];simp -implicitDefEqProofs (disch:=first|omega|(simp only [go_sem,seval];first|done|omega)) only [go_sem,seval])
 repeat' (first|(refine Qg ?_ ?_ <;> intro hc <;> (try simp only [decide_eq_true_eq,decide_eq_false_iff_not,Classical.not_not,Bool.not_eq_true,Bool.not_eq_true',Bool.not_eq_false',Bool.false_or,Bool.or_false,Bool.true_or,Bool.or_true,Bool.false_and,Bool.and_false,Bool.true_and,Bool.and_true] at hc) <;> (try simp -implicitDefEqProofs (disch:=first|omega|(simp only [go_sem,seval,hc];first|done|omega)) only [go_sem,seval,hc]))|(refine Qq ?_ ?_ <;> intro hc <;> (try simp only [decide_eq_true_eq,decide_eq_false_iff_not,Classical.not_not,Bool.not_eq_true,Bool.not_eq_true',Bool.not_eq_false',Bool.false_or,Bool.or_false,Bool.true_or,Bool.or_true,Bool.false_and,Bool.and_false,Bool.true_and,Bool.and_true] at hc) <;> (try simp -implicitDefEqProofs (disch:=first|omega|(simp only [go_sem,seval,hc];first|done|omega)) only [go_sem,seval,hc])))
 (all_goals (first|refine pfN hM ?_ ?_|refine pf0 hM ?_ ?_);all_goals first|(simp only [go_sem,seval]<;>omega)|skip;all_goals (try simp -implicitDefEqProofs (disch:=first|omega|(simp only [go_sem,seval];first|done|omega)) only [go_sem,seval]))
 all_goals simp [rng, *]
theorem Vo (n:Int):Q X 64 [.I n] (.I (rng n (-32768) 32768)):=by
 intro M
 (refine Qd (cf:=L7.c64) rfl rfl fun hM hA => ?_;simp only [L7.c64,zO,zF,zT,zM,CX.i];rw [mk1 _ (by decide)];simp -implicitDefEqProofs (disch:=first|omega|(simp only [go_sem,seval];first|done|omega)) only [go_sem,seval])
 repeat' (first|(refine Qb (Va _ _ _ _) ?_;(try simp -implicitDefEqProofs (disch:=first|omega|(simp only [go_sem,seval];first|done|omega)) only [go_sem,seval]))|(refine Qg ?_ ?_ <;> intro hc <;> (try simp only [decide_eq_true_eq,decide_eq_false_iff_not,Classical.not_not,Bool.not_eq_true,Bool.not_eq_true',Bool.not_eq_false',Bool.false_or,Bool.or_false,Bool.true_or,Bool.or_true,Bool.false_and,Bool.and_false,Bool.true_and,Bool.and_true] at hc) <;> (try simp -implicitDefEqProofs (disch:=first|omega|(simp only [go_sem,seval,hc];first|done|omega)) only [go_sem,seval,hc]))|(refine Qq ?_ ?_ <;> intro hc <;> (try simp only [decide_eq_true_eq,decide_eq_false_iff_not,Classical.not_not,Bool.not_eq_true,Bool.not_eq_true',Bool.not_eq_false',Bool.false_or,Bool.or_false,Bool.true_or,Bool.or_true,Bool.false_and,Bool.and_false,Bool.true_and,Bool.and_true] at hc) <;> (try simp -implicitDefEqProofs (disch:=first|omega|(simp only [go_sem,seval,hc];first|done|omega)) only [go_sem,seval,hc])))
 (all_goals (first|refine pfN hM ?_ ?_|refine pf0 hM ?_ ?_);all_goals first|(simp only [go_sem,seval]<;>omega)|skip;all_goals (try simp -implicitDefEqProofs (disch:=first|omega|(simp only [go_sem,seval];first|done|omega)) only [go_sem,seval]))
theorem Vd (n:Int):Q X 63 [.I n] (.I (rng n 0 39999)):=by
 intro M
 (refine Qd (cf:=L7.c63) rfl rfl fun hM hA => ?_;simp only [L7.c63,zO,zF,zT,zM,CX.i];rw [mk1 _ (by decide)];simp -implicitDefEqProofs (disch:=first|omega|(simp only [go_sem,seval];first|done|omega)) only [go_sem,seval])
 repeat' (first|(refine Qb (Va _ _ _ _) ?_;(try simp -implicitDefEqProofs (disch:=first|omega|(simp only [go_sem,seval];first|done|omega)) only [go_sem,seval]))|(refine Qg ?_ ?_ <;> intro hc <;> (try simp only [decide_eq_true_eq,decide_eq_false_iff_not,Classical.not_not,Bool.not_eq_true,Bool.not_eq_true',Bool.not_eq_false',Bool.false_or,Bool.or_false,Bool.true_or,Bool.or_true,Bool.false_and,Bool.and_false,Bool.true_and,Bool.and_true] at hc) <;> (try simp -implicitDefEqProofs (disch:=first|omega|(simp only [go_sem,seval,hc];first|done|omega)) only [go_sem,seval,hc]))|(refine Qq ?_ ?_ <;> intro hc <;> (try simp only [decide_eq_true_eq,decide_eq_false_iff_not,Classical.not_not,Bool.not_eq_true,Bool.not_eq_true',Bool.not_eq_false',Bool.false_or,Bool.or_false,Bool.true_or,Bool.or_true,Bool.false_and,Bool.and_false,Bool.true_and,Bool.and_true] at hc) <;> (try simp -implicitDefEqProofs (disch:=first|omega|(simp only [go_sem,seval,hc];first|done|omega)) only [go_sem,seval,hc])))
 (all_goals (first|refine pfN hM ?_ ?_|refine pf0 hM ?_ ?_);all_goals first|(simp only [go_sem,seval]<;>omega)|skip;all_goals (try simp -implicitDefEqProofs (disch:=first|omega|(simp only [go_sem,seval];first|done|omega)) only [go_sem,seval]))
theorem Vf (n:Int):Q X 54 [.I n] (.I (rng n 1 3)):=by
 intro M
 (refine Qd (cf:=L7.c54) rfl rfl fun hM hA => ?_;simp only [L7.c54,zO,zF,zT,zM,CX.i];rw [mk1 _ (by decide)];simp -implicitDefEqProofs (disch:=first|omega|(simp only [go_sem,seval];first|done|omega)) only [go_sem,seval])
 repeat' (first|(refine Qb (Va _ _ _ _) ?_;(try simp -implicitDefEqProofs (disch:=first|omega|(simp only [go_sem,seval];first|done|omega)) only [go_sem,seval]))|(refine Qg ?_ ?_ <;> intro hc <;> (try simp only [decide_eq_true_eq,decide_eq_false_iff_not,Classical.not_not,Bool.not_eq_true,Bool.not_eq_true',Bool.not_eq_false',Bool.false_or,Bool.or_false,Bool.true_or,Bool.or_true,Bool.false_and,Bool.and_false,Bool.true_and,Bool.and_true] at hc) <;> (try simp -implicitDefEqProofs (disch:=first|omega|(simp only [go_sem,seval,hc];first|done|omega)) only [go_sem,seval,hc]))|(refine Qq ?_ ?_ <;> intro hc <;> (try simp only [decide_eq_true_eq,decide_eq_false_iff_not,Classical.not_not,Bool.not_eq_true,Bool.not_eq_true',Bool.not_eq_false',Bool.false_or,Bool.or_false,Bool.true_or,Bool.or_true,Bool.false_and,Bool.and_false,Bool.true_and,Bool.and_true] at hc) <;> (try simp -implicitDefEqProofs (disch:=first|omega|(simp only [go_sem,seval,hc];first|done|omega)) only [go_sem,seval,hc])))
 (all_goals (first|refine pfN hM ?_ ?_|refine pf0 hM ?_ ?_);all_goals first|(simp only [go_sem,seval]<;>omega)|skip;all_goals (try simp -implicitDefEqProofs (disch:=first|omega|(simp only [go_sem,seval];first|done|omega)) only [go_sem,seval]))
theorem Y6 (n:Int):Q X 48 [.I n] (.I (rng n (-999999999) 999999999)):=by
 intro M
 (refine Qd (cf:=L7.c48) rfl rfl fun hM hA => ?_;simp only [L7.c48,zO,zF,zT,zM,CX.i];rw [mk1 _ (by decide)];simp -implicitDefEqProofs (disch:=first|omega|(simp only [go_sem,seval];first|done|omega)) only [go_sem,seval])
 repeat' (first|(refine Qb (Va _ _ _ _) ?_;(try simp -implicitDefEqProofs (disch:=first|omega|(simp only [go_sem,seval];first|done|omega)) only [go_sem,seval]))|(refine Qg ?_ ?_ <;> intro hc <;> (try simp only [decide_eq_true_eq,decide_eq_false_iff_not,Classical.not_not,Bool.not_eq_true,Bool.not_eq_true',Bool.not_eq_false',Bool.false_or,Bool.or_false,Bool.true_or,Bool.or_true,Bool.false_and,Bool.and_false,Bool.true_and,Bool.and_true] at hc) <;> (try simp -implicitDefEqProofs (disch:=first|omega|(simp only [go_sem,seval,hc];first|done|omega)) only [go_sem,seval,hc]))|(refine Qq ?_ ?_ <;> intro hc <;> (try simp only [decide_eq_true_eq,decide_eq_false_iff_not,Classical.not_not,Bool.not_eq_true,Bool.not_eq_true',Bool.not_eq_false',Bool.false_or,Bool.or_false,Bool.true_or,Bool.or_true,Bool.false_and,Bool.and_false,Bool.true_and,Bool.and_true] at hc) <;> (try simp -implicitDefEqProofs (disch:=first|omega|(simp only [go_sem,seval,hc];first|done|omega)) only [go_sem,seval,hc])))
 (all_goals (first|refine pfN hM ?_ ?_|refine pf0 hM ?_ ?_);all_goals first|(simp only [go_sem,seval]<;>omega)|skip;all_goals (try simp -implicitDefEqProofs (disch:=first|omega|(simp only [go_sem,seval];first|done|omega)) only [go_sem,seval]))
theorem Za (n:Int):Q X 40 [.I n] (.I (rng n (-32768) 32768)):=by
 intro M
 (refine Qd (cf:=L7.c40) rfl rfl fun hM hA => ?_;simp only [L7.c40,zO,zF,zT,zM,CX.i];rw [mk1 _ (by decide)];simp -implicitDefEqProofs (disch:=first|omega|(simp only [go_sem,seval];first|done|omega)) only [go_sem,seval])
 repeat' (first|(refine Qb (VA _ _ _ _) ?_;(try simp -implicitDefEqProofs (disch:=first|omega|(simp only [go_sem,seval];first|done|omega)) only [go_sem,seval]))|(refine Qg ?_ ?_ <;> intro hc <;> (try simp only [decide_eq_true_eq,decide_eq_false_iff_not,Classical.not_not,Bool.not_eq_true,Bool.not_eq_true',Bool.not_eq_false',Bool.false_or,Bool.or_false,Bool.true_or,Bool.or_true,Bool.false_and,Bool.and_false,Bool.true_and,Bool.and_true] at hc) <;> (try simp -implicitDefEqProofs (disch:=first|omega|(simp only [go_sem,seval,hc];first|done|omega)) only [go_sem,seval,hc]))|(refine Qq ?_ ?_ <;> intro hc <;> (try simp only [decide_eq_true_eq,decide_eq_false_iff_not,Classical.not_not,Bool.not_eq_true,Bool.not_eq_true',Bool.not_eq_false',Bool.false_or,Bool.or_false,Bool.true_or,Bool.or_true,Bool.false_and,Bool.and_false,Bool.true_and,Bool.and_true] at hc) <;> (try simp -implicitDefEqProofs (disch:=first|omega|(simp only [go_sem,seval,hc];first|done|omega)) only [go_sem,seval,hc])))
 (all_goals (first|refine pfN hM ?_ ?_|refine pf0 hM ?_ ?_);all_goals first|(simp only [go_sem,seval]<;>omega)|skip;all_goals (try simp -implicitDefEqProofs (disch:=first|omega|(simp only [go_sem,seval];first|done|omega)) only [go_sem,seval]))
theorem J1 (n:Int):Q X 71 [.I n] (.B (decide (¬ rng n (-32768) 32768 = 0))):=by
 intro M
 (refine Qd (cf:=L7.c71) rfl rfl fun hM hA => ?_;simp only [L7.c71,zO,zF,zT,zM,CX.i];rw [mk1 _ (by decide)];simp -implicitDefEqProofs (disch:=first|omega|(simp only [go_sem,seval];first|done|omega)) only [go_sem,seval])
 repeat' (first|(refine Qb (Vo _ _) ?_;(try simp -implicitDefEqProofs (disch:=first|omega|(simp only [go_sem,seval];first|done|omega)) only [go_sem,seval]))|(refine Qg ?_ ?_ <;> intro hc <;> (try simp only [decide_eq_true_eq,decide_eq_false_iff_not,Classical.not_not,Bool.not_eq_true,Bool.not_eq_true',Bool.not_eq_false',Bool.false_or,Bool.or_false,Bool.true_or,Bool.or_true,Bool.false_and,Bool.and_false,Bool.true_and,Bool.and_true] at hc) <;> (try simp -implicitDefEqProofs (disch:=first|omega|(simp only [go_sem,seval,hc];first|done|omega)) only [go_sem,seval,hc]))|(refine Qq ?_ ?_ <;> intro hc <;> (try simp only [decide_eq_true_eq,decide_eq_false_iff_not,Classical.not_not,Bool.not_eq_true,Bool.not_eq_true',Bool.not_eq_false',Bool.false_or,Bool.or_false,Bool.true_or,Bool.or_true,Bool.false_and,Bool.and_false,Bool.true_and,Bool.and_true] at hc) <;> (try simp -implicitDefEqProofs (disch:=first|omega|(simp only [go_sem,seval,hc];first|done|omega)) only [go_sem,seval,hc])))
 (all_goals (first|refine pfN hM ?_ ?_|refine pf0 hM ?_ ?_);all_goals first|(simp only [go_sem,seval]<;>omega)|skip;all_goals (try simp -implicitDefEqProofs (disch:=first|omega|(simp only [go_sem,seval];first|done|omega)) only [go_sem,seval]))
theorem Zf (a b c:Int):Q X 62 [.I a,.I b,.I c] (.B (trn a b c)):=by
 intro M
 (refine Qd (cf:=L7.c62) rfl rfl fun hM hA => ?_;simp only [L7.c62,zO,zF,zT,zM,CX.i];rw [mk3 _ (by decide)];simp -implicitDefEqProofs (disch:=first|omega|(simp only [go_sem,seval];first|done|omega)) only [go_sem,seval])
 repeat' (first|(refine Qg ?_ ?_ <;> intro hc <;> (try simp only [decide_eq_true_eq,decide_eq_false_iff_not,Classical.not_not,Bool.not_eq_true,Bool.not_eq_true',Bool.not_eq_false',Bool.false_or,Bool.or_false,Bool.true_or,Bool.or_true,Bool.false_and,Bool.and_false,Bool.true_and,Bool.and_true] at hc) <;> (try simp -implicitDefEqProofs (disch:=first|omega|(simp only [go_sem,seval,hc];first|done|omega)) only [go_sem,seval,hc]))|(refine Qq ?_ ?_ <;> intro hc <;> (try simp only [decide_eq_true_eq,decide_eq_false_iff_not,Classical.not_not,Bool.not_eq_true,Bool.not_eq_true',Bool.not_eq_false',Bool.false_or,Bool.or_false,Bool.true_or,Bool.or_true,Bool.false_and,Bool.and_false,Bool.true_and,Bool.and_true] at hc) <;> (try simp -implicitDefEqProofs (disch:=first|omega|(simp only [go_sem,seval,hc];first|done|omega)) only [go_sem,seval,hc])))
 (all_goals (first|refine pfN hM ?_ ?_|refine pf0 hM ?_ ?_);all_goals first|(simp only [go_sem,seval]<;>omega)|skip;all_goals (try simp -implicitDefEqProofs (disch:=first|omega|(simp only [go_sem,seval];first|done|omega)) only [go_sem,seval]))
 all_goals simp [trn, *] <;> omega
theorem Yq (a b c:Int):Q X 41 [.I a,.I b,.I c] (.B (trn a b c)):=by
 intro M
 (refine Qd (cf:=L7.c41) rfl rfl fun hM hA => ?_;simp only [L7.c41,zO,zF,zT,zM,CX.i];rw [mk3 _ (by decide)];simp -implicitDefEqProofs (disch:=first|omega|(simp only [go_sem,seval];first|done|omega)) only [go_sem,seval])
 repeat' (first|(refine Qg ?_ ?_ <;> intro hc <;> (try simp only [decide_eq_true_eq,decide_eq_false_iff_not,Classical.not_not,Bool.not_eq_true,Bool.not_eq_true',Bool.not_eq_false',Bool.false_or,Bool.or_false,Bool.true_or,Bool.or_true,Bool.false_and,Bool.and_false,Bool.true_and,Bool.and_true] at hc) <;> (try simp -implicitDefEqProofs (disch:=first|omega|(simp only [go_sem,seval,hc];first|done|omega)) only [go_sem,seval,hc]))|(refine Qq ?_ ?_ <;> intro hc <;> (try simp only [decide_eq_true_eq,decide_eq_false_iff_not,Classical.not_not,Bool.not_eq_true,Bool.not_eq_true',Bool.not_eq_false',Bool.false_or,Bool.or_false,Bool.true_or,Bool.or_true,Bool.false_and,Bool.and_false,Bool.true_and,Bool.and_true] at hc) <;> (try simp -implicitDefEqProofs (disch:=first|omega|(simp only [go_sem,seval,hc];first|done|omega)) only [go_sem,seval,hc])))
 (all_goals (first|refine pfN hM ?_ ?_|refine pf0 hM ?_ ?_);all_goals first|(simp only [go_sem,seval]<;>omega)|skip;all_goals (try simp -implicitDefEqProofs (disch:=first|omega|(simp only [go_sem,seval];first|done|omega)) only [go_sem,seval]))
 all_goals simp [trn, *] <;> omega
theorem Qc7 (xs:List PV) (n:Int):Q X 6 [.fs xs,.I n] (.B (decide ((xs.length:Int) ≤ n))):=by
 intro M
 (refine Qd (cf:=L7.c6) rfl rfl fun hM hA => ?_;simp only [L7.c6,zO,zF,zT,zM,CX.i];rw [mk2 _ (by decide)];simp -implicitDefEqProofs (disch:=first|omega|(simp only [go_sem,seval];first|done|omega)) only [go_sem,seval])
 (all_goals (first|refine pfN hM ?_ ?_|refine pf0 hM ?_ ?_);all_goals first|(simp only [go_sem,seval]<;>omega)|skip;all_goals (try simp -implicitDefEqProofs (disch:=first|omega|(simp only [go_sem,seval];first|done|omega)) only [go_sem,seval]))
theorem Yp (l:List Int) (hl:l.length ≤ 1048576):Q X 38 [.fs (l.map .I)] (.I (fst0 l)):=by
 intro M
 (refine Qd (cf:=L7.c38) rfl rfl fun hM hA => ?_;simp only [L7.c38,zO,zF,zT,zM,CX.i];rw [mk1 _ (by decide)];simp -implicitDefEqProofs (disch:=first|omega|(simp only [go_sem,seval];first|done|omega)) only [go_sem,seval])
 refine Qn (α:=Nat) 0 (fun k => k ≤ l.length ∧ fst0 l = fst0 (l.drop k)) (fun k => M) (fun k => [(0,.fs (l.map .I)),(3,.I k)]) (fun k => l.length - k) ⟨Nat.zero_le _,rfl⟩ rfl rfl ?_
 rintro k ⟨hk,hs⟩
 by_cases hlt:k < l.length
 ·obtain ⟨x,h1⟩:∃ x,l[k]? = some x:=⟨_,List.getElem?_eq_getElem hlt⟩
  have h2:=Qah l k x h1
  simp -implicitDefEqProofs (disch:=first|omega|(simp only [go_sem,seval,hlt,h1];first|done|omega)) only [go_sem,seval,hlt,h1]
  refine Qg ?_ ?_ <;> intro hc <;> (try simp only [decide_eq_true_eq,decide_eq_false_iff_not,Classical.not_not,Bool.not_eq_true,Bool.not_eq_true',Bool.not_eq_false',Bool.false_or,Bool.or_false,Bool.true_or,Bool.or_true,Bool.false_and,Bool.and_false,Bool.true_and,Bool.and_true] at hc) <;> simp -implicitDefEqProofs (disch:=first|omega|(simp only [go_sem,seval,h1,hc];first|done|omega)) only [go_sem,seval,h1,hc]
  ·(first|refine pfN hM ?_ ?_|refine pf0 hM ?_ ?_)
   ·simp -implicitDefEqProofs (disch:=first|omega|(simp only [go_sem,seval,hs,h2,hc];first|done|omega)) only [go_sem,seval,hs,h2,hc]
   ·(simp only [go_sem,seval]<;>omega)
  ·exact again' (k + 1) ⟨by omega,by rw [hs,h2,if_pos hc]⟩ (by omega) rfl rfl
 ·simp -implicitDefEqProofs (disch:=first|omega|(simp only [go_sem,seval,hlt];first|done|omega)) only [go_sem,seval,hlt]
  (first|refine pfN hM ?_ ?_|refine pf0 hM ?_ ?_)
  ·simp -implicitDefEqProofs (disch:=first|omega|(simp only [go_sem,seval,hs];first|done|omega)) only [go_sem,seval,hs]
   rw [List.drop_eq_nil_of_le (by omega)];rfl
  ·(simp only [go_sem,seval]<;>omega)
theorem Qy (l:List Int) (hl:l.length ≤ 1048576):Q X 47 [.fs (l.map .I)] (.I (fst0 l)):=by
 intro M
 (refine Qd (cf:=L7.c47) rfl rfl fun hM hA => ?_;simp only [L7.c47,zO,zF,zT,zM,CX.i];rw [mk1 _ (by decide)];simp -implicitDefEqProofs (disch:=first|omega|(simp only [go_sem,seval];first|done|omega)) only [go_sem,seval])
 refine Qn (α:=Nat) 0 (fun k => k ≤ l.length ∧ fst0 l = fst0 (l.drop k)) (fun k => M) (fun k => [(5,.fs (l.map .I)),(6,.I l.length),(7,.I k)]) (fun k => l.length - k) ⟨Nat.zero_le _,rfl⟩ rfl rfl ?_
 rintro k ⟨hk,hs⟩
 by_cases hlt:k < l.length
 ·obtain ⟨x,h1⟩:∃ x,l[k]? = some x:=⟨_,List.getElem?_eq_getElem hlt⟩
  have h2:=Qah l k x h1
  simp -implicitDefEqProofs (disch:=first|omega|(simp only [go_sem,seval,hlt,h1];first|done|omega)) only [go_sem,seval,hlt,h1]
  refine Qg ?_ ?_ <;> intro hc <;> (try simp only [decide_eq_true_eq,decide_eq_false_iff_not,Classical.not_not,Bool.not_eq_true,Bool.not_eq_true',Bool.not_eq_false',Bool.false_or,Bool.or_false,Bool.true_or,Bool.or_true,Bool.false_and,Bool.and_false,Bool.true_and,Bool.and_true] at hc) <;> simp -implicitDefEqProofs (disch:=first|omega|(simp only [go_sem,seval,h1,hc];first|done|omega)) only [go_sem,seval,h1,hc]
  ·(first|refine pfN hM ?_ ?_|refine pf0 hM ?_ ?_)
   ·simp -implicitDefEqProofs (disch:=first|omega|(simp only [go_sem,seval,hs,h2,hc];first|done|omega)) only [go_sem,seval,hs,h2,hc]
   ·(simp only [go_sem,seval]<;>omega)
  ·exact again' (k + 1) ⟨by omega,by rw [hs,h2,if_pos hc]⟩ (by omega) rfl rfl
 ·simp -implicitDefEqProofs (disch:=first|omega|(simp only [go_sem,seval,hlt];first|done|omega)) only [go_sem,seval,hlt]
  (first|refine pfN hM ?_ ?_|refine pf0 hM ?_ ?_)
  ·simp -implicitDefEqProofs (disch:=first|omega|(simp only [go_sem,seval,hs];first|done|omega)) only [go_sem,seval,hs]
   rw [List.drop_eq_nil_of_le (by omega)];rfl
  ·(simp only [go_sem,seval]<;>omega)
theorem YT (l:List Rev) (hl:l.length ≤ 1048576):Q X 14 [.fs (l.map Qc)] (.fs (l.map Qc)):=by
 intro M
 (refine Qd (cf:=L7.c14) rfl rfl fun hM hA => ?_;simp only [L7.c14,zO,zF,zT,zM,CX.i];rw [mk1 _ (by decide)];simp -implicitDefEqProofs (disch:=first|omega|(simp only [go_sem,seval];first|done|omega)) only [go_sem,seval])
 refine Qn (α:=Nat) 0 (fun k => k ≤ l.length) (fun k => M ++ [.row true 2 k ((l.take k).map Qc)])
  (fun k => [(3,.os M.length k 0 k),(6,.fs (l.map Qc)),(7,.I l.length),(8,.I k)]) (fun k => l.length - k) (Nat.zero_le _) rfl rfl ?_
 intro k hk
 by_cases hlt:k < l.length
 ·obtain ⟨x,h1⟩:∃ x,l[k]? = some x:=⟨_,List.getElem?_eq_getElem hlt⟩
  have h2:k = ((l.take k).map Qc).length:=by simp;omega
  simp -implicitDefEqProofs (disch:=first|omega|(simp only [go_sem,seval,hlt,h1,Qa];first|done|omega)) only [go_sem,seval,hlt,h1,Qa]
  refine Qm hM rfl 1 (by simp) (by first|done|(simp only [go_sem,seval,Qe] <;> first|done|(refine ⟨?_,?_⟩ <;> omega)|omega)) (Qr (by first|done|(simp only [go_sem,seval,Qe] <;> first|done|(refine ⟨?_,?_⟩ <;> omega)|omega))) ?_
  simp -implicitDefEqProofs (disch:=first|omega|(simp only [go_sem,seval];first|done|omega)) only [go_sem,seval]
  exact again' (k + 1) (by omega) (by omega) (by rw [Q1 h1];rfl) rfl
 ·simp -implicitDefEqProofs (disch:=first|omega|(simp only [go_sem,seval,hlt];first|done|omega)) only [go_sem,seval,hlt]
  (first|refine pfN hM ?_ ?_|refine pf0 hM ?_ ?_)
  ·simp -implicitDefEqProofs (disch:=first|omega|(simp only [go_sem,seval];first|done|omega)) only [go_sem,seval]
   rw [List.take_of_length_le (by omega)]
  ·(simp only [go_sem,seval,Qe]<;>omega)
theorem Qfh (l:List Rev) (hl:l.length ≤ 1048576):Q X 8 [.fs (l.map Qc)] (.fs (l.map Qc)):=by
 intro M
 (refine Qd (cf:=L7.c8) rfl rfl fun hM hA => ?_;simp only [L7.c8,zO,zF,zT,zM,CX.i];rw [mk1 _ (by decide)];simp -implicitDefEqProofs (disch:=first|omega|(simp only [go_sem,seval];first|done|omega)) only [go_sem,seval])
 refine Qn (α:=Nat) 0 (fun k => k ≤ l.length) (fun k => M ++ [.row true 2 k ((l.take k).map Qc)])
  (fun k => [(3,.os M.length k 0 k),(6,.fs (l.map Qc)),(7,.I l.length),(8,.I k)]) (fun k => l.length - k) (Nat.zero_le _) rfl rfl ?_
 intro k hk
 by_cases hlt:k < l.length
 ·obtain ⟨x,h1⟩:∃ x,l[k]? = some x:=⟨_,List.getElem?_eq_getElem hlt⟩
  have h2:k = ((l.take k).map Qc).length:=by simp;omega
  simp -implicitDefEqProofs (disch:=first|omega|(simp only [go_sem,seval,hlt,h1,Qa];first|done|omega)) only [go_sem,seval,hlt,h1,Qa]
  refine Qm hM rfl 1 (by simp) (by first|done|(simp only [go_sem,seval,Qe] <;> first|done|(refine ⟨?_,?_⟩ <;> omega)|omega)) (Qr (by first|done|(simp only [go_sem,seval,Qe] <;> first|done|(refine ⟨?_,?_⟩ <;> omega)|omega))) ?_
  simp -implicitDefEqProofs (disch:=first|omega|(simp only [go_sem,seval];first|done|omega)) only [go_sem,seval]
  exact again' (k + 1) (by omega) (by omega) (by rw [Q1 h1];rfl) rfl
 ·simp -implicitDefEqProofs (disch:=first|omega|(simp only [go_sem,seval,hlt];first|done|omega)) only [go_sem,seval,hlt]
  (first|refine pfN hM ?_ ?_|refine pf0 hM ?_ ?_)
  ·simp -implicitDefEqProofs (disch:=first|omega|(simp only [go_sem,seval];first|done|omega)) only [go_sem,seval]
   rw [List.take_of_length_le (by omega)]
  ·(simp only [go_sem,seval,Qe]<;>omega)
theorem Qcl (l:List Cyc) (hl:l.length ≤ 1048576):Q X 29 [.fs (l.map Qw)] (.fs (l.map Qw)):=by
 intro M
 (refine Qd (cf:=L7.c29) rfl rfl fun hM hA => ?_;simp only [L7.c29,zO,zF,zT,zM,CX.i];rw [mk1 _ (by decide)];simp -implicitDefEqProofs (disch:=first|omega|(simp only [go_sem,seval];first|done|omega)) only [go_sem,seval])
 refine Qn (α:=Nat) 0 (fun k => k ≤ l.length) (fun k => M ++ [.row true 4 k ((l.take k).map Qw)])
  (fun k => [(3,.os M.length k 0 k),(6,.fs (l.map Qw)),(7,.I l.length),(8,.I k)]) (fun k => l.length - k) (Nat.zero_le _) rfl rfl ?_
 intro k hk
 by_cases hlt:k < l.length
 ·obtain ⟨x,h1⟩:∃ x,l[k]? = some x:=⟨_,List.getElem?_eq_getElem hlt⟩
  have h2:k = ((l.take k).map Qw).length:=by simp;omega
  simp -implicitDefEqProofs (disch:=first|omega|(simp only [go_sem,seval,hlt,h1,Qj];first|done|omega)) only [go_sem,seval,hlt,h1,Qj]
  refine Qm hM rfl 1 (by simp) (by first|done|(simp only [go_sem,seval,Qu] <;> first|done|(refine ⟨?_,?_⟩ <;> omega)|omega)) (Qr (by first|done|(simp only [go_sem,seval,Qu] <;> first|done|(refine ⟨?_,?_⟩ <;> omega)|omega))) ?_
  simp -implicitDefEqProofs (disch:=first|omega|(simp only [go_sem,seval];first|done|omega)) only [go_sem,seval]
  exact again' (k + 1) (by omega) (by omega) (by rw [Q1 h1];rfl) rfl
 ·simp -implicitDefEqProofs (disch:=first|omega|(simp only [go_sem,seval,hlt];first|done|omega)) only [go_sem,seval,hlt]
  (first|refine pfN hM ?_ ?_|refine pf0 hM ?_ ?_)
  ·simp -implicitDefEqProofs (disch:=first|omega|(simp only [go_sem,seval];first|done|omega)) only [go_sem,seval]
   rw [List.take_of_length_le (by omega)]
  ·(simp only [go_sem,seval,Qu]<;>omega)
theorem Zy (a b:List Rev) (hl:a.length ≤ 1048576):Q X 13 [.fs (a.map Qc),.fs (b.map Qc)] (.B (decide (a = b))):=by
 intro M
 (refine Qd (cf:=L7.c13) rfl rfl fun hM hA => ?_;simp only [L7.c13,zO,zF,zT,zM,CX.i];rw [mk2 _ (by decide)];simp -implicitDefEqProofs (disch:=first|omega|(simp only [go_sem,seval];first|done|omega)) only [go_sem,seval])
 refine Qg ?_ ?_ <;> intro hc <;> simp only [decide_eq_true_eq,decide_eq_false_iff_not,Classical.not_not] at hc
 ·simp -implicitDefEqProofs (disch:=first|omega|(simp only [go_sem,seval];first|done|omega)) only [go_sem,seval]
  (first|refine pfN hM ?_ ?_|refine pf0 hM ?_ ?_)
  ·simp -implicitDefEqProofs (disch:=first|omega|(simp only [go_sem,seval];first|done|omega)) only [go_sem,seval]
   congr 2;symm;rw [decide_eq_false_iff_not];rintro rfl;exact hc rfl
  ·(simp only [go_sem,seval]<;>omega)
 ·simp -implicitDefEqProofs (disch:=first|omega|(simp only [go_sem,seval];first|done|omega)) only [go_sem,seval]
  have hc:b.length = a.length:=by omega
  refine Qn (α:=Nat) 0 (fun k => k ≤ a.length ∧ a.take k = b.take k) (fun k => M) (fun k => [(0,.fs (a.map Qc)),(1,.fs (b.map Qc)),(5,.I k)]) (fun k => a.length - k) ⟨Nat.zero_le _,rfl⟩ rfl rfl ?_
  rintro k ⟨hk,hs⟩
  by_cases hlt:k < a.length
  ·obtain ⟨x,h1⟩:∃ x,a[k]? = some x:=⟨_,List.getElem?_eq_getElem hlt⟩
   obtain ⟨y,h2⟩:∃ y,b[k]? = some y:=⟨_,List.getElem?_eq_getElem (by omega)⟩
   simp -implicitDefEqProofs (disch:=first|omega|(simp only [go_sem,seval,hlt,h1,h2,Qa];first|done|omega)) only [go_sem,seval,hlt,h1,h2,Qa]
   refine Qg ?_ ?_ <;> intro he
   ·simp -implicitDefEqProofs (disch:=first|omega|(simp only [go_sem,seval];first|done|omega)) only [go_sem,seval]
    (first|refine pfN hM ?_ ?_|refine pf0 hM ?_ ?_)
    ·simp -implicitDefEqProofs (disch:=first|omega|(simp only [go_sem,seval];first|done|omega)) only [go_sem,seval]
     congr 2;symm;rw [decide_eq_false_iff_not];rintro rfl
     rw [h1] at h2;cases h2;simp at he
    ·(simp only [go_sem,seval]<;>omega)
   ·simp -implicitDefEqProofs (disch:=first|omega|(simp only [go_sem,seval];first|done|omega)) only [go_sem,seval]
    have hxy:x = y:=by cases x;cases y;simp at he;simp [he]
    refine again' (k + 1) ⟨by omega,?_⟩ (by omega) rfl rfl
    have g1:=Q1 (f:=id) h1;have g2:=Q1 (f:=id) h2
    simp only [List.map_id] at g1 g2
    rw [g1,g2,hs,hxy]
  ·simp -implicitDefEqProofs (disch:=first|omega|(simp only [go_sem,seval,hlt];first|done|omega)) only [go_sem,seval,hlt]
   (first|refine pfN hM ?_ ?_|refine pf0 hM ?_ ?_)
   ·simp -implicitDefEqProofs (disch:=first|omega|(simp only [go_sem,seval];first|done|omega)) only [go_sem,seval]
    congr 2;symm;rw [decide_eq_true_eq]
    rw [List.take_of_length_le (by omega),List.take_of_length_le (by omega)] at hs;exact hs
   ·(simp only [go_sem,seval]<;>omega)
theorem Z8 (a b:List Cyc) (hl:a.length ≤ 1048576):Q X 28 [.fs (a.map Qw),.fs (b.map Qw)] (.B (decide (a = b))):=by
 intro M
 (refine Qd (cf:=L7.c28) rfl rfl fun hM hA => ?_;simp only [L7.c28,zO,zF,zT,zM,CX.i];rw [mk2 _ (by decide)];simp -implicitDefEqProofs (disch:=first|omega|(simp only [go_sem,seval];first|done|omega)) only [go_sem,seval])
 refine Qg ?_ ?_ <;> intro hc <;> simp only [decide_eq_true_eq,decide_eq_false_iff_not,Classical.not_not] at hc
 ·simp -implicitDefEqProofs (disch:=first|omega|(simp only [go_sem,seval];first|done|omega)) only [go_sem,seval]
  (first|refine pfN hM ?_ ?_|refine pf0 hM ?_ ?_)
  ·simp -implicitDefEqProofs (disch:=first|omega|(simp only [go_sem,seval];first|done|omega)) only [go_sem,seval]
   congr 2;symm;rw [decide_eq_false_iff_not];rintro rfl;exact hc rfl
  ·(simp only [go_sem,seval]<;>omega)
 ·simp -implicitDefEqProofs (disch:=first|omega|(simp only [go_sem,seval];first|done|omega)) only [go_sem,seval]
  have hc:b.length = a.length:=by omega
  refine Qn (α:=Nat) 0 (fun k => k ≤ a.length ∧ a.take k = b.take k) (fun k => M) (fun k => [(0,.fs (a.map Qw)),(1,.fs (b.map Qw)),(5,.I k)]) (fun k => a.length - k) ⟨Nat.zero_le _,rfl⟩ rfl rfl ?_
  rintro k ⟨hk,hs⟩
  by_cases hlt:k < a.length
  ·obtain ⟨x,h1⟩:∃ x,a[k]? = some x:=⟨_,List.getElem?_eq_getElem hlt⟩
   obtain ⟨y,h2⟩:∃ y,b[k]? = some y:=⟨_,List.getElem?_eq_getElem (by omega)⟩
   simp -implicitDefEqProofs (disch:=first|omega|(simp only [go_sem,seval,hlt,h1,h2,Qj];first|done|omega)) only [go_sem,seval,hlt,h1,h2,Qj]
   refine Qg ?_ ?_ <;> intro he
   ·simp -implicitDefEqProofs (disch:=first|omega|(simp only [go_sem,seval];first|done|omega)) only [go_sem,seval]
    (first|refine pfN hM ?_ ?_|refine pf0 hM ?_ ?_)
    ·simp -implicitDefEqProofs (disch:=first|omega|(simp only [go_sem,seval];first|done|omega)) only [go_sem,seval]
     congr 2;symm;rw [decide_eq_false_iff_not];rintro rfl
     rw [h1] at h2;cases h2;simp at he
    ·(simp only [go_sem,seval]<;>omega)
   ·simp -implicitDefEqProofs (disch:=first|omega|(simp only [go_sem,seval];first|done|omega)) only [go_sem,seval]
    have hxy:x = y:=by cases x;cases y;simp at he;simp [he]
    refine again' (k + 1) ⟨by omega,?_⟩ (by omega) rfl rfl
    have g1:=Q1 (f:=id) h1;have g2:=Q1 (f:=id) h2
    simp only [List.map_id] at g1 g2
    rw [g1,g2,hs,hxy]
  ·simp -implicitDefEqProofs (disch:=first|omega|(simp only [go_sem,seval,hlt];first|done|omega)) only [go_sem,seval,hlt]
   (first|refine pfN hM ?_ ?_|refine pf0 hM ?_ ?_)
   ·simp -implicitDefEqProofs (disch:=first|omega|(simp only [go_sem,seval];first|done|omega)) only [go_sem,seval]
    congr 2;symm;rw [decide_eq_true_eq]
    rw [List.take_of_length_le (by omega),List.take_of_length_le (by omega)] at hs;exact hs
   ·(simp only [go_sem,seval]<;>omega)
theorem Y2 (a b:List Int) (hl:a.length ≤ 1048576):Q X 17 [.fs (a.map .I),.fs (b.map .I)] (.B (decide (a = b))):=by
 intro M
 (refine Qd (cf:=L7.c17) rfl rfl fun hM hA => ?_;simp only [L7.c17,zO,zF,zT,zM,CX.i];rw [mk2 _ (by decide)];simp -implicitDefEqProofs (disch:=first|omega|(simp only [go_sem,seval];first|done|omega)) only [go_sem,seval])
 refine Qg ?_ ?_ <;> intro hc <;> simp only [decide_eq_true_eq,decide_eq_false_iff_not,Classical.not_not] at hc
 ·simp -implicitDefEqProofs (disch:=first|omega|(simp only [go_sem,seval];first|done|omega)) only [go_sem,seval]
  (first|refine pfN hM ?_ ?_|refine pf0 hM ?_ ?_)
  ·simp -implicitDefEqProofs (disch:=first|omega|(simp only [go_sem,seval];first|done|omega)) only [go_sem,seval]
   congr 2;symm;rw [decide_eq_false_iff_not];rintro rfl;exact hc rfl
  ·(simp only [go_sem,seval]<;>omega)
 ·simp -implicitDefEqProofs (disch:=first|omega|(simp only [go_sem,seval];first|done|omega)) only [go_sem,seval]
  have hc:b.length = a.length:=by omega
  refine Qn (α:=Nat) 0 (fun k => k ≤ a.length ∧ a.take k = b.take k) (fun k => M) (fun k => [(0,.fs (a.map .I)),(1,.fs (b.map .I)),(5,.I k)]) (fun k => a.length - k) ⟨Nat.zero_le _,rfl⟩ rfl rfl ?_
  rintro k ⟨hk,hs⟩
  by_cases hlt:k < a.length
  ·obtain ⟨x,h1⟩:∃ x,a[k]? = some x:=⟨_,List.getElem?_eq_getElem hlt⟩
   obtain ⟨y,h2⟩:∃ y,b[k]? = some y:=⟨_,List.getElem?_eq_getElem (by omega)⟩
   simp -implicitDefEqProofs (disch:=first|omega|(simp only [go_sem,seval,hlt,h1,h2];first|done|omega)) only [go_sem,seval,hlt,h1,h2]
   refine Qg ?_ ?_ <;> intro he
   ·simp -implicitDefEqProofs (disch:=first|omega|(simp only [go_sem,seval];first|done|omega)) only [go_sem,seval]
    (first|refine pfN hM ?_ ?_|refine pf0 hM ?_ ?_)
    ·simp -implicitDefEqProofs (disch:=first|omega|(simp only [go_sem,seval];first|done|omega)) only [go_sem,seval]
     congr 2;symm;rw [decide_eq_false_iff_not];rintro rfl
     rw [h1] at h2;cases h2;simp at he
    ·(simp only [go_sem,seval]<;>omega)
   ·simp -implicitDefEqProofs (disch:=first|omega|(simp only [go_sem,seval];first|done|omega)) only [go_sem,seval]
    have hxy:x = y:=by simpa using he
    refine again' (k + 1) ⟨by omega,?_⟩ (by omega) rfl rfl
    have g1:=Q1 (f:=id) h1;have g2:=Q1 (f:=id) h2
    simp only [List.map_id] at g1 g2
    rw [g1,g2,hs,hxy]
  ·simp -implicitDefEqProofs (disch:=first|omega|(simp only [go_sem,seval,hlt];first|done|omega)) only [go_sem,seval,hlt]
   (first|refine pfN hM ?_ ?_|refine pf0 hM ?_ ?_)
   ·simp -implicitDefEqProofs (disch:=first|omega|(simp only [go_sem,seval];first|done|omega)) only [go_sem,seval]
    congr 2;symm;rw [decide_eq_true_eq]
    rw [List.take_of_length_le (by omega),List.take_of_length_le (by omega)] at hs;exact hs
   ·(simp only [go_sem,seval]<;>omega)
theorem Yo (l:List Rev) (hl:l.length ≤ 1048576):Q X 18 [.fs (l.map Qc)] (.fs ((l.map Rev.ld).map .I)):=by
 intro M
 (refine Qd (cf:=L7.c18) rfl rfl fun hM hA => ?_;simp only [L7.c18,zO,zF,zT,zM,CX.i];rw [mk1 _ (by decide)];simp -implicitDefEqProofs (disch:=first|omega|(simp only [go_sem,seval];first|done|omega)) only [go_sem,seval])
 refine Qn (α:=Nat) 0 (fun k => k ≤ l.length) (fun k => M ++ [.row true 1 k ((l.take k).map fun r => .I r.ld)])
  (fun k => [(0,.fs (l.map Qc)),(3,.os M.length k 0 k),(4,.I k)]) (fun k => l.length - k) (Nat.zero_le _) rfl rfl ?_
 intro k hk
 by_cases hlt:k < l.length
 ·obtain ⟨x,h1⟩:∃ x,l[k]? = some x:=⟨_,List.getElem?_eq_getElem hlt⟩
  have h2:k = ((l.take k).map fun r => PV.I r.ld).length:=by simp;omega
  simp -implicitDefEqProofs (disch:=first|omega|(simp only [go_sem,seval,hlt,h1,Qa];first|done|omega)) only [go_sem,seval,hlt,h1,Qa]
  exact again' (k + 1) (by omega) (by omega) (by rw [Q1 h1]) rfl
 ·simp -implicitDefEqProofs (disch:=first|omega|(simp only [go_sem,seval,hlt];first|done|omega)) only [go_sem,seval,hlt]
  (first|refine pfN hM ?_ ?_|refine pf0 hM ?_ ?_)
  ·simp -implicitDefEqProofs (disch:=first|omega|(simp only [go_sem,seval];first|done|omega)) only [go_sem,seval]
   rw [List.take_of_length_le (by omega)]
  ·(simp only [go_sem,seval,ZV]<;>omega)
theorem Qcu:Q X 19 [] (.fs ([0,5,5,2,4,-1,3,6].map .I)):=by
 intro M
 (refine Qd (cf:=L7.c19) rfl rfl fun hM hA => ?_;simp only [L7.c19,zO,zF,zT,zM,CX.i];rw [mk0];simp -implicitDefEqProofs (disch:=first|omega|(simp only [go_sem,seval];first|done|omega)) only [go_sem,seval])
 (all_goals (first|refine pfN hM ?_ ?_|refine pf0 hM ?_ ?_);all_goals first|(simp only [go_sem,seval]<;>omega)|skip;all_goals (try simp -implicitDefEqProofs (disch:=first|omega|(simp only [go_sem,seval];first|done|omega)) only [go_sem,seval]))
theorem Jo (l:List Rev) (hl:l.length ≤ 1048576):Q X 10 [.fs (l.map Qc)] (.I (Qh l)):=by
 intro M
 (refine Qd (cf:=L7.c10) rfl rfl fun hM hA => ?_;simp only [L7.c10,zO,zF,zT,zM,CX.i];rw [mk1 _ (by decide)];simp -implicitDefEqProofs (disch:=first|omega|(simp only [go_sem,seval];first|done|omega)) only [go_sem,seval])
 refine Qg ?_ ?_ <;> intro hc <;> simp only [decide_eq_true_eq,decide_eq_false_iff_not,Classical.not_not] at hc
 ·simp -implicitDefEqProofs (disch:=first|omega|(simp only [go_sem,seval];first|done|omega)) only [go_sem,seval]
  (first|refine pfN hM ?_ ?_|refine pf0 hM ?_ ?_)
  ·simp -implicitDefEqProofs (disch:=first|omega|(simp only [go_sem,seval];first|done|omega)) only [go_sem,seval]
   congr 2;simp [Qh];omega
  ·(simp only [go_sem,seval]<;>omega)
 ·simp -implicitDefEqProofs (disch:=first|omega|(simp only [go_sem,seval];first|done|omega)) only [go_sem,seval]
  refine Qn (α:=Nat) 0 (fun k => k ≤ l.length ∧ QJ none none l = QJ (prev l 2 k) (prev l 1 k) (l.drop k)) (fun k => M) (fun k => [(0,.fs (l.map Qc)),(3,.I k)]) (fun k => l.length - k) ⟨Nat.zero_le _,rfl⟩ rfl rfl ?_
  rintro k ⟨hk,hs⟩
  by_cases hlt:k < l.length
  ·obtain ⟨x,h1⟩:∃ x,l[k]? = some x:=⟨_,List.getElem?_eq_getElem hlt⟩
   have hd:=QaN h1
   have fin:∀ e:Int,e = errAt (prev l 2 k) (prev l 1 k) x → ¬ e = 0 → Qh l = e:=by
    intro e h2 h3
    rw [h2] at h3 ⊢
    rw [if_neg h3] at hd
    simp only [Qh];rw [if_neg (by omega),hs,hd]
   have nxt:errAt (prev l 2 k) (prev l 1 k) x = 0 → QJ none none l = QJ (prev l 2 (k + 1)) (prev l 1 (k + 1)) (l.drop (k + 1)):=by
    intro h;rw [hs,hd,if_pos h]
   rcases (by omega:k = 0 ∨ k = 1 ∨ 2 ≤ k) with h0|h0|h0
   ·have f1:¬ (0:Int) < k:=by omega
    have f2:¬ (1:Int) < k:=by omega
    have p1:prev l 1 k = none:=by simp [prev,h0]
    have p2:prev l 2 k = none:=by simp [prev,h0]
    rw [p1,p2] at fin nxt
    simp -implicitDefEqProofs (disch:=first|omega|(simp only [go_sem,seval,hlt,h1,Qa];first|done|omega)) only [go_sem,seval,hlt,h1,Qa]
    repeat' (first|(refine Qb (VA _ _ _ _) ?_;(try simp -implicitDefEqProofs (disch:=first|omega|(simp only [go_sem,seval,h1,Qa,f1,f2];first|done|omega)) only [go_sem,seval,h1,Qa,f1,f2]))|(refine Qb (Za _ _) ?_;(try simp -implicitDefEqProofs (disch:=first|omega|(simp only [go_sem,seval,h1,Qa,f1,f2];first|done|omega)) only [go_sem,seval,h1,Qa,f1,f2]))|(refine Qb (Yp [_,_] (by simp) _) ?_;(try simp -implicitDefEqProofs (disch:=first|omega|(simp only [go_sem,seval,h1,Qa,f1,f2];first|done|omega)) only [go_sem,seval,h1,Qa,f1,f2]))|(refine Qb (Yq _ _ _ _) ?_;(try simp -implicitDefEqProofs (disch:=first|omega|(simp only [go_sem,seval,h1,Qa,f1,f2];first|done|omega)) only [go_sem,seval,h1,Qa,f1,f2]))|(refine Qg ?_ ?_ <;> intro hc <;> (try simp only [decide_eq_true_eq,decide_eq_false_iff_not,Classical.not_not,Bool.not_eq_true,Bool.not_eq_true',Bool.not_eq_false',Bool.false_or,Bool.or_false,Bool.true_or,Bool.or_true,Bool.false_and,Bool.and_false,Bool.true_and,Bool.and_true] at hc) <;> (try simp -implicitDefEqProofs (disch:=first|omega|(simp only [go_sem,seval,h1,Qa,f1,f2,hc];first|done|omega)) only [go_sem,seval,h1,Qa,f1,f2,hc]))|(refine Qq ?_ ?_ <;> intro hc <;> (try simp only [decide_eq_true_eq,decide_eq_false_iff_not,Classical.not_not,Bool.not_eq_true,Bool.not_eq_true',Bool.not_eq_false',Bool.false_or,Bool.or_false,Bool.true_or,Bool.or_true,Bool.false_and,Bool.and_false,Bool.true_and,Bool.and_true] at hc) <;> (try simp -implicitDefEqProofs (disch:=first|omega|(simp only [go_sem,seval,h1,Qa,f1,f2,hc];first|done|omega)) only [go_sem,seval,h1,Qa,f1,f2,hc])))
    all_goals try (refine again' (k + 1) ⟨by omega,nxt ?_⟩ (by omega) rfl rfl;rw [YK (by assumption)];simp [ordB,shpB,fst0, *];done)
    all_goals (first|refine pfN hM ?_ ?_|refine pf0 hM ?_ ?_)
    all_goals first|(simp only [go_sem,seval]<;>omega)|skip
    all_goals simp -implicitDefEqProofs (disch:=first|omega|(simp only [go_sem,seval];first|done|omega)) only [go_sem,seval]
    all_goals refine congrArg PV.I (fin _ ?_ ?_).symm
    all_goals first|exact Qcq (by assumption)|(rw [YK (by assumption)];simp [ordB,shpB,fst0, *];done)|assumption|decide
   ·have f1:(0:Int) < k:=by omega
    have f2:¬ (1:Int) < k:=by omega
    have e1:(k:Int) - 1 = ((k - 1:Nat):Int):=by omega
    obtain ⟨p,g1⟩:∃ p,l[k - 1]? = some p:=⟨_,List.getElem?_eq_getElem (by omega)⟩
    have p1:prev l 1 k = some p:=by simp [prev,g1];omega
    have p2:prev l 2 k = none:=by simp [prev,h0]
    rw [p1,p2] at fin nxt
    simp -implicitDefEqProofs (disch:=first|omega|(simp only [go_sem,seval,hlt,h1,Qa];first|done|omega)) only [go_sem,seval,hlt,h1,Qa]
    repeat' (first|(refine Qb (VA _ _ _ _) ?_;(try simp -implicitDefEqProofs (disch:=first|omega|(simp only [go_sem,seval,h1,Qa,f1,f2,e1,g1];first|done|omega)) only [go_sem,seval,h1,Qa,f1,f2,e1,g1]))|(refine Qb (Za _ _) ?_;(try simp -implicitDefEqProofs (disch:=first|omega|(simp only [go_sem,seval,h1,Qa,f1,f2,e1,g1];first|done|omega)) only [go_sem,seval,h1,Qa,f1,f2,e1,g1]))|(refine Qb (Yp [_,_] (by simp) _) ?_;(try simp -implicitDefEqProofs (disch:=first|omega|(simp only [go_sem,seval,h1,Qa,f1,f2,e1,g1];first|done|omega)) only [go_sem,seval,h1,Qa,f1,f2,e1,g1]))|(refine Qb (Yq _ _ _ _) ?_;(try simp -implicitDefEqProofs (disch:=first|omega|(simp only [go_sem,seval,h1,Qa,f1,f2,e1,g1];first|done|omega)) only [go_sem,seval,h1,Qa,f1,f2,e1,g1]))|(refine Qg ?_ ?_ <;> intro hc <;> (try simp only [decide_eq_true_eq,decide_eq_false_iff_not,Classical.not_not,Bool.not_eq_true,Bool.not_eq_true',Bool.not_eq_false',Bool.false_or,Bool.or_false,Bool.true_or,Bool.or_true,Bool.false_and,Bool.and_false,Bool.true_and,Bool.and_true] at hc) <;> (try simp -implicitDefEqProofs (disch:=first|omega|(simp only [go_sem,seval,h1,Qa,f1,f2,e1,g1,hc];first|done|omega)) only [go_sem,seval,h1,Qa,f1,f2,e1,g1,hc]))|(refine Qq ?_ ?_ <;> intro hc <;> (try simp only [decide_eq_true_eq,decide_eq_false_iff_not,Classical.not_not,Bool.not_eq_true,Bool.not_eq_true',Bool.not_eq_false',Bool.false_or,Bool.or_false,Bool.true_or,Bool.or_true,Bool.false_and,Bool.and_false,Bool.true_and,Bool.and_true] at hc) <;> (try simp -implicitDefEqProofs (disch:=first|omega|(simp only [go_sem,seval,h1,Qa,f1,f2,e1,g1,hc];first|done|omega)) only [go_sem,seval,h1,Qa,f1,f2,e1,g1,hc])))
    all_goals try (refine again' (k + 1) ⟨by omega,nxt ?_⟩ (by omega) rfl rfl;rw [YK (by assumption)];simp [ordB,shpB,fst0, *];done)
    all_goals (first|refine pfN hM ?_ ?_|refine pf0 hM ?_ ?_)
    all_goals first|(simp only [go_sem,seval]<;>omega)|skip
    all_goals simp -implicitDefEqProofs (disch:=first|omega|(simp only [go_sem,seval];first|done|omega)) only [go_sem,seval]
    all_goals refine congrArg PV.I (fin _ ?_ ?_).symm
    all_goals first|exact Qcq (by assumption)|(rw [YK (by assumption)];simp [ordB,shpB,fst0, *];done)|assumption|decide
   ·have f1:(0:Int) < k:=by omega
    have f2:(1:Int) < k:=by omega
    have e1:(k:Int) - 1 = ((k - 1:Nat):Int):=by omega
    have e2:(k:Int) - 2 = ((k - 2:Nat):Int):=by omega
    obtain ⟨p,g1⟩:∃ p,l[k - 1]? = some p:=⟨_,List.getElem?_eq_getElem (by omega)⟩
    obtain ⟨z,g2⟩:∃ p,l[k - 2]? = some p:=⟨_,List.getElem?_eq_getElem (by omega)⟩
    have p1:prev l 1 k = some p:=by simp [prev,g1];omega
    have p2:prev l 2 k = some z:=by simp [prev,g2];omega
    rw [p1,p2] at fin nxt
    simp -implicitDefEqProofs (disch:=first|omega|(simp only [go_sem,seval,hlt,h1,Qa];first|done|omega)) only [go_sem,seval,hlt,h1,Qa]
    repeat' (first|(refine Qb (VA _ _ _ _) ?_;(try simp -implicitDefEqProofs (disch:=first|omega|(simp only [go_sem,seval,h1,Qa,f1,f2,e1,e2,g1,g2];first|done|omega)) only [go_sem,seval,h1,Qa,f1,f2,e1,e2,g1,g2]))|(refine Qb (Za _ _) ?_;(try simp -implicitDefEqProofs (disch:=first|omega|(simp only [go_sem,seval,h1,Qa,f1,f2,e1,e2,g1,g2];first|done|omega)) only [go_sem,seval,h1,Qa,f1,f2,e1,e2,g1,g2]))|(refine Qb (Yp [_,_] (by simp) _) ?_;(try simp -implicitDefEqProofs (disch:=first|omega|(simp only [go_sem,seval,h1,Qa,f1,f2,e1,e2,g1,g2];first|done|omega)) only [go_sem,seval,h1,Qa,f1,f2,e1,e2,g1,g2]))|(refine Qb (Yq _ _ _ _) ?_;(try simp -implicitDefEqProofs (disch:=first|omega|(simp only [go_sem,seval,h1,Qa,f1,f2,e1,e2,g1,g2];first|done|omega)) only [go_sem,seval,h1,Qa,f1,f2,e1,e2,g1,g2]))|(refine Qg ?_ ?_ <;> intro hc <;> (try simp only [decide_eq_true_eq,decide_eq_false_iff_not,Classical.not_not,Bool.not_eq_true,Bool.not_eq_true',Bool.not_eq_false',Bool.false_or,Bool.or_false,Bool.true_or,Bool.or_true,Bool.false_and,Bool.and_false,Bool.true_and,Bool.and_true] at hc) <;> (try simp -implicitDefEqProofs (disch:=first|omega|(simp only [go_sem,seval,h1,Qa,f1,f2,e1,e2,g1,g2,hc];first|done|omega)) only [go_sem,seval,h1,Qa,f1,f2,e1,e2,g1,g2,hc]))|(refine Qq ?_ ?_ <;> intro hc <;> (try simp only [decide_eq_true_eq,decide_eq_false_iff_not,Classical.not_not,Bool.not_eq_true,Bool.not_eq_true',Bool.not_eq_false',Bool.false_or,Bool.or_false,Bool.true_or,Bool.or_true,Bool.false_and,Bool.and_false,Bool.true_and,Bool.and_true] at hc) <;> (try simp -implicitDefEqProofs (disch:=first|omega|(simp only [go_sem,seval,h1,Qa,f1,f2,e1,e2,g1,g2,hc];first|done|omega)) only [go_sem,seval,h1,Qa,f1,f2,e1,e2,g1,g2,hc])))
    all_goals try (refine again' (k + 1) ⟨by omega,nxt ?_⟩ (by omega) rfl rfl;rw [YK (by assumption)];simp [ordB,shpB,fst0, *];done)
    all_goals (first|refine pfN hM ?_ ?_|refine pf0 hM ?_ ?_)
    all_goals first|(simp only [go_sem,seval]<;>omega)|skip
    all_goals simp -implicitDefEqProofs (disch:=first|omega|(simp only [go_sem,seval];first|done|omega)) only [go_sem,seval]
    all_goals refine congrArg PV.I (fin _ ?_ ?_).symm
    all_goals first|exact Qcq (by assumption)|(rw [YK (by assumption)];simp [ordB,shpB,fst0, *];done)|assumption|decide
  ·simp -implicitDefEqProofs (disch:=first|omega|(simp only [go_sem,seval,hlt];first|done|omega)) only [go_sem,seval,hlt]
   (first|refine pfN hM ?_ ?_|refine pf0 hM ?_ ?_)
   ·simp -implicitDefEqProofs (disch:=first|omega|(simp only [go_sem,seval];first|done|omega)) only [go_sem,seval]
    rw [QbL (by omega)] at hs
    simp [Qh,hs];omega
   ·(simp only [go_sem,seval]<;>omega)
theorem QB (l:List Rev) (hl:l.length ≤ 1048576):Q X 32 [.fs (l.map Qc)] (.I (Qh l)):=by
 intro M
 (refine Qd (cf:=L7.c32) rfl rfl fun hM hA => ?_;simp only [L7.c32,zO,zF,zT,zM,CX.i];rw [mk1 _ (by decide)];simp -implicitDefEqProofs (disch:=first|omega|(simp only [go_sem,seval];first|done|omega)) only [go_sem,seval])
 refine Qg ?_ ?_ <;> intro hc <;> simp only [decide_eq_true_eq,decide_eq_false_iff_not,Classical.not_not] at hc
 ·simp -implicitDefEqProofs (disch:=first|omega|(simp only [go_sem,seval];first|done|omega)) only [go_sem,seval]
  (first|refine pfN hM ?_ ?_|refine pf0 hM ?_ ?_)
  ·simp -implicitDefEqProofs (disch:=first|omega|(simp only [go_sem,seval];first|done|omega)) only [go_sem,seval]
   congr 2;simp [Qh];omega
  ·(simp only [go_sem,seval]<;>omega)
 ·simp -implicitDefEqProofs (disch:=first|omega|(simp only [go_sem,seval];first|done|omega)) only [go_sem,seval]
  refine Qn (α:=Nat) 0 (fun k => k ≤ l.length ∧ QJ none none l = QJ (prev l 2 k) (prev l 1 k) (l.drop k)) (fun k => M) (fun k => [(0,.fs (l.map Qc)),(11,.fs (l.map Qc)),(12,.I l.length),(13,.I k)]) (fun k => l.length - k) ⟨Nat.zero_le _,rfl⟩ rfl rfl ?_
  rintro k ⟨hk,hs⟩
  by_cases hlt:k < l.length
  ·obtain ⟨x,h1⟩:∃ x,l[k]? = some x:=⟨_,List.getElem?_eq_getElem hlt⟩
   have hd:=QaN h1
   have fin:∀ e:Int,e = errAt (prev l 2 k) (prev l 1 k) x → ¬ e = 0 → Qh l = e:=by
    intro e h2 h3
    rw [h2] at h3 ⊢
    rw [if_neg h3] at hd
    simp only [Qh];rw [if_neg (by omega),hs,hd]
   have nxt:errAt (prev l 2 k) (prev l 1 k) x = 0 → QJ none none l = QJ (prev l 2 (k + 1)) (prev l 1 (k + 1)) (l.drop (k + 1)):=by
    intro h;rw [hs,hd,if_pos h]
   rcases (by omega:k = 0 ∨ k = 1 ∨ 2 ≤ k) with h0|h0|h0
   ·have f1:¬ (0:Int) < k:=by omega
    have f2:¬ (1:Int) < k:=by omega
    have p1:prev l 1 k = none:=by simp [prev,h0]
    have p2:prev l 2 k = none:=by simp [prev,h0]
    rw [p1,p2] at fin nxt
    simp -implicitDefEqProofs (disch:=first|omega|(simp only [go_sem,seval,hlt,h1,Qa,f1,f2];first|done|omega)) only [go_sem,seval,hlt,h1,Qa,f1,f2]
    repeat' (first|(refine Qb (Vd _ _) ?_;(try simp -implicitDefEqProofs (disch:=first|omega|(simp only [go_sem,seval,h1,Qa,f1,f2];first|done|omega)) only [go_sem,seval,h1,Qa,f1,f2]))|(refine Qb (Vo _ _) ?_;(try simp -implicitDefEqProofs (disch:=first|omega|(simp only [go_sem,seval,h1,Qa,f1,f2];first|done|omega)) only [go_sem,seval,h1,Qa,f1,f2]))|(refine Qb (Vj _ _ _) ?_;(try simp -implicitDefEqProofs (disch:=first|omega|(simp only [go_sem,seval,h1,Qa,f1,f2];first|done|omega)) only [go_sem,seval,h1,Qa,f1,f2]))|(refine Qb (Qy [_,_,_,_] (by simp) _) ?_;(try simp -implicitDefEqProofs (disch:=first|omega|(simp only [go_sem,seval,h1,Qa,f1,f2];first|done|omega)) only [go_sem,seval,h1,Qa,f1,f2]))|(refine Qb (Zf _ _ _ _) ?_;(try simp -implicitDefEqProofs (disch:=first|omega|(simp only [go_sem,seval,h1,Qa,f1,f2];first|done|omega)) only [go_sem,seval,h1,Qa,f1,f2]))|(refine Qg ?_ ?_ <;> intro hc <;> (try simp only [decide_eq_true_eq,decide_eq_false_iff_not,Classical.not_not,Bool.not_eq_true,Bool.not_eq_true',Bool.not_eq_false',Bool.false_or,Bool.or_false,Bool.true_or,Bool.or_true,Bool.false_and,Bool.and_false,Bool.true_and,Bool.and_true] at hc) <;> (try simp -implicitDefEqProofs (disch:=first|omega|(simp only [go_sem,seval,h1,Qa,f1,f2,hc];first|done|omega)) only [go_sem,seval,h1,Qa,f1,f2,hc]))|(refine Qq ?_ ?_ <;> intro hc <;> (try simp only [decide_eq_true_eq,decide_eq_false_iff_not,Classical.not_not,Bool.not_eq_true,Bool.not_eq_true',Bool.not_eq_false',Bool.false_or,Bool.or_false,Bool.true_or,Bool.or_true,Bool.false_and,Bool.and_false,Bool.true_and,Bool.and_true] at hc) <;> (try simp -implicitDefEqProofs (disch:=first|omega|(simp only [go_sem,seval,h1,Qa,f1,f2,hc];first|done|omega)) only [go_sem,seval,h1,Qa,f1,f2,hc])))
    all_goals try (refine Qm hM rfl 0 (by simp) (by first|done|(simp only [go_sem,seval,Qe] <;> first|done|(refine ⟨?_,?_⟩ <;> omega)|omega)) (Qr (by first|done|(simp only [go_sem,seval,Qe] <;> first|done|(refine ⟨?_,?_⟩ <;> omega)|omega))) ?_;simp -implicitDefEqProofs (disch:=first|omega|(simp only [go_sem,seval];first|done|omega)) only [go_sem,seval];refine again' (k + 1) ⟨by omega,nxt (by simpa [errAt,ordB,shpB, *] using hc)⟩ (by omega) rfl rfl;done)
    all_goals (first|refine pfN hM ?_ ?_|refine pf0 hM ?_ ?_)
    all_goals first|(simp only [go_sem,seval]<;>omega)|skip
    all_goals simp -implicitDefEqProofs (disch:=first|omega|(simp only [go_sem,seval];first|done|omega)) only [go_sem,seval]
    all_goals refine congrArg PV.I (fin _ (by simp [errAt,ordB,shpB, *]) (by first|assumption|simpa using hc)).symm
   ·have f1:(0:Int) < k:=by omega
    have f2:¬ (1:Int) < k:=by omega
    have e1:(k:Int) - 1 = ((k - 1:Nat):Int):=by omega
    obtain ⟨p,g1⟩:∃ p,l[k - 1]? = some p:=⟨_,List.getElem?_eq_getElem (by omega)⟩
    have p1:prev l 1 k = some p:=by simp [prev,g1];omega
    have p2:prev l 2 k = none:=by simp [prev,h0]
    rw [p1,p2] at fin nxt
    simp -implicitDefEqProofs (disch:=first|omega|(simp only [go_sem,seval,hlt,h1,Qa,f1,f2,e1,g1];first|done|omega)) only [go_sem,seval,hlt,h1,Qa,f1,f2,e1,g1]
    repeat' (first|(refine Qb (Vd _ _) ?_;(try simp -implicitDefEqProofs (disch:=first|omega|(simp only [go_sem,seval,h1,Qa,f1,f2,e1,g1];first|done|omega)) only [go_sem,seval,h1,Qa,f1,f2,e1,g1]))|(refine Qb (Vo _ _) ?_;(try simp -implicitDefEqProofs (disch:=first|omega|(simp only [go_sem,seval,h1,Qa,f1,f2,e1,g1];first|done|omega)) only [go_sem,seval,h1,Qa,f1,f2,e1,g1]))|(refine Qb (Vj _ _ _) ?_;(try simp -implicitDefEqProofs (disch:=first|omega|(simp only [go_sem,seval,h1,Qa,f1,f2,e1,g1];first|done|omega)) only [go_sem,seval,h1,Qa,f1,f2,e1,g1]))|(refine Qb (Qy [_,_,_,_] (by simp) _) ?_;(try simp -implicitDefEqProofs (disch:=first|omega|(simp only [go_sem,seval,h1,Qa,f1,f2,e1,g1];first|done|omega)) only [go_sem,seval,h1,Qa,f1,f2,e1,g1]))|(refine Qb (Zf _ _ _ _) ?_;(try simp -implicitDefEqProofs (disch:=first|omega|(simp only [go_sem,seval,h1,Qa,f1,f2,e1,g1];first|done|omega)) only [go_sem,seval,h1,Qa,f1,f2,e1,g1]))|(refine Qg ?_ ?_ <;> intro hc <;> (try simp only [decide_eq_true_eq,decide_eq_false_iff_not,Classical.not_not,Bool.not_eq_true,Bool.not_eq_true',Bool.not_eq_false',Bool.false_or,Bool.or_false,Bool.true_or,Bool.or_true,Bool.false_and,Bool.and_false,Bool.true_and,Bool.and_true] at hc) <;> (try simp -implicitDefEqProofs (disch:=first|omega|(simp only [go_sem,seval,h1,Qa,f1,f2,e1,g1,hc];first|done|omega)) only [go_sem,seval,h1,Qa,f1,f2,e1,g1,hc]))|(refine Qq ?_ ?_ <;> intro hc <;> (try simp only [decide_eq_true_eq,decide_eq_false_iff_not,Classical.not_not,Bool.not_eq_true,Bool.not_eq_true',Bool.not_eq_false',Bool.false_or,Bool.or_false,Bool.true_or,Bool.or_true,Bool.false_and,Bool.and_false,Bool.true_and,Bool.and_true] at hc) <;> (try simp -implicitDefEqProofs (disch:=first|omega|(simp only [go_sem,seval,h1,Qa,f1,f2,e1,g1,hc];first|done|omega)) only [go_sem,seval,h1,Qa,f1,f2,e1,g1,hc])))
    all_goals try (refine Qm hM rfl 0 (by simp) (by first|done|(simp only [go_sem,seval,Qe] <;> first|done|(refine ⟨?_,?_⟩ <;> omega)|omega)) (Qr (by first|done|(simp only [go_sem,seval,Qe] <;> first|done|(refine ⟨?_,?_⟩ <;> omega)|omega))) ?_;simp -implicitDefEqProofs (disch:=first|omega|(simp only [go_sem,seval];first|done|omega)) only [go_sem,seval];refine again' (k + 1) ⟨by omega,nxt (by simpa [errAt,ordB,shpB, *] using hc)⟩ (by omega) rfl rfl;done)
    all_goals (first|refine pfN hM ?_ ?_|refine pf0 hM ?_ ?_)
    all_goals first|(simp only [go_sem,seval]<;>omega)|skip
    all_goals simp -implicitDefEqProofs (disch:=first|omega|(simp only [go_sem,seval];first|done|omega)) only [go_sem,seval]
    all_goals refine congrArg PV.I (fin _ (by simp [errAt,ordB,shpB, *]) (by first|assumption|simpa using hc)).symm
   ·have f1:(0:Int) < k:=by omega
    have f2:(1:Int) < k:=by omega
    have e1:(k:Int) - 1 = ((k - 1:Nat):Int):=by omega
    have e2:(k:Int) - 2 = ((k - 2:Nat):Int):=by omega
    obtain ⟨p,g1⟩:∃ p,l[k - 1]? = some p:=⟨_,List.getElem?_eq_getElem (by omega)⟩
    obtain ⟨z,g2⟩:∃ p,l[k - 2]? = some p:=⟨_,List.getElem?_eq_getElem (by omega)⟩
    have p1:prev l 1 k = some p:=by simp [prev,g1];omega
    have p2:prev l 2 k = some z:=by simp [prev,g2];omega
    rw [p1,p2] at fin nxt
    simp -implicitDefEqProofs (disch:=first|omega|(simp only [go_sem,seval,hlt,h1,Qa,f1,f2,e1,e2,g1,g2];first|done|omega)) only [go_sem,seval,hlt,h1,Qa,f1,f2,e1,e2,g1,g2]
    repeat' (first|(refine Qb (Vd _ _) ?_;(try simp -implicitDefEqProofs (disch:=first|omega|(simp only [go_sem,seval,h1,Qa,f1,f2,e1,e2,g1,g2];first|done|omega)) only [go_sem,seval,h1,Qa,f1,f2,e1,e2,g1,g2]))|(refine Qb (Vo _ _) ?_;(try simp -implicitDefEqProofs (disch:=first|omega|(simp only [go_sem,seval,h1,Qa,f1,f2,e1,e2,g1,g2];first|done|omega)) only [go_sem,seval,h1,Qa,f1,f2,e1,e2,g1,g2]))|(refine Qb (Vj _ _ _) ?_;(try simp -implicitDefEqProofs (disch:=first|omega|(simp only [go_sem,seval,h1,Qa,f1,f2,e1,e2,g1,g2];first|done|omega)) only [go_sem,seval,h1,Qa,f1,f2,e1,e2,g1,g2]))|(refine Qb (Qy [_,_,_,_] (by simp) _) ?_;(try simp -implicitDefEqProofs (disch:=first|omega|(simp only [go_sem,seval,h1,Qa,f1,f2,e1,e2,g1,g2];first|done|omega)) only [go_sem,seval,h1,Qa,f1,f2,e1,e2,g1,g2]))|(refine Qb (Zf _ _ _ _) ?_;(try simp -implicitDefEqProofs (disch:=first|omega|(simp only [go_sem,seval,h1,Qa,f1,f2,e1,e2,g1,g2];first|done|omega)) only [go_sem,seval,h1,Qa,f1,f2,e1,e2,g1,g2]))|(refine Qg ?_ ?_ <;> intro hc <;> (try simp only [decide_eq_true_eq,decide_eq_false_iff_not,Classical.not_not,Bool.not_eq_true,Bool.not_eq_true',Bool.not_eq_false',Bool.false_or,Bool.or_false,Bool.true_or,Bool.or_true,Bool.false_and,Bool.and_false,Bool.true_and,Bool.and_true] at hc) <;> (try simp -implicitDefEqProofs (disch:=first|omega|(simp only [go_sem,seval,h1,Qa,f1,f2,e1,e2,g1,g2,hc];first|done|omega)) only [go_sem,seval,h1,Qa,f1,f2,e1,e2,g1,g2,hc]))|(refine Qq ?_ ?_ <;> intro hc <;> (try simp only [decide_eq_true_eq,decide_eq_false_iff_not,Classical.not_not,Bool.not_eq_true,Bool.not_eq_true',Bool.not_eq_false',Bool.false_or,Bool.or_false,Bool.true_or,Bool.or_true,Bool.false_and,Bool.and_false,Bool.true_and,Bool.and_true] at hc) <;> (try simp -implicitDefEqProofs (disch:=first|omega|(simp only [go_sem,seval,h1,Qa,f1,f2,e1,e2,g1,g2,hc];first|done|omega)) only [go_sem,seval,h1,Qa,f1,f2,e1,e2,g1,g2,hc])))
    all_goals try (refine Qm hM rfl 0 (by simp) (by first|done|(simp only [go_sem,seval,Qe] <;> first|done|(refine ⟨?_,?_⟩ <;> omega)|omega)) (Qr (by first|done|(simp only [go_sem,seval,Qe] <;> first|done|(refine ⟨?_,?_⟩ <;> omega)|omega))) ?_;simp -implicitDefEqProofs (disch:=first|omega|(simp only [go_sem,seval];first|done|omega)) only [go_sem,seval];refine again' (k + 1) ⟨by omega,nxt (by simpa [errAt,ordB,shpB, *] using hc)⟩ (by omega) rfl rfl;done)
    all_goals (first|refine pfN hM ?_ ?_|refine pf0 hM ?_ ?_)
    all_goals first|(simp only [go_sem,seval]<;>omega)|skip
    all_goals simp -implicitDefEqProofs (disch:=first|omega|(simp only [go_sem,seval];first|done|omega)) only [go_sem,seval]
    all_goals refine congrArg PV.I (fin _ (by simp [errAt,ordB,shpB, *]) (by first|assumption|simpa using hc)).symm
  ·simp -implicitDefEqProofs (disch:=first|omega|(simp only [go_sem,seval,hlt];first|done|omega)) only [go_sem,seval,hlt]
   (first|refine pfN hM ?_ ?_|refine pf0 hM ?_ ?_)
   ·simp -implicitDefEqProofs (disch:=first|omega|(simp only [go_sem,seval];first|done|omega)) only [go_sem,seval]
    rw [QbL (by omega)] at hs
    simp [Qh,hs];omega
   ·(simp only [go_sem,seval]<;>omega)
theorem QbE {p:Int → Bool} {g:FuncId} {cap:List PV} {l:List Int} {M:List Blk} (hl:l.length ≤ 1048576) (hg:∀ n N,ACall F X (.fn g) (.I n :: cap) (M ++ N) (.B (p n)) (M ++ N)) :
  ACall F X (.fn 70) [.fs (l.map .I),.fn (.func g) [] cap] M (.fs ((l.filter p).map .I)) M:=by
 (refine Qd (cf:=L7.c70) rfl rfl fun hM hA => ?_;simp only [L7.c70,zO,zF,zT,zM,CX.i];rw [mk2 _ (by decide)];simp -implicitDefEqProofs (disch:=first|omega|(simp only [go_sem,seval];first|done|omega)) only [go_sem,seval])
 have hcap:lowL M.length cap:=by simp only [lowL,PV.low] at hA;exact hA.2.1.2
 refine Qn (α:=Nat) 0 (fun k => k ≤ l.length) (fun k => M ++ [.row true 1 ((l.take k).filter p).length (((l.take k).filter p).map .I)])
  (fun k => [(1,.fn (.func g) [] cap),(5,.os M.length ((l.take k).filter p).length 0 ((l.take k).filter p).length),(8,.fs (l.map .I)),(9,.I l.length),(10,.I k)]) (fun k => l.length - k) (Nat.zero_le _) rfl rfl ?_
 intro k hk
 by_cases hlt:k < l.length
 ·obtain ⟨x,h1⟩:∃ x,l[k]? = some x:=⟨_,List.getElem?_eq_getElem hlt⟩
  have hf:=Je p h1
  have hfl:((l.take k).filter p).length ≤ k:=Nat.le_trans (List.length_filter_le _ _) (by simp;omega)
  simp -implicitDefEqProofs (disch:=first|omega|(simp only [go_sem,seval,hlt,h1];first|done|omega)) only [go_sem,seval,hlt,h1]
  refine Qb (hg x _) ?_
  simp -implicitDefEqProofs (disch:=first|omega|(simp only [go_sem,seval];first|done|omega)) only [go_sem,seval]
  have hcap1:=QR (Nat.le_add_right M.length 1) cap hcap
  refine Qg ?_ ?_ <;> intro hc <;> (try simp only [decide_eq_true_eq,decide_eq_false_iff_not,Classical.not_not,Bool.not_eq_true,Bool.not_eq_true',Bool.not_eq_false',Bool.false_or,Bool.or_false,Bool.true_or,Bool.or_true,Bool.false_and,Bool.and_false,Bool.true_and,Bool.and_true] at hc) <;> simp -implicitDefEqProofs (disch:=first|omega|(simp only [go_sem,seval,h1,hc];first|done|omega)) only [go_sem,seval,h1,hc]
  ·rw [if_pos hc] at hf
   refine Qm hM rfl 1 (by simp) (by first|done|(simp only [go_sem,seval,ZV,hcap1] <;> first|done|(refine ⟨?_,?_⟩ <;> omega)|omega)) (Qr (by first|done|(simp only [go_sem,seval,ZV,hcap1] <;> first|done|(refine ⟨?_,?_⟩ <;> omega)|omega))) ?_
   simp -implicitDefEqProofs (disch:=first|omega|(simp only [go_sem,seval];first|done|omega)) only [go_sem,seval]
   exact again' (k + 1) (by omega) (by omega) (by rw [hf];simp) (by rw [hf];simp)
  ·rw [if_neg (by simp [hc]),List.append_nil] at hf
   refine Qm hM rfl 1 (by simp) (by first|done|(simp only [go_sem,seval,ZV,hcap1] <;> first|done|(refine ⟨?_,?_⟩ <;> omega)|omega)) (Qr (by first|done|(simp only [go_sem,seval,ZV,hcap1] <;> first|done|(refine ⟨?_,?_⟩ <;> omega)|omega))) ?_
   simp -implicitDefEqProofs (disch:=first|omega|(simp only [go_sem,seval];first|done|omega)) only [go_sem,seval]
   exact again' (k + 1) (by omega) (by omega) (by rw [hf]) (by rw [hf];rfl)
 ·simp -implicitDefEqProofs (disch:=first|omega|(simp only [go_sem,seval,hlt];first|done|omega)) only [go_sem,seval,hlt]
  (first|refine pfN hM ?_ ?_|refine pf0 hM ?_ ?_)
  ·simp -implicitDefEqProofs (disch:=first|omega|(simp only [go_sem,seval];first|done|omega)) only [go_sem,seval]
   rw [List.take_of_length_le (by omega)]
  ·(simp only [go_sem,seval,ZV]<;>omega)
theorem Zb (l:List Int) (hl:l.length ≤ 1048576):Q X 44 [.fs (l.map .I)] (.I (QI l)):=by
 intro M
 have hf:(l.filter Zo).length ≤ l.length:=List.length_filter_le _ _
 (refine Qd (cf:=L7.c44) rfl rfl fun hM hA => ?_;simp only [L7.c44,zO,zF,zT,zM,CX.i];rw [mk1 _ (by decide)];simp -implicitDefEqProofs (disch:=first|omega|(simp only [go_sem,seval];first|done|omega)) only [go_sem,seval])
 refine Qb (QbE (p:=Zo) hl fun n N => J1 n _) ?_
 simp -implicitDefEqProofs (disch:=first|omega|(simp only [go_sem,seval];first|done|omega)) only [go_sem,seval]
 repeat' (first|(refine Qb (Vj _ _ _) ?_;(try simp -implicitDefEqProofs (disch:=first|omega|(simp only [go_sem,seval];first|done|omega)) only [go_sem,seval]))|(refine Qb (Qy [_,_] (by simp) _) ?_;(try simp -implicitDefEqProofs (disch:=first|omega|(simp only [go_sem,seval];first|done|omega)) only [go_sem,seval]))|(refine Qg ?_ ?_ <;> intro hc <;> (try simp only [decide_eq_true_eq,decide_eq_false_iff_not,Classical.not_not,Bool.not_eq_true,Bool.not_eq_true',Bool.not_eq_false',Bool.false_or,Bool.or_false,Bool.true_or,Bool.or_true,Bool.false_and,Bool.and_false,Bool.true_and,Bool.and_true] at hc) <;> (try simp -implicitDefEqProofs (disch:=first|omega|(simp only [go_sem,seval,hc];first|done|omega)) only [go_sem,seval,hc]))|(refine Qq ?_ ?_ <;> intro hc <;> (try simp only [decide_eq_true_eq,decide_eq_false_iff_not,Classical.not_not,Bool.not_eq_true,Bool.not_eq_true',Bool.not_eq_false',Bool.false_or,Bool.or_false,Bool.true_or,Bool.or_true,Bool.false_and,Bool.and_false,Bool.true_and,Bool.and_true] at hc) <;> (try simp -implicitDefEqProofs (disch:=first|omega|(simp only [go_sem,seval,hc];first|done|omega)) only [go_sem,seval,hc])))
 (first|refine pfN hM ?_ ?_|refine pf0 hM ?_ ?_)
 ·simp -implicitDefEqProofs (disch:=first|omega|(simp only [go_sem,seval];first|done|omega)) only [go_sem,seval]
  refine congrArg PV.I ?_
  simp only [QI,fst0]
  generalize (l.filter Zo).length = m
  by_cases h1:40000 < l.length
  ·have h2:(40000:Int) < l.length:=by omega
   have h3:¬ (l.length:Int) ≤ 40000:=by omega
   simp [h1,h2,h3]
  ·have h2:¬ (40000:Int) < l.length:=by omega
   by_cases hm:m = 0
   ·subst hm;simp [h1,h2]
   ·have:(0:Int) < m:=by omega
    simp [h1,h2,hm,this]
 ·(simp only [go_sem,seval]<;>omega)
abbrev Yields (X:XRel):=QfF F X
theorem Qbh (l:List Int) (hl:l.length ≤ 1048576):Yields X 73 [.fp [.fs (l.map .I)]] ((points l).map Qc):=by
 intro i N hN hy
 have hpl:((points l).map Qc).length = l.length:=by simp [points]
 refine Qd (cf:=c73) rfl rfl fun hM hA => ?_
 have hi:i < (N 0).length:=by simp only [lowL,PV.low] at hA;exact hA.1
 simp only [c73,zO,zF,zT,zM,CX.i]
 rw [mk2 _ (by decide)]
 simp -implicitDefEqProofs (disch:=first|omega|(simp only [go_sem,seval];first|done|omega)) only [go_sem,seval]
 refine Qn (α:=Nat) 0 (fun k => k ≤ l.length) (fun k => N k) (fun k => [(0,.yl i),(5,.fs (l.map .I)),(6,.I l.length),(7,.I k)]) (fun k => l.length - k) (Nat.zero_le _) rfl rfl ?_
 intro k hk
 by_cases hlt:k < l.length
 ·obtain ⟨x,h1⟩:∃ x,l[k]? = some x:=⟨_,List.getElem?_eq_getElem hlt⟩
  have hp:((points l).map Qc)[k]? = some (Qc ⟨k,x⟩):=by simp [points,h1]
  simp -implicitDefEqProofs (disch:=first|omega|(simp only [go_sem,seval,hlt,h1];first|done|omega)) only [go_sem,seval,hlt,h1]
  have hy1:=hy k _ [] hp
  simp only [List.append_nil] at hy1
  refine Q0 hy1 ?_
  have hk1:=hN (k + 1) (by omega)
  simp -implicitDefEqProofs (disch:=first|omega|(simp only [go_sem,seval];first|done|omega)) only [go_sem,seval]
  refine QnM hk1.2 (by omega) (Qr ?_) ?_
  ·have:i < (N (k + 1)).length:=by omega
   simp only [go_sem,seval,this]
  ·simp -implicitDefEqProofs (disch:=first|omega|(simp only [go_sem,seval];first|done|omega)) only [go_sem,seval]
   exact again' (k + 1) (by omega) (by omega) rfl rfl
 ·simp -implicitDefEqProofs (disch:=first|omega|(simp only [go_sem,seval,hlt];first|done|omega)) only [go_sem,seval,hlt]
  have e:(points l).length = k:=by simp [points];omega
  have hk0:=hN k (by omega)
  rw [e]
  refine QQ Zq hk0.2 hk0.1.symm ?_ ?_
  ·simp -implicitDefEqProofs (disch:=first|omega|(simp only [go_sem,seval];first|done|omega)) only [go_sem,seval]
   rfl
  ·(simp only [go_sem,seval]<;>omega)
theorem ZG (l:List Rev) (hl:l.length ≤ 1048576):Yields X 85 [.fp [.fs (l.map Qc)]] (l.map Qc):=by
 intro i N hN hy
 have hpl:(l.map Qc).length = l.length:=by simp
 refine Qd (cf:=c85) rfl rfl fun hM hA => ?_
 have hi:i < (N 0).length:=by simp only [lowL,PV.low] at hA;exact hA.1
 simp only [c85,zO,zF,zT,zM,CX.i]
 rw [mk2 _ (by decide)]
 simp -implicitDefEqProofs (disch:=first|omega|(simp only [go_sem,seval];first|done|omega)) only [go_sem,seval]
 refine Qn (α:=Nat) 0 (fun k => k ≤ l.length) (fun k => N k) (fun k => [(0,.yl i),(5,.fs (l.map Qc)),(6,.I l.length),(7,.I k)]) (fun k => l.length - k) (Nat.zero_le _) rfl rfl ?_
 intro k hk
 have hk0:=hN k (by omega)
 by_cases hlt:k < l.length
 ·obtain ⟨x,h1⟩:∃ x,l[k]? = some x:=⟨_,List.getElem?_eq_getElem hlt⟩
  have hp:(l.map Qc)[k]? = some (Qc x):=by simp [h1]
  have hk1:=hN (k + 1) (by omega)
  simp -implicitDefEqProofs (disch:=first|omega|(simp only [go_sem,seval,hlt,h1,Qa];first|done|omega)) only [go_sem,seval,hlt,h1,Qa]
  refine Q0 (hy k _ _ hp) ?_
  simp -implicitDefEqProofs (disch:=first|omega|(simp only [go_sem,seval];first|done|omega)) only [go_sem,seval]
  refine Qm hk1.2 (by omega) 0 (by simp) Y4 (Qr ?_) ?_
  ·have:i < (N (k + 1)).length:=by omega
   simp only [go_sem,seval,this,Nat.add_zero]
  ·simp -implicitDefEqProofs (disch:=first|omega|(simp only [go_sem,seval];first|done|omega)) only [go_sem,seval]
   exact again' (k + 1) (by omega) (by omega) rfl rfl
 ·simp -implicitDefEqProofs (disch:=first|omega|(simp only [go_sem,seval,hlt];first|done|omega)) only [go_sem,seval,hlt]
  have e:l.length = k:=by omega
  rw [e]
  refine QQ Zq hk0.2 hk0.1.symm ?_ ?_
  ·simp -implicitDefEqProofs (disch:=first|omega|(simp only [go_sem,seval];first|done|omega)) only [go_sem,seval]
   rfl
  ·(simp only [go_sem,seval]<;>omega)
theorem Qim {l:List Rev} {k:Nat} {x:Rev} (h:l[k]? = some x):Qv (l.take (k + 1)) = Qz (Qv (l.take k)) x:=by
 obtain ⟨h1,h2⟩:=List.getElem?_eq_some_iff.1 h
 unfold Qv
 rw [List.take_succ_eq_append_getElem h1,h2,List.foldl_append];rfl
theorem QeX (o:List Rev) (x:Rev):(Qz o x).length ≤ o.length + 1:=by
 unfold Qz
 split
 ·simp
 ·split
  ·omega
  ·split
   ·simp
   ·split <;> simp <;> omega
theorem Qbb (l:List Rev):(Qv l).length ≤ l.length:=by
 unfold Qv
 have:∀ (l o:List Rev),(l.foldl Qz o).length ≤ o.length + l.length:=by
  intro l
  induction l with
  | nil => intro o;simp
  | cons x l ih => intro o;have:=ih (Qz o x);have:=QeX o x;simp only [List.foldl_cons,List.length_cons];omega
 simpa using this l []
theorem VJ {l:List Rev} {g:FuncId} {cap:List PV} (hl:l.length ≤ 1048576) (hg:Yields X g cap (l.map Qc)):Q X 72 [.fn (.func g) [] cap] (.fs ((Qv l).map Qc)):=by
 intro M
 (refine Qd (cf:=L7.c72) rfl rfl fun hM hA => ?_;simp only [L7.c72,zO,zF,zT,zM,CX.i];rw [mk1 _ (by decide)];simp -implicitDefEqProofs (disch:=first|omega|(simp only [go_sem,seval];first|done|omega)) only [go_sem,seval])
 have hcap:lowL M.length cap:=by simp only [lowL,PV.low] at hA;exact hA.1.2
 have hlen:∀ k,(Qv (l.take k)).length ≤ k:=fun k => Nat.le_trans (Qbb _) (List.length_take_le _ _)
 refine Qgc hg (fun k => [.row true 1 0 [.os (M.length + 1) (Qv (l.take k)).length 0 (Qv (l.take k)).length],.row true 2 (Qv (l.take k)).length ((Qv (l.take k)).map Qc)]) hM (by simp -implicitDefEqProofs (disch:=first|omega|(simp only [go_sem,seval];first|done|omega)) only [go_sem,seval]) (fun k => rfl) ?_ ?_ ?_ ?_
 ·intro k _
  simp only [go_sem,seval,Qe]
  try simp
 ·refine (?_:lowL (M.length + (0 + 1 + 1)) _)
  simp only [go_sem,seval,QR (Nat.le_add_right M.length 2) cap hcap]
 ·intro k x E L LB hx hE
  obtain ⟨y,h1,rfl⟩:∃ y,l[k]? = some y ∧ Qc y = x:=by simpa using hx
  have hk:k < l.length:=(List.getElem?_eq_some_iff.1 h1).1
  have hs:=Qim h1
  have ho:=hlen k
  simp only [hs]
  generalize Qv (l.take k) = o at ho ⊢
  clear hs hlen hx
  simp -implicitDefEqProofs (disch:=first|omega|(simp only [go_sem,seval,Qa];first|done|omega)) only [go_sem,seval,Qa]
  refine QoD (by rw [getMj];rfl) ?_
  simp -implicitDefEqProofs (disch:=first|omega|(simp only [go_sem,seval,Qa];first|done|omega)) only [go_sem,seval,Qa]
  have ho2:o.length ≤ 1048575:=by omega
  rcases (by omega:o.length = 0 ∨ 1 ≤ o.length) with h0|h0
  ·have f1:¬ (0:Int) < o.length:=by omega
   have f2:¬ (1:Int) < o.length:=by omega
   rw [Qhg h0]
   simp -implicitDefEqProofs (disch:=first|omega|(simp only [go_sem,seval,Qa,f1,f2];first|done|omega)) only [go_sem,seval,Qa,f1,f2]
   refine Qal [.row true 2 0 [.agg [.I y.at_,.I y.ld]]] ?_
   simp [Qc]
  ·obtain ⟨a,g1⟩:∃ p,o[o.length - 1]? = some p:=⟨_,List.getElem?_eq_getElem (by omega)⟩
   have f1:(0:Int) < o.length:=by omega
   have e1:(o.length:Int) - 1 = ((o.length - 1:Nat):Int):=by omega
   have l1:o.length - 1 < o.length:=by omega
   simp -implicitDefEqProofs (disch:=first|omega|(simp only [go_sem,seval,Qa,f1,e1,g1,l1];first|done|omega)) only [go_sem,seval,Qa,f1,e1,g1,l1]
   refine Qg ?_ ?_ <;> intro hc <;> (try simp only [decide_eq_true_eq,decide_eq_false_iff_not,Classical.not_not,Bool.not_eq_true,Bool.not_eq_true',Bool.not_eq_false',Bool.false_or,Bool.or_false,Bool.true_or,Bool.or_true,Bool.false_and,Bool.and_false,Bool.true_and,Bool.and_true] at hc) <;> simp -implicitDefEqProofs (disch:=first|omega|(simp only [go_sem,seval,Qa,f1,e1,g1,l1,hc];first|done|omega)) only [go_sem,seval,Qa,f1,e1,g1,l1,hc]
   ·rw [Qgs g1 hc]
    refine Qal [.row true 2 0 [.agg [.I y.at_,.I y.ld]]] ?_
    simp [Qc]
   ·rcases (by omega:o.length = 1 ∨ 2 ≤ o.length) with h2|h2
    ·have f2:¬ (1:Int) < o.length:=by omega
     rw [QiC g1 hc h2]
     simp -implicitDefEqProofs (disch:=first|omega|(simp only [go_sem,seval,Qa,f1,f2];first|done|omega)) only [go_sem,seval,Qa,f1,f2]
     refine Qal [.row true 2 0 [.agg [.I y.at_,.I y.ld]]] ?_
     simp [Qc]
    ·have f2:(1:Int) < o.length:=by omega
     have e2:(o.length:Int) - 2 = ((o.length - 2:Nat):Int):=by omega
     have l2:o.length - 2 < o.length:=by omega
     obtain ⟨b,g2⟩:∃ p,o[o.length - 2]? = some p:=⟨_,List.getElem?_eq_getElem (by omega)⟩
     rw [Qin g1 g2 h2 hc]
     simp -implicitDefEqProofs (disch:=first|omega|(simp only [go_sem,seval,Qa,f1,f2,e1,e2,g1,g2,l1,l2];first|done|omega)) only [go_sem,seval,Qa,f1,f2,e1,e2,g1,g2,l1,l2]
     refine Qb (Zf _ _ _ _) ?_
     simp -implicitDefEqProofs (disch:=first|omega|(simp only [go_sem,seval,Qa];first|done|omega)) only [go_sem,seval,Qa]
     refine Qg ?_ ?_ <;> intro hc <;> (try simp only [decide_eq_true_eq,decide_eq_false_iff_not,Classical.not_not,Bool.not_eq_true,Bool.not_eq_true',Bool.not_eq_false',Bool.false_or,Bool.or_false,Bool.true_or,Bool.or_true,Bool.false_and,Bool.and_false,Bool.true_and,Bool.and_true] at hc) <;> simp -implicitDefEqProofs (disch:=first|omega|(simp only [go_sem,seval,Qa,QD,f1,f2,e1,g1,l1,hc];first|done|omega)) only [go_sem,seval,Qa,QD,f1,f2,e1,g1,l1,hc]
     ·refine Qal [.row true 2 0 [.agg [.I y.at_,.I y.ld]]] ?_
      simp [Qc]
     ·refine Qal [.row true 2 0 [.agg [.I y.at_,.I y.ld]]] ?_
      simp [Qc]
 ·simp -implicitDefEqProofs (disch:=first|omega|(simp only [go_sem,seval];first|done|omega)) only [go_sem,seval]
  (first|refine pfN hM ?_ ?_|refine pf0 hM ?_ ?_)
  ·simp -implicitDefEqProofs (disch:=first|omega|(simp only [go_sem,seval];first|done|omega)) only [go_sem,seval]
   rw [List.take_of_length_le (Nat.le_refl _),List.take_of_length_le (by simp)]
  ·(simp only [go_sem,seval,Qe]<;>omega)
theorem Jw (l:List Int) (hl:l.length ≤ 1048576):Q X 45 [.fs (l.map .I)] (.fs ((Qv (points l)).map Qc)):=by
 intro M
 (refine Qd (cf:=L7.c45) rfl rfl fun hM hA => ?_;simp only [L7.c45,zO,zF,zT,zM,CX.i];rw [mk1 _ (by decide)];simp -implicitDefEqProofs (disch:=first|omega|(simp only [go_sem,seval];first|done|omega)) only [go_sem,seval])
 refine Qb (VJ (by simp [points];omega) (Qbh l hl) _) ?_
 simp -implicitDefEqProofs (disch:=first|omega|(simp only [go_sem,seval];first|done|omega)) only [go_sem,seval]
 (all_goals (first|refine pfN hM ?_ ?_|refine pf0 hM ?_ ?_);all_goals first|(simp only [go_sem,seval,Qe]<;>omega)|skip;all_goals (try simp -implicitDefEqProofs (disch:=first|omega|(simp only [go_sem,seval];first|done|omega)) only [go_sem,seval]))
theorem Y0 (l:List Int) (hl:l.length ≤ 1048576):Q X 16 [.fs (l.map .I)] (.tup [.fs ((if QI l = 0 then Qv (points l) else []).map Qc),.I (QI l)]):=by
 intro M
 (refine Qd (cf:=L7.c16) rfl rfl fun hM hA => ?_;simp only [L7.c16,zO,zF,zT,zM,CX.i];rw [mk1 _ (by decide)];simp -implicitDefEqProofs (disch:=first|omega|(simp only [go_sem,seval];first|done|omega)) only [go_sem,seval])
 repeat' (first|(refine Qb (Zb _ hl _) ?_;(try simp -implicitDefEqProofs (disch:=first|omega|(simp only [go_sem,seval];first|done|omega)) only [go_sem,seval]))|(refine Qb (Jw _ hl _) ?_;(try simp -implicitDefEqProofs (disch:=first|omega|(simp only [go_sem,seval];first|done|omega)) only [go_sem,seval]))|(refine Qg ?_ ?_ <;> intro hc <;> (try simp only [decide_eq_true_eq,decide_eq_false_iff_not,Classical.not_not,Bool.not_eq_true,Bool.not_eq_true',Bool.not_eq_false',Bool.false_or,Bool.or_false,Bool.true_or,Bool.or_true,Bool.false_and,Bool.and_false,Bool.true_and,Bool.and_true] at hc) <;> (try simp -implicitDefEqProofs (disch:=first|omega|(simp only [go_sem,seval,hc];first|done|omega)) only [go_sem,seval,hc]))|(refine Qq ?_ ?_ <;> intro hc <;> (try simp only [decide_eq_true_eq,decide_eq_false_iff_not,Classical.not_not,Bool.not_eq_true,Bool.not_eq_true',Bool.not_eq_false',Bool.false_or,Bool.or_false,Bool.true_or,Bool.or_true,Bool.false_and,Bool.and_false,Bool.true_and,Bool.and_true] at hc) <;> (try simp -implicitDefEqProofs (disch:=first|omega|(simp only [go_sem,seval,hc];first|done|omega)) only [go_sem,seval,hc])))
 ·(first|refine pfN hM ?_ ?_|refine pf0 hM ?_ ?_)
  ·simp -implicitDefEqProofs (disch:=first|omega|(simp only [go_sem,seval,hc];first|done|omega)) only [go_sem,seval,hc]
  ·(simp only [go_sem,seval,Qe]<;>omega)
 ·(first|refine pfN hM ?_ ?_|refine pf0 hM ?_ ?_)
  ·simp -implicitDefEqProofs (disch:=first|omega|(simp only [go_sem,seval,hc];first|done|omega)) only [go_sem,seval,hc]
  ·(simp only [go_sem,seval,Qe]<;>omega)
theorem Qai (l:List Cyc) (hl:l.length ≤ 1048576):Q X 53 [.fs (l.map Qw)] (.I (QN l)):=by
 intro M
 (refine Qd (cf:=L7.c53) rfl rfl fun hM hA => ?_;simp only [L7.c53,zO,zF,zT,zM,CX.i];rw [mk1 _ (by decide)];simp -implicitDefEqProofs (disch:=first|omega|(simp only [go_sem,seval];first|done|omega)) only [go_sem,seval])
 refine Qg ?_ ?_ <;> intro hc <;> simp only [decide_eq_true_eq,decide_eq_false_iff_not,Classical.not_not] at hc
 ·simp -implicitDefEqProofs (disch:=first|omega|(simp only [go_sem,seval];first|done|omega)) only [go_sem,seval]
  (first|refine pfN hM ?_ ?_|refine pf0 hM ?_ ?_)
  ·simp -implicitDefEqProofs (disch:=first|omega|(simp only [go_sem,seval];first|done|omega)) only [go_sem,seval]
   congr 2;simp [QN];omega
  ·(simp only [go_sem,seval]<;>omega)
 ·simp -implicitDefEqProofs (disch:=first|omega|(simp only [go_sem,seval];first|done|omega)) only [go_sem,seval]
  have hcl:QN l = fst0 (l.map errC):=by rw [QN,if_neg (by omega)]
  refine Qn (α:=Nat) 0 (fun k => k ≤ l.length ∧ QN l = fst0 ((l.map errC).drop k)) (fun k => M) (fun k => [(9,.fs (l.map Qw)),(10,.I l.length),(11,.I k)]) (fun k => l.length - k) ⟨Nat.zero_le _,hcl⟩ rfl rfl ?_
  rintro k ⟨hk,hs⟩
  by_cases hlt:k < l.length
  ·obtain ⟨x,h1⟩:∃ x,l[k]? = some x:=⟨_,List.getElem?_eq_getElem hlt⟩
   have h2:=Qah (l.map errC) k (errC x) (by simp [h1])
   have fin:∀ e:Int,e = errC x → ¬ e = 0 → QN l = e:=by
    intro e h3 h4
    rw [h3] at h4 ⊢
    rw [hs,h2,if_neg h4]
   have nxt:errC x = 0 → QN l = fst0 ((l.map errC).drop (k + 1)):=by
    intro h;rw [hs,h2,if_pos h]
   clear h2
   simp -implicitDefEqProofs (disch:=first|omega|(simp only [go_sem,seval,hlt,h1,Qj];first|done|omega)) only [go_sem,seval,hlt,h1,Qj]
   repeat' (first|(refine Qb (Vd _ _) ?_;(try simp -implicitDefEqProofs (disch:=first|omega|(simp only [go_sem,seval,h1,Qj];first|done|omega)) only [go_sem,seval,h1,Qj]))|(refine Qb (Vo _ _) ?_;(try simp -implicitDefEqProofs (disch:=first|omega|(simp only [go_sem,seval,h1,Qj];first|done|omega)) only [go_sem,seval,h1,Qj]))|(refine Qb (Vj _ _ _) ?_;(try simp -implicitDefEqProofs (disch:=first|omega|(simp only [go_sem,seval,h1,Qj];first|done|omega)) only [go_sem,seval,h1,Qj]))|(refine Qb (Qy [_,_,_,_,_] (by simp) _) ?_;(try simp -implicitDefEqProofs (disch:=first|omega|(simp only [go_sem,seval,h1,Qj];first|done|omega)) only [go_sem,seval,h1,Qj]))|(refine Qg ?_ ?_ <;> intro hc <;> (try simp only [decide_eq_true_eq,decide_eq_false_iff_not,Classical.not_not,Bool.not_eq_true,Bool.not_eq_true',Bool.not_eq_false',Bool.false_or,Bool.or_false,Bool.true_or,Bool.or_true,Bool.false_and,Bool.and_false,Bool.true_and,Bool.and_true] at hc) <;> (try simp -implicitDefEqProofs (disch:=first|omega|(simp only [go_sem,seval,h1,Qj,hc];first|done|omega)) only [go_sem,seval,h1,Qj,hc]))|(refine Qq ?_ ?_ <;> intro hc <;> (try simp only [decide_eq_true_eq,decide_eq_false_iff_not,Classical.not_not,Bool.not_eq_true,Bool.not_eq_true',Bool.not_eq_false',Bool.false_or,Bool.or_false,Bool.true_or,Bool.or_true,Bool.false_and,Bool.and_false,Bool.true_and,Bool.and_true] at hc) <;> (try simp -implicitDefEqProofs (disch:=first|omega|(simp only [go_sem,seval,h1,Qj,hc];first|done|omega)) only [go_sem,seval,h1,Qj,hc])))
   all_goals try (refine Qm hM rfl 0 (by simp) (by first|done|(simp only [go_sem,seval,Qu] <;> first|done|(refine ⟨?_,?_⟩ <;> omega)|omega)) (Qr (by first|done|(simp only [go_sem,seval,Qu] <;> first|done|(refine ⟨?_,?_⟩ <;> omega)|omega))) ?_;simp -implicitDefEqProofs (disch:=first|omega|(simp only [go_sem,seval];first|done|omega)) only [go_sem,seval];refine again' (k + 1) ⟨by omega,nxt (by simpa [errC,ordC, *] using hc)⟩ (by omega) rfl rfl;done)
   all_goals (first|refine pfN hM ?_ ?_|refine pf0 hM ?_ ?_)
   all_goals first|(simp only [go_sem,seval]<;>omega)|skip
   all_goals simp -implicitDefEqProofs (disch:=first|omega|(simp only [go_sem,seval];first|done|omega)) only [go_sem,seval]
   all_goals refine congrArg PV.I (fin _ (by simp [errC,ordC, *]) (by first|assumption|simpa using hc)).symm
  ·simp -implicitDefEqProofs (disch:=first|omega|(simp only [go_sem,seval,hlt];first|done|omega)) only [go_sem,seval,hlt]
   (first|refine pfN hM ?_ ?_|refine pf0 hM ?_ ?_)
   ·simp -implicitDefEqProofs (disch:=first|omega|(simp only [go_sem,seval];first|done|omega)) only [go_sem,seval]
    rw [hs,List.drop_eq_nil_of_le (by simp;omega)];rfl
   ·(simp only [go_sem,seval]<;>omega)
theorem ZO (x e:Int) (he:e ≤ 4611686018427387904):Q X 78 [.I x,.I e] (.I (powW x e.toNat)):=by
 intro M
 (refine Qd (cf:=L7.c78) rfl rfl fun hM hA => ?_;simp only [L7.c78,zO,zF,zT,zM,CX.i];rw [mk2 _ (by decide)];simp -implicitDefEqProofs (disch:=first|omega|(simp only [go_sem,seval];first|done|omega)) only [go_sem,seval])
 refine Qn (α:=Nat) 0 (fun k => k ≤ e.toNat) (fun k => M) (fun k => [(0,.I x),(5,.I (powW x k)),(6,.I e),(7,.I k)]) (fun k => e.toNat - k) (Nat.zero_le _) rfl rfl ?_
 intro k hk
 by_cases hlt:(k:Int) < e
 ·simp -implicitDefEqProofs (disch:=first|omega|(simp only [go_sem,seval,hlt];first|done|omega)) only [go_sem,seval,hlt]
  exact again' (k + 1) (by omega) (by omega) rfl rfl
 ·simp -implicitDefEqProofs (disch:=first|omega|(simp only [go_sem,seval,hlt];first|done|omega)) only [go_sem,seval,hlt]
  (first|refine pfN hM ?_ ?_|refine pf0 hM ?_ ?_)
  ·simp -implicitDefEqProofs (disch:=first|omega|(simp only [go_sem,seval];first|done|omega)) only [go_sem,seval]
   rw [show k = e.toNat by omega]
  ·(simp only [go_sem,seval]<;>omega)
theorem ZL (a b:Rev) (ha:Qx a) (hb:Qx b):Q X 74 [Qc a,Qc b] (.I (VD a b)):=by
 intro M
 unfold Qx at ha hb
 (refine Qd (cf:=L7.c74) rfl rfl fun hM hA => ?_;simp only [L7.c74,zO,zF,zT,zM,CX.i];rw [mk2 _ (by decide)];simp -implicitDefEqProofs (disch:=first|omega|(simp only [go_sem,seval,QD,Qa];first|done|omega)) only [go_sem,seval,QD,Qa])
 (all_goals (first|refine pfN hM ?_ ?_|refine pf0 hM ?_ ?_);all_goals first|(simp only [go_sem,seval]<;>omega)|skip;all_goals (try simp -implicitDefEqProofs (disch:=first|omega|(simp only [go_sem,seval];first|done|omega)) only [go_sem,seval]))
 rfl
theorem QaQ {M:List Blk} {i v:Nat} {m:Int × Bool} {n:Int} (hi:M[i]? = some (mRow v m)) (hm:mOk m) (hn:0 ≤ n ∧ n ≤ 4611686018427387904) :
  ACall F X (.fn 77) [.op i v 0 0,.I n] M (.tup []) (M.set i (mRow v (madd m n))):=by
 unfold mRow at *
 unfold mOk at hm
 have hlt:i < M.length:=(List.getElem?_eq_some_iff.1 hi).1
 (refine Qd (cf:=L7.c77) rfl rfl fun hM hA => ?_;simp only [L7.c77,zO,zF,zT,zM,CX.i];rw [mk2 _ (by decide)];simp -implicitDefEqProofs (disch:=first|omega|(simp only [go_sem,seval,hi];first|done|omega)) only [go_sem,seval,hi])
 have hset:∀ m':Int × Bool,lowM (M.set i (.row true 2 v [.agg [.I m'.1,.B m'.2]])).length (M.set i (.row true 2 v [.agg [.I m'.1,.B m'.2]])):=by
  intro m' b hb
  rw [List.length_set]
  rcases List.mem_or_eq_of_mem_set hb with h|rfl
  ·exact hM b h
  ·(simp only [go_sem,seval]<;>omega)
 repeat' (first|(refine Qg ?_ ?_ <;> intro hc <;> (try simp only [decide_eq_true_eq,decide_eq_false_iff_not,Classical.not_not,Bool.not_eq_true,Bool.not_eq_true',Bool.not_eq_false',Bool.false_or,Bool.or_false,Bool.true_or,Bool.or_true,Bool.false_and,Bool.and_false,Bool.true_and,Bool.and_true] at hc) <;> (try simp -implicitDefEqProofs (disch:=first|omega|(simp only [go_sem,seval,hi,hc];first|done|omega)) only [go_sem,seval,hi,hc]))|(refine Qq ?_ ?_ <;> intro hc <;> (try simp only [decide_eq_true_eq,decide_eq_false_iff_not,Classical.not_not,Bool.not_eq_true,Bool.not_eq_true',Bool.not_eq_false',Bool.false_or,Bool.or_false,Bool.true_or,Bool.or_true,Bool.false_and,Bool.and_false,Bool.true_and,Bool.and_true] at hc) <;> (try simp -implicitDefEqProofs (disch:=first|omega|(simp only [go_sem,seval,hi,hc];first|done|omega)) only [go_sem,seval,hi,hc])))
 ·have e:madd m n = (m.1,true):=by simp [madd,hc]
  rw [e]
  refine QQ ZP (hset (m.1,true)) (by simp) ?_ ?_
  ·simp -implicitDefEqProofs (disch:=first|omega|(simp only [go_sem,seval];first|done|omega)) only [go_sem,seval]
   rfl
  ·(simp only [go_sem,seval]<;>omega)
 ·have e:madd m n = (m.1,true):=by simp [madd,hc]
  rw [e]
  refine QQ ZP (hset (m.1,true)) (by simp) ?_ ?_
  ·simp -implicitDefEqProofs (disch:=first|omega|(simp only [go_sem,seval];first|done|omega)) only [go_sem,seval]
   rfl
  ·(simp only [go_sem,seval]<;>omega)
 ·rename_i hf
  have e:madd m n = (m.1 + n,false):=by simp [madd,hc,hf]
  rw [e,hf]
  refine QQ Zq (hset (m.1 + n,false)) (by simp) ?_ ?_
  ·simp -implicitDefEqProofs (disch:=first|omega|(simp only [go_sem,seval];first|done|omega)) only [go_sem,seval]
   rfl
  ·(simp only [go_sem,seval]<;>omega)
theorem QaR {M N:List Blk} {i:Nat} {b:Blk} (h:i < M.length):(M.set i b ++ N)[i]? = some b:=by
 rw [List.getElem?_append_left (by simpa using h),List.getElem?_set_self h]
theorem QaM {M N:List Blk} {i:Nat} {b c:Blk} (h:i < M.length):(M.set i b ++ N).set i c = M.set i c ++ N:=by
 rw [List.set_append_left _ _ (by simpa using h),List.set_set]
theorem ZT {M:List Blk} {i v:Nat} {m:Int × Bool} (hi:M[i]? = some (mRow v m)) :
  ACall F X (.fn 56) [.op i v 0 0] M (.tup [.I (mres m).1,.I (mres m).2]) M:=by
 unfold mRow at *
 (refine Qd (cf:=L7.c56) rfl rfl fun hM hA => ?_;simp only [L7.c56,zO,zF,zT,zM,CX.i];rw [mk1 _ (by decide)];simp -implicitDefEqProofs (disch:=first|omega|(simp only [go_sem,seval,hi];first|done|omega)) only [go_sem,seval,hi])
 repeat' (first|(refine Qg ?_ ?_ <;> intro hc <;> (try simp only [decide_eq_true_eq,decide_eq_false_iff_not,Classical.not_not,Bool.not_eq_true,Bool.not_eq_true',Bool.not_eq_false',Bool.false_or,Bool.or_false,Bool.true_or,Bool.or_true,Bool.false_and,Bool.and_false,Bool.true_and,Bool.and_true] at hc) <;> (try simp -implicitDefEqProofs (disch:=first|omega|(simp only [go_sem,seval,hi,hc];first|done|omega)) only [go_sem,seval,hi,hc]))|(refine Qq ?_ ?_ <;> intro hc <;> (try simp only [decide_eq_true_eq,decide_eq_false_iff_not,Classical.not_not,Bool.not_eq_true,Bool.not_eq_true',Bool.not_eq_false',Bool.false_or,Bool.or_false,Bool.true_or,Bool.or_true,Bool.false_and,Bool.and_false,Bool.true_and,Bool.and_true] at hc) <;> (try simp -implicitDefEqProofs (disch:=first|omega|(simp only [go_sem,seval,hi,hc];first|done|omega)) only [go_sem,seval,hi,hc])))
 ·(first|refine pfN hM ?_ ?_|refine pf0 hM ?_ ?_)
  ·simp -implicitDefEqProofs (disch:=first|omega|(simp only [go_sem,seval];first|done|omega)) only [go_sem,seval]
   simp [mres,hc]
  ·(simp only [go_sem,seval]<;>omega)
 ·(first|refine pfN hM ?_ ?_|refine pf0 hM ?_ ?_)
  ·simp -implicitDefEqProofs (disch:=first|omega|(simp only [go_sem,seval];first|done|omega)) only [go_sem,seval]
   simp [mres,hc]
  ·(simp only [go_sem,seval]<;>omega)
theorem Qe9 {l:List Cyc} {k:Nat} {x:Cyc} (e times:Int) (m:Int × Bool) (h:l[k]? = some x):Vc e times m (l.take (k + 1)) = madd (Vc e times m (l.take k)) (times * powW (x.hi - x.lo) e.toNat):=by
 obtain ⟨h1,h2⟩:=List.getElem?_eq_some_iff.1 h
 unfold Vc
 rw [List.take_succ_eq_append_getElem h1,h2,List.foldl_append];rfl
theorem JD {M:List Blk} {i v:Nat} {m:Int × Bool} {l:List Cyc} {e times:Int} (hi:M[i]? = some (mRow v m)) (hm:mOk m) (hl:l.length ≤ 1048576) (hs:∀ c ∈ l,Vy c) (he:1 ≤ e ∧ e ≤ 3) (ht:0 ≤ times ∧ times ≤ 2) :
  ACall F X (.fn 55) [.op i v 0 0,.fs (l.map Qw),.I e,.I times] M (.tup []) (M.set i (mRow v (Vc e times m l))):=by
 have hlt:i < M.length:=(List.getElem?_eq_some_iff.1 hi).1
 (refine Qd (cf:=L7.c55) rfl rfl fun hM hA => ?_;simp only [L7.c55,zO,zF,zT,zM,CX.i];rw [mk4 _ (by decide)];simp -implicitDefEqProofs (disch:=first|omega|(simp only [go_sem,seval];first|done|omega)) only [go_sem,seval])
 have hset:∀ m':Int × Bool,lowM (M.set i (mRow v m')).length (M.set i (mRow v m')):=by
  intro m' b hb
  rw [List.length_set]
  rcases List.mem_or_eq_of_mem_set hb with h|rfl
  ·exact hM b h
  ·unfold mRow;(simp only [go_sem,seval]<;>omega)
 refine Qn (α:=Nat) 0 (fun k => k ≤ l.length ∧ mOk (Vc e times m (l.take k))) (fun k => M.set i (mRow v (Vc e times m (l.take k)))) (fun k => [(0,.op i v 0 0),(2,.I e),(3,.I times),(10,.fs (l.map Qw)),(11,.I l.length),(12,.I k)]) (fun k => l.length - k) ⟨Nat.zero_le _,hm⟩ ?_ rfl ?_
 ·simp only [List.take_zero,Vc,List.foldl_nil]
  apply List.ext_getElem?
  intro j
  by_cases e:j = i
  ·subst e;rw [List.getElem?_set_self hlt];exact hi
  ·rw [List.getElem?_set_ne (Ne.symm e)]
 rintro k ⟨hk,hmk⟩
 by_cases hlt2:k < l.length
 ·obtain ⟨x,h1⟩:∃ x,l[k]? = some x:=⟨_,List.getElem?_eq_getElem hlt2⟩
  have hsn:=Qe9 e times m h1
  have hx:=hs x (List.mem_of_getElem? h1)
  unfold Vy at hx
  have hp:=Qb0 he hx.1 hx.2.1
  generalize Vc e times m (l.take k) = mk at hsn hmk ⊢
  generalize hpw:powW (x.hi - x.lo) e.toNat = pw at hp hsn
  simp -implicitDefEqProofs (disch:=first|omega|(simp only [go_sem,seval,hlt2,h1,Qj];first|done|omega)) only [go_sem,seval,hlt2,h1,Qj]
  refine Qb (ZO _ _ (by omega) _) ?_
  rw [hpw]
  have hm2:0 ≤ times * pw ∧ times * pw ≤ 2 * 281474976710656:=⟨Int.mul_nonneg ht.1 hp.1,Int.mul_le_mul ht.2 hp.2 hp.1 (by omega)⟩
  simp -implicitDefEqProofs (disch:=first|omega|(simp only [go_sem,seval];first|done|omega)) only [go_sem,seval]
  refine Q0 (QaQ (QaR hlt) hmk (by omega)) ?_
  rw [QaM hlt]
  simp -implicitDefEqProofs (disch:=first|omega|(simp only [go_sem,seval];first|done|omega)) only [go_sem,seval]
  refine Qm (hset _) (by simp) 0 (by simp) Y4 (Qr ?_) ?_
  ·have:i < (M.set i (mRow v (madd mk (times * pw)))).length + 0:=by simpa using hlt
   simp only [go_sem,seval,Qu]
   simpa using hlt
  ·simp -implicitDefEqProofs (disch:=first|omega|(simp only [go_sem,seval];first|done|omega)) only [go_sem,seval]
   exact again' (k + 1) ⟨by omega,by rw [hsn];exact QaE hmk hm2.1⟩ (by omega) (by rw [hsn]) rfl
 ·simp -implicitDefEqProofs (disch:=first|omega|(simp only [go_sem,seval,hlt2];first|done|omega)) only [go_sem,seval,hlt2]
  rw [List.take_of_length_le (by omega)]
  refine QQ Zq (hset _) (by simp) ?_ ?_
  ·simp -implicitDefEqProofs (disch:=first|omega|(simp only [go_sem,seval];first|done|omega)) only [go_sem,seval]
   rfl
  ·(simp only [go_sem,seval]<;>omega)
def hd (e:Int) (m:Int × Bool) (l:List Rev) (k:Nat):Int × Bool:=((halfs l).take k).foldl (fun m x => madd m (powW x e.toNat)) m
theorem QlD {l:List Rev} {k:Nat} {p q:Rev} (e:Int) (m:Int × Bool) (h:l[k]? = some p) (h':l[k + 1]? = some q):hd e m l (k + 1) = madd (hd e m l k) (powW (VD p q) e.toNat):=by
 obtain ⟨h1,h2⟩:=List.getElem?_eq_some_iff.1 (QcE l k p q h h')
 unfold hd
 rw [List.take_succ_eq_append_getElem h1,h2,List.foldl_append];rfl
theorem Qk9 {p q:Rev} (hp:Qx p) (hq:Qx q):0 ≤ VD p q ∧ VD p q ≤ 65536:=by unfold Qx at hp hq;unfold VD;omega
theorem JE {M:List Blk} {i v:Nat} {m:Int × Bool} {l:List Rev} {e:Int} (hi:M[i]? = some (mRow v m)) (hm:mOk m) (hl:l.length ≤ 1048576) (hs:∀ c ∈ l,Qx c) (he:1 ≤ e ∧ e ≤ 3) :
  ACall F X (.fn 57) [.op i v 0 0,.fs (l.map Qc),.I e] M (.tup []) (M.set i (mRow v (VN e m l))):=by
 have hlt:i < M.length:=(List.getElem?_eq_some_iff.1 hi).1
 have hself:M.set i (mRow v m) = M:=by
  apply List.ext_getElem?
  intro j
  by_cases e:j = i
  ·subst e;rw [List.getElem?_set_self hlt];exact hi.symm
  ·rw [List.getElem?_set_ne (Ne.symm e)]
 cases l with
 | nil =>
  simp only [VN,halfs,List.foldl_nil]
  rw [hself]
  (refine Qd (cf:=L7.c57) rfl rfl fun hM hA => ?_;simp only [L7.c57,zO,zF,zT,zM,CX.i];rw [mk3 _ (by decide)];simp -implicitDefEqProofs (disch:=first|omega|(simp only [go_sem,seval];first|done|omega)) only [go_sem,seval])
  refine Qn (α:=Unit) () (fun _ => True) (fun _ => M) (fun _ => [(0,.op i v 0 0),(1,.fs []),(2,.I e),(12,.fs []),(13,.I 0),(14,.I 0)]) (fun _ => 0) trivial rfl rfl ?_
  intro _ _
  simp -implicitDefEqProofs (disch:=first|omega|(simp only [go_sem,seval,Int.lt_irrefl];first|done|omega)) only [go_sem,seval,Int.lt_irrefl]
  refine QQ Zq hM rfl ?_ ?_
  ·simp -implicitDefEqProofs (disch:=first|omega|(simp only [go_sem,seval];first|done|omega)) only [go_sem,seval]
   rfl
  ·(simp only [go_sem,seval]<;>omega)
 | cons a r =>
  have hl':r.length ≤ 1048576:=by simp at hl;omega
  have hsz:sized 2 (Qc a :: r.map Qc) = true:=J5 (a :: r)
  have htk:List.take r.length (r.map Qc) = r.map Qc:=List.take_of_length_le (by simp)
  have hmin:min (1:Int) ((r.length + 1:Nat):Int) = 1:=by omega
  have hset:lowM M.length M → ∀ m':Int × Bool,lowM (M.set i (mRow v m')).length (M.set i (mRow v m')):=by
   intro hM m' b hb
   rw [List.length_set]
   rcases List.mem_or_eq_of_mem_set hb with h|rfl
   ·exact hM b h
   ·unfold mRow;(simp only [go_sem,seval]<;>omega)
  (refine Qd (cf:=L7.c57) rfl rfl fun hM hA => ?_;simp only [L7.c57,zO,zF,zT,zM,CX.i];rw [mk3 _ (by decide)];simp -implicitDefEqProofs (disch:=first|omega|(simp only [go_sem,seval,hsz,htk,hmin];first|done|omega)) only [go_sem,seval,hsz,htk,hmin])
  have hset:=hset hM
  have hsR:∀ c ∈ a :: r,Qx c:=hs
  refine Qn (α:=Nat) 0 (fun k => k ≤ r.length ∧ mOk (hd e m (a :: r) k)) (fun k => M.set i (mRow v (hd e m (a :: r) k))) (fun k => [(0,.op i v 0 0),(1,.fs (Qc a :: r.map Qc)),(2,.I e),(12,.fs (r.map Qc)),(13,.I r.length),(14,.I k)]) (fun k => r.length - k) ⟨Nat.zero_le _,hm⟩ hself.symm rfl ?_
  rintro k ⟨hk,hmk⟩
  by_cases hlt2:k < r.length
  ·obtain ⟨q,h1⟩:∃ x,r[k]? = some x:=⟨_,List.getElem?_eq_getElem hlt2⟩
   obtain ⟨p,h2⟩:∃ x,(a :: r)[k]? = some x:=⟨_,List.getElem?_eq_getElem (by simp;omega)⟩
   have h2':(Qc a :: r.map Qc)[k]? = some (Qc p):=by rw [← List.map_cons,List.getElem?_map,h2];rfl
   have hsn:=QlD e m h2 (show (a :: r)[k + 1]? = some q from h1)
   have hp:=hsR p (List.mem_of_getElem? h2)
   have hq:=hsR q (List.mem_cons_of_mem _ (List.mem_of_getElem? h1))
   have hap:=Qk9 hp hq
   have hpw:=Qb0 he hap.1 hap.2
   generalize hd e m (a :: r) k = mk at hsn hmk ⊢
   simp -implicitDefEqProofs (disch:=first|omega|(simp only [go_sem,seval,hlt2,h1,h2',Qa];first|done|omega)) only [go_sem,seval,hlt2,h1,h2',Qa]
   refine Qb (ZL p q hp hq _) ?_
   simp -implicitDefEqProofs (disch:=first|omega|(simp only [go_sem,seval];first|done|omega)) only [go_sem,seval]
   refine Qb (ZO _ _ (by omega) _) ?_
   simp -implicitDefEqProofs (disch:=first|omega|(simp only [go_sem,seval];first|done|omega)) only [go_sem,seval]
   refine Q0 (QaQ (QaR hlt) hmk (by omega)) ?_
   rw [QaM hlt]
   simp -implicitDefEqProofs (disch:=first|omega|(simp only [go_sem,seval];first|done|omega)) only [go_sem,seval]
   refine Qm (hset _) (by simp) 0 (by simp) Y4 (Qr ?_) ?_
   ·have:i < (M.set i (mRow v (madd mk (powW (VD p q) e.toNat)))).length + 0:=by simpa using hlt
    simp only [go_sem,seval,Qe]
    simpa using hlt
   ·simp -implicitDefEqProofs (disch:=first|omega|(simp only [go_sem,seval];first|done|omega)) only [go_sem,seval]
    exact again' (k + 1) ⟨by omega,by rw [hsn];exact QaE hmk hpw.1⟩ (by omega) (by rw [hsn]) rfl
  ·simp -implicitDefEqProofs (disch:=first|omega|(simp only [go_sem,seval,hlt2];first|done|omega)) only [go_sem,seval,hlt2]
   have e1:hd e m (a :: r) k = VN e m (a :: r):=by
    unfold hd VN
    rw [List.take_of_length_le (by rw [QcY];simp;omega)]
   rw [e1]
   refine QQ Zq (hset _) (by simp) ?_ ?_
   ·simp -implicitDefEqProofs (disch:=first|omega|(simp only [go_sem,seval];first|done|omega)) only [go_sem,seval]
    rfl
   ·(simp only [go_sem,seval]<;>omega)
theorem QiX {l:List Cyc} (h:QN l = 0):∀ c ∈ l,Vy c:=fun c hc => by
 have:=(Qau.1 h).2 c hc
 unfold goodC at this;unfold Vy;omega
theorem Yf {l:List Rev} (h:Qh l = 0):∀ c ∈ l,Qx c:=fun c hc => by
 have:=Ve _ _ _ (Vp.1 h).2 c hc
 exact this.2
theorem JX (l:List Cyc) (e:Int) (hl:l.length ≤ 1048576):Q X 25 [.fs (l.map Qw),.I e] (.tup [.I (Q3 l e).1,.I (Q3 l e).2]):=by
 intro M
 (refine Qd (cf:=L7.c25) rfl rfl fun hM hA => ?_;simp only [L7.c25,zO,zF,zT,zM,CX.i];rw [mk2 _ (by decide)];simp -implicitDefEqProofs (disch:=first|omega|(simp only [go_sem,seval];first|done|omega)) only [go_sem,seval])
 refine Qb (Qai l hl _) ?_
 simp -implicitDefEqProofs (disch:=first|omega|(simp only [go_sem,seval];first|done|omega)) only [go_sem,seval]
 repeat' (first|(refine Qb (Vf _ _) ?_;(try simp -implicitDefEqProofs (disch:=first|omega|(simp only [go_sem,seval];first|done|omega)) only [go_sem,seval]))|(refine Qb (Qy [_,_] (by simp) _) ?_;(try simp -implicitDefEqProofs (disch:=first|omega|(simp only [go_sem,seval];first|done|omega)) only [go_sem,seval]))|(refine Qg ?_ ?_ <;> intro hc <;> (try simp only [decide_eq_true_eq,decide_eq_false_iff_not,Classical.not_not,Bool.not_eq_true,Bool.not_eq_true',Bool.not_eq_false',Bool.false_or,Bool.or_false,Bool.true_or,Bool.or_true,Bool.false_and,Bool.and_false,Bool.true_and,Bool.and_true] at hc) <;> (try simp -implicitDefEqProofs (disch:=first|omega|(simp only [go_sem,seval,hc];first|done|omega)) only [go_sem,seval,hc]))|(refine Qq ?_ ?_ <;> intro hc <;> (try simp only [decide_eq_true_eq,decide_eq_false_iff_not,Classical.not_not,Bool.not_eq_true,Bool.not_eq_true',Bool.not_eq_false',Bool.false_or,Bool.or_false,Bool.true_or,Bool.or_true,Bool.false_and,Bool.and_false,Bool.true_and,Bool.and_true] at hc) <;> (try simp -implicitDefEqProofs (disch:=first|omega|(simp only [go_sem,seval,hc];first|done|omega)) only [go_sem,seval,hc])))
 ·(first|refine pfN hM ?_ ?_|refine pf0 hM ?_ ?_)
  ·simp -implicitDefEqProofs (disch:=first|omega|(simp only [go_sem,seval];first|done|omega)) only [go_sem,seval]
   simp [Q3,hc]
  ·(simp only [go_sem,seval]<;>omega)
 ·have he:=Q4 hc
  have hr:=Vb.1 he.2
  have hself:(M ++ [mRow 0 (0,false)])[M.length]? = some (mRow 0 (0,false)):=by rw [getM0];rfl
  refine Q0 (JD hself ⟨by decide,by decide⟩ hl (QiX he.1) hr (by omega)) ?_
  rw [setM0]
  simp -implicitDefEqProofs (disch:=first|omega|(simp only [go_sem,seval];first|done|omega)) only [go_sem,seval]
  refine Qb (ZT (m:=Vc e 1 (0,false) l) (v:=0) (by rw [getM0];rfl)) ?_
  simp -implicitDefEqProofs (disch:=first|omega|(simp only [go_sem,seval];first|done|omega)) only [go_sem,seval]
  (first|refine pfN hM ?_ ?_|refine pf0 hM ?_ ?_)
  ·simp -implicitDefEqProofs (disch:=first|omega|(simp only [go_sem,seval];first|done|omega)) only [go_sem,seval]
   simp [Q3,hc]
  ·(simp only [go_sem,seval]<;>omega)
theorem QeM (l:List Rev) (e:Int) (hl:l.length ≤ 1048576):Q X 26 [.fs (l.map Qc),.I e] (.tup [.I (JF l e).1,.I (JF l e).2]):=by
 intro M
 (refine Qd (cf:=L7.c26) rfl rfl fun hM hA => ?_;simp only [L7.c26,zO,zF,zT,zM,CX.i];rw [mk2 _ (by decide)];simp -implicitDefEqProofs (disch:=first|omega|(simp only [go_sem,seval];first|done|omega)) only [go_sem,seval])
 refine Qb (QB l hl _) ?_
 simp -implicitDefEqProofs (disch:=first|omega|(simp only [go_sem,seval];first|done|omega)) only [go_sem,seval]
 repeat' (first|(refine Qb (Vf _ _) ?_;(try simp -implicitDefEqProofs (disch:=first|omega|(simp only [go_sem,seval];first|done|omega)) only [go_sem,seval]))|(refine Qb (Qy [_,_] (by simp) _) ?_;(try simp -implicitDefEqProofs (disch:=first|omega|(simp only [go_sem,seval];first|done|omega)) only [go_sem,seval]))|(refine Qg ?_ ?_ <;> intro hc <;> (try simp only [decide_eq_true_eq,decide_eq_false_iff_not,Classical.not_not,Bool.not_eq_true,Bool.not_eq_true',Bool.not_eq_false',Bool.false_or,Bool.or_false,Bool.true_or,Bool.or_true,Bool.false_and,Bool.and_false,Bool.true_and,Bool.and_true] at hc) <;> (try simp -implicitDefEqProofs (disch:=first|omega|(simp only [go_sem,seval,hc];first|done|omega)) only [go_sem,seval,hc]))|(refine Qq ?_ ?_ <;> intro hc <;> (try simp only [decide_eq_true_eq,decide_eq_false_iff_not,Classical.not_not,Bool.not_eq_true,Bool.not_eq_true',Bool.not_eq_false',Bool.false_or,Bool.or_false,Bool.true_or,Bool.or_true,Bool.false_and,Bool.and_false,Bool.true_and,Bool.and_true] at hc) <;> (try simp -implicitDefEqProofs (disch:=first|omega|(simp only [go_sem,seval,hc];first|done|omega)) only [go_sem,seval,hc])))
 ·(first|refine pfN hM ?_ ?_|refine pf0 hM ?_ ?_)
  ·simp -implicitDefEqProofs (disch:=first|omega|(simp only [go_sem,seval];first|done|omega)) only [go_sem,seval]
   simp [JF,hc]
  ·(simp only [go_sem,seval]<;>omega)
 ·have he:=Q4 hc
  have hr:=Vb.1 he.2
  have hself:(M ++ [mRow 0 (0,false)])[M.length]? = some (mRow 0 (0,false)):=by rw [getM0];rfl
  refine Q0 (JE hself ⟨by decide,by decide⟩ hl (Yf he.1) hr) ?_
  rw [setM0]
  simp -implicitDefEqProofs (disch:=first|omega|(simp only [go_sem,seval];first|done|omega)) only [go_sem,seval]
  refine Qb (ZT (m:=VN e (0,false) l) (v:=0) (by rw [getM0];rfl)) ?_
  simp -implicitDefEqProofs (disch:=first|omega|(simp only [go_sem,seval];first|done|omega)) only [go_sem,seval]
  (first|refine pfN hM ?_ ?_|refine pf0 hM ?_ ?_)
  ·simp -implicitDefEqProofs (disch:=first|omega|(simp only [go_sem,seval];first|done|omega)) only [go_sem,seval]
   simp [JF,hc]
  ·(simp only [go_sem,seval]<;>omega)
theorem Qgy {l:List Rev} {k:Nat} (h:∀ c ∈ l,Qx c):∀ c ∈ (Qt (l.take k)).2,Qx c:=fun c hc => h c (List.mem_of_mem_take (Qao _ c hc))
theorem ZH (l:List Rev) (hl:l.length ≤ 1000000) (hs:∀ c ∈ l,Qx c):Q X 46 [.fs (l.map Qc)] (.tup [.fs ((Qt l).1.map Qw),.fs ((Qt l).2.reverse.map Qc)]):=by
 intro M
 (refine Qd (cf:=L7.c46) rfl rfl fun hM hA => ?_;simp only [L7.c46,zO,zF,zT,zM,CX.i];rw [mk1 _ (by decide)];simp -implicitDefEqProofs (disch:=first|omega|(simp only [go_sem,seval];first|done|omega)) only [go_sem,seval])
 refine Qn (α:=Nat × Nat) (0,0) (fun q => q.1 ≤ l.length) (fun q => M ++ [.row true 4 (Qt (l.take q.1)).1.length ((Qt (l.take q.1)).1.map Qw),.row true 2 q.2 ((Qt (l.take q.1)).2.reverse.map Qc)])
  (fun q => [(4,.os M.length (Qt (l.take q.1)).1.length 0 (Qt (l.take q.1)).1.length),(5,.os (M.length + 1) q.2 0 (Qt (l.take q.1)).2.length),(13,.fs (l.map Qc)),(14,.I l.length),(15,.I q.1)]) (fun q => l.length - q.1) (Nat.zero_le _) rfl rfl ?_
 rintro ⟨k,v⟩ hk
 simp only at hk ⊢
 have hclen:=Qam (l.take k)
 rw [List.length_take] at hclen
 by_cases hlt:k < l.length
 ·obtain ⟨x,h1⟩:∃ x,l[k]? = some x:=⟨_,List.getElem?_eq_getElem hlt⟩
  have hs1:=QfV h1
  have hsm:=Qgy (k:=k) hs
  generalize Qt (l.take k) = s at hs1 hsm hclen ⊢
  obtain ⟨cs,st⟩:=s
  simp only at hs1 hsm hclen ⊢
  have hx:(st.reverse.map Qc ++ [PV.agg [.I x.at_,.I x.ld]]) = ((x :: st).reverse.map Qc):=by simp [Qc]
  have hsx:∀ c ∈ x :: st,Qx c:=fun c hc => by
   rcases List.mem_cons.1 hc with rfl|hc
   ·exact hs c (List.mem_of_getElem? h1)
   ·exact hsm c hc
  simp -implicitDefEqProofs (disch:=first|omega|(simp only [go_sem,seval,hlt,h1,Qa,hx];first|done|omega)) only [go_sem,seval,hlt,h1,Qa,hx]
  generalize hJ:Blk.row true 2 0 [PV.agg [.I x.at_,.I x.ld]] = J
  have hJl:∀ n,J.low n:=by intro n;rw [← hJ];(simp only [go_sem,seval,Qe]<;>omega)
  refine Qn (α:=List Cyc × List Rev × Nat) (cs,x :: st,v + 1) (fun p => 2 * p.1.length + p.2.1.length = 2 * cs.length + st.length + 1 ∧ (∀ c ∈ p.2.1,Qx c) ∧ Vh (cs,st) x = (p.1 ++ (drain p.2.1).1,(drain p.2.1).2))
   (fun p => M ++ [.row true 4 p.1.length (p.1.map Qw),.row true 2 p.2.2 (p.2.1.reverse.map Qc),J]) (fun p => [(4,.os M.length p.1.length 0 p.1.length),(5,.os (M.length + 1) p.2.2 0 p.2.1.length),(13,.fs (l.map Qc)),(14,.I l.length),(15,.I k)]) (fun p => p.2.1.length) ⟨by simp;omega,hsx,rfl⟩ rfl rfl ?_
  rintro ⟨acc,s,u⟩ ⟨hlen,hsm2,hcs⟩
  simp only at hlen hsm2 hcs ⊢
  clear hsx hx hJ
  by_cases h4:4 ≤ s.length
  ·have f4:(4:Int) ≤ s.length:=by omega
   obtain ⟨p,a,b,c,d,hp⟩:=last4 (l:=s.reverse) (by simpa using h4)
   obtain ⟨r,hr⟩:∃ r,s = d :: c :: b :: a :: r:=⟨p.reverse,by have:=congrArg List.reverse hp;simpa using this⟩
   have hpr:p = r.reverse:=by rw [hr] at hp;simpa using hp.symm
   subst hpr
   obtain ⟨g1,g2,g3,g4⟩:=get4 r.reverse a b c d
   rw [← hp,List.length_reverse] at g1 g2 g3 g4
   have hsl:s.length = r.length + 4:=by rw [hr];simp
   have e4:(s.length:Int) - 4 = (r.length:Int):=by omega
   have e3:(s.length:Int) - 3 = ((r.length + 1:Nat):Int):=by omega
   have hsub:s.length - r.length = 4:=by omega
   have hle:r.length ≤ s.length:=by omega
   have hle1:r.length + 1 ≤ s.length:=by omega
   have ha:=hsm2 a (by rw [hr];simp)
   have hb:=hsm2 b (by rw [hr];simp)
   have hcc:=hsm2 c (by rw [hr];simp)
   have hd:=hsm2 d (by rw [hr];simp)
   have hcell:J8 (s.reverse.map Qc) r.length 0 8 (some (Qc a)) = some [.I a.at_,.I a.ld,.I b.at_,.I b.ld,.I c.at_,.I c.ld,.I d.at_,.I d.ld]:=by
    have e:(s.reverse.map Qc).drop r.length = [Qc a,Qc b,Qc c,Qc d]:=by rw [hp];simp
    simp only [J8]
    rw [if_neg (by simp [Qa]),e]
    simp [Qa]
   simp -implicitDefEqProofs (disch:=first|omega|(simp only [go_sem,seval,f4,h1,g1,g2,g3,g4,e4,e3,hsub,hle,hle1,hcell,Qa];first|done|omega)) only [go_sem,seval,f4,h1,g1,g2,g3,g4,e4,e3,hsub,hle,hle1,hcell,Qa]
   refine ⟨by simp [YE,YW,Zd],?_⟩
   have ht:List.take (r.length + 1) (s.reverse.map Qc) = (a :: r).reverse.map Qc:=by rw [hp];simp [List.take_append];rw [List.take_of_length_le (by simp)]
   have hx2:(a :: r).reverse.map Qc ++ [PV.agg [.I d.at_,.I d.ld]] = (d :: a :: r).reverse.map Qc:=by simp [Qc]
   have hnl:(s.reverse.map Qc).length = r.length + 4:=by simp;omega
   have hns:V6 a b c d = false → Vh (cs,st) x = (acc,s):=by
    intro h;rw [hcs,hr,JO h,List.append_nil]
   have hgo:V6 a b c d = true → Vh (cs,st) x = ((acc ++ [mkCyc b c]) ++ (drain (d :: a :: r)).1,(drain (d :: a :: r)).2):=by
    intro h;rw [hcs,hr,Y7 h];simp
   repeat' (first|(refine Qb (ZL b c hb hcc _) ?_;(try simp -implicitDefEqProofs (disch:=first|omega|(simp only [go_sem,seval,Qa,e3,hle1,Vs,ht,hx2];first|done|omega)) only [go_sem,seval,Qa,e3,hle1,Vs,ht,hx2]))|(refine Qb (ZL a b ha hb _) ?_;(try simp -implicitDefEqProofs (disch:=first|omega|(simp only [go_sem,seval,Qa,e3,hle1,Vs,ht,hx2];first|done|omega)) only [go_sem,seval,Qa,e3,hle1,Vs,ht,hx2]))|(refine Qb (ZL c d hcc hd _) ?_;(try simp -implicitDefEqProofs (disch:=first|omega|(simp only [go_sem,seval,Qa,e3,hle1,Vs,ht,hx2];first|done|omega)) only [go_sem,seval,Qa,e3,hle1,Vs,ht,hx2]))|(refine Qg ?_ ?_ <;> intro hc <;> (try simp only [decide_eq_true_eq,decide_eq_false_iff_not,Classical.not_not,Bool.not_eq_true,Bool.not_eq_true',Bool.not_eq_false',Bool.false_or,Bool.or_false,Bool.true_or,Bool.or_true,Bool.false_and,Bool.and_false,Bool.true_and,Bool.and_true] at hc) <;> (try simp -implicitDefEqProofs (disch:=first|omega|(simp only [go_sem,seval,Qa,e3,hle1,Vs,ht,hx2,hc];first|done|omega)) only [go_sem,seval,Qa,e3,hle1,Vs,ht,hx2,hc]))|(refine Qq ?_ ?_ <;> intro hc <;> (try simp only [decide_eq_true_eq,decide_eq_false_iff_not,Classical.not_not,Bool.not_eq_true,Bool.not_eq_true',Bool.not_eq_false',Bool.false_or,Bool.or_false,Bool.true_or,Bool.or_true,Bool.false_and,Bool.and_false,Bool.true_and,Bool.and_true] at hc) <;> (try simp -implicitDefEqProofs (disch:=first|omega|(simp only [go_sem,seval,Qa,e3,hle1,Vs,ht,hx2,hc];first|done|omega)) only [go_sem,seval,Qa,e3,hle1,Vs,ht,hx2,hc])))
   ·have hcs:=hns (by simp [V6];omega)
    refine Qm hM rfl 2 (by simp) (by first|done|(simp only [go_sem,seval,Qe,Qu] <;> first|done|(refine ⟨?_,?_⟩ <;> omega)|omega)) (Qr (by first|done|(simp only [go_sem,seval,Qe,Qu] <;> first|done|(refine ⟨?_,?_⟩ <;> omega)|omega))) ?_
    simp -implicitDefEqProofs (disch:=first|omega|(simp only [go_sem,seval];first|done|omega)) only [go_sem,seval]
    exact again' (k + 1,u) (by simp;omega) (by simp;omega) (by simp only [hs1,hcs]) (by simp only [hs1,hcs];rfl)
   ·have hcs:=hns (by simp [V6];omega)
    refine Qm hM rfl 2 (by simp) (by first|done|(simp only [go_sem,seval,Qe,Qu] <;> first|done|(refine ⟨?_,?_⟩ <;> omega)|omega)) (Qr (by first|done|(simp only [go_sem,seval,Qe,Qu] <;> first|done|(refine ⟨?_,?_⟩ <;> omega)|omega))) ?_
    simp -implicitDefEqProofs (disch:=first|omega|(simp only [go_sem,seval];first|done|omega)) only [go_sem,seval]
    exact again' (k + 1,u) (by simp;omega) (by simp;omega) (by simp only [hs1,hcs]) (by simp only [hs1,hcs];rfl)
   ·have hcs:=hgo (by simp [V6];omega)
    have htc:(acc.map Qw).take acc.length = acc.map Qw:=List.take_of_length_le (by simp)
    rw [htc]
    refine Qm hM rfl 3 (by simp) (by first|done|(simp only [go_sem,seval,Qe,Qu,hJl] <;> first|done|(refine ⟨?_,?_⟩ <;> omega)|omega)) (Qr (by first|done|(simp only [go_sem,seval,Qe,Qu,hJl] <;> first|done|(refine ⟨?_,?_⟩ <;> omega)|omega))) ?_
    simp -implicitDefEqProofs (disch:=first|omega|(simp only [go_sem,seval];first|done|omega)) only [go_sem,seval]
    refine again' (acc ++ [mkCyc b c],d :: a :: r,u + 1) ⟨?_,?_,hcs⟩ ?_ ?_ ?_
    ·simp at hlen ⊢;omega
    ·intro y hy;refine hsm2 y ?_;rw [hr];simp only [List.mem_cons] at hy ⊢;rcases hy with h|h|h <;> simp [h]
    ·simp;omega
    ·simp [Qw,mkCyc,List.take_of_length_le]
    ·simp
  ·have f4:¬ (4:Int) ≤ s.length:=by omega
   rw [Qft (by omega),List.append_nil] at hcs
   simp -implicitDefEqProofs (disch:=first|omega|(simp only [go_sem,seval,f4];first|done|omega)) only [go_sem,seval,f4]
   refine Qm hM rfl 2 (by simp) (by first|done|(simp only [go_sem,seval,Qe,Qu] <;> first|done|(refine ⟨?_,?_⟩ <;> omega)|omega)) (Qr (by first|done|(simp only [go_sem,seval,Qe,Qu] <;> first|done|(refine ⟨?_,?_⟩ <;> omega)|omega))) ?_
   simp -implicitDefEqProofs (disch:=first|omega|(simp only [go_sem,seval];first|done|omega)) only [go_sem,seval]
   exact again' (k + 1,u) (by simp;omega) (by simp;omega) (by simp only [hs1,hcs]) (by simp only [hs1,hcs];rfl)
 ·simp -implicitDefEqProofs (disch:=first|omega|(simp only [go_sem,seval,hlt];first|done|omega)) only [go_sem,seval,hlt]
  (first|refine pfN hM ?_ ?_|refine pf0 hM ?_ ?_)
  ·simp -implicitDefEqProofs (disch:=first|omega|(simp only [go_sem,seval];first|done|omega)) only [go_sem,seval]
   rw [List.take_of_length_le (by omega)]
  ·(simp only [go_sem,seval,Qe,Qu]<;>omega)
end
end Go.Nac.L7
