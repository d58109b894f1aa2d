/- The equations by which plain code runs, as one set. -/
import Derived.Test.YtcbfjgpdogcdbaaGreatDoorW06
namespace Go.Nac
attribute [go_sem] QqF Qi4 Qlt QoS QnT QpJ Qo3 QoD QlK Qmr QjK Qe8 QhH QiA Qie QdU Qf1 QhR Qgo QdX
attribute [go_sem] QfQ Qhy r_mov Qqw Qn4 QqE r_bin Qpv r_eqs r_un Qpg r_len QpZ r_max r_min r_ext Qoj QqN Qqn Qo2 QqM QpG Qp9 Qnp Qog Qov Qmv
attribute [go_sem] QqJ Qps Qn9 Qoc r_box r_bsl Qnl Qqf QmG Qo4 QnO Qqc Qql QnJ QnM Qoh Qp1 Ql3 ev_mk ev_k ev_f QoN Qpj Qnn QjN Qcz
attribute [go_sem] List.map_cons List.map_nil Option.map_some Option.map_none Qm8 gK_tt gK_ff gK_tf gK_ft Qoq Qpc cK_t cK_f QhF Qlz Qls QjQ Qo5 QnD Qop Qox
attribute [go_sem] Qnu Qoe QmP Qo7 QmT Qod QoZ QmR Qlm Qk5 Qpu Qpl QmH Qom Qm4 QlE Qjy Qj3 Qk9 QjW Qhw QlU QmC
attribute [go_sem] QiH Qng Qln QlD Qk4 Ql1 QkU QmI QkM Qjk Qmo Qmd QmS Qnw Qni Qow Qjc Qdw QiU Qh8 Qj5 Qi8
attribute [go_sem] QfD QkJ Qo6 Qfs QnY Qg0 Qi2 Qih Qkk QjP Qii Qht QiP QkI QkE Qmy Qh6 QfN QnS Ql5
attribute [go_sem] QcO Qj9 QhV Qlj QjJ Qmk QlR QmX Qm7 Qm3 QnE Qok Qn6 Qlp Qll QlM Qka Qhu Qj7 Qkb QlB QgL
attribute [go_sem] Qms Qg8 Qkw QqG QpT Qp8 QaB Qd5 Qd0 Ql4 Qel Qiq Qjq Qmm QkB QkY Qlw QnI QkN Qoo
attribute [go_sem] QlZ QjY QlC Qny QmA QgK QmK QhI Qiw Qhk QhD Qic Qno Qe2 Qey QiW getM0 getMj setM0 setMj List.getElem?_cons_zero
attribute [go_sem] List.getElem?_cons_succ List.set_cons_zero List.set_cons_succ List.append_assoc List.cons_append List.nil_append List.length_append List.length_cons List.length_nil List.length_map List.getElem?_map
attribute [go_sem] List.all_cons List.all_nil Bool.and_true Bool.true_and Bool.and_self List.take_succ_cons List.take_zero List.drop_succ_cons List.drop_zero Option.getD_none Option.getD_some Option.bind_some
attribute [go_sem] Option.bind_none Option.map_map decide_eq_true_eq decide_true decide_false Bool.false_eq_true if_true if_false Int.natCast_nonneg Int.toNat_natCast Nat.zero_add Nat.add_zero eq_self beq_self_eq_true
attribute [go_sem] List.getElem?_nil YH QT setRange ne_eq not_true not_false_eq_true and_true true_and and_self List.map_map Function.comp_def Qfy Int.ofNat_lt Int.natCast_inj Ql9 Qmt Qmc
attribute [go_sem] Nat.add_assoc List.flatMap_cons List.flatMap_nil List.append_nil decide_eq_false_iff_not Classical.not_not Bool.not_eq_true Bool.not_true Bool.not_false Bool.true_eq_false Option.some.injEq Int.sub_zero
attribute [go_sem] Int.add_zero Int.zero_sub Int.zero_add Bool.decide_eq_true Bool.not_not Bool.false_or Bool.or_false Bool.true_or Bool.or_true Bool.false_and Bool.and_false Bool.or_self Bool.or_eq_true
attribute [go_sem] Bool.or_eq_false_iff Bool.and_eq_true Bool.and_eq_false_iff Qjx Qgi QfB Qgk Qd6 QlX QjV QlW Qqe Qjr QnW Qld QlN Qc3
attribute [go_sem] QkF QiQ QhU Qi7 Qmn Qlh Ql8 Qmb Nat.le_refl Nat.zero_le Nat.sub_zero Nat.sub_self Nat.add_sub_cancel natZ natO min10 Nat.le_add_left List.take_nil
attribute [go_sem] Qnh Qkq r_sop Qqu Qpi Qot Qmp Qg5 Qh1 Zx Qne QfK QjE Qhq Qlo Qhl QkS QmQ Qf7 QiE Qg6 Qmz Qh3 Qm5 QoW Qpm QhB
attribute [go_sem] List.drop_nil dK_eq d_op d_nil Qm1 QfF Qn3 QnN QnF QoF Qm6 QmY Qqt fpOp Qin Qgm Qgp Nat.add_sub_add_left d_bsl QlH Qqg
attribute [go_sem] Qi0 Qcw List.length_reverse Qiy Qid Qg3 QhE Qmi QkL Nat.zero_mul Nat.one_mul Int.cast_ofNat_Int Int.lt_irrefl List.length_replicate Nat.le_add_right
attribute [go_sem] List.length_take List.length_drop Qjw Qkv QhN Qir Qmh Qmf low_s Qos Qn7 Qqb QpD Qpt QpY Qqz QpI Qn0 Qlb QiV
attribute [go_sem] Nat.lt_add_right_iff_pos Nat.lt_succ_self Nat.lt_add_one Nat.add_lt_add_iff_left Nat.zero_lt_succ Nat.lt_irrefl Qkl implies_true QfI Qgh Qfj Qge Qf0 Qqr
attribute [go_sem] ev_g QpP Qnc Qhi QhA r_b2s Qm2 QoP QlJ Qjn Qbd QeY r_s2b QmB Qnx Qqx Qk1 Qlv QlS Qqq QoK Qk3 QoM Qaw QiK QfC QiZ QlO Qme Qi6 Qi3 Qmg QnH Qbq
end Go.Nac
set_option linter.unusedSimpArgs false
set_option linter.unusedVariables false
set_option linter.unnecessarySimpa false
set_option maxRecDepth 10000
namespace Go.Nac.L6
attribute [local congr] VQ Vq VS Vd Vb Q2 VT VN
section
variable {X:XRel}
abbrev Q (X:XRel) (f:FuncId) (args:List PV) (r:PV):Prop:=∀ M,ACall F X (.fn f) args M r M
theorem QaK (n a b:Int):Q X 33 [.I n,.I a,.I b] (.I (rng n a b)):=by
 intro M
 (refine Qe (cf:=L6.c33) rfl rfl fun hM hA => ?_;simp only [L6.c33,zO,zF,zT,zM,CX.i];rw [mk3 _ (by decide)];simp -implicitDefEqProofs (disch:=first|omega|(simp only [go_sem,seval];first|done|omega)) only [go_sem,seval])
 repeat' (first|(refine QF ?_ ?_ <;> intro hc <;> (try simp only [decide_eq_true_eq,decide_eq_false_iff_not,Classical.not_not,Bool.not_eq_true,Bool.not_eq_true',Bool.not_eq_false',Bool.false_or,Bool.or_false,Bool.true_or,Bool.or_true,Bool.false_and,Bool.and_false,Bool.true_and,Bool.and_true] at hc) <;> (try simp -implicitDefEqProofs (disch:=first|omega|(simp only [go_sem,seval,hc];first|done|omega)) only [go_sem,seval,hc]))|(refine ZA ?_ ?_ <;> intro hc <;> (try simp only [decide_eq_true_eq,decide_eq_false_iff_not,Classical.not_not,Bool.not_eq_true,Bool.not_eq_true',Bool.not_eq_false',Bool.false_or,Bool.or_false,Bool.true_or,Bool.or_true,Bool.false_and,Bool.and_false,Bool.true_and,Bool.and_true] at hc) <;> (try simp -implicitDefEqProofs (disch:=first|omega|(simp only [go_sem,seval,hc];first|done|omega)) only [go_sem,seval,hc])))
 (all_goals (first|refine pfN hM ?_ ?_|refine pf0 hM ?_ ?_);all_goals first|(simp only [go_sem,seval]<;>omega)|skip;all_goals (try simp -implicitDefEqProofs (disch:=first|omega|(simp only [go_sem,seval];first|done|omega)) only [go_sem,seval]))
 all_goals simp [rng, *]
theorem Qd3 (l:List Int) (hl:l.length ≤ 1048576):Q X 34 [.fs (l.map .I)] (.I (fst0 l)):=by
 intro M
 (refine Qe (cf:=L6.c34) rfl rfl fun hM hA => ?_;simp only [L6.c34,zO,zF,zT,zM,CX.i];rw [mk1 _ (by decide)];simp -implicitDefEqProofs (disch:=first|omega|(simp only [go_sem,seval];first|done|omega)) only [go_sem,seval])
 refine Qo (α:=Nat) 0 (fun k => k ≤ l.length ∧ fst0 l = fst0 (l.drop k)) (fun k => M) (fun k => [(0,.fs (l.map .I)),(3,.I k)]) (fun k => l.length - k) ⟨Nat.zero_le _,rfl⟩ rfl rfl ?_
 rintro k ⟨hk,hs⟩
 by_cases hlt:k < l.length
 ·obtain ⟨x,h1⟩:∃ x,l[k]? = some x:=⟨_,List.getElem?_eq_getElem hlt⟩
  have h2:=ZC l k x h1
  simp -implicitDefEqProofs (disch:=first|omega|(simp only [go_sem,seval,hlt,h1];first|done|omega)) only [go_sem,seval,hlt,h1]
  refine QF ?_ ?_ <;> intro hc <;> (try simp only [decide_eq_true_eq,decide_eq_false_iff_not,Classical.not_not,Bool.not_eq_true,Bool.not_eq_true',Bool.not_eq_false',Bool.false_or,Bool.or_false,Bool.true_or,Bool.or_true,Bool.false_and,Bool.and_false,Bool.true_and,Bool.and_true] at hc) <;> simp -implicitDefEqProofs (disch:=first|omega|(simp only [go_sem,seval,h1,hc];first|done|omega)) only [go_sem,seval,h1,hc]
  ·(first|refine pfN hM ?_ ?_|refine pf0 hM ?_ ?_)
   ·simp -implicitDefEqProofs (disch:=first|omega|(simp only [go_sem,seval,hs,h2,hc];first|done|omega)) only [go_sem,seval,hs,h2,hc]
   ·(simp only [go_sem,seval]<;>omega)
  ·exact again' (k + 1) ⟨by omega,by rw [hs,h2,if_pos hc]⟩ (by omega) rfl rfl
 ·simp -implicitDefEqProofs (disch:=first|omega|(simp only [go_sem,seval,hlt];first|done|omega)) only [go_sem,seval,hlt]
  (first|refine pfN hM ?_ ?_|refine pf0 hM ?_ ?_)
  ·simp -implicitDefEqProofs (disch:=first|omega|(simp only [go_sem,seval,hs];first|done|omega)) only [go_sem,seval,hs]
   rw [List.drop_eq_nil_of_le (by omega)];rfl
  ·(simp only [go_sem,seval]<;>omega)
abbrev Yields (X:XRel):=QgN F X
def hd (e:Int) (m:Int × Bool) (l:List Rev) (k:Nat):Int × Bool:=((halfs l).take k).foldl (fun m x => madd m (powW x e.toNat)) m
def zRev:PV:=.agg [.I 0,.I 0]
theorem Qdh {M:List Blk}:appO M 2 16 (.s (.slice none 0 0)) (some []) = some (.os M.length 0 0 0,M ++ [.row true 2 0 []]):=Qey (by rfl) (by decide) (by decide) (by decide)
theorem Qdk {M:List Blk} {i v:Nat}:appR M 2 16 i v 0 0 [] (some (.row true 2 v [])) = some (.os i (v + 1) 0 0,M.set i (.row true 2 (v + 1) [])):=Qe2 (xs:=[]) (ys:=[]) rfl (by rfl) (by decide) (by decide) (by decide)
theorem QcY (s:ByteArray):Q X 32 [.s (.string s)] (.B (Qn s)):=by
 intro M
 by_cases h0:s.size = 0
 ·have f0:((s.size:Int) = 0) = True:=eq_true (by omega)
  (refine Qe (cf:=L6.c32) rfl rfl fun hM hA => ?_;simp only [L6.c32,zO,zF,zT,zM,CX.i];rw [mk1 _ (by decide)];simp -implicitDefEqProofs (disch:=first|omega|(simp only [go_sem,seval,f0];first|done|omega)) only [go_sem,seval,f0])
  (first|refine pfN hM ?_ ?_|refine pf0 hM ?_ ?_)
  ·simp -implicitDefEqProofs (disch:=first|omega|(simp only [go_sem,seval];first|done|omega)) only [go_sem,seval]
   rw [Qby h0]
  ·(simp only [go_sem,seval]<;>omega)
 have f0:((s.size:Int) = 0) = False:=eq_false (by omega)
 by_cases h24:24 < s.size
 ·have f1:((24:Int) < s.size) = True:=eq_true (by omega)
  (refine Qe (cf:=L6.c32) rfl rfl fun hM hA => ?_;simp only [L6.c32,zO,zF,zT,zM,CX.i];rw [mk1 _ (by decide)];simp -implicitDefEqProofs (disch:=first|omega|(simp only [go_sem,seval,f0,f1];first|done|omega)) only [go_sem,seval,f0,f1])
  (first|refine pfN hM ?_ ?_|refine pf0 hM ?_ ?_)
  ·simp -implicitDefEqProofs (disch:=first|omega|(simp only [go_sem,seval];first|done|omega)) only [go_sem,seval]
   rw [Qbl h24]
  ·(simp only [go_sem,seval]<;>omega)
 have f1:((24:Int) < s.size) = False:=eq_false (by omega)
 (refine Qe (cf:=L6.c32) rfl rfl fun hM hA => ?_;simp only [L6.c32,zO,zF,zT,zM,CX.i];rw [mk1 _ (by decide)];simp -implicitDefEqProofs (disch:=first|omega|(simp only [go_sem,seval,f0,f1];first|done|omega)) only [go_sem,seval,f0,f1])
 refine Qo (α:=Nat) 0 (fun k => k ≤ s.size ∧ ∀ i,i < k → chOk i (chAt s i) = true) (fun k => M) (fun k => [(0,.s (.string s)),(3,.I k)]) (fun k => s.size - k) ⟨Nat.zero_le _,fun i h => absurd h (by omega)⟩ rfl rfl ?_
 rintro k ⟨hk,hs⟩
 by_cases hlt:k < s.size
 ·obtain ⟨u,h1⟩:=Qep hlt
  have hch:=Qdn h1
  have h1:=Qhd h1
  have inv:chOk k u.toNat = true → ∀ i,i < k + 1 → chOk i (chAt s i) = true:=by
   intro hx i hi
   rcases Nat.lt_or_ge i k with h|h
   ·exact hs i h
   ·have:i = k:=by omega
    subst this;rw [hch];exact hx
  rcases (by omega:(u.toNat < 48) ∨ (48 ≤ u.toNat ∧ u.toNat ≤ 57) ∨ (57 < u.toNat ∧ u.toNat < 65) ∨ (65 ≤ u.toNat ∧ u.toNat ≤ 90) ∨ (90 < u.toNat ∧ u.toNat < 95) ∨ (u.toNat = 95) ∨ (u.toNat = 96) ∨ (97 ≤ u.toNat ∧ u.toNat ≤ 122) ∨ (122 < u.toNat)) with hc|hc|hc|hc|hc|hc|hc|hc|hc
  ·have A1:((97:Int) ≤ (u.toNat:Int)) = False:=eq_false (by omega)
   have A2:((u.toNat:Int) ≤ 122) = True:=eq_true (by omega)
   have A3:((65:Int) ≤ (u.toNat:Int)) = False:=eq_false (by omega)
   have A4:((u.toNat:Int) ≤ 90) = True:=eq_true (by omega)
   have A5:((u.toNat:Int) = 95) = False:=eq_false (by omega)
   have A6:((u.toNat:Int) < 48) = True:=eq_true (by omega)
   have A7:((57:Int) < (u.toNat:Int)) = False:=eq_false (by omega)
   by_cases hk0:k = 0
   ·have B:((k:Int) = 0) = True:=eq_true (by omega)
    simp -implicitDefEqProofs (disch:=first|omega|(simp only [go_sem,seval,hlt,h1,A1,A2,A3,A4,A5,A6,A7,B];first|done|omega)) only [go_sem,seval,hlt,h1,A1,A2,A3,A4,A5,A6,A7,B]
    (first|refine pfN hM ?_ ?_|refine pf0 hM ?_ ?_)
    ·simp -implicitDefEqProofs (disch:=first|omega|(simp only [go_sem,seval];first|done|omega)) only [go_sem,seval]
     rw [Qr hlt (by rw [hch];simp [chOk,Qt];omega)]
    ·(simp only [go_sem,seval]<;>omega)
   ·have B:((k:Int) = 0) = False:=eq_false (by omega)
    simp -implicitDefEqProofs (disch:=first|omega|(simp only [go_sem,seval,hlt,h1,A1,A2,A3,A4,A5,A6,A7,B];first|done|omega)) only [go_sem,seval,hlt,h1,A1,A2,A3,A4,A5,A6,A7,B]
    (first|refine pfN hM ?_ ?_|refine pf0 hM ?_ ?_)
    ·simp -implicitDefEqProofs (disch:=first|omega|(simp only [go_sem,seval];first|done|omega)) only [go_sem,seval]
     rw [Qr hlt (by rw [hch];simp [chOk,Qt];omega)]
    ·(simp only [go_sem,seval]<;>omega)
  ·have A1:((97:Int) ≤ (u.toNat:Int)) = False:=eq_false (by omega)
   have A2:((u.toNat:Int) ≤ 122) = True:=eq_true (by omega)
   have A3:((65:Int) ≤ (u.toNat:Int)) = False:=eq_false (by omega)
   have A4:((u.toNat:Int) ≤ 90) = True:=eq_true (by omega)
   have A5:((u.toNat:Int) = 95) = False:=eq_false (by omega)
   have A6:((u.toNat:Int) < 48) = False:=eq_false (by omega)
   have A7:((57:Int) < (u.toNat:Int)) = False:=eq_false (by omega)
   by_cases hk0:k = 0
   ·have B:((k:Int) = 0) = True:=eq_true (by omega)
    simp -implicitDefEqProofs (disch:=first|omega|(simp only [go_sem,seval,hlt,h1,A1,A2,A3,A4,A5,A6,A7,B];first|done|omega)) only [go_sem,seval,hlt,h1,A1,A2,A3,A4,A5,A6,A7,B]
    (first|refine pfN hM ?_ ?_|refine pf0 hM ?_ ?_)
    ·simp -implicitDefEqProofs (disch:=first|omega|(simp only [go_sem,seval];first|done|omega)) only [go_sem,seval]
     rw [Qr hlt (by rw [hch];simp [chOk,Qt];omega)]
    ·(simp only [go_sem,seval]<;>omega)
   ·have B:((k:Int) = 0) = False:=eq_false (by omega)
    simp -implicitDefEqProofs (disch:=first|omega|(simp only [go_sem,seval,hlt,h1,A1,A2,A3,A4,A5,A6,A7,B];first|done|omega)) only [go_sem,seval,hlt,h1,A1,A2,A3,A4,A5,A6,A7,B]
    exact again' (k + 1) ⟨by omega,inv (by simp [chOk,Qt];omega)⟩ (by omega) rfl rfl
  ·have A1:((97:Int) ≤ (u.toNat:Int)) = False:=eq_false (by omega)
   have A2:((u.toNat:Int) ≤ 122) = True:=eq_true (by omega)
   have A3:((65:Int) ≤ (u.toNat:Int)) = False:=eq_false (by omega)
   have A4:((u.toNat:Int) ≤ 90) = True:=eq_true (by omega)
   have A5:((u.toNat:Int) = 95) = False:=eq_false (by omega)
   have A6:((u.toNat:Int) < 48) = False:=eq_false (by omega)
   have A7:((57:Int) < (u.toNat:Int)) = True:=eq_true (by omega)
   by_cases hk0:k = 0
   ·have B:((k:Int) = 0) = True:=eq_true (by omega)
    simp -implicitDefEqProofs (disch:=first|omega|(simp only [go_sem,seval,hlt,h1,A1,A2,A3,A4,A5,A6,A7,B];first|done|omega)) only [go_sem,seval,hlt,h1,A1,A2,A3,A4,A5,A6,A7,B]
    (first|refine pfN hM ?_ ?_|refine pf0 hM ?_ ?_)
    ·simp -implicitDefEqProofs (disch:=first|omega|(simp only [go_sem,seval];first|done|omega)) only [go_sem,seval]
     rw [Qr hlt (by rw [hch];simp [chOk,Qt];omega)]
    ·(simp only [go_sem,seval]<;>omega)
   ·have B:((k:Int) = 0) = False:=eq_false (by omega)
    simp -implicitDefEqProofs (disch:=first|omega|(simp only [go_sem,seval,hlt,h1,A1,A2,A3,A4,A5,A6,A7,B];first|done|omega)) only [go_sem,seval,hlt,h1,A1,A2,A3,A4,A5,A6,A7,B]
    (first|refine pfN hM ?_ ?_|refine pf0 hM ?_ ?_)
    ·simp -implicitDefEqProofs (disch:=first|omega|(simp only [go_sem,seval];first|done|omega)) only [go_sem,seval]
     rw [Qr hlt (by rw [hch];simp [chOk,Qt];omega)]
    ·(simp only [go_sem,seval]<;>omega)
  ·have A1:((97:Int) ≤ (u.toNat:Int)) = False:=eq_false (by omega)
   have A2:((u.toNat:Int) ≤ 122) = True:=eq_true (by omega)
   have A3:((65:Int) ≤ (u.toNat:Int)) = True:=eq_true (by omega)
   have A4:((u.toNat:Int) ≤ 90) = True:=eq_true (by omega)
   have A5:((u.toNat:Int) = 95) = False:=eq_false (by omega)
   have A6:((u.toNat:Int) < 48) = False:=eq_false (by omega)
   have A7:((57:Int) < (u.toNat:Int)) = True:=eq_true (by omega)
   simp -implicitDefEqProofs (disch:=first|omega|(simp only [go_sem,seval,hlt,h1,A1,A2,A3,A4,A5,A6,A7];first|done|omega)) only [go_sem,seval,hlt,h1,A1,A2,A3,A4,A5,A6,A7]
   exact again' (k + 1) ⟨by omega,inv (by simp [chOk,Qt];omega)⟩ (by omega) rfl rfl
  ·have A1:((97:Int) ≤ (u.toNat:Int)) = False:=eq_false (by omega)
   have A2:((u.toNat:Int) ≤ 122) = True:=eq_true (by omega)
   have A3:((65:Int) ≤ (u.toNat:Int)) = True:=eq_true (by omega)
   have A4:((u.toNat:Int) ≤ 90) = False:=eq_false (by omega)
   have A5:((u.toNat:Int) = 95) = False:=eq_false (by omega)
   have A6:((u.toNat:Int) < 48) = False:=eq_false (by omega)
   have A7:((57:Int) < (u.toNat:Int)) = True:=eq_true (by omega)
   by_cases hk0:k = 0
   ·have B:((k:Int) = 0) = True:=eq_true (by omega)
    simp -implicitDefEqProofs (disch:=first|omega|(simp only [go_sem,seval,hlt,h1,A1,A2,A3,A4,A5,A6,A7,B];first|done|omega)) only [go_sem,seval,hlt,h1,A1,A2,A3,A4,A5,A6,A7,B]
    (first|refine pfN hM ?_ ?_|refine pf0 hM ?_ ?_)
    ·simp -implicitDefEqProofs (disch:=first|omega|(simp only [go_sem,seval];first|done|omega)) only [go_sem,seval]
     rw [Qr hlt (by rw [hch];simp [chOk,Qt];omega)]
    ·(simp only [go_sem,seval]<;>omega)
   ·have B:((k:Int) = 0) = False:=eq_false (by omega)
    simp -implicitDefEqProofs (disch:=first|omega|(simp only [go_sem,seval,hlt,h1,A1,A2,A3,A4,A5,A6,A7,B];first|done|omega)) only [go_sem,seval,hlt,h1,A1,A2,A3,A4,A5,A6,A7,B]
    (first|refine pfN hM ?_ ?_|refine pf0 hM ?_ ?_)
    ·simp -implicitDefEqProofs (disch:=first|omega|(simp only [go_sem,seval];first|done|omega)) only [go_sem,seval]
     rw [Qr hlt (by rw [hch];simp [chOk,Qt];omega)]
    ·(simp only [go_sem,seval]<;>omega)
  ·have A1:((97:Int) ≤ (u.toNat:Int)) = False:=eq_false (by omega)
   have A2:((u.toNat:Int) ≤ 122) = True:=eq_true (by omega)
   have A3:((65:Int) ≤ (u.toNat:Int)) = True:=eq_true (by omega)
   have A4:((u.toNat:Int) ≤ 90) = False:=eq_false (by omega)
   have A5:((u.toNat:Int) = 95) = True:=eq_true (by omega)
   have A6:((u.toNat:Int) < 48) = False:=eq_false (by omega)
   have A7:((57:Int) < (u.toNat:Int)) = True:=eq_true (by omega)
   by_cases hk0:k = 0
   ·have B:((k:Int) = 0) = True:=eq_true (by omega)
    simp -implicitDefEqProofs (disch:=first|omega|(simp only [go_sem,seval,hlt,h1,A1,A2,A3,A4,A5,A6,A7,B];first|done|omega)) only [go_sem,seval,hlt,h1,A1,A2,A3,A4,A5,A6,A7,B]
    (first|refine pfN hM ?_ ?_|refine pf0 hM ?_ ?_)
    ·simp -implicitDefEqProofs (disch:=first|omega|(simp only [go_sem,seval];first|done|omega)) only [go_sem,seval]
     rw [Qr hlt (by rw [hch];simp [chOk,Qt];omega)]
    ·(simp only [go_sem,seval]<;>omega)
   ·have B:((k:Int) = 0) = False:=eq_false (by omega)
    simp -implicitDefEqProofs (disch:=first|omega|(simp only [go_sem,seval,hlt,h1,A1,A2,A3,A4,A5,A6,A7,B];first|done|omega)) only [go_sem,seval,hlt,h1,A1,A2,A3,A4,A5,A6,A7,B]
    exact again' (k + 1) ⟨by omega,inv (by simp [chOk,Qt];omega)⟩ (by omega) rfl rfl
  ·have A1:((97:Int) ≤ (u.toNat:Int)) = False:=eq_false (by omega)
   have A2:((u.toNat:Int) ≤ 122) = True:=eq_true (by omega)
   have A3:((65:Int) ≤ (u.toNat:Int)) = True:=eq_true (by omega)
   have A4:((u.toNat:Int) ≤ 90) = False:=eq_false (by omega)
   have A5:((u.toNat:Int) = 95) = False:=eq_false (by omega)
   have A6:((u.toNat:Int) < 48) = False:=eq_false (by omega)
   have A7:((57:Int) < (u.toNat:Int)) = True:=eq_true (by omega)
   by_cases hk0:k = 0
   ·have B:((k:Int) = 0) = True:=eq_true (by omega)
    simp -implicitDefEqProofs (disch:=first|omega|(simp only [go_sem,seval,hlt,h1,A1,A2,A3,A4,A5,A6,A7,B];first|done|omega)) only [go_sem,seval,hlt,h1,A1,A2,A3,A4,A5,A6,A7,B]
    (first|refine pfN hM ?_ ?_|refine pf0 hM ?_ ?_)
    ·simp -implicitDefEqProofs (disch:=first|omega|(simp only [go_sem,seval];first|done|omega)) only [go_sem,seval]
     rw [Qr hlt (by rw [hch];simp [chOk,Qt];omega)]
    ·(simp only [go_sem,seval]<;>omega)
   ·have B:((k:Int) = 0) = False:=eq_false (by omega)
    simp -implicitDefEqProofs (disch:=first|omega|(simp only [go_sem,seval,hlt,h1,A1,A2,A3,A4,A5,A6,A7,B];first|done|omega)) only [go_sem,seval,hlt,h1,A1,A2,A3,A4,A5,A6,A7,B]
    (first|refine pfN hM ?_ ?_|refine pf0 hM ?_ ?_)
    ·simp -implicitDefEqProofs (disch:=first|omega|(simp only [go_sem,seval];first|done|omega)) only [go_sem,seval]
     rw [Qr hlt (by rw [hch];simp [chOk,Qt];omega)]
    ·(simp only [go_sem,seval]<;>omega)
  ·have A1:((97:Int) ≤ (u.toNat:Int)) = True:=eq_true (by omega)
   have A2:((u.toNat:Int) ≤ 122) = True:=eq_true (by omega)
   have A3:((65:Int) ≤ (u.toNat:Int)) = True:=eq_true (by omega)
   have A4:((u.toNat:Int) ≤ 90) = False:=eq_false (by omega)
   have A5:((u.toNat:Int) = 95) = False:=eq_false (by omega)
   have A6:((u.toNat:Int) < 48) = False:=eq_false (by omega)
   have A7:((57:Int) < (u.toNat:Int)) = True:=eq_true (by omega)
   simp -implicitDefEqProofs (disch:=first|omega|(simp only [go_sem,seval,hlt,h1,A1,A2,A3,A4,A5,A6,A7];first|done|omega)) only [go_sem,seval,hlt,h1,A1,A2,A3,A4,A5,A6,A7]
   exact again' (k + 1) ⟨by omega,inv (by simp [chOk,Qt];omega)⟩ (by omega) rfl rfl
  ·have A1:((97:Int) ≤ (u.toNat:Int)) = True:=eq_true (by omega)
   have A2:((u.toNat:Int) ≤ 122) = False:=eq_false (by omega)
   have A3:((65:Int) ≤ (u.toNat:Int)) = True:=eq_true (by omega)
   have A4:((u.toNat:Int) ≤ 90) = False:=eq_false (by omega)
   have A5:((u.toNat:Int) = 95) = False:=eq_false (by omega)
   have A6:((u.toNat:Int) < 48) = False:=eq_false (by omega)
   have A7:((57:Int) < (u.toNat:Int)) = True:=eq_true (by omega)
   by_cases hk0:k = 0
   ·have B:((k:Int) = 0) = True:=eq_true (by omega)
    simp -implicitDefEqProofs (disch:=first|omega|(simp only [go_sem,seval,hlt,h1,A1,A2,A3,A4,A5,A6,A7,B];first|done|omega)) only [go_sem,seval,hlt,h1,A1,A2,A3,A4,A5,A6,A7,B]
    (first|refine pfN hM ?_ ?_|refine pf0 hM ?_ ?_)
    ·simp -implicitDefEqProofs (disch:=first|omega|(simp only [go_sem,seval];first|done|omega)) only [go_sem,seval]
     rw [Qr hlt (by rw [hch];simp [chOk,Qt];omega)]
    ·(simp only [go_sem,seval]<;>omega)
   ·have B:((k:Int) = 0) = False:=eq_false (by omega)
    simp -implicitDefEqProofs (disch:=first|omega|(simp only [go_sem,seval,hlt,h1,A1,A2,A3,A4,A5,A6,A7,B];first|done|omega)) only [go_sem,seval,hlt,h1,A1,A2,A3,A4,A5,A6,A7,B]
    (first|refine pfN hM ?_ ?_|refine pf0 hM ?_ ?_)
    ·simp -implicitDefEqProofs (disch:=first|omega|(simp only [go_sem,seval];first|done|omega)) only [go_sem,seval]
     rw [Qr hlt (by rw [hch];simp [chOk,Qt];omega)]
    ·(simp only [go_sem,seval]<;>omega)
 ·simp -implicitDefEqProofs (disch:=first|omega|(simp only [go_sem,seval,hlt];first|done|omega)) only [go_sem,seval,hlt]
  (first|refine pfN hM ?_ ?_|refine pf0 hM ?_ ?_)
  ·simp -implicitDefEqProofs (disch:=first|omega|(simp only [go_sem,seval];first|done|omega)) only [go_sem,seval]
   rw [Qbz h0 (by omega) (fun i hi => hs i (by omega))]
  ·(simp only [go_sem,seval]<;>omega)
theorem QdL (s:ByteArray):Q X 88 [.s (.string s)] (.B (Qn s)):=by
 intro M
 by_cases h24:24 < s.size
 ·have f1:((24:Int) < s.size) = True:=eq_true (by omega)
  (refine Qe (cf:=L6.c88) rfl rfl fun hM hA => ?_;simp only [L6.c88,zO,zF,zT,zM,CX.i];rw [mk1 _ (by decide)];simp -implicitDefEqProofs (disch:=first|omega|(simp only [go_sem,seval,f1];first|done|omega)) only [go_sem,seval,f1])
  (first|refine pfN hM ?_ ?_|refine pf0 hM ?_ ?_)
  ·simp -implicitDefEqProofs (disch:=first|omega|(simp only [go_sem,seval];first|done|omega)) only [go_sem,seval]
   rw [Qbl h24]
  ·(simp only [go_sem,seval]<;>omega)
 have f1:((24:Int) < s.size) = False:=eq_false (by omega)
 (refine Qe (cf:=L6.c88) rfl rfl fun hM hA => ?_;simp only [L6.c88,zO,zF,zT,zM,CX.i];rw [mk1 _ (by decide)];simp -implicitDefEqProofs (disch:=first|omega|(simp only [go_sem,seval,f1];first|done|omega)) only [go_sem,seval,f1])
 refine Qo (α:=Nat) 0 (fun k => k ≤ s.size ∧ ∀ i,i < k → chOk i (chAt s i) = true) (fun k => M ++ [.siter s k]) (fun k => [(0,.s (.string s)),(10,.oi M.length)]) (fun k => s.size - k) ⟨Nat.zero_le _,fun i h => absurd h (by omega)⟩ rfl rfl ?_
 rintro k ⟨hk,hs⟩
 by_cases hlt:k < s.size
 ·obtain ⟨u,h1⟩:=Qep hlt
  have hch:=Qdn h1
  have inv:chOk k u.toNat = true → ∀ i,i < k + 1 → chOk i (chAt s i) = true:=by
   intro hx i hi
   rcases Nat.lt_or_ge i k with h|h
   ·exact hs i h
   ·have:i = k:=by omega
    subst this;rw [hch];exact hx
  by_cases hu:u.toNat < 128
  ·have d1:(Utf8.decode s k).1 = u.toNat:=by rw [Qkg h1 hu]
   have d2:(Utf8.decode s k).2 = 1:=by rw [Qkg h1 hu]
   rcases (by omega:(u.toNat < 48) ∨ (48 ≤ u.toNat ∧ u.toNat ≤ 57) ∨ (57 < u.toNat ∧ u.toNat < 65) ∨ (65 ≤ u.toNat ∧ u.toNat ≤ 90) ∨ (90 < u.toNat ∧ u.toNat < 95) ∨ (u.toNat = 95) ∨ (u.toNat = 96) ∨ (97 ≤ u.toNat ∧ u.toNat ≤ 122) ∨ (122 < u.toNat)) with hc|hc|hc|hc|hc|hc|hc|hc|hc
   ·have A1:((97:Int) ≤ (u.toNat:Int)) = False:=eq_false (by omega)
    have A2:((u.toNat:Int) ≤ 122) = True:=eq_true (by omega)
    have A3:((65:Int) ≤ (u.toNat:Int)) = False:=eq_false (by omega)
    have A4:((u.toNat:Int) ≤ 90) = True:=eq_true (by omega)
    have A5:((u.toNat:Int) = 95) = False:=eq_false (by omega)
    have A6:((u.toNat:Int) < 48) = True:=eq_true (by omega)
    have A7:((57:Int) < (u.toNat:Int)) = False:=eq_false (by omega)
    by_cases hk0:k = 0
    ·have B:((k:Int) = 0) = True:=eq_true (by omega)
     simp -implicitDefEqProofs (disch:=first|omega|(simp only [go_sem,seval,hlt,h1,A1,A2,A3,A4,A5,A6,A7,B,d1,d2];first|done|omega)) only [go_sem,seval,hlt,h1,A1,A2,A3,A4,A5,A6,A7,B,d1,d2]
     (first|refine pfN hM ?_ ?_|refine pf0 hM ?_ ?_)
     ·simp -implicitDefEqProofs (disch:=first|omega|(simp only [go_sem,seval];first|done|omega)) only [go_sem,seval]
      rw [Qr hlt (by rw [hch];simp [chOk,Qt];omega)]
     ·(simp only [go_sem,seval]<;>omega)
    ·have B:((k:Int) = 0) = False:=eq_false (by omega)
     simp -implicitDefEqProofs (disch:=first|omega|(simp only [go_sem,seval,hlt,h1,A1,A2,A3,A4,A5,A6,A7,B,d1,d2];first|done|omega)) only [go_sem,seval,hlt,h1,A1,A2,A3,A4,A5,A6,A7,B,d1,d2]
     (first|refine pfN hM ?_ ?_|refine pf0 hM ?_ ?_)
     ·simp -implicitDefEqProofs (disch:=first|omega|(simp only [go_sem,seval];first|done|omega)) only [go_sem,seval]
      rw [Qr hlt (by rw [hch];simp [chOk,Qt];omega)]
     ·(simp only [go_sem,seval]<;>omega)
   ·have A1:((97:Int) ≤ (u.toNat:Int)) = False:=eq_false (by omega)
    have A2:((u.toNat:Int) ≤ 122) = True:=eq_true (by omega)
    have A3:((65:Int) ≤ (u.toNat:Int)) = False:=eq_false (by omega)
    have A4:((u.toNat:Int) ≤ 90) = True:=eq_true (by omega)
    have A5:((u.toNat:Int) = 95) = False:=eq_false (by omega)
    have A6:((u.toNat:Int) < 48) = False:=eq_false (by omega)
    have A7:((57:Int) < (u.toNat:Int)) = False:=eq_false (by omega)
    by_cases hk0:k = 0
    ·have B:((k:Int) = 0) = True:=eq_true (by omega)
     simp -implicitDefEqProofs (disch:=first|omega|(simp only [go_sem,seval,hlt,h1,A1,A2,A3,A4,A5,A6,A7,B,d1,d2];first|done|omega)) only [go_sem,seval,hlt,h1,A1,A2,A3,A4,A5,A6,A7,B,d1,d2]
     (first|refine pfN hM ?_ ?_|refine pf0 hM ?_ ?_)
     ·simp -implicitDefEqProofs (disch:=first|omega|(simp only [go_sem,seval];first|done|omega)) only [go_sem,seval]
      rw [Qr hlt (by rw [hch];simp [chOk,Qt];omega)]
     ·(simp only [go_sem,seval]<;>omega)
    ·have B:((k:Int) = 0) = False:=eq_false (by omega)
     simp -implicitDefEqProofs (disch:=first|omega|(simp only [go_sem,seval,hlt,h1,A1,A2,A3,A4,A5,A6,A7,B,d1,d2];first|done|omega)) only [go_sem,seval,hlt,h1,A1,A2,A3,A4,A5,A6,A7,B,d1,d2]
     exact again' (k + 1) ⟨by omega,inv (by simp [chOk,Qt];omega)⟩ (by omega) rfl rfl
   ·have A1:((97:Int) ≤ (u.toNat:Int)) = False:=eq_false (by omega)
    have A2:((u.toNat:Int) ≤ 122) = True:=eq_true (by omega)
    have A3:((65:Int) ≤ (u.toNat:Int)) = False:=eq_false (by omega)
    have A4:((u.toNat:Int) ≤ 90) = True:=eq_true (by omega)
    have A5:((u.toNat:Int) = 95) = False:=eq_false (by omega)
    have A6:((u.toNat:Int) < 48) = False:=eq_false (by omega)
    have A7:((57:Int) < (u.toNat:Int)) = True:=eq_true (by omega)
    by_cases hk0:k = 0
    ·have B:((k:Int) = 0) = True:=eq_true (by omega)
     simp -implicitDefEqProofs (disch:=first|omega|(simp only [go_sem,seval,hlt,h1,A1,A2,A3,A4,A5,A6,A7,B,d1,d2];first|done|omega)) only [go_sem,seval,hlt,h1,A1,A2,A3,A4,A5,A6,A7,B,d1,d2]
     (first|refine pfN hM ?_ ?_|refine pf0 hM ?_ ?_)
     ·simp -implicitDefEqProofs (disch:=first|omega|(simp only [go_sem,seval];first|done|omega)) only [go_sem,seval]
      rw [Qr hlt (by rw [hch];simp [chOk,Qt];omega)]
     ·(simp only [go_sem,seval]<;>omega)
    ·have B:((k:Int) = 0) = False:=eq_false (by omega)
     simp -implicitDefEqProofs (disch:=first|omega|(simp only [go_sem,seval,hlt,h1,A1,A2,A3,A4,A5,A6,A7,B,d1,d2];first|done|omega)) only [go_sem,seval,hlt,h1,A1,A2,A3,A4,A5,A6,A7,B,d1,d2]
     (first|refine pfN hM ?_ ?_|refine pf0 hM ?_ ?_)
     ·simp -implicitDefEqProofs (disch:=first|omega|(simp only [go_sem,seval];first|done|omega)) only [go_sem,seval]
      rw [Qr hlt (by rw [hch];simp [chOk,Qt];omega)]
     ·(simp only [go_sem,seval]<;>omega)
   ·have A1:((97:Int) ≤ (u.toNat:Int)) = False:=eq_false (by omega)
    have A2:((u.toNat:Int) ≤ 122) = True:=eq_true (by omega)
    have A3:((65:Int) ≤ (u.toNat:Int)) = True:=eq_true (by omega)
    have A4:((u.toNat:Int) ≤ 90) = True:=eq_true (by omega)
    have A5:((u.toNat:Int) = 95) = False:=eq_false (by omega)
    have A6:((u.toNat:Int) < 48) = False:=eq_false (by omega)
    have A7:((57:Int) < (u.toNat:Int)) = True:=eq_true (by omega)
    simp -implicitDefEqProofs (disch:=first|omega|(simp only [go_sem,seval,hlt,h1,A1,A2,A3,A4,A5,A6,A7,d1,d2];first|done|omega)) only [go_sem,seval,hlt,h1,A1,A2,A3,A4,A5,A6,A7,d1,d2]
    exact again' (k + 1) ⟨by omega,inv (by simp [chOk,Qt];omega)⟩ (by omega) rfl rfl
   ·have A1:((97:Int) ≤ (u.toNat:Int)) = False:=eq_false (by omega)
    have A2:((u.toNat:Int) ≤ 122) = True:=eq_true (by omega)
    have A3:((65:Int) ≤ (u.toNat:Int)) = True:=eq_true (by omega)
    have A4:((u.toNat:Int) ≤ 90) = False:=eq_false (by omega)
    have A5:((u.toNat:Int) = 95) = False:=eq_false (by omega)
    have A6:((u.toNat:Int) < 48) = False:=eq_false (by omega)
    have A7:((57:Int) < (u.toNat:Int)) = True:=eq_true (by omega)
    by_cases hk0:k = 0
    ·have B:((k:Int) = 0) = True:=eq_true (by omega)
     simp -implicitDefEqProofs (disch:=first|omega|(simp only [go_sem,seval,hlt,h1,A1,A2,A3,A4,A5,A6,A7,B,d1,d2];first|done|omega)) only [go_sem,seval,hlt,h1,A1,A2,A3,A4,A5,A6,A7,B,d1,d2]
     (first|refine pfN hM ?_ ?_|refine pf0 hM ?_ ?_)
     ·simp -implicitDefEqProofs (disch:=first|omega|(simp only [go_sem,seval];first|done|omega)) only [go_sem,seval]
      rw [Qr hlt (by rw [hch];simp [chOk,Qt];omega)]
     ·(simp only [go_sem,seval]<;>omega)
    ·have B:((k:Int) = 0) = False:=eq_false (by omega)
     simp -implicitDefEqProofs (disch:=first|omega|(simp only [go_sem,seval,hlt,h1,A1,A2,A3,A4,A5,A6,A7,B,d1,d2];first|done|omega)) only [go_sem,seval,hlt,h1,A1,A2,A3,A4,A5,A6,A7,B,d1,d2]
     (first|refine pfN hM ?_ ?_|refine pf0 hM ?_ ?_)
     ·simp -implicitDefEqProofs (disch:=first|omega|(simp only [go_sem,seval];first|done|omega)) only [go_sem,seval]
      rw [Qr hlt (by rw [hch];simp [chOk,Qt];omega)]
     ·(simp only [go_sem,seval]<;>omega)
   ·have A1:((97:Int) ≤ (u.toNat:Int)) = False:=eq_false (by omega)
    have A2:((u.toNat:Int) ≤ 122) = True:=eq_true (by omega)
    have A3:((65:Int) ≤ (u.toNat:Int)) = True:=eq_true (by omega)
    have A4:((u.toNat:Int) ≤ 90) = False:=eq_false (by omega)
    have A5:((u.toNat:Int) = 95) = True:=eq_true (by omega)
    have A6:((u.toNat:Int) < 48) = False:=eq_false (by omega)
    have A7:((57:Int) < (u.toNat:Int)) = True:=eq_true (by omega)
    by_cases hk0:k = 0
    ·have B:((k:Int) = 0) = True:=eq_true (by omega)
     simp -implicitDefEqProofs (disch:=first|omega|(simp only [go_sem,seval,hlt,h1,A1,A2,A3,A4,A5,A6,A7,B,d1,d2];first|done|omega)) only [go_sem,seval,hlt,h1,A1,A2,A3,A4,A5,A6,A7,B,d1,d2]
     (first|refine pfN hM ?_ ?_|refine pf0 hM ?_ ?_)
     ·simp -implicitDefEqProofs (disch:=first|omega|(simp only [go_sem,seval];first|done|omega)) only [go_sem,seval]
      rw [Qr hlt (by rw [hch];simp [chOk,Qt];omega)]
     ·(simp only [go_sem,seval]<;>omega)
    ·have B:((k:Int) = 0) = False:=eq_false (by omega)
     simp -implicitDefEqProofs (disch:=first|omega|(simp only [go_sem,seval,hlt,h1,A1,A2,A3,A4,A5,A6,A7,B,d1,d2];first|done|omega)) only [go_sem,seval,hlt,h1,A1,A2,A3,A4,A5,A6,A7,B,d1,d2]
     exact again' (k + 1) ⟨by omega,inv (by simp [chOk,Qt];omega)⟩ (by omega) rfl rfl
   ·have A1:((97:Int) ≤ (u.toNat:Int)) = False:=eq_false (by omega)
    have A2:((u.toNat:Int) ≤ 122) = True:=eq_true (by omega)
    have A3:((65:Int) ≤ (u.toNat:Int)) = True:=eq_true (by omega)
    have A4:((u.toNat:Int) ≤ 90) = False:=eq_false (by omega)
    have A5:((u.toNat:Int) = 95) = False:=eq_false (by omega)
    have A6:((u.toNat:Int) < 48) = False:=eq_false (by omega)
    have A7:((57:Int) < (u.toNat:Int)) = True:=eq_true (by omega)
    by_cases hk0:k = 0
    ·have B:((k:Int) = 0) = True:=eq_true (by omega)
     simp -implicitDefEqProofs (disch:=first|omega|(simp only [go_sem,seval,hlt,h1,A1,A2,A3,A4,A5,A6,A7,B,d1,d2];first|done|omega)) only [go_sem,seval,hlt,h1,A1,A2,A3,A4,A5,A6,A7,B,d1,d2]
     (first|refine pfN hM ?_ ?_|refine pf0 hM ?_ ?_)
     ·simp -implicitDefEqProofs (disch:=first|omega|(simp only [go_sem,seval];first|done|omega)) only [go_sem,seval]
      rw [Qr hlt (by rw [hch];simp [chOk,Qt];omega)]
     ·(simp only [go_sem,seval]<;>omega)
    ·have B:((k:Int) = 0) = False:=eq_false (by omega)
     simp -implicitDefEqProofs (disch:=first|omega|(simp only [go_sem,seval,hlt,h1,A1,A2,A3,A4,A5,A6,A7,B,d1,d2];first|done|omega)) only [go_sem,seval,hlt,h1,A1,A2,A3,A4,A5,A6,A7,B,d1,d2]
     (first|refine pfN hM ?_ ?_|refine pf0 hM ?_ ?_)
     ·simp -implicitDefEqProofs (disch:=first|omega|(simp only [go_sem,seval];first|done|omega)) only [go_sem,seval]
      rw [Qr hlt (by rw [hch];simp [chOk,Qt];omega)]
     ·(simp only [go_sem,seval]<;>omega)
   ·have A1:((97:Int) ≤ (u.toNat:Int)) = True:=eq_true (by omega)
    have A2:((u.toNat:Int) ≤ 122) = True:=eq_true (by omega)
    have A3:((65:Int) ≤ (u.toNat:Int)) = True:=eq_true (by omega)
    have A4:((u.toNat:Int) ≤ 90) = False:=eq_false (by omega)
    have A5:((u.toNat:Int) = 95) = False:=eq_false (by omega)
    have A6:((u.toNat:Int) < 48) = False:=eq_false (by omega)
    have A7:((57:Int) < (u.toNat:Int)) = True:=eq_true (by omega)
    simp -implicitDefEqProofs (disch:=first|omega|(simp only [go_sem,seval,hlt,h1,A1,A2,A3,A4,A5,A6,A7,d1,d2];first|done|omega)) only [go_sem,seval,hlt,h1,A1,A2,A3,A4,A5,A6,A7,d1,d2]
    exact again' (k + 1) ⟨by omega,inv (by simp [chOk,Qt];omega)⟩ (by omega) rfl rfl
   ·have A1:((97:Int) ≤ (u.toNat:Int)) = True:=eq_true (by omega)
    have A2:((u.toNat:Int) ≤ 122) = False:=eq_false (by omega)
    have A3:((65:Int) ≤ (u.toNat:Int)) = True:=eq_true (by omega)
    have A4:((u.toNat:Int) ≤ 90) = False:=eq_false (by omega)
    have A5:((u.toNat:Int) = 95) = False:=eq_false (by omega)
    have A6:((u.toNat:Int) < 48) = False:=eq_false (by omega)
    have A7:((57:Int) < (u.toNat:Int)) = True:=eq_true (by omega)
    by_cases hk0:k = 0
    ·have B:((k:Int) = 0) = True:=eq_true (by omega)
     simp -implicitDefEqProofs (disch:=first|omega|(simp only [go_sem,seval,hlt,h1,A1,A2,A3,A4,A5,A6,A7,B,d1,d2];first|done|omega)) only [go_sem,seval,hlt,h1,A1,A2,A3,A4,A5,A6,A7,B,d1,d2]
     (first|refine pfN hM ?_ ?_|refine pf0 hM ?_ ?_)
     ·simp -implicitDefEqProofs (disch:=first|omega|(simp only [go_sem,seval];first|done|omega)) only [go_sem,seval]
      rw [Qr hlt (by rw [hch];simp [chOk,Qt];omega)]
     ·(simp only [go_sem,seval]<;>omega)
    ·have B:((k:Int) = 0) = False:=eq_false (by omega)
     simp -implicitDefEqProofs (disch:=first|omega|(simp only [go_sem,seval,hlt,h1,A1,A2,A3,A4,A5,A6,A7,B,d1,d2];first|done|omega)) only [go_sem,seval,hlt,h1,A1,A2,A3,A4,A5,A6,A7,B,d1,d2]
     (first|refine pfN hM ?_ ?_|refine pf0 hM ?_ ?_)
     ·simp -implicitDefEqProofs (disch:=first|omega|(simp only [go_sem,seval];first|done|omega)) only [go_sem,seval]
      rw [Qr hlt (by rw [hch];simp [chOk,Qt];omega)]
     ·(simp only [go_sem,seval]<;>omega)
  ·have hr:=Qpd h1 hu
   have A1:((97:Int) ≤ ((Utf8.decode s k).1:Int)) = True:=eq_true (by omega)
   have A2:(((Utf8.decode s k).1:Int) ≤ 122) = False:=eq_false (by omega)
   have A3:((65:Int) ≤ ((Utf8.decode s k).1:Int)) = True:=eq_true (by omega)
   have A4:(((Utf8.decode s k).1:Int) ≤ 90) = False:=eq_false (by omega)
   have A5:(((Utf8.decode s k).1:Int) = 95) = False:=eq_false (by omega)
   have A6:(((Utf8.decode s k).1:Int) < 48) = False:=eq_false (by omega)
   have A7:((57:Int) < ((Utf8.decode s k).1:Int)) = True:=eq_true (by omega)
   by_cases hk0:k = 0
   ·have B:((k:Int) = 0) = True:=eq_true (by omega)
    simp -implicitDefEqProofs (disch:=first|omega|(simp only [go_sem,seval,hlt,A1,A2,A3,A4,A5,A6,A7,B];first|done|omega)) only [go_sem,seval,hlt,A1,A2,A3,A4,A5,A6,A7,B]
    (first|refine pfN hM ?_ ?_|refine pf0 hM ?_ ?_)
    ·simp -implicitDefEqProofs (disch:=first|omega|(simp only [go_sem,seval];first|done|omega)) only [go_sem,seval]
     rw [Qr hlt (by rw [hch];simp [chOk,Qt];omega)]
    ·(simp only [go_sem,seval]<;>omega)
   ·have B:((k:Int) = 0) = False:=eq_false (by omega)
    simp -implicitDefEqProofs (disch:=first|omega|(simp only [go_sem,seval,hlt,A1,A2,A3,A4,A5,A6,A7,B];first|done|omega)) only [go_sem,seval,hlt,A1,A2,A3,A4,A5,A6,A7,B]
    (first|refine pfN hM ?_ ?_|refine pf0 hM ?_ ?_)
    ·simp -implicitDefEqProofs (disch:=first|omega|(simp only [go_sem,seval];first|done|omega)) only [go_sem,seval]
     rw [Qr hlt (by rw [hch];simp [chOk,Qt];omega)]
    ·(simp only [go_sem,seval]<;>omega)
 ·simp -implicitDefEqProofs (disch:=first|omega|(simp only [go_sem,seval,hlt,J9];first|done|omega)) only [go_sem,seval,hlt,J9]
  (first|refine pfN hM ?_ ?_|refine pf0 hM ?_ ?_)
  ·simp -implicitDefEqProofs (disch:=first|omega|(simp only [go_sem,seval];first|done|omega)) only [go_sem,seval]
   by_cases h0:s.size = 0
   ·rw [Qby h0];simp [h0]
   ·rw [Qbz h0 (by omega) (fun i hi => hs i (by omega))];simp [h0]
  ·(simp only [go_sem,seval]<;>omega)
end
end Go.Nac.L6
namespace Go.Nac.L6
attribute [local congr] VQ Vq VS Vd Vb Q2 VT VN
section
variable {X:XRel}
open Ieee
def FloorX (X:XRel):Prop:=∀ (x:Nat) (s:Bool) (m:Nat) (l:Int) (M:List Blk),double.read x = .number s m l → X 101 [.s (.float .f64 x)] M (.s (.float .f64 (double.write ((double.read x).integral .down)))) M
theorem QeG (hX:FloorX X) {x:Nat} {s:Bool} {m:Nat} {l:Int} (h:double.read x = .number s m l):Q X 87 [.s (.float .f64 x)] (.s (.float .f64 (double.write ((double.read x).integral .down)))):=by
 intro M
 (refine Qe (cf:=L6.c87) rfl rfl fun hM hA => ?_;simp only [L6.c87,zO,zF,zT,zM,CX.i];rw [mk1 _ (by decide)];simp -implicitDefEqProofs (disch:=first|omega|(simp only [go_sem,seval];first|done|omega)) only [go_sem,seval])
 refine Qb (VI (hX x s m l M h)) ?_
 simp -implicitDefEqProofs (disch:=first|omega|(simp only [go_sem,seval];first|done|omega)) only [go_sem,seval]
 (all_goals (first|refine pfN hM ?_ ?_|refine pf0 hM ?_ ?_);all_goals first|(simp only [go_sem,seval]<;>omega)|skip;all_goals (try simp -implicitDefEqProofs (disch:=first|omega|(simp only [go_sem,seval];first|done|omega)) only [go_sem,seval]))
theorem Qu (b:Bool) (e:Int):Q X 41 [.B b,.I e] (.I (if b = true then e else 0)):=by
 intro M
 (refine Qe (cf:=L6.c41) rfl rfl fun hM hA => ?_;simp only [L6.c41,zO,zF,zT,zM,CX.i];rw [mk2 _ (by decide)];simp -implicitDefEqProofs (disch:=first|omega|(simp only [go_sem,seval];first|done|omega)) only [go_sem,seval])
 repeat' (first|(refine QF ?_ ?_ <;> intro hc <;> (try simp only [decide_eq_true_eq,decide_eq_false_iff_not,Classical.not_not,Bool.not_eq_true,Bool.not_eq_true',Bool.not_eq_false',Bool.false_or,Bool.or_false,Bool.true_or,Bool.or_true,Bool.false_and,Bool.and_false,Bool.true_and,Bool.and_true] at hc) <;> (try simp -implicitDefEqProofs (disch:=first|omega|(simp only [go_sem,seval,hc];first|done|omega)) only [go_sem,seval,hc]))|(refine ZA ?_ ?_ <;> intro hc <;> (try simp only [decide_eq_true_eq,decide_eq_false_iff_not,Classical.not_not,Bool.not_eq_true,Bool.not_eq_true',Bool.not_eq_false',Bool.false_or,Bool.or_false,Bool.true_or,Bool.or_true,Bool.false_and,Bool.and_false,Bool.true_and,Bool.and_true] at hc) <;> (try simp -implicitDefEqProofs (disch:=first|omega|(simp only [go_sem,seval,hc];first|done|omega)) only [go_sem,seval,hc])))
 (all_goals (first|refine pfN hM ?_ ?_|refine pf0 hM ?_ ?_);all_goals first|(simp only [go_sem,seval]<;>omega)|skip;all_goals (try simp -implicitDefEqProofs (disch:=first|omega|(simp only [go_sem,seval];first|done|omega)) only [go_sem,seval]))
theorem Vr (n a b:Int):Q X 48 [.I n,.I a,.I b] (.I (rng n a b)):=by
 intro M
 (refine Qe (cf:=L6.c48) rfl rfl fun hM hA => ?_;simp only [L6.c48,zO,zF,zT,zM,CX.i];rw [mk3 _ (by decide)];simp -implicitDefEqProofs (disch:=first|omega|(simp only [go_sem,seval];first|done|omega)) only [go_sem,seval])
 repeat' (first|(refine Qb (Qu _ _ _) ?_;(try simp -implicitDefEqProofs (disch:=first|omega|(simp only [go_sem,seval];first|done|omega)) only [go_sem,seval]))|(refine QF ?_ ?_ <;> intro hc <;> (try simp only [decide_eq_true_eq,decide_eq_false_iff_not,Classical.not_not,Bool.not_eq_true,Bool.not_eq_true',Bool.not_eq_false',Bool.false_or,Bool.or_false,Bool.true_or,Bool.or_true,Bool.false_and,Bool.and_false,Bool.true_and,Bool.and_true] at hc) <;> (try simp -implicitDefEqProofs (disch:=first|omega|(simp only [go_sem,seval,hc];first|done|omega)) only [go_sem,seval,hc]))|(refine ZA ?_ ?_ <;> intro hc <;> (try simp only [decide_eq_true_eq,decide_eq_false_iff_not,Classical.not_not,Bool.not_eq_true,Bool.not_eq_true',Bool.not_eq_false',Bool.false_or,Bool.or_false,Bool.true_or,Bool.or_true,Bool.false_and,Bool.and_false,Bool.true_and,Bool.and_true] at hc) <;> (try simp -implicitDefEqProofs (disch:=first|omega|(simp only [go_sem,seval,hc];first|done|omega)) only [go_sem,seval,hc])))
 (all_goals (first|refine pfN hM ?_ ?_|refine pf0 hM ?_ ?_);all_goals first|(simp only [go_sem,seval]<;>omega)|skip;all_goals (try simp -implicitDefEqProofs (disch:=first|omega|(simp only [go_sem,seval];first|done|omega)) only [go_sem,seval]))
 all_goals simp [rng, *]
section
variable {x:Nat} {s:Bool} {m:Nat} {e:Int}
theorem QeP (hr:single.read x = .number s m e) (hb:-9223372036854775808 ≤ fTr s m (e + 4) ∧ fTr s m (e + 4) ≤ 9223372036854775807):Q X 74 [encF x] (.I (fTr s m (e + 4))):=by
 intro M
 obtain ⟨b1,b2,b3⟩:=QE hr
 have F1:=s_ff hr
 have F2:=Qja (s:=s) b1 (show -1074 ≤ e by omega) (show e ≤ 966 by omega)
 have F3:=s_fi (s:=s) b1 (show -1070 ≤ e + 4 by omega) (show e + 4 ≤ 966 by omega) hb
 (refine Qe (cf:=L6.c74) rfl rfl fun hM hA => ?_;simp only [L6.c74,zO,zF,zT,zM,CX.i];rw [mk1 _ (by decide)];simp -implicitDefEqProofs (disch:=first|omega|(simp only [go_sem,seval,F1,F2,F3];first|done|omega)) only [go_sem,seval,F1,F2,F3])
 (all_goals (first|refine pfN hM ?_ ?_|refine pf0 hM ?_ ?_);all_goals first|(simp only [go_sem,seval]<;>omega)|skip;all_goals (try simp -implicitDefEqProofs (disch:=first|omega|(simp only [go_sem,seval];first|done|omega)) only [go_sem,seval]))
theorem Qe1 (h0:-1100 ≤ e + 4) (h1:¬ fV s m (e + 4) < fV true 32768 0) (h2:¬ fV false 32768 0 < fV s m (e + 4)):(fTr s m (e + 4)).natAbs ≤ 32768:=by
 rw [JR];exact (fV_le h0 h1 h2).1
theorem Yp (x:Nat):Q X 47 [encF x] (.I (smpE x)):=by
 intro M
 cases hr:single.read x with
 | nan s t =>
  have F1:=QeH hr
  (refine Qe (cf:=L6.c47) rfl rfl fun hM hA => ?_;simp only [L6.c47,zO,zF,zT,zM,CX.i];rw [mk1 _ (by decide)];simp -implicitDefEqProofs (disch:=first|omega|(simp only [go_sem,seval,F1,Y0,VK];first|done|omega)) only [go_sem,seval,F1,Y0,VK])
  (first|refine pfN hM ?_ ?_|refine pf0 hM ?_ ?_)
  ·simp -implicitDefEqProofs (disch:=first|omega|(simp only [go_sem,seval];first|done|omega)) only [go_sem,seval]
   unfold smpE;rw [hr]
  ·(simp only [go_sem,seval]<;>omega)
 | infinity s =>
  have F1:=QeB hr
  have F2:=QdA s
  (refine Qe (cf:=L6.c47) rfl rfl fun hM hA => ?_;simp only [L6.c47,zO,zF,zT,zM,CX.i];rw [mk1 _ (by decide)];simp -implicitDefEqProofs (disch:=first|omega|(simp only [go_sem,seval,F1,F2,VK];first|done|omega)) only [go_sem,seval,F1,F2,VK])
  (first|refine pfN hM ?_ ?_|refine pf0 hM ?_ ?_)
  ·simp -implicitDefEqProofs (disch:=first|omega|(simp only [go_sem,seval];first|done|omega)) only [go_sem,seval]
   unfold smpE;rw [hr]
  ·(simp only [go_sem,seval]<;>omega)
 | number s m e =>
  obtain ⟨b1,b2,b3⟩:=QE hr
  have F1:=s_ff hr
  have F2:=s_sub (s:=s) b1 (show -1074 ≤ e by omega) (show e ≤ 970 by omega)
  have F3:=s_lo' (s:=s) b1 (show -1070 ≤ e by omega) (show e ≤ 966 by omega)
  have F4:=s_hi' (s:=s) b1 (show -1070 ≤ e by omega) (show e ≤ 966 by omega)
  have F5:=Qja (s:=s) b1 (show -1074 ≤ e by omega) (show e ≤ 966 by omega)
  have hE:smpE x = if fV s m (e + 4) < fV true 32768 0 ∨ fV false 32768 0 < fV s m (e + 4) ∨ VE s m (e + 4) = false then 3 else 0:=by unfold smpE;rw [hr]
  by_cases h1:fV s m (e + 4) < fV true 32768 0
  ·have G1:=eq_true h1
   (refine Qe (cf:=L6.c47) rfl rfl fun hM hA => ?_;simp only [L6.c47,zO,zF,zT,zM,CX.i];rw [mk1 _ (by decide)];simp -implicitDefEqProofs (disch:=first|omega|(simp only [go_sem,seval,F1,F2,VX,F3,G1];first|done|omega)) only [go_sem,seval,F1,F2,VX,F3,G1])
   (first|refine pfN hM ?_ ?_|refine pf0 hM ?_ ?_)
   ·simp -implicitDefEqProofs (disch:=first|omega|(simp only [go_sem,seval];first|done|omega)) only [go_sem,seval]
    rw [hE,if_pos (.inl h1)]
   ·(simp only [go_sem,seval]<;>omega)
  have G1:=eq_false h1
  by_cases h2:fV false 32768 0 < fV s m (e + 4)
  ·have G2:=eq_true h2
   (refine Qe (cf:=L6.c47) rfl rfl fun hM hA => ?_;simp only [L6.c47,zO,zF,zT,zM,CX.i];rw [mk1 _ (by decide)];simp -implicitDefEqProofs (disch:=first|omega|(simp only [go_sem,seval,F1,F2,VX,F3,G1,F4,G2];first|done|omega)) only [go_sem,seval,F1,F2,VX,F3,G1,F4,G2])
   (first|refine pfN hM ?_ ?_|refine pf0 hM ?_ ?_)
   ·simp -implicitDefEqProofs (disch:=first|omega|(simp only [go_sem,seval];first|done|omega)) only [go_sem,seval]
    rw [hE,if_pos (.inr (.inl h2))]
   ·(simp only [go_sem,seval]<;>omega)
  have G2:=eq_false h2
  have ht:=Qe1 (by omega) h1 h2
  have F6:=s_eqi (s:=s) b1 (show -1070 ≤ e + 4 by omega) (show e + 4 ≤ 966 by omega) rfl (by omega)
  (refine Qe (cf:=L6.c47) rfl rfl fun hM hA => ?_;simp only [L6.c47,zO,zF,zT,zM,CX.i];rw [mk1 _ (by decide)];simp -implicitDefEqProofs (disch:=first|omega|(simp only [go_sem,seval,F1,F2,VX,F3,G1,F4,G2];first|done|omega)) only [go_sem,seval,F1,F2,VX,F3,G1,F4,G2])
  refine Qb (QeP hr (by omega) _) ?_
  by_cases h3:VE s m (e + 4) = true
  ·simp -implicitDefEqProofs (disch:=first|omega|(simp only [go_sem,seval,F5,F6,h3];first|done|omega)) only [go_sem,seval,F5,F6,h3]
   (first|refine pfN hM ?_ ?_|refine pf0 hM ?_ ?_)
   ·simp -implicitDefEqProofs (disch:=first|omega|(simp only [go_sem,seval];first|done|omega)) only [go_sem,seval]
    rw [hE,if_neg (by simp [h1,h2,h3])]
   ·(simp only [go_sem,seval]<;>omega)
  ·have h3:VE s m (e + 4) = false:=by simpa using h3
   simp -implicitDefEqProofs (disch:=first|omega|(simp only [go_sem,seval,F5,F6,h3];first|done|omega)) only [go_sem,seval,F5,F6,h3]
   (first|refine pfN hM ?_ ?_|refine pf0 hM ?_ ?_)
   ·simp -implicitDefEqProofs (disch:=first|omega|(simp only [go_sem,seval];first|done|omega)) only [go_sem,seval]
    rw [hE,if_pos (.inr (.inr h3))]
   ·(simp only [go_sem,seval]<;>omega)
theorem Qai (hX:FloorX X) (x:Nat):Q X 65 [encF x] (.I (smpE x)):=by
 intro M
 cases hr:single.read x with
 | nan s t =>
  have F1:=QeH hr
  (refine Qe (cf:=L6.c65) rfl rfl fun hM hA => ?_;simp only [L6.c65,zO,zF,zT,zM,CX.i];rw [mk1 _ (by decide)];simp -implicitDefEqProofs (disch:=first|omega|(simp only [go_sem,seval,F1,Qdq,Y0,VK];first|done|omega)) only [go_sem,seval,F1,Qdq,Y0,VK])
  (first|refine pfN hM ?_ ?_|refine pf0 hM ?_ ?_)
  ·simp -implicitDefEqProofs (disch:=first|omega|(simp only [go_sem,seval];first|done|omega)) only [go_sem,seval]
   unfold smpE;rw [hr]
  ·(simp only [go_sem,seval]<;>omega)
 | infinity s =>
  have F1:=QeB hr
  have F2:=QdA s
  have F3:=QkA s
  (refine Qe (cf:=L6.c65) rfl rfl fun hM hA => ?_;simp only [L6.c65,zO,zF,zT,zM,CX.i];rw [mk1 _ (by decide)];simp -implicitDefEqProofs (disch:=first|omega|(simp only [go_sem,seval,F1,F3,F2,VK];first|done|omega)) only [go_sem,seval,F1,F3,F2,VK])
  (first|refine pfN hM ?_ ?_|refine pf0 hM ?_ ?_)
  ·simp -implicitDefEqProofs (disch:=first|omega|(simp only [go_sem,seval];first|done|omega)) only [go_sem,seval]
   unfold smpE;rw [hr]
  ·(simp only [go_sem,seval]<;>omega)
 | number s m e =>
  obtain ⟨b1,b2,b3⟩:=QE hr
  have F1:=s_ff hr
  have F2:=s_sub (s:=s) b1 (show -1074 ≤ e + 4 by omega) (show e + 4 ≤ 970 by omega)
  have F3:=s_lo (s:=s) b1 (show -1070 ≤ e + 4 by omega) (show e + 4 ≤ 966 by omega)
  have F4:=s_hi (s:=s) b1 (show -1070 ≤ e + 4 by omega) (show e + 4 ≤ 966 by omega)
  have F5:=s_mul (s:=s) b1 (show -1074 ≤ e by omega) (show e ≤ 966 by omega)
  have hE:smpE x = if fV s m (e + 4) < fV true 32768 0 ∨ fV false 32768 0 < fV s m (e + 4) ∨ VE s m (e + 4) = false then 3 else 0:=by unfold smpE;rw [hr]
  by_cases h1:fV s m (e + 4) < fV true 32768 0
  ·have G1:=eq_true h1
   (refine Qe (cf:=L6.c65) rfl rfl fun hM hA => ?_;simp only [L6.c65,zO,zF,zT,zM,CX.i];rw [mk1 _ (by decide)];simp -implicitDefEqProofs (disch:=first|omega|(simp only [go_sem,seval,F1,F5,F2,VX,F3,G1];first|done|omega)) only [go_sem,seval,F1,F5,F2,VX,F3,G1])
   (first|refine pfN hM ?_ ?_|refine pf0 hM ?_ ?_)
   ·simp -implicitDefEqProofs (disch:=first|omega|(simp only [go_sem,seval];first|done|omega)) only [go_sem,seval]
    rw [hE,if_pos (.inl h1)]
   ·(simp only [go_sem,seval]<;>omega)
  have G1:=eq_false h1
  by_cases h2:fV false 32768 0 < fV s m (e + 4)
  ·have G2:=eq_true h2
   (refine Qe (cf:=L6.c65) rfl rfl fun hM hA => ?_;simp only [L6.c65,zO,zF,zT,zM,CX.i];rw [mk1 _ (by decide)];simp -implicitDefEqProofs (disch:=first|omega|(simp only [go_sem,seval,F1,F5,F2,VX,F3,G1,F4,G2];first|done|omega)) only [go_sem,seval,F1,F5,F2,VX,F3,G1,F4,G2])
   (first|refine pfN hM ?_ ?_|refine pf0 hM ?_ ?_)
   ·simp -implicitDefEqProofs (disch:=first|omega|(simp only [go_sem,seval];first|done|omega)) only [go_sem,seval]
    rw [hE,if_pos (.inr (.inl h2))]
   ·(simp only [go_sem,seval]<;>omega)
  have G2:=eq_false h2
  have ht:=Qe1 (by omega) h1 h2
  obtain ⟨k0,l0,r1,r2,r3⟩:=QY s b1 (show -1074 ≤ e + 4 by omega) (show e + 4 ≤ 970 by omega)
  obtain ⟨k,l,g1,g2,g3⟩:=QdR (s:=s) b1 (show -1074 ≤ e + 4 by omega) (show e + 4 ≤ 970 by omega)
  have hf:fFl s (m * 2 ^ k) l < 2 ^ 53:=by
   have h3:=JR s (m * 2 ^ k) l
   rw [QeR s m k g1] at h3
   have h4:∀ b:Bool,b.toNat ≤ 1:=by decide
   have h5:=h4 (s && m * 2 ^ k * 2 ^ l.toNat % 2 ^ (-l).toNat != 0)
   unfold fFl
   omega
  have F6:=s_eqf (s:=s) b1 (show -1070 ≤ e + 4 by omega) (show e + 4 ≤ 966 by omega) g1 g2 hf
  (refine Qe (cf:=L6.c65) rfl rfl fun hM hA => ?_;simp only [L6.c65,zO,zF,zT,zM,CX.i];rw [mk1 _ (by decide)];simp -implicitDefEqProofs (disch:=first|omega|(simp only [go_sem,seval,F1,F5,F2,VX,F3,G1,F4,G2];first|done|omega)) only [go_sem,seval,F1,F5,F2,VX,F3,G1,F4,G2])
  refine Qb (QeG hX r1 _) ?_
  by_cases h3:VE s m (e + 4) = true
  ·simp -implicitDefEqProofs (disch:=first|omega|(simp only [go_sem,seval,g3,F6,h3];first|done|omega)) only [go_sem,seval,g3,F6,h3]
   (first|refine pfN hM ?_ ?_|refine pf0 hM ?_ ?_)
   ·simp -implicitDefEqProofs (disch:=first|omega|(simp only [go_sem,seval];first|done|omega)) only [go_sem,seval]
    rw [hE,if_neg (by simp [h1,h2,h3])]
   ·(simp only [go_sem,seval]<;>omega)
  ·have h3:VE s m (e + 4) = false:=by simpa using h3
   simp -implicitDefEqProofs (disch:=first|omega|(simp only [go_sem,seval,g3,F6,h3];first|done|omega)) only [go_sem,seval,g3,F6,h3]
   (first|refine pfN hM ?_ ?_|refine pf0 hM ?_ ?_)
   ·simp -implicitDefEqProofs (disch:=first|omega|(simp only [go_sem,seval];first|done|omega)) only [go_sem,seval]
    rw [hE,if_pos (.inr (.inr h3))]
   ·(simp only [go_sem,seval]<;>omega)
end
end
end Go.Nac.L6
namespace Go.Nac.L6
attribute [local congr] VQ Vq VS Vd Vb Q2 VT VN
section
variable {X:XRel}
theorem QW (l:List Int) (hl:l.length ≤ 1048576):Q X 40 [.fs (l.map .I)] (.I (fst0 l)):=by
 intro M
 (refine Qe (cf:=L6.c40) rfl rfl fun hM hA => ?_;simp only [L6.c40,zO,zF,zT,zM,CX.i];rw [mk1 _ (by decide)];simp -implicitDefEqProofs (disch:=first|omega|(simp only [go_sem,seval];first|done|omega)) only [go_sem,seval])
 refine Qo (α:=Nat) 0 (fun k => k ≤ l.length ∧ fst0 l = fst0 (l.drop k)) (fun k => M) (fun k => [(5,.fs (l.map .I)),(6,.I l.length),(7,.I k)]) (fun k => l.length - k) ⟨Nat.zero_le _,rfl⟩ rfl rfl ?_
 rintro k ⟨hk,hs⟩
 by_cases hlt:k < l.length
 ·obtain ⟨x,h1⟩:∃ x,l[k]? = some x:=⟨_,List.getElem?_eq_getElem hlt⟩
  have h2:=ZC l k x h1
  simp -implicitDefEqProofs (disch:=first|omega|(simp only [go_sem,seval,hlt,h1];first|done|omega)) only [go_sem,seval,hlt,h1]
  refine QF ?_ ?_ <;> intro hc <;> (try simp only [decide_eq_true_eq,decide_eq_false_iff_not,Classical.not_not,Bool.not_eq_true,Bool.not_eq_true',Bool.not_eq_false',Bool.false_or,Bool.or_false,Bool.true_or,Bool.or_true,Bool.false_and,Bool.and_false,Bool.true_and,Bool.and_true] at hc) <;> simp -implicitDefEqProofs (disch:=first|omega|(simp only [go_sem,seval,h1,hc];first|done|omega)) only [go_sem,seval,h1,hc]
  ·(first|refine pfN hM ?_ ?_|refine pf0 hM ?_ ?_)
   ·simp -implicitDefEqProofs (disch:=first|omega|(simp only [go_sem,seval];first|done|omega)) only [go_sem,seval]
    rw [hs,h2,if_neg hc]
   ·(simp only [go_sem,seval]<;>omega)
  ·exact again' (k + 1) ⟨by omega,by rw [hs,h2,if_pos hc]⟩ (by omega) rfl rfl
 ·simp -implicitDefEqProofs (disch:=first|omega|(simp only [go_sem,seval,hlt];first|done|omega)) only [go_sem,seval,hlt]
  (first|refine pfN hM ?_ ?_|refine pf0 hM ?_ ?_)
  ·simp -implicitDefEqProofs (disch:=first|omega|(simp only [go_sem,seval];first|done|omega)) only [go_sem,seval]
   rw [hs,List.drop_eq_nil_of_le (by omega)];rfl
  ·(simp only [go_sem,seval]<;>omega)
theorem ZB (s:ByteArray):Q X 66 [.s (.string s)] (.I (if Qn s = false then 8 else 0)):=by
 intro M
 (refine Qe (cf:=L6.c66) rfl rfl fun hM hA => ?_;simp only [L6.c66,zO,zF,zT,zM,CX.i];rw [mk1 _ (by decide)];simp -implicitDefEqProofs (disch:=first|omega|(simp only [go_sem,seval];first|done|omega)) only [go_sem,seval])
 refine Qb (QdL s _) ?_
 simp -implicitDefEqProofs (disch:=first|omega|(simp only [go_sem,seval];first|done|omega)) only [go_sem,seval]
 refine Qb (Qu _ _ _) ?_
 simp -implicitDefEqProofs (disch:=first|omega|(simp only [go_sem,seval];first|done|omega)) only [go_sem,seval]
 (first|refine pfN hM ?_ ?_|refine pf0 hM ?_ ?_)
 ·simp -implicitDefEqProofs (disch:=first|omega|(simp only [go_sem,seval];first|done|omega)) only [go_sem,seval]
  cases Qn s <;> rfl
 ·(simp only [go_sem,seval]<;>omega)
theorem QbG (x:Spn):Q X 89 [Qa x] (.I (Vn x)):=by
 intro M
 (refine Qe (cf:=L6.c89) rfl rfl fun hM hA => ?_;simp only [L6.c89,zO,zF,zT,zM,CX.i];rw [mk1 _ (by decide)];simp -implicitDefEqProofs (disch:=first|omega|(simp only [go_sem,seval,Qd];first|done|omega)) only [go_sem,seval,Qd])
 repeat' (first|(refine Qb (Qu _ _ _) ?_;(try simp -implicitDefEqProofs (disch:=first|omega|(simp only [go_sem,seval,Qd];first|done|omega)) only [go_sem,seval,Qd]))|(refine QF ?_ ?_ <;> intro hc <;> (try simp only [decide_eq_true_eq,decide_eq_false_iff_not,Classical.not_not,Bool.not_eq_true,Bool.not_eq_true',Bool.not_eq_false',Bool.false_or,Bool.or_false,Bool.true_or,Bool.or_true,Bool.false_and,Bool.and_false,Bool.true_and,Bool.and_true] at hc) <;> (try simp -implicitDefEqProofs (disch:=first|omega|(simp only [go_sem,seval,Qd,hc];first|done|omega)) only [go_sem,seval,Qd,hc]))|(refine ZA ?_ ?_ <;> intro hc <;> (try simp only [decide_eq_true_eq,decide_eq_false_iff_not,Classical.not_not,Bool.not_eq_true,Bool.not_eq_true',Bool.not_eq_false',Bool.false_or,Bool.or_false,Bool.true_or,Bool.or_true,Bool.false_and,Bool.and_false,Bool.true_and,Bool.and_true] at hc) <;> (try simp -implicitDefEqProofs (disch:=first|omega|(simp only [go_sem,seval,Qd,hc];first|done|omega)) only [go_sem,seval,Qd,hc])))
 (all_goals (first|refine pfN hM ?_ ?_|refine pf0 hM ?_ ?_);all_goals first|(simp only [go_sem,seval]<;>omega)|skip;all_goals (try simp -implicitDefEqProofs (disch:=first|omega|(simp only [go_sem,seval];first|done|omega)) only [go_sem,seval]))
 all_goals simp [Vn, *] <;> omega
theorem Qba (x:Spn):Q X 50 [Qa x] (.I (Vn x)):=by
 intro M
 (refine Qe (cf:=L6.c50) rfl rfl fun hM hA => ?_;simp only [L6.c50,zO,zF,zT,zM,CX.i];rw [mk1 _ (by decide)];simp -implicitDefEqProofs (disch:=first|omega|(simp only [go_sem,seval,Qd];first|done|omega)) only [go_sem,seval,Qd])
 repeat' (first|(refine QF ?_ ?_ <;> intro hc <;> (try simp only [decide_eq_true_eq,decide_eq_false_iff_not,Classical.not_not,Bool.not_eq_true,Bool.not_eq_true',Bool.not_eq_false',Bool.false_or,Bool.or_false,Bool.true_or,Bool.or_true,Bool.false_and,Bool.and_false,Bool.true_and,Bool.and_true] at hc) <;> (try simp -implicitDefEqProofs (disch:=first|omega|(simp only [go_sem,seval,Qd,hc];first|done|omega)) only [go_sem,seval,Qd,hc]))|(refine ZA ?_ ?_ <;> intro hc <;> (try simp only [decide_eq_true_eq,decide_eq_false_iff_not,Classical.not_not,Bool.not_eq_true,Bool.not_eq_true',Bool.not_eq_false',Bool.false_or,Bool.or_false,Bool.true_or,Bool.or_true,Bool.false_and,Bool.and_false,Bool.true_and,Bool.and_true] at hc) <;> (try simp -implicitDefEqProofs (disch:=first|omega|(simp only [go_sem,seval,Qd,hc];first|done|omega)) only [go_sem,seval,Qd,hc])))
 (all_goals (first|refine pfN hM ?_ ?_|refine pf0 hM ?_ ?_);all_goals first|(simp only [go_sem,seval]<;>omega)|skip;all_goals (try simp -implicitDefEqProofs (disch:=first|omega|(simp only [go_sem,seval];first|done|omega)) only [go_sem,seval]))
 all_goals simp [Vn, *] <;> omega
theorem Zt (l:List Spn) (hl:l.length ≤ 1048576):Q X 67 [.fs (l.map Qa)] (.I (Qm l)):=by
 intro M
 (refine Qe (cf:=L6.c67) rfl rfl fun hM hA => ?_;simp only [L6.c67,zO,zF,zT,zM,CX.i];rw [mk1 _ (by decide)];simp -implicitDefEqProofs (disch:=first|omega|(simp only [go_sem,seval];first|done|omega)) only [go_sem,seval])
 refine QF ?_ ?_ <;> intro hc <;> (try simp only [decide_eq_true_eq,decide_eq_false_iff_not,Classical.not_not,Bool.not_eq_true,Bool.not_eq_true',Bool.not_eq_false',Bool.false_or,Bool.or_false,Bool.true_or,Bool.or_true,Bool.false_and,Bool.and_false,Bool.true_and,Bool.and_true] at hc) <;> simp -implicitDefEqProofs (disch:=first|omega|(simp only [go_sem,seval,hc];first|done|omega)) only [go_sem,seval,hc]
 ·(first|refine pfN hM ?_ ?_|refine pf0 hM ?_ ?_)
  ·simp -implicitDefEqProofs (disch:=first|omega|(simp only [go_sem,seval];first|done|omega)) only [go_sem,seval]
   congr 2;simp [Qm];omega
  ·(simp only [go_sem,seval]<;>omega)
 ·refine Qo (α:=Nat) 0 (fun k => k ≤ l.length ∧ Qm l = QO (VC l k) (l.drop k)) (fun k => M) (fun k => [(3,.I (VC l k)),(10,.fs (l.map Qa)),(11,.I l.length),(12,.I k)]) (fun k => l.length - k) ⟨Nat.zero_le _,by simp only [Qm];rw [if_neg (by omega)];rfl⟩ rfl rfl ?_
  rintro k ⟨hk,hs⟩
  by_cases hlt:k < l.length
  ·obtain ⟨x,h1⟩:∃ x,l[k]? = some x:=⟨_,List.getElem?_eq_getElem hlt⟩
   have hd:=Qad h1 (VC l k)
   have hq:∀ e:Int,e = fst0 [Vn x,if x.fr ≤ VC l k then 11 else 0] → (e = 0 → Qm l = QO (VC l (k + 1)) (l.drop (k + 1))) ∧ (¬ e = 0 → Qm l = e):=by
    intro e he
    rw [hs,hd,Ye h1]
    have h14:Vn x = 0 ∨ Vn x = 14:=by unfold Vn;split <;> simp
    subst he
    simp only [fst0]
    refine ⟨fun h => ?_,fun h => ?_⟩ <;> rcases h14 with h14|h14 <;> by_cases h3:x.fr ≤ VC l k <;> simp [h14,h3] at h ⊢
   simp -implicitDefEqProofs (disch:=first|omega|(simp only [go_sem,seval,hlt,h1,Qd];first|done|omega)) only [go_sem,seval,hlt,h1,Qd]
   refine Qb (QbG x _) ?_
   simp -implicitDefEqProofs (disch:=first|omega|(simp only [go_sem,seval,Qd];first|done|omega)) only [go_sem,seval,Qd]
   refine Qb (Qu _ _ _) ?_
   simp -implicitDefEqProofs (disch:=first|omega|(simp only [go_sem,seval];first|done|omega)) only [go_sem,seval]
   refine Qb (QW [_,_] (by simp) _) ?_
   simp -implicitDefEqProofs (disch:=first|omega|(simp only [go_sem,seval];first|done|omega)) only [go_sem,seval]
   have hqe:=hq _ rfl
   refine QF ?_ ?_ <;> intro hc <;> (try simp only [decide_eq_true_eq,decide_eq_false_iff_not,Classical.not_not,Bool.not_eq_true,Bool.not_eq_true',Bool.not_eq_false',Bool.false_or,Bool.or_false,Bool.true_or,Bool.or_true,Bool.false_and,Bool.and_false,Bool.true_and,Bool.and_true] at hc) <;> simp -implicitDefEqProofs (disch:=first|omega|(simp only [go_sem,seval,hc];first|done|omega)) only [go_sem,seval,hc]
   ·(first|refine pfN hM ?_ ?_|refine pf0 hM ?_ ?_)
    ·simp -implicitDefEqProofs (disch:=first|omega|(simp only [go_sem,seval];first|done|omega)) only [go_sem,seval]
     congr 2
     rw [(hqe.2 (by simpa using hc))]
    ·(simp only [go_sem,seval]<;>omega)
   ·refine Qy hM rfl 0 (by simp) (by first|done|(simp only [go_sem,seval,Qg] <;> first|done|(refine ⟨?_,?_⟩ <;> omega)|omega)) (QA (by first|done|(simp only [go_sem,seval,Qg] <;> first|done|(refine ⟨?_,?_⟩ <;> omega)|omega))) ?_
    simp -implicitDefEqProofs (disch:=first|omega|(simp only [go_sem,seval];first|done|omega)) only [go_sem,seval]
    exact again' (k + 1) ⟨by omega,hqe.1 (by simpa using hc)⟩ (by omega) rfl (by rw [Ye h1];rfl)
  ·simp -implicitDefEqProofs (disch:=first|omega|(simp only [go_sem,seval,hlt];first|done|omega)) only [go_sem,seval,hlt]
   (first|refine pfN hM ?_ ?_|refine pf0 hM ?_ ?_)
   ·simp -implicitDefEqProofs (disch:=first|omega|(simp only [go_sem,seval];first|done|omega)) only [go_sem,seval]
    rw [hs,Qay (by omega)]
   ·(simp only [go_sem,seval]<;>omega)
theorem Zf (l:List Spn) (hl:l.length ≤ 1048576):Q X 15 [.fs (l.map Qa)] (.I (Qm l)):=by
 intro M
 (refine Qe (cf:=L6.c15) rfl rfl fun hM hA => ?_;simp only [L6.c15,zO,zF,zT,zM,CX.i];rw [mk1 _ (by decide)];simp -implicitDefEqProofs (disch:=first|omega|(simp only [go_sem,seval];first|done|omega)) only [go_sem,seval])
 refine QF ?_ ?_ <;> intro hc <;> (try simp only [decide_eq_true_eq,decide_eq_false_iff_not,Classical.not_not,Bool.not_eq_true,Bool.not_eq_true',Bool.not_eq_false',Bool.false_or,Bool.or_false,Bool.true_or,Bool.or_true,Bool.false_and,Bool.and_false,Bool.true_and,Bool.and_true] at hc) <;> simp -implicitDefEqProofs (disch:=first|omega|(simp only [go_sem,seval,hc];first|done|omega)) only [go_sem,seval,hc]
 ·(first|refine pfN hM ?_ ?_|refine pf0 hM ?_ ?_)
  ·simp -implicitDefEqProofs (disch:=first|omega|(simp only [go_sem,seval];first|done|omega)) only [go_sem,seval]
   congr 2;simp [Qm];omega
  ·(simp only [go_sem,seval]<;>omega)
 ·refine Qo (α:=Nat) 0 (fun k => k ≤ l.length ∧ Qm l = QO (VC l k) (l.drop k)) (fun k => M) (fun k => [(0,.fs (l.map Qa)),(3,.I k)]) (fun k => l.length - k) ⟨Nat.zero_le _,by simp only [Qm];rw [if_neg (by omega)];rfl⟩ rfl rfl ?_
  rintro k ⟨hk,hs⟩
  by_cases hlt:k < l.length
  ·obtain ⟨x,h1⟩:∃ x,l[k]? = some x:=⟨_,List.getElem?_eq_getElem hlt⟩
   have hd:=Qad h1 (VC l k)
   simp -implicitDefEqProofs (disch:=first|omega|(simp only [go_sem,seval,hlt,h1,Qd];first|done|omega)) only [go_sem,seval,hlt,h1,Qd]
   refine Qb (Qba x _) ?_
   simp -implicitDefEqProofs (disch:=first|omega|(simp only [go_sem,seval];first|done|omega)) only [go_sem,seval]
   by_cases h14:Vn x = 0
   ·have G:=eq_true h14
    simp -implicitDefEqProofs (disch:=first|omega|(simp only [go_sem,seval,G];first|done|omega)) only [go_sem,seval,G]
    have hf:=(Y3 h14).1
    by_cases h0:k = 0
    ·subst h0
     have B:((0:Int) < ((0:Nat):Int)) = False:=eq_false (by omega)
     simp -implicitDefEqProofs (disch:=first|omega|(simp only [go_sem,seval,B,h1,Qd];first|done|omega)) only [go_sem,seval,B,h1,Qd]
     exact again' 1 ⟨by omega,by rw [hs,hd,if_pos h14,if_neg (by rw [Qf6];omega),Ye h1]⟩ (by omega) rfl rfl
    ·have B:((0:Int) < (k:Int)) = True:=eq_true (by omega)
     have e1:(k:Int) - 1 = ((k - 1:Nat):Int):=by omega
     obtain ⟨p,g1⟩:∃ p,l[k - 1]? = some p:=⟨_,List.getElem?_eq_getElem (by omega)⟩
     have hp:VC l k = p.to_:=by simp [VC,h0,g1]
     simp -implicitDefEqProofs (disch:=first|omega|(simp only [go_sem,seval,B,h1,e1,g1,Qd];first|done|omega)) only [go_sem,seval,B,h1,e1,g1,Qd]
     refine QF ?_ ?_ <;> intro hc <;> (try simp only [decide_eq_true_eq,decide_eq_false_iff_not,Classical.not_not,Bool.not_eq_true,Bool.not_eq_true',Bool.not_eq_false',Bool.false_or,Bool.or_false,Bool.true_or,Bool.or_true,Bool.false_and,Bool.and_false,Bool.true_and,Bool.and_true] at hc) <;> simp -implicitDefEqProofs (disch:=first|omega|(simp only [go_sem,seval,hc];first|done|omega)) only [go_sem,seval,hc]
     ·(first|refine pfN hM ?_ ?_|refine pf0 hM ?_ ?_)
      ·simp -implicitDefEqProofs (disch:=first|omega|(simp only [go_sem,seval];first|done|omega)) only [go_sem,seval]
       rw [hs,hd,if_pos h14,if_pos (by omega)]
      ·(simp only [go_sem,seval]<;>omega)
     ·exact again' (k + 1) ⟨by omega,by rw [hs,hd,if_pos h14,if_neg (by omega),Ye h1]⟩ (by omega) rfl rfl
   ·have G:=eq_false h14
    simp -implicitDefEqProofs (disch:=first|omega|(simp only [go_sem,seval,G];first|done|omega)) only [go_sem,seval,G]
    (first|refine pfN hM ?_ ?_|refine pf0 hM ?_ ?_)
    ·simp -implicitDefEqProofs (disch:=first|omega|(simp only [go_sem,seval];first|done|omega)) only [go_sem,seval]
     rw [hs,hd,if_neg h14]
    ·(simp only [go_sem,seval]<;>omega)
  ·simp -implicitDefEqProofs (disch:=first|omega|(simp only [go_sem,seval,hlt];first|done|omega)) only [go_sem,seval,hlt]
   (first|refine pfN hM ?_ ?_|refine pf0 hM ?_ ?_)
   ·simp -implicitDefEqProofs (disch:=first|omega|(simp only [go_sem,seval];first|done|omega)) only [go_sem,seval]
    rw [hs,Qay (by omega)]
   ·(simp only [go_sem,seval]<;>omega)
theorem J1 (hX:FloorX X) (l:List Nat) (hl:l.length ≤ 1048576):Q X 35 [.fs (l.map encF)] (.I (fst0 (l.map smpE))):=by
 intro M
 (refine Qe (cf:=L6.c35) rfl rfl fun hM hA => ?_;simp only [L6.c35,zO,zF,zT,zM,CX.i];rw [mk1 _ (by decide)];simp -implicitDefEqProofs (disch:=first|omega|(simp only [go_sem,seval];first|done|omega)) only [go_sem,seval])
 refine Qo (α:=Nat) 0 (fun k => k ≤ l.length ∧ fst0 (l.map smpE) = fst0 ((l.map smpE).drop k)) (fun k => M) (fun k => [(0,.fs (l.map encF)),(3,.I k)]) (fun k => l.length - k) ⟨Nat.zero_le _,rfl⟩ rfl rfl ?_
 rintro k ⟨hk,hs⟩
 by_cases hlt:k < l.length
 ·obtain ⟨x,h1⟩:∃ x,l[k]? = some x:=⟨_,List.getElem?_eq_getElem hlt⟩
  have h2:=ZC (l.map smpE) k (smpE x) (by rw [List.getElem?_map,h1];rfl)
  simp -implicitDefEqProofs (disch:=first|omega|(simp only [go_sem,seval,hlt,h1];first|done|omega)) only [go_sem,seval,hlt,h1]
  refine Qb (Qai hX x _) ?_
  simp -implicitDefEqProofs (disch:=first|omega|(simp only [go_sem,seval];first|done|omega)) only [go_sem,seval]
  refine QF ?_ ?_ <;> intro hc <;> (try simp only [decide_eq_true_eq,decide_eq_false_iff_not,Classical.not_not,Bool.not_eq_true,Bool.not_eq_true',Bool.not_eq_false',Bool.false_or,Bool.or_false,Bool.true_or,Bool.or_true,Bool.false_and,Bool.and_false,Bool.true_and,Bool.and_true] at hc) <;> simp -implicitDefEqProofs (disch:=first|omega|(simp only [go_sem,seval,hc];first|done|omega)) only [go_sem,seval,hc]
  ·(first|refine pfN hM ?_ ?_|refine pf0 hM ?_ ?_)
   ·simp -implicitDefEqProofs (disch:=first|omega|(simp only [go_sem,seval];first|done|omega)) only [go_sem,seval]
    rw [hs,h2,if_neg hc]
   ·(simp only [go_sem,seval]<;>omega)
  ·exact again' (k + 1) ⟨by omega,by rw [hs,h2,if_pos hc]⟩ (by omega) rfl rfl
 ·simp -implicitDefEqProofs (disch:=first|omega|(simp only [go_sem,seval,hlt];first|done|omega)) only [go_sem,seval,hlt]
  (first|refine pfN hM ?_ ?_|refine pf0 hM ?_ ?_)
  ·simp -implicitDefEqProofs (disch:=first|omega|(simp only [go_sem,seval];first|done|omega)) only [go_sem,seval]
   rw [hs,List.drop_eq_nil_of_le (by simp;omega)];rfl
  ·(simp only [go_sem,seval]<;>omega)
theorem Qbt (l:List Spn) (n:Int) (hl:l.length ≤ 1048576):Q X 36 [.fs (l.map Qa),.I n] (.B (gapAt l n)):=by
 intro M
 (refine Qe (cf:=L6.c36) rfl rfl fun hM hA => ?_;simp only [L6.c36,zO,zF,zT,zM,CX.i];rw [mk2 _ (by decide)];simp -implicitDefEqProofs (disch:=first|omega|(simp only [go_sem,seval];first|done|omega)) only [go_sem,seval])
 refine Qo (α:=Nat) 0 (fun k => k ≤ l.length ∧ gapAt l n = gapAt (l.drop k) n) (fun k => M) (fun k => [(0,.fs (l.map Qa)),(1,.I n),(5,.I k)]) (fun k => l.length - k) ⟨Nat.zero_le _,rfl⟩ rfl rfl ?_
 rintro k ⟨hk,hs⟩
 by_cases hlt:k < l.length
 ·obtain ⟨x,h1⟩:∃ x,l[k]? = some x:=⟨_,List.getElem?_eq_getElem hlt⟩
  have hd:gapAt (l.drop k) n = (decide (x.fr ≤ n ∧ n < x.to_) || gapAt (l.drop (k + 1)) n):=by
   obtain ⟨h3,h4⟩:=List.getElem?_eq_some_iff.1 h1
   rw [List.drop_eq_getElem_cons h3,h4];rfl
  by_cases a1:x.fr ≤ n
  ·have A1:=eq_true a1
   by_cases a2:n < x.to_
   ·have A2:=eq_true a2
    simp -implicitDefEqProofs (disch:=first|omega|(simp only [go_sem,seval,hlt,h1,Qd,A1,A2];first|done|omega)) only [go_sem,seval,hlt,h1,Qd,A1,A2]
    (first|refine pfN hM ?_ ?_|refine pf0 hM ?_ ?_)
    ·simp -implicitDefEqProofs (disch:=first|omega|(simp only [go_sem,seval];first|done|omega)) only [go_sem,seval]
     rw [hs,hd];simp [a1,a2]
    ·(simp only [go_sem,seval]<;>omega)
   ·have A2:=eq_false a2
    simp -implicitDefEqProofs (disch:=first|omega|(simp only [go_sem,seval,hlt,h1,Qd,A1,A2];first|done|omega)) only [go_sem,seval,hlt,h1,Qd,A1,A2]
    exact again' (k + 1) ⟨by omega,by rw [hs,hd];simp [a2]⟩ (by omega) rfl rfl
  ·have A1:=eq_false a1
   simp -implicitDefEqProofs (disch:=first|omega|(simp only [go_sem,seval,hlt,h1,Qd,A1];first|done|omega)) only [go_sem,seval,hlt,h1,Qd,A1]
   exact again' (k + 1) ⟨by omega,by rw [hs,hd];simp [a1]⟩ (by omega) rfl rfl
 ·simp -implicitDefEqProofs (disch:=first|omega|(simp only [go_sem,seval,hlt];first|done|omega)) only [go_sem,seval,hlt]
  (first|refine pfN hM ?_ ?_|refine pf0 hM ?_ ?_)
  ·simp -implicitDefEqProofs (disch:=first|omega|(simp only [go_sem,seval];first|done|omega)) only [go_sem,seval]
   rw [hs,List.drop_eq_nil_of_le (by omega)];rfl
  ·(simp only [go_sem,seval]<;>omega)
theorem Jv (s:Ser) (hn:s.samples.length ≤ 40000) (hgl:s.gaps.length ≤ 1048576) (hg:∀ x:Spn,x ∈ s.gaps → 0 ≤ x.fr ∧ x.fr < x.to_ ∧ x.to_ ≤ s.samples.length) :
  Q X 68 [Qj s] (.fs (QP s.samples.length s.gaps s.gaps.length)):=by
 intro M
 obtain ⟨nm,st,l,g⟩:=s
 simp only at hn hg hgl ⊢
 have hrep:=QjF l.length g
 (refine Qe (cf:=L6.c68) rfl rfl fun hM hA => ?_;simp only [L6.c68,zO,zF,zT,zM,CX.i];rw [mk1 _ (by decide)];simp -implicitDefEqProofs (disch:=first|omega|(simp only [go_sem,seval,Qf,hrep.symm];first|done|omega)) only [go_sem,seval,Qf,hrep.symm])
 have hl0:=Vy (m:=M.length) l.length g
 refine Qo (α:=Nat) 0 (fun k => k ≤ g.length) (fun k => M ++ [.row true 1 0 (QP l.length g k)]) (fun k => [(3,.os M.length 0 0 l.length),(12,.fs (g.map Qa)),(13,.I g.length),(14,.I k)]) (fun k => g.length - k) (Nat.zero_le _) (by rw [hrep]) rfl ?_
 intro k hk
 by_cases hlt:k < g.length
 ·obtain ⟨x,h1⟩:∃ x,g[k]? = some x:=⟨_,List.getElem?_eq_getElem hlt⟩
  have hx:=hg x (List.mem_of_getElem? h1)
  obtain ⟨a,ha⟩:∃ a:Nat,x.fr = a:=⟨x.fr.toNat,by omega⟩
  obtain ⟨b,hb⟩:∃ b:Nat,x.to_ = b:=⟨x.to_.toNat,by omega⟩
  simp -implicitDefEqProofs (disch:=first|omega|(simp only [go_sem,seval,hlt,h1,Qd,ha,hb];first|done|omega)) only [go_sem,seval,hlt,h1,Qd,ha,hb]
  refine Qo (α:=Nat) a (fun j => a ≤ j ∧ j ≤ b) (fun j => M ++ [.row true 1 0 (Zg l.length g k x j),.row true 2 0 [.agg [.I a,.I b]]]) (fun j => [(3,.os M.length 0 0 l.length),(5,.op (M.length + 1) 0 0 0),(6,.I j),(12,.fs (g.map Qa)),(13,.I g.length),(14,.I k)]) (fun j => b - j) ⟨Nat.le_refl _,by omega⟩ (by rw [Qje ha]) rfl ?_
  rintro j ⟨hj1,hj2⟩
  by_cases hj:j < b
  ·have hget:=QaV (n:=l.length) (g:=g) (k:=k) (x:=x) (j:=j) (i:=j) (by omega)
   have hset:=QmU (n:=l.length) (g:=g) (k:=k) (x:=x) (j:=j) (by omega) (by omega)
   have hjl:j < l.length:=by omega
   have hlen:=YD l.length g k x j
   simp -implicitDefEqProofs (disch:=first|omega|(simp only [go_sem,seval,hj,hget,hset,hjl,hlen];first|done|omega)) only [go_sem,seval,hj,hget,hset,hjl,hlen]
   exact again' (j + 1) ⟨by omega,by omega⟩ (by omega) rfl rfl
  ·simp -implicitDefEqProofs (disch:=first|omega|(simp only [go_sem,seval,hj];first|done|omega)) only [go_sem,seval,hj]
   have hjb:j = b:=by omega
   have hend:=QoL h1 (n:=l.length) hb
   subst hjb
   rw [hend]
   refine Qy hM rfl 1 (by simp) (by first|done|(simp only [go_sem,seval,Vy,Qg] <;> first|done|(refine ⟨?_,?_⟩ <;> omega)|omega)) (QA (by first|done|(simp only [go_sem,seval,Vy,Qg] <;> first|done|(refine ⟨?_,?_⟩ <;> omega)|omega))) ?_
   simp -implicitDefEqProofs (disch:=first|omega|(simp only [go_sem,seval];first|done|omega)) only [go_sem,seval]
   exact again' (k + 1) (by omega) (by omega) rfl rfl
 ·have hk:k = g.length:=by omega
  subst hk
  have hlen:=Jk l.length g g.length
  simp -implicitDefEqProofs (disch:=first|omega|(simp only [go_sem,seval,hlen];first|done|omega)) only [go_sem,seval,hlen]
  (first|refine pfN hM ?_ ?_|refine pf0 hM ?_ ?_)
  ·simp -implicitDefEqProofs (disch:=first|omega|(simp only [go_sem,seval,hlen];first|done|omega)) only [go_sem,seval,hlen]
  ·(simp only [go_sem,seval,Vy]<;>omega)
theorem Vg (s:Ser) (hl:s.samples.length ≤ 1048576) (hgl:s.gaps.length ≤ 1048576):Q X 37 [Qj s] (.I (Qk s)):=by
 intro M
 have hS:=QaL s
 have hmiss:=Jv (X:=X) s
 obtain ⟨nm,st,l,g⟩:=s
 simp only at hl hgl hmiss ⊢
 (refine Qe (cf:=L6.c37) rfl rfl fun hM hA => ?_;simp only [L6.c37,zO,zF,zT,zM,CX.i];rw [mk1 _ (by decide)];simp -implicitDefEqProofs (disch:=first|omega|(simp only [go_sem,seval,Qf];first|done|omega)) only [go_sem,seval,Qf])
 refine Qb (ZB nm _) ?_
 simp -implicitDefEqProofs (disch:=first|omega|(simp only [go_sem,seval,Qf];first|done|omega)) only [go_sem,seval,Qf]
 refine Qb (Vr _ _ _ _) ?_
 simp -implicitDefEqProofs (disch:=first|omega|(simp only [go_sem,seval,Qf];first|done|omega)) only [go_sem,seval,Qf]
 refine Qb (Qu _ _ _) ?_
 simp -implicitDefEqProofs (disch:=first|omega|(simp only [go_sem,seval,Qf];first|done|omega)) only [go_sem,seval,Qf]
 refine Qb (QW [_,_,_] (by simp) _) ?_
 simp -implicitDefEqProofs (disch:=first|omega|(simp only [go_sem,seval];first|done|omega)) only [go_sem,seval]
 have hA:fst0 [if Qn nm = false then 8 else 0,rng st 0 999999999,if (40000:Int) < (l.length:Int) then 5 else 0] = serA ⟨nm,st,l,g⟩:=by
  unfold serA
  have e:((40000:Int) < (l.length:Int)) = (40000 < l.length):=propext (by omega)
  simp only [e]
 simp only [hA]
 generalize hEA:serA ⟨nm,st,l,g⟩ = eA at hS
 refine QF ?_ ?_ <;> intro hc <;> (try simp only [decide_eq_true_eq,decide_eq_false_iff_not,Classical.not_not,Bool.not_eq_true,Bool.not_eq_true',Bool.not_eq_false',Bool.false_or,Bool.or_false,Bool.true_or,Bool.or_true,Bool.false_and,Bool.and_false,Bool.true_and,Bool.and_true] at hc) <;> simp -implicitDefEqProofs (disch:=first|omega|(simp only [go_sem,seval,hc];first|done|omega)) only [go_sem,seval,hc]
 ·(first|refine pfN hM ?_ ?_|refine pf0 hM ?_ ?_)
  ·simp -implicitDefEqProofs (disch:=first|omega|(simp only [go_sem,seval];first|done|omega)) only [go_sem,seval]
   rw [hS,if_neg hc]
  ·(simp only [go_sem,seval]<;>omega)
 have hc0:eA = 0:=by simpa using hc
 rw [if_pos hc0] at hS
 rw [hc0] at hEA
 obtain ⟨hn1,hn2,hn3⟩:=QdC hEA
 simp only at hn1 hn2 hn3
 clear hA hEA hn1 hn2
 refine Qo (α:=Nat) 0 (fun k => k ≤ l.length ∧ fst0 (l.map smpE) = fst0 ((l.map smpE).drop k)) (fun k => M) (fun k => [(1,.fp [.s (.string nm),.I st,.fs (l.map encF),.fs (g.map Qa)]),(28,.fs (l.map encF)),(29,.I l.length),(30,.I k)]) (fun k => l.length - k) ⟨Nat.zero_le _,rfl⟩ rfl rfl ?_
 rintro k ⟨hk,hs⟩
 by_cases hlt:k < l.length
 ·obtain ⟨x,h1⟩:∃ x,l[k]? = some x:=⟨_,List.getElem?_eq_getElem hlt⟩
  have h2:=ZC (l.map smpE) k (smpE x) (by rw [List.getElem?_map,h1];rfl)
  simp -implicitDefEqProofs (disch:=first|omega|(simp only [go_sem,seval,hlt,h1];first|done|omega)) only [go_sem,seval,hlt,h1]
  refine Qb (Yp x _) ?_
  simp -implicitDefEqProofs (disch:=first|omega|(simp only [go_sem,seval];first|done|omega)) only [go_sem,seval]
  refine QF ?_ ?_ <;> intro hc <;> (try simp only [decide_eq_true_eq,decide_eq_false_iff_not,Classical.not_not,Bool.not_eq_true,Bool.not_eq_true',Bool.not_eq_false',Bool.false_or,Bool.or_false,Bool.true_or,Bool.or_true,Bool.false_and,Bool.and_false,Bool.true_and,Bool.and_true] at hc) <;> simp -implicitDefEqProofs (disch:=first|omega|(simp only [go_sem,seval,hc];first|done|omega)) only [go_sem,seval,hc]
  ·(first|refine pfN hM ?_ ?_|refine pf0 hM ?_ ?_)
   ·simp -implicitDefEqProofs (disch:=first|omega|(simp only [go_sem,seval];first|done|omega)) only [go_sem,seval]
    rw [hS]
    have:fst0 (l.map smpE) = smpE x:=by rw [hs,h2,if_neg hc]
    unfold serB
    simp only
    rw [if_pos (by rw [this];exact hc),this]
   ·(simp only [go_sem,seval]<;>omega)
  ·exact again' (k + 1) ⟨by omega,by rw [hs,h2,if_pos (by simpa using hc)]⟩ (by omega) rfl rfl
 have hF:fst0 (l.map smpE) = 0:=by rw [hs,List.drop_eq_nil_of_le (by simp;omega)];rfl
 have hB:Qk ⟨nm,st,l,g⟩ = if ¬ Qm g = 0 then Qm g else if ¬ QU l g = 0 then 14 else Ve l g:=by
  rw [hS];unfold serB;simp only;rw [if_neg (by rw [hF];simp)]
 clear hs hS hF
 simp -implicitDefEqProofs (disch:=first|omega|(simp only [go_sem,seval,hlt,Qf];first|done|omega)) only [go_sem,seval,hlt,Qf]
 refine Qb (Zt g hgl _) ?_
 simp -implicitDefEqProofs (disch:=first|omega|(simp only [go_sem,seval];first|done|omega)) only [go_sem,seval]
 refine QF ?_ ?_ <;> intro hc <;> (try simp only [decide_eq_true_eq,decide_eq_false_iff_not,Classical.not_not,Bool.not_eq_true,Bool.not_eq_true',Bool.not_eq_false',Bool.false_or,Bool.or_false,Bool.true_or,Bool.or_true,Bool.false_and,Bool.and_false,Bool.true_and,Bool.and_true] at hc) <;> simp -implicitDefEqProofs (disch:=first|omega|(simp only [go_sem,seval,hc];first|done|omega)) only [go_sem,seval,hc]
 ·(first|refine pfN hM ?_ ?_|refine pf0 hM ?_ ?_)
  ·simp -implicitDefEqProofs (disch:=first|omega|(simp only [go_sem,seval];first|done|omega)) only [go_sem,seval]
   rw [hB,if_pos hc]
  ·(simp only [go_sem,seval]<;>omega)
 have hcs:Qm g = 0:=by simpa using hc
 rw [if_neg (by simpa using hcs)] at hB
 have tail:QU l g = 0 → (∀ x:Spn,x ∈ g → 0 ≤ x.fr ∧ x.fr < x.to_ ∧ x.to_ ≤ l.length):=QcX hcs
 by_cases hg0:g = []
 ·have hL:QU l g = 0:=by rw [hg0];exact Qbk
  have hB2:Qk ⟨nm,st,l,g⟩ = Ve l g:=by rw [hB,hL];simp
  have ht:=tail hL
  have Z:((0:Int) < (g.length:Int)) = False:=eq_false (by rw [hg0];simp)
  simp -implicitDefEqProofs (disch:=first|omega|(simp only [go_sem,seval,Z,Qf];first|done|omega)) only [go_sem,seval,Z,Qf]
  refine Qb (hmiss hn3 hgl ht _) ?_
  have hlen:=Jk l.length g g.length
  simp -implicitDefEqProofs (disch:=first|omega|(simp only [go_sem,seval,hlen];first|done|omega)) only [go_sem,seval,hlen]
  refine Qo (α:=Nat) 0 (fun k => k ≤ l.length ∧ ZD l g k) (fun k => M) (fun k => [(1,.fp [.s (.string nm),.I st,.fs (l.map encF),.fs (g.map Qa)]),(65,.fs (QP l.length g g.length)),(66,.I l.length),(67,.I k)]) (fun k => l.length - k) ⟨Nat.zero_le _,ZW l g⟩ rfl rfl ?_
  rintro k ⟨hk,hs⟩
  by_cases hlt:k < l.length
  ·obtain ⟨x,h1⟩:∃ x,l[k]? = some x:=⟨_,List.getElem?_eq_getElem hlt⟩
   have hget:=QbC (n:=l.length) (g:=g) (k:=g.length) (i:=k) hlt
   rw [List.take_length] at hget
   have F:=s_nz (x:=x)
   by_cases hga:gapAt g k = true
   ·by_cases hnz:nz x = true
    ·simp -implicitDefEqProofs (disch:=first|omega|(simp only [go_sem,seval,hlt,hget,h1,hga,F,hnz];first|done|omega)) only [go_sem,seval,hlt,hget,h1,hga,F,hnz]
     (first|refine pfN hM ?_ ?_|refine pf0 hM ?_ ?_)
     ·simp -implicitDefEqProofs (disch:=first|omega|(simp only [go_sem,seval];first|done|omega)) only [go_sem,seval]
      rw [hB2,ZM h1 hnz hga]
     ·(simp only [go_sem,seval]<;>omega)
    ·have hnz:nz x = false:=by simpa using hnz
     simp -implicitDefEqProofs (disch:=first|omega|(simp only [go_sem,seval,hlt,hget,h1,hga,F,hnz];first|done|omega)) only [go_sem,seval,hlt,hget,h1,hga,F,hnz]
     exact again' (k + 1) ⟨by omega,Vh hs h1 (by rw [hnz];rfl)⟩ (by omega) rfl rfl
   ·have hga:gapAt g k = false:=by simpa using hga
    simp -implicitDefEqProofs (disch:=first|omega|(simp only [go_sem,seval,hlt,hget,h1,hga];first|done|omega)) only [go_sem,seval,hlt,hget,h1,hga]
    exact again' (k + 1) ⟨by omega,Vh hs h1 (by rw [hga,Bool.and_false])⟩ (by omega) rfl rfl
  ·simp -implicitDefEqProofs (disch:=first|omega|(simp only [go_sem,seval,hlt];first|done|omega)) only [go_sem,seval,hlt]
   (first|refine pfN hM ?_ ?_|refine pf0 hM ?_ ?_)
   ·simp -implicitDefEqProofs (disch:=first|omega|(simp only [go_sem,seval];first|done|omega)) only [go_sem,seval]
    rw [hB2,Yd hs (by omega)]
   ·(simp only [go_sem,seval]<;>omega)
 ·have hglen:0 < g.length:=List.length_pos_iff.2 hg0
  obtain ⟨z,hz⟩:∃ z,g[g.length - 1]? = some z:=⟨_,List.getElem?_eq_getElem (by omega)⟩
  have Z:((0:Int) < (g.length:Int)) = True:=eq_true (by omega)
  have e1:(g.length:Int) - 1 = ((g.length - 1:Nat):Int):=by omega
  have hL:=Qar (l:=l) hz
  by_cases hzl:(l.length:Int) < z.to_
  ·have G:=eq_true hzl
   simp -implicitDefEqProofs (disch:=first|omega|(simp only [go_sem,seval,Z,e1,hz,Qd,G];first|done|omega)) only [go_sem,seval,Z,e1,hz,Qd,G]
   (first|refine pfN hM ?_ ?_|refine pf0 hM ?_ ?_)
   ·simp -implicitDefEqProofs (disch:=first|omega|(simp only [go_sem,seval];first|done|omega)) only [go_sem,seval]
    rw [hB,hL,if_pos hzl];simp
   ·(simp only [go_sem,seval]<;>omega)
  ·have G:=eq_false hzl
   rw [if_neg hzl] at hL
   have hB2:Qk ⟨nm,st,l,g⟩ = Ve l g:=by rw [hB,hL];simp
   have ht:=tail hL
   simp -implicitDefEqProofs (disch:=first|omega|(simp only [go_sem,seval,Z,e1,hz,Qd,G,Qf];first|done|omega)) only [go_sem,seval,Z,e1,hz,Qd,G,Qf]
   refine Qb (hmiss hn3 hgl ht _) ?_
   have hlen:=Jk l.length g g.length
   simp -implicitDefEqProofs (disch:=first|omega|(simp only [go_sem,seval,hlen];first|done|omega)) only [go_sem,seval,hlen]
   refine Qo (α:=Nat) 0 (fun k => k ≤ l.length ∧ ZD l g k) (fun k => M) (fun k => [(1,.fp [.s (.string nm),.I st,.fs (l.map encF),.fs (g.map Qa)]),(65,.fs (QP l.length g g.length)),(66,.I l.length),(67,.I k)]) (fun k => l.length - k) ⟨Nat.zero_le _,ZW l g⟩ rfl rfl ?_
   rintro k ⟨hk,hs⟩
   by_cases hlt:k < l.length
   ·obtain ⟨x,h1⟩:∃ x,l[k]? = some x:=⟨_,List.getElem?_eq_getElem hlt⟩
    have hget:=QbC (n:=l.length) (g:=g) (k:=g.length) (i:=k) hlt
    rw [List.take_length] at hget
    have F:=s_nz (x:=x)
    by_cases hga:gapAt g k = true
    ·by_cases hnz:nz x = true
     ·simp -implicitDefEqProofs (disch:=first|omega|(simp only [go_sem,seval,hlt,hget,h1,hga,F,hnz];first|done|omega)) only [go_sem,seval,hlt,hget,h1,hga,F,hnz]
      (first|refine pfN hM ?_ ?_|refine pf0 hM ?_ ?_)
      ·simp -implicitDefEqProofs (disch:=first|omega|(simp only [go_sem,seval];first|done|omega)) only [go_sem,seval]
       rw [hB2,ZM h1 hnz hga]
      ·(simp only [go_sem,seval]<;>omega)
     ·have hnz:nz x = false:=by simpa using hnz
      simp -implicitDefEqProofs (disch:=first|omega|(simp only [go_sem,seval,hlt,hget,h1,hga,F,hnz];first|done|omega)) only [go_sem,seval,hlt,hget,h1,hga,F,hnz]
      exact again' (k + 1) ⟨by omega,Vh hs h1 (by rw [hnz];rfl)⟩ (by omega) rfl rfl
    ·have hga:gapAt g k = false:=by simpa using hga
     simp -implicitDefEqProofs (disch:=first|omega|(simp only [go_sem,seval,hlt,hget,h1,hga];first|done|omega)) only [go_sem,seval,hlt,hget,h1,hga]
     exact again' (k + 1) ⟨by omega,Vh hs h1 (by rw [hga,Bool.and_false])⟩ (by omega) rfl rfl
   ·simp -implicitDefEqProofs (disch:=first|omega|(simp only [go_sem,seval,hlt];first|done|omega)) only [go_sem,seval,hlt]
    (first|refine pfN hM ?_ ?_|refine pf0 hM ?_ ?_)
    ·simp -implicitDefEqProofs (disch:=first|omega|(simp only [go_sem,seval];first|done|omega)) only [go_sem,seval]
     rw [hB2,Yd hs (by omega)]
    ·(simp only [go_sem,seval]<;>omega)
theorem Qav (xs:List PV) (n:Int):Q X 31 [.fs xs,.I n] (.B (decide ((xs.length:Int) ≤ n) || decide (xs.length = 1025))):=by
 intro M
 by_cases h1:(xs.length:Int) ≤ n
 ·have A:=eq_true h1
  (refine Qe (cf:=L6.c31) rfl rfl fun hM hA => ?_;simp only [L6.c31,zO,zF,zT,zM,CX.i];rw [mk2 _ (by decide)];simp -implicitDefEqProofs (disch:=first|omega|(simp only [go_sem,seval,A];first|done|omega)) only [go_sem,seval,A])
  (first|refine pfN hM ?_ ?_|refine pf0 hM ?_ ?_)
  ·simp -implicitDefEqProofs (disch:=first|omega|(simp only [go_sem,seval];first|done|omega)) only [go_sem,seval]
  ·(simp only [go_sem,seval]<;>omega)
 ·have A:=eq_false h1
  (refine Qe (cf:=L6.c31) rfl rfl fun hM hA => ?_;simp only [L6.c31,zO,zF,zT,zM,CX.i];rw [mk2 _ (by decide)];simp -implicitDefEqProofs (disch:=first|omega|(simp only [go_sem,seval,A];first|done|omega)) only [go_sem,seval,A])
  (first|refine pfN hM ?_ ?_|refine pf0 hM ?_ ?_)
  ·simp -implicitDefEqProofs (disch:=first|omega|(simp only [go_sem,seval];first|done|omega)) only [go_sem,seval]
   exact congrArg PV.B (decide_eq_decide.2 (by omega))
  ·(simp only [go_sem,seval]<;>omega)
def JA (s:Ser):Bool:=decide (s.name.size ≤ 60) && (decide (s.samples.length ≤ 96) || decide (s.samples.length = 40001)) && (decide (s.gaps.length ≤ 8) || decide (s.gaps.length = 1025))
theorem Qd1 (s:Ser):Q X 5 [Qj s] (.B (JA s)):=by
 intro M
 obtain ⟨nm,st,l,g⟩:=s
 unfold JA
 simp only
 have hS:=Qav (X:=X) (g.map Qa) 8
 by_cases h1:nm.size ≤ 60
 ·have A:((nm.size:Int) ≤ 60) = True:=eq_true (by omega)
  by_cases h2:l.length ≤ 96
  ·have B:((l.length:Int) ≤ 96) = True:=eq_true (by omega)
   (refine Qe (cf:=L6.c5) rfl rfl fun hM hA => ?_;simp only [L6.c5,zO,zF,zT,zM,CX.i];rw [mk1 _ (by decide)];simp -implicitDefEqProofs (disch:=first|omega|(simp only [go_sem,seval,Qf,A,B];first|done|omega)) only [go_sem,seval,Qf,A,B])
   refine Qb (hS _) ?_
   simp -implicitDefEqProofs (disch:=first|omega|(simp only [go_sem,seval];first|done|omega)) only [go_sem,seval]
   (first|refine pfN hM ?_ ?_|refine pf0 hM ?_ ?_)
   ·simp -implicitDefEqProofs (disch:=first|omega|(simp only [go_sem,seval];first|done|omega)) only [go_sem,seval]
    simp [h1,h2]
    congr 1
    ·exact decide_eq_decide.2 (by omega)
   ·(simp only [go_sem,seval]<;>omega)
  ·have B:((l.length:Int) ≤ 96) = False:=eq_false (by omega)
   by_cases h3:l.length = 40001
   ·have C:((l.length:Int) = 40001) = True:=eq_true (by omega)
    (refine Qe (cf:=L6.c5) rfl rfl fun hM hA => ?_;simp only [L6.c5,zO,zF,zT,zM,CX.i];rw [mk1 _ (by decide)];simp -implicitDefEqProofs (disch:=first|omega|(simp only [go_sem,seval,Qf,A,B,C];first|done|omega)) only [go_sem,seval,Qf,A,B,C])
    refine Qb (hS _) ?_
    simp -implicitDefEqProofs (disch:=first|omega|(simp only [go_sem,seval];first|done|omega)) only [go_sem,seval]
    (first|refine pfN hM ?_ ?_|refine pf0 hM ?_ ?_)
    ·simp -implicitDefEqProofs (disch:=first|omega|(simp only [go_sem,seval];first|done|omega)) only [go_sem,seval]
     simp [h1,h2,h3]
     congr 1
     ·exact decide_eq_decide.2 (by omega)
    ·(simp only [go_sem,seval]<;>omega)
   ·have C:((l.length:Int) = 40001) = False:=eq_false (by omega)
    (refine Qe (cf:=L6.c5) rfl rfl fun hM hA => ?_;simp only [L6.c5,zO,zF,zT,zM,CX.i];rw [mk1 _ (by decide)];simp -implicitDefEqProofs (disch:=first|omega|(simp only [go_sem,seval,Qf,A,B,C];first|done|omega)) only [go_sem,seval,Qf,A,B,C])
    (first|refine pfN hM ?_ ?_|refine pf0 hM ?_ ?_)
    ·simp -implicitDefEqProofs (disch:=first|omega|(simp only [go_sem,seval];first|done|omega)) only [go_sem,seval]
     simp [h1,h2,h3]
    ·(simp only [go_sem,seval]<;>omega)
 ·have A:((nm.size:Int) ≤ 60) = False:=eq_false (by omega)
  (refine Qe (cf:=L6.c5) rfl rfl fun hM hA => ?_;simp only [L6.c5,zO,zF,zT,zM,CX.i];rw [mk1 _ (by decide)];simp -implicitDefEqProofs (disch:=first|omega|(simp only [go_sem,seval,Qf,A];first|done|omega)) only [go_sem,seval,Qf,A])
  (first|refine pfN hM ?_ ?_|refine pf0 hM ?_ ?_)
  ·simp -implicitDefEqProofs (disch:=first|omega|(simp only [go_sem,seval];first|done|omega)) only [go_sem,seval]
   simp [h1]
  ·(simp only [go_sem,seval]<;>omega)
theorem Qag (hX:FloorX X) (s:Ser) (hl:s.samples.length ≤ 1048576) (hgl:s.gaps.length ≤ 1048576):Q X 6 [Qj s] (.I (Qk s)):=by
 intro M
 have hS:Qk s = if Qn s.name = false then 8 else if ¬ rng s.start 0 999999999 = 0 then 3 else if 40000 < s.samples.length then 5 else serB s:=rfl
 obtain ⟨nm,st,l,g⟩:=s
 simp only at hl hgl hS ⊢
 (refine Qe (cf:=L6.c6) rfl rfl fun hM hA => ?_;simp only [L6.c6,zO,zF,zT,zM,CX.i];rw [mk1 _ (by decide)];simp -implicitDefEqProofs (disch:=first|omega|(simp only [go_sem,seval,Qf];first|done|omega)) only [go_sem,seval,Qf])
 refine Qb (QcY nm _) ?_
 by_cases hn:Qn nm = true
 ·simp -implicitDefEqProofs (disch:=first|omega|(simp only [go_sem,seval,hn,Qf];first|done|omega)) only [go_sem,seval,hn,Qf]
  refine Qb (QaK _ _ _ _) ?_
  by_cases hr:rng st 0 999999999 = 0
  ·have G:=eq_true hr
   simp -implicitDefEqProofs (disch:=first|omega|(simp only [go_sem,seval,G,Qf];first|done|omega)) only [go_sem,seval,G,Qf]
   refine QF ?_ ?_ <;> intro hc <;> (try simp only [decide_eq_true_eq,decide_eq_false_iff_not,Classical.not_not,Bool.not_eq_true,Bool.not_eq_true',Bool.not_eq_false',Bool.false_or,Bool.or_false,Bool.true_or,Bool.or_true,Bool.false_and,Bool.and_false,Bool.true_and,Bool.and_true] at hc) <;> simp -implicitDefEqProofs (disch:=first|omega|(simp only [go_sem,seval,hc];first|done|omega)) only [go_sem,seval,hc]
   ·(first|refine pfN hM ?_ ?_|refine pf0 hM ?_ ?_)
    ·simp -implicitDefEqProofs (disch:=first|omega|(simp only [go_sem,seval];first|done|omega)) only [go_sem,seval]
     rw [hS,if_neg (by simp [hn]),if_neg (by simp [hr]),if_pos (by omega)]
    ·(simp only [go_sem,seval]<;>omega)
   have hS2:Qk ⟨nm,st,l,g⟩ = serB ⟨nm,st,l,g⟩:=by rw [hS,if_neg (by simp [hn]),if_neg (by simp [hr]),if_neg (by omega)]
   have hn3:l.length ≤ 40000:=by omega
   clear hS
   refine Qb (J1 hX l (by omega) _) ?_
   simp -implicitDefEqProofs (disch:=first|omega|(simp only [go_sem,seval,Qf];first|done|omega)) only [go_sem,seval,Qf]
   refine Qb (Zf g (by omega) _) ?_
   simp -implicitDefEqProofs (disch:=first|omega|(simp only [go_sem,seval];first|done|omega)) only [go_sem,seval]
   refine Qb (Qd3 [_,_] (by simp) _) ?_
   simp -implicitDefEqProofs (disch:=first|omega|(simp only [go_sem,seval];first|done|omega)) only [go_sem,seval]
   have hB:serB ⟨nm,st,l,g⟩ = if fst0 [fst0 (l.map smpE),Qm g] = 0 then (if ¬ QU l g = 0 then 14 else Ve l g) else fst0 [fst0 (l.map smpE),Qm g]:=by
    unfold serB
    simp only [fst0]
    by_cases h1:fst0 (l.map smpE) = 0 <;> by_cases h2:Qm g = 0 <;> simp [h1,h2]
   rw [hB] at hS2
   have hcs:fst0 [fst0 (l.map smpE),Qm g] = 0 → Qm g = 0:=by
    simp only [fst0]
    by_cases h1:fst0 (l.map smpE) = 0 <;> by_cases h2:Qm g = 0 <;> simp [h1,h2]
   clear hB
   generalize fst0 [fst0 (l.map smpE),Qm g] = eB at hS2 hcs ⊢
   refine QF ?_ ?_ <;> intro hc <;> (try simp only [decide_eq_true_eq,decide_eq_false_iff_not,Classical.not_not,Bool.not_eq_true,Bool.not_eq_true',Bool.not_eq_false',Bool.false_or,Bool.or_false,Bool.true_or,Bool.or_true,Bool.false_and,Bool.and_false,Bool.true_and,Bool.and_true] at hc) <;> simp -implicitDefEqProofs (disch:=first|omega|(simp only [go_sem,seval,hc];first|done|omega)) only [go_sem,seval,hc]
   ·(first|refine pfN hM ?_ ?_|refine pf0 hM ?_ ?_)
    ·simp -implicitDefEqProofs (disch:=first|omega|(simp only [go_sem,seval];first|done|omega)) only [go_sem,seval]
     rw [hS2,if_neg hc]
    ·(simp only [go_sem,seval]<;>omega)
   have hc0:eB = 0:=by simpa using hc
   rw [if_pos hc0] at hS2
   clear hcs hc
   by_cases hg0:g = []
   ·have hL:QU l g = 0:=by rw [hg0];exact Qbk
    have hB2:Qk ⟨nm,st,l,g⟩ = Ve l g:=by rw [hS2,hL];simp
    have Z:((0:Int) < (g.length:Int)) = False:=eq_false (by rw [hg0];simp)
    simp -implicitDefEqProofs (disch:=first|omega|(simp only [go_sem,seval,Z,Qf];first|done|omega)) only [go_sem,seval,Z,Qf]
    refine Qo (α:=Nat) 0 (fun k => k ≤ l.length ∧ ZD l g k) (fun k => M) (fun k => [(1,.fp [.s (.string nm),.I st,.fs (l.map encF),.fs (g.map Qa)]),(4,.I k)]) (fun k => l.length - k) ⟨Nat.zero_le _,ZW l g⟩ rfl rfl ?_
    rintro k ⟨hk,hs⟩
    by_cases hlt:k < l.length
    ·obtain ⟨x,h1⟩:∃ x,l[k]? = some x:=⟨_,List.getElem?_eq_getElem hlt⟩
     have F:=s_nz (x:=x)
     by_cases hnz:nz x = true
     ·simp -implicitDefEqProofs (disch:=first|omega|(simp only [go_sem,seval,hlt,h1,F,hnz];first|done|omega)) only [go_sem,seval,hlt,h1,F,hnz]
      refine Qb (Qbt g k hgl _) ?_
      by_cases hga:gapAt g k = true
      ·simp -implicitDefEqProofs (disch:=first|omega|(simp only [go_sem,seval,hga];first|done|omega)) only [go_sem,seval,hga]
       (first|refine pfN hM ?_ ?_|refine pf0 hM ?_ ?_)
       ·simp -implicitDefEqProofs (disch:=first|omega|(simp only [go_sem,seval];first|done|omega)) only [go_sem,seval]
        rw [hB2,ZM h1 hnz hga]
       ·(simp only [go_sem,seval]<;>omega)
      ·have hga:gapAt g k = false:=by simpa using hga
       simp -implicitDefEqProofs (disch:=first|omega|(simp only [go_sem,seval,hga];first|done|omega)) only [go_sem,seval,hga]
       exact again' (k + 1) ⟨by omega,Vh hs h1 (by rw [hga,Bool.and_false])⟩ (by omega) rfl rfl
     ·have hnz:nz x = false:=by simpa using hnz
      simp -implicitDefEqProofs (disch:=first|omega|(simp only [go_sem,seval,hlt,h1,F,hnz];first|done|omega)) only [go_sem,seval,hlt,h1,F,hnz]
      exact again' (k + 1) ⟨by omega,Vh hs h1 (by rw [hnz];rfl)⟩ (by omega) rfl rfl
    ·simp -implicitDefEqProofs (disch:=first|omega|(simp only [go_sem,seval,hlt];first|done|omega)) only [go_sem,seval,hlt]
     (first|refine pfN hM ?_ ?_|refine pf0 hM ?_ ?_)
     ·simp -implicitDefEqProofs (disch:=first|omega|(simp only [go_sem,seval];first|done|omega)) only [go_sem,seval]
      rw [hB2,Yd hs (by omega)]
     ·(simp only [go_sem,seval]<;>omega)
   ·have hglen:0 < g.length:=List.length_pos_iff.2 hg0
    obtain ⟨z,hz⟩:∃ z,g[g.length - 1]? = some z:=⟨_,List.getElem?_eq_getElem (by omega)⟩
    have Z:((0:Int) < (g.length:Int)) = True:=eq_true (by omega)
    have e1:(g.length:Int) - 1 = ((g.length - 1:Nat):Int):=by omega
    have hL:=Qar (l:=l) hz
    by_cases hzl:(l.length:Int) < z.to_
    ·have G2:=eq_true hzl
     simp -implicitDefEqProofs (disch:=first|omega|(simp only [go_sem,seval,Z,e1,hz,Qd,G2];first|done|omega)) only [go_sem,seval,Z,e1,hz,Qd,G2]
     (first|refine pfN hM ?_ ?_|refine pf0 hM ?_ ?_)
     ·simp -implicitDefEqProofs (disch:=first|omega|(simp only [go_sem,seval];first|done|omega)) only [go_sem,seval]
      rw [hS2,hL,if_pos hzl];simp
     ·(simp only [go_sem,seval]<;>omega)
    ·have G2:=eq_false hzl
     rw [if_neg hzl] at hL
     have hB2:Qk ⟨nm,st,l,g⟩ = Ve l g:=by rw [hS2,hL];simp
     simp -implicitDefEqProofs (disch:=first|omega|(simp only [go_sem,seval,Z,e1,hz,Qd,G2,Qf];first|done|omega)) only [go_sem,seval,Z,e1,hz,Qd,G2,Qf]
     refine Qo (α:=Nat) 0 (fun k => k ≤ l.length ∧ ZD l g k) (fun k => M) (fun k => [(1,.fp [.s (.string nm),.I st,.fs (l.map encF),.fs (g.map Qa)]),(4,.I k)]) (fun k => l.length - k) ⟨Nat.zero_le _,ZW l g⟩ rfl rfl ?_
     rintro k ⟨hk,hs⟩
     by_cases hlt:k < l.length
     ·obtain ⟨x,h1⟩:∃ x,l[k]? = some x:=⟨_,List.getElem?_eq_getElem hlt⟩
      have F:=s_nz (x:=x)
      by_cases hnz:nz x = true
      ·simp -implicitDefEqProofs (disch:=first|omega|(simp only [go_sem,seval,hlt,h1,F,hnz];first|done|omega)) only [go_sem,seval,hlt,h1,F,hnz]
       refine Qb (Qbt g k hgl _) ?_
       by_cases hga:gapAt g k = true
       ·simp -implicitDefEqProofs (disch:=first|omega|(simp only [go_sem,seval,hga];first|done|omega)) only [go_sem,seval,hga]
        (first|refine pfN hM ?_ ?_|refine pf0 hM ?_ ?_)
        ·simp -implicitDefEqProofs (disch:=first|omega|(simp only [go_sem,seval];first|done|omega)) only [go_sem,seval]
         rw [hB2,ZM h1 hnz hga]
        ·(simp only [go_sem,seval]<;>omega)
       ·have hga:gapAt g k = false:=by simpa using hga
        simp -implicitDefEqProofs (disch:=first|omega|(simp only [go_sem,seval,hga];first|done|omega)) only [go_sem,seval,hga]
        exact again' (k + 1) ⟨by omega,Vh hs h1 (by rw [hga,Bool.and_false])⟩ (by omega) rfl rfl
      ·have hnz:nz x = false:=by simpa using hnz
       simp -implicitDefEqProofs (disch:=first|omega|(simp only [go_sem,seval,hlt,h1,F,hnz];first|done|omega)) only [go_sem,seval,hlt,h1,F,hnz]
       exact again' (k + 1) ⟨by omega,Vh hs h1 (by rw [hnz];rfl)⟩ (by omega) rfl rfl
     ·simp -implicitDefEqProofs (disch:=first|omega|(simp only [go_sem,seval,hlt];first|done|omega)) only [go_sem,seval,hlt]
      (first|refine pfN hM ?_ ?_|refine pf0 hM ?_ ?_)
      ·simp -implicitDefEqProofs (disch:=first|omega|(simp only [go_sem,seval];first|done|omega)) only [go_sem,seval]
       rw [hB2,Yd hs (by omega)]
      ·(simp only [go_sem,seval]<;>omega)
  ·have G:=eq_false hr
   simp -implicitDefEqProofs (disch:=first|omega|(simp only [go_sem,seval,G];first|done|omega)) only [go_sem,seval,G]
   (first|refine pfN hM ?_ ?_|refine pf0 hM ?_ ?_)
   ·simp -implicitDefEqProofs (disch:=first|omega|(simp only [go_sem,seval];first|done|omega)) only [go_sem,seval]
    rw [hS,if_neg (by simp [hn]),if_pos hr]
   ·(simp only [go_sem,seval]<;>omega)
 ·have hn:Qn nm = false:=by simpa using hn
  simp -implicitDefEqProofs (disch:=first|omega|(simp only [go_sem,seval,hn];first|done|omega)) only [go_sem,seval,hn]
  (first|refine pfN hM ?_ ?_|refine pf0 hM ?_ ?_)
  ·simp -implicitDefEqProofs (disch:=first|omega|(simp only [go_sem,seval];first|done|omega)) only [go_sem,seval]
   rw [hS,if_pos hn]
  ·(simp only [go_sem,seval]<;>omega)
end
end Go.Nac.L6
