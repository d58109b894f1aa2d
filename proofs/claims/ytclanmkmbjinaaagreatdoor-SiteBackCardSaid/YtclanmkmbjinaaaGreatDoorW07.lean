/- The equations by which plain code runs, as one set. -/
import Derived.Test.YtclanmkmbjinaaaGreatDoorW06
namespace Go.Nac
attribute [go_sem] QrL Ql0 Qng Qqe QqK Qso QqE Qrd Qo6 QoN Qmx QhF Qkt Qlb Qkc QfL QhM Qj3 Qig QfH
attribute [go_sem] QhQ QjO r_mov Qsr Qqo Qs8 r_bin Qse r_eqs r_un Qsb r_len QsB r_max r_min r_ext Qqt Qsd QrS Qqj Qs7 Qsx Qsn Qp0 Qry Qrc QnL
attribute [go_sem] QsR QsJ Qrs Qrf r_box r_bsl Qq2 QsS QnT QpL QqB QrZ QsC QpM QqW QqI QsF QnC ev_mk ev_k ev_f QpB QsW QqA QmY QdQ
attribute [go_sem] List.map_cons List.map_nil Option.map_some Option.map_none Qqw gK_tt gK_ff gK_tf gK_ft Qrg Qta cK_t cK_f Qkl Qnv Qo3 Qld Qqr QpP Qp5 Qrp
attribute [go_sem] QpJ Qpy Qqd Qqi Qp1 QrH QpF Qq6 Qoy QoZ Qs5 Qr3 Qo2 Qri QpW QoS Qlq QkV Qok Qmw QjB Qnx QoO
attribute [go_sem] QlR Qrh Qne QnX Qpc QoM Qoj QnE Qn6 QmP Qoz Qpe Qrn Qqy QrD Qq0 Qmo Qe9 QmQ QjL Qk3 Qli
attribute [go_sem] Qh8 Qm7 Qpn Qhe QpQ Qj4 Qmr Qkh Qmg Ql9 Qll Qkz QkQ Qnm Qnf Qn5 QjS Qil Qqm Qpb
attribute [go_sem] Qeu QkU Qkg Qpg Qme Qoo QoC QpK QrE Qqg Qp4 Qqk Qpx QoQ Qnp Qn8 QlP Qjo Qlx Qlv Qnn Qji
attribute [go_sem] QnF Qjs Qmq QsU QsY Qsw QbU Qg9 Qf2 QoT Qhi Qk8 QmF Qop Qk5 Qo4 QoX QqR Qnw QrF
attribute [go_sem] QoF QkN Qo9 Qrk Qpd Qi4 QrB Qj7 QlI Qjp QjY QjU Qrv Qgh Qf9 QlF getM0 getMj setM0 setMj List.getElem?_cons_zero
attribute [go_sem] List.getElem?_cons_succ List.set_cons_zero List.set_cons_succ List.append_assoc List.cons_append List.nil_append List.length_append List.length_cons List.length_nil List.length_map List.getElem?_map
attribute [go_sem] List.all_cons List.all_nil Bool.and_true Bool.true_and Bool.and_self List.take_succ_cons List.take_zero List.drop_succ_cons List.drop_zero Option.getD_none Option.getD_some Option.bind_some
attribute [go_sem] Option.bind_none Option.map_map decide_eq_true_eq decide_true decide_false Bool.false_eq_true if_true if_false Int.natCast_nonneg Int.toNat_natCast Nat.zero_add Nat.add_zero eq_self beq_self_eq_true
attribute [go_sem] List.getElem?_nil Qap Q4 setRange ne_eq not_true not_false_eq_true and_true true_and and_self List.map_map Function.comp_def Qg2 Int.ofNat_lt Int.natCast_inj Qno QnA Qoa
attribute [go_sem] Nat.add_assoc List.flatMap_cons List.flatMap_nil List.append_nil decide_eq_false_iff_not Classical.not_not Bool.not_eq_true Bool.not_true Bool.not_false Bool.true_eq_false Option.some.injEq Int.sub_zero
attribute [go_sem] Int.add_zero Int.zero_sub Int.zero_add Bool.decide_eq_true Bool.not_not Bool.false_or Bool.or_false Bool.true_or Bool.or_true Bool.false_and Bool.and_false Bool.or_self Bool.or_eq_true
attribute [go_sem] Bool.or_eq_false_iff Bool.and_eq_true Bool.and_eq_false_iff QmD QhP Qc4 QcT QgN Jx Ql6 QnD QrO Qlr QpD Qnk Qs QeN
attribute [go_sem] Qo7 Qmi Qka Qlo Qnd Qn4 Qm9 Qpa Nat.le_refl Nat.zero_le Nat.sub_zero Nat.sub_self Nat.add_sub_cancel natZ natO min10 Nat.le_add_left List.take_nil
attribute [go_sem] QpX Qlk r_sop QsN Qs9 Qqc Qo0 Qkq Qj0 Va Qqf Qim Ql8 Qj8 Qm5 QjF Qod Qpq QiJ QlD Qkw QnR QkB QpS QpT Qsp Qkb
attribute [go_sem] List.drop_nil dK_eq d_op d_nil QpG Qib Qqu QqG Qq1 Qp3 Qrx Qrq Qr4 fpOp Qmv QhK Qh0 Nat.add_sub_add_left d_bsl Qn0 QsO
attribute [go_sem] QkT QdB List.length_reverse Qma QkD Qko QjG Qph QnZ Nat.zero_mul Nat.one_mul Int.cast_ofNat_Int Int.lt_irrefl List.length_replicate Nat.le_add_right
attribute [go_sem] List.length_take List.length_drop QlS Ql4 Qj5 Qlf Qnu Qpf low_s Qqx Qq8 Qsv QrJ Qr5 QsA QsL Qtd Qpr QnN QmG
attribute [go_sem] Nat.lt_add_right_iff_pos Nat.lt_succ_self Nat.lt_add_one Nat.add_lt_add_iff_left Nat.zero_lt_succ Nat.lt_irrefl QmZ implies_true QhS Qis Qht QiF QiI QrI
attribute [go_sem] ev_g QrX Qpl QjQ Qjr r_b2s QqU Qre QnM Qlh Qc0 QhH r_s2b QnY Qq7 QrK Qoh Qoq Qof Qsc Qrb QnK QrA QbQ Qmy Qh6 QkK Qom QoL QlN Qml Qov Qq4 QcM
end Go.Nac
set_option linter.unusedSimpArgs false
set_option linter.unusedVariables false
set_option linter.unnecessarySimpa false
set_option maxRecDepth 10000
namespace Go.Nac.L4
attribute [local congr] Zx VT ZC Vz VA Vt Zs ZD
section
variable {X:XRel}
abbrev Q (X:XRel) (f:FuncId) (args:List PV) (r:PV):Prop:=∀ M,ACall F X (.fn f) args M r M
theorem VM (n a b:Int):Q X 48 [.I n,.I a,.I b] (.I (rng n a b)):=by
 intro M
 (refine Qd (cf:=L4.c48) rfl rfl fun hM hA => ?_;simp only [L4.c48,zO,zF,zT,zM,CX.i];rw [mk3 _ (by decide)];simp -implicitDefEqProofs (disch:=first|omega|(simp only [go_sem,seval];first|done|omega)) only [go_sem,seval])
 repeat' (first|(refine QK ?_ ?_ <;> intro hc <;> (try simp only [decide_eq_true_eq,decide_eq_false_iff_not,Classical.not_not,Bool.not_eq_true,Bool.not_eq_true',Bool.not_eq_false',Bool.false_or,Bool.or_false,Bool.true_or,Bool.or_true,Bool.false_and,Bool.and_false,Bool.true_and,Bool.and_true] at hc) <;> (try simp -implicitDefEqProofs (disch:=first|omega|(simp only [go_sem,seval,hc];first|done|omega)) only [go_sem,seval,hc]))|(refine ZX ?_ ?_ <;> intro hc <;> (try simp only [decide_eq_true_eq,decide_eq_false_iff_not,Classical.not_not,Bool.not_eq_true,Bool.not_eq_true',Bool.not_eq_false',Bool.false_or,Bool.or_false,Bool.true_or,Bool.or_true,Bool.false_and,Bool.and_false,Bool.true_and,Bool.and_true] at hc) <;> (try simp -implicitDefEqProofs (disch:=first|omega|(simp only [go_sem,seval,hc];first|done|omega)) only [go_sem,seval,hc])))
 (all_goals (first|refine pfN hM ?_ ?_|refine pf0 hM ?_ ?_);all_goals first|(simp only [go_sem,seval]<;>omega)|skip;all_goals (try simp -implicitDefEqProofs (disch:=first|omega|(simp only [go_sem,seval];first|done|omega)) only [go_sem,seval]))
 all_goals simp [rng, *]
theorem Qba (l:List Int) (hl:l.length ≤ 1048576):Q X 110 [.fs (l.map .I)] (.I (fst0 l)):=by
 intro M
 (refine Qd (cf:=L4.c110) rfl rfl fun hM hA => ?_;simp only [L4.c110,zO,zF,zT,zM,CX.i];rw [mk1 _ (by decide)];simp -implicitDefEqProofs (disch:=first|omega|(simp only [go_sem,seval];first|done|omega)) only [go_sem,seval])
 refine Qm (α:=Nat) 0 (fun k => k ≤ l.length ∧ fst0 l = fst0 (l.drop k)) (fun k => M) (fun k => [(0,.fs (l.map .I)),(3,.I k)]) (fun k => l.length - k) ⟨Nat.zero_le _,rfl⟩ rfl rfl ?_
 rintro k ⟨hk,hs⟩
 by_cases hlt:k < l.length
 ·obtain ⟨x,h1⟩:∃ x,l[k]? = some x:=⟨_,List.getElem?_eq_getElem hlt⟩
  have h2:=V4 l k x h1
  simp -implicitDefEqProofs (disch:=first|omega|(simp only [go_sem,seval,hlt,h1];first|done|omega)) only [go_sem,seval,hlt,h1]
  refine QK ?_ ?_ <;> intro hc <;> (try simp only [decide_eq_true_eq,decide_eq_false_iff_not,Classical.not_not,Bool.not_eq_true,Bool.not_eq_true',Bool.not_eq_false',Bool.false_or,Bool.or_false,Bool.true_or,Bool.or_true,Bool.false_and,Bool.and_false,Bool.true_and,Bool.and_true] at hc) <;> simp -implicitDefEqProofs (disch:=first|omega|(simp only [go_sem,seval,h1,hc];first|done|omega)) only [go_sem,seval,h1,hc]
  ·(first|refine pfN hM ?_ ?_|refine pf0 hM ?_ ?_)
   ·simp -implicitDefEqProofs (disch:=first|omega|(simp only [go_sem,seval,hs,h2,hc];first|done|omega)) only [go_sem,seval,hs,h2,hc]
   ·(simp only [go_sem,seval]<;>omega)
  ·exact again' (k + 1) ⟨by omega,by rw [hs,h2,if_pos hc]⟩ (by omega) rfl rfl
 ·simp -implicitDefEqProofs (disch:=first|omega|(simp only [go_sem,seval,hlt];first|done|omega)) only [go_sem,seval,hlt]
  (first|refine pfN hM ?_ ?_|refine pf0 hM ?_ ?_)
  ·simp -implicitDefEqProofs (disch:=first|omega|(simp only [go_sem,seval,hs];first|done|omega)) only [go_sem,seval,hs]
   rw [List.drop_eq_nil_of_le (by omega)];rfl
  ·(simp only [go_sem,seval]<;>omega)
abbrev Yields (X:XRel):=QiR F X
def hd (e:Int) (m:Int × Bool) (l:List Rev) (k:Nat):Int × Bool:=((halfs l).take k).foldl (fun m x => madd m (powW x e.toNat)) m
def zRev:PV:=.agg [.I 0,.I 0]
theorem Qfg {M:List Blk}:appO M 2 16 (.s (.slice none 0 0)) (some []) = some (.os M.length 0 0 0,M ++ [.row true 2 0 []]):=Qf9 (by rfl) (by decide) (by decide) (by decide)
theorem Qfm {M:List Blk} {i v:Nat}:appR M 2 16 i v 0 0 [] (some (.row true 2 v [])) = some (.os i (v + 1) 0 0,M.set i (.row true 2 (v + 1) [])):=Qgh (xs:=[]) (ys:=[]) rfl (by rfl) (by decide) (by decide) (by decide)
theorem YD (s:ByteArray):Q X 77 [.s (.string s)] (.B (Qn s)):=by
 intro M
 by_cases h0:s.size = 0
 ·have f0:((s.size:Int) = 0) = True:=eq_true (by omega)
  (refine Qd (cf:=L4.c77) rfl rfl fun hM hA => ?_;simp only [L4.c77,zO,zF,zT,zM,CX.i];rw [mk1 _ (by decide)];simp -implicitDefEqProofs (disch:=first|omega|(simp only [go_sem,seval,f0];first|done|omega)) only [go_sem,seval,f0])
  (first|refine pfN hM ?_ ?_|refine pf0 hM ?_ ?_)
  ·simp -implicitDefEqProofs (disch:=first|omega|(simp only [go_sem,seval];first|done|omega)) only [go_sem,seval]
   rw [QcW h0]
  ·(simp only [go_sem,seval]<;>omega)
 have f0:((s.size:Int) = 0) = False:=eq_false (by omega)
 by_cases h24:24 < s.size
 ·have f1:((24:Int) < s.size) = True:=eq_true (by omega)
  (refine Qd (cf:=L4.c77) rfl rfl fun hM hA => ?_;simp only [L4.c77,zO,zF,zT,zM,CX.i];rw [mk1 _ (by decide)];simp -implicitDefEqProofs (disch:=first|omega|(simp only [go_sem,seval,f0,f1];first|done|omega)) only [go_sem,seval,f0,f1])
  (first|refine pfN hM ?_ ?_|refine pf0 hM ?_ ?_)
  ·simp -implicitDefEqProofs (disch:=first|omega|(simp only [go_sem,seval];first|done|omega)) only [go_sem,seval]
   rw [QcN h24]
  ·(simp only [go_sem,seval]<;>omega)
 have f1:((24:Int) < s.size) = False:=eq_false (by omega)
 (refine Qd (cf:=L4.c77) rfl rfl fun hM hA => ?_;simp only [L4.c77,zO,zF,zT,zM,CX.i];rw [mk1 _ (by decide)];simp -implicitDefEqProofs (disch:=first|omega|(simp only [go_sem,seval,f0,f1];first|done|omega)) only [go_sem,seval,f0,f1])
 refine Qm (α:=Nat) 0 (fun k => k ≤ s.size ∧ ∀ i,i < k → chOk i (chAt s i) = true) (fun k => M) (fun k => [(0,.s (.string s)),(3,.I k)]) (fun k => s.size - k) ⟨Nat.zero_le _,fun i h => absurd h (by omega)⟩ rfl rfl ?_
 rintro k ⟨hk,hs⟩
 by_cases hlt:k < s.size
 ·obtain ⟨u,h1⟩:=QhC hlt
  have hch:=Qfr h1
  have h1:=QdX h1
  have inv:chOk k u.toNat = true → ∀ i,i < k + 1 → chOk i (chAt s i) = true:=by
   intro hx i hi
   rcases Nat.lt_or_ge i k with h|h
   ·exact hs i h
   ·have:i = k:=by omega
    subst this;rw [hch];exact hx
  rcases (by omega:(u.toNat < 48) ∨ (48 ≤ u.toNat ∧ u.toNat ≤ 57) ∨ (57 < u.toNat ∧ u.toNat < 65) ∨ (65 ≤ u.toNat ∧ u.toNat ≤ 90) ∨ (90 < u.toNat ∧ u.toNat < 95) ∨ (u.toNat = 95) ∨ (u.toNat = 96) ∨ (97 ≤ u.toNat ∧ u.toNat ≤ 122) ∨ (122 < u.toNat)) with hc|hc|hc|hc|hc|hc|hc|hc|hc
  ·have A1:((97:Int) ≤ (u.toNat:Int)) = False:=eq_false (by omega)
   have A2:((u.toNat:Int) ≤ 122) = True:=eq_true (by omega)
   have A3:((65:Int) ≤ (u.toNat:Int)) = False:=eq_false (by omega)
   have A4:((u.toNat:Int) ≤ 90) = True:=eq_true (by omega)
   have A5:((u.toNat:Int) = 95) = False:=eq_false (by omega)
   have A6:((u.toNat:Int) < 48) = True:=eq_true (by omega)
   have A7:((57:Int) < (u.toNat:Int)) = False:=eq_false (by omega)
   by_cases hk0:k = 0
   ·have B:((k:Int) = 0) = True:=eq_true (by omega)
    simp -implicitDefEqProofs (disch:=first|omega|(simp only [go_sem,seval,hlt,h1,A1,A2,A3,A4,A5,A6,A7,B];first|done|omega)) only [go_sem,seval,hlt,h1,A1,A2,A3,A4,A5,A6,A7,B]
    (first|refine pfN hM ?_ ?_|refine pf0 hM ?_ ?_)
    ·simp -implicitDefEqProofs (disch:=first|omega|(simp only [go_sem,seval];first|done|omega)) only [go_sem,seval]
     rw [Qz hlt (by rw [hch];simp [chOk,QB];omega)]
    ·(simp only [go_sem,seval]<;>omega)
   ·have B:((k:Int) = 0) = False:=eq_false (by omega)
    simp -implicitDefEqProofs (disch:=first|omega|(simp only [go_sem,seval,hlt,h1,A1,A2,A3,A4,A5,A6,A7,B];first|done|omega)) only [go_sem,seval,hlt,h1,A1,A2,A3,A4,A5,A6,A7,B]
    (first|refine pfN hM ?_ ?_|refine pf0 hM ?_ ?_)
    ·simp -implicitDefEqProofs (disch:=first|omega|(simp only [go_sem,seval];first|done|omega)) only [go_sem,seval]
     rw [Qz hlt (by rw [hch];simp [chOk,QB];omega)]
    ·(simp only [go_sem,seval]<;>omega)
  ·have A1:((97:Int) ≤ (u.toNat:Int)) = False:=eq_false (by omega)
   have A2:((u.toNat:Int) ≤ 122) = True:=eq_true (by omega)
   have A3:((65:Int) ≤ (u.toNat:Int)) = False:=eq_false (by omega)
   have A4:((u.toNat:Int) ≤ 90) = True:=eq_true (by omega)
   have A5:((u.toNat:Int) = 95) = False:=eq_false (by omega)
   have A6:((u.toNat:Int) < 48) = False:=eq_false (by omega)
   have A7:((57:Int) < (u.toNat:Int)) = False:=eq_false (by omega)
   by_cases hk0:k = 0
   ·have B:((k:Int) = 0) = True:=eq_true (by omega)
    simp -implicitDefEqProofs (disch:=first|omega|(simp only [go_sem,seval,hlt,h1,A1,A2,A3,A4,A5,A6,A7,B];first|done|omega)) only [go_sem,seval,hlt,h1,A1,A2,A3,A4,A5,A6,A7,B]
    (first|refine pfN hM ?_ ?_|refine pf0 hM ?_ ?_)
    ·simp -implicitDefEqProofs (disch:=first|omega|(simp only [go_sem,seval];first|done|omega)) only [go_sem,seval]
     rw [Qz hlt (by rw [hch];simp [chOk,QB];omega)]
    ·(simp only [go_sem,seval]<;>omega)
   ·have B:((k:Int) = 0) = False:=eq_false (by omega)
    simp -implicitDefEqProofs (disch:=first|omega|(simp only [go_sem,seval,hlt,h1,A1,A2,A3,A4,A5,A6,A7,B];first|done|omega)) only [go_sem,seval,hlt,h1,A1,A2,A3,A4,A5,A6,A7,B]
    exact again' (k + 1) ⟨by omega,inv (by simp [chOk,QB];omega)⟩ (by omega) rfl rfl
  ·have A1:((97:Int) ≤ (u.toNat:Int)) = False:=eq_false (by omega)
   have A2:((u.toNat:Int) ≤ 122) = True:=eq_true (by omega)
   have A3:((65:Int) ≤ (u.toNat:Int)) = False:=eq_false (by omega)
   have A4:((u.toNat:Int) ≤ 90) = True:=eq_true (by omega)
   have A5:((u.toNat:Int) = 95) = False:=eq_false (by omega)
   have A6:((u.toNat:Int) < 48) = False:=eq_false (by omega)
   have A7:((57:Int) < (u.toNat:Int)) = True:=eq_true (by omega)
   by_cases hk0:k = 0
   ·have B:((k:Int) = 0) = True:=eq_true (by omega)
    simp -implicitDefEqProofs (disch:=first|omega|(simp only [go_sem,seval,hlt,h1,A1,A2,A3,A4,A5,A6,A7,B];first|done|omega)) only [go_sem,seval,hlt,h1,A1,A2,A3,A4,A5,A6,A7,B]
    (first|refine pfN hM ?_ ?_|refine pf0 hM ?_ ?_)
    ·simp -implicitDefEqProofs (disch:=first|omega|(simp only [go_sem,seval];first|done|omega)) only [go_sem,seval]
     rw [Qz hlt (by rw [hch];simp [chOk,QB];omega)]
    ·(simp only [go_sem,seval]<;>omega)
   ·have B:((k:Int) = 0) = False:=eq_false (by omega)
    simp -implicitDefEqProofs (disch:=first|omega|(simp only [go_sem,seval,hlt,h1,A1,A2,A3,A4,A5,A6,A7,B];first|done|omega)) only [go_sem,seval,hlt,h1,A1,A2,A3,A4,A5,A6,A7,B]
    (first|refine pfN hM ?_ ?_|refine pf0 hM ?_ ?_)
    ·simp -implicitDefEqProofs (disch:=first|omega|(simp only [go_sem,seval];first|done|omega)) only [go_sem,seval]
     rw [Qz hlt (by rw [hch];simp [chOk,QB];omega)]
    ·(simp only [go_sem,seval]<;>omega)
  ·have A1:((97:Int) ≤ (u.toNat:Int)) = False:=eq_false (by omega)
   have A2:((u.toNat:Int) ≤ 122) = True:=eq_true (by omega)
   have A3:((65:Int) ≤ (u.toNat:Int)) = True:=eq_true (by omega)
   have A4:((u.toNat:Int) ≤ 90) = True:=eq_true (by omega)
   have A5:((u.toNat:Int) = 95) = False:=eq_false (by omega)
   have A6:((u.toNat:Int) < 48) = False:=eq_false (by omega)
   have A7:((57:Int) < (u.toNat:Int)) = True:=eq_true (by omega)
   simp -implicitDefEqProofs (disch:=first|omega|(simp only [go_sem,seval,hlt,h1,A1,A2,A3,A4,A5,A6,A7];first|done|omega)) only [go_sem,seval,hlt,h1,A1,A2,A3,A4,A5,A6,A7]
   exact again' (k + 1) ⟨by omega,inv (by simp [chOk,QB];omega)⟩ (by omega) rfl rfl
  ·have A1:((97:Int) ≤ (u.toNat:Int)) = False:=eq_false (by omega)
   have A2:((u.toNat:Int) ≤ 122) = True:=eq_true (by omega)
   have A3:((65:Int) ≤ (u.toNat:Int)) = True:=eq_true (by omega)
   have A4:((u.toNat:Int) ≤ 90) = False:=eq_false (by omega)
   have A5:((u.toNat:Int) = 95) = False:=eq_false (by omega)
   have A6:((u.toNat:Int) < 48) = False:=eq_false (by omega)
   have A7:((57:Int) < (u.toNat:Int)) = True:=eq_true (by omega)
   by_cases hk0:k = 0
   ·have B:((k:Int) = 0) = True:=eq_true (by omega)
    simp -implicitDefEqProofs (disch:=first|omega|(simp only [go_sem,seval,hlt,h1,A1,A2,A3,A4,A5,A6,A7,B];first|done|omega)) only [go_sem,seval,hlt,h1,A1,A2,A3,A4,A5,A6,A7,B]
    (first|refine pfN hM ?_ ?_|refine pf0 hM ?_ ?_)
    ·simp -implicitDefEqProofs (disch:=first|omega|(simp only [go_sem,seval];first|done|omega)) only [go_sem,seval]
     rw [Qz hlt (by rw [hch];simp [chOk,QB];omega)]
    ·(simp only [go_sem,seval]<;>omega)
   ·have B:((k:Int) = 0) = False:=eq_false (by omega)
    simp -implicitDefEqProofs (disch:=first|omega|(simp only [go_sem,seval,hlt,h1,A1,A2,A3,A4,A5,A6,A7,B];first|done|omega)) only [go_sem,seval,hlt,h1,A1,A2,A3,A4,A5,A6,A7,B]
    (first|refine pfN hM ?_ ?_|refine pf0 hM ?_ ?_)
    ·simp -implicitDefEqProofs (disch:=first|omega|(simp only [go_sem,seval];first|done|omega)) only [go_sem,seval]
     rw [Qz hlt (by rw [hch];simp [chOk,QB];omega)]
    ·(simp only [go_sem,seval]<;>omega)
  ·have A1:((97:Int) ≤ (u.toNat:Int)) = False:=eq_false (by omega)
   have A2:((u.toNat:Int) ≤ 122) = True:=eq_true (by omega)
   have A3:((65:Int) ≤ (u.toNat:Int)) = True:=eq_true (by omega)
   have A4:((u.toNat:Int) ≤ 90) = False:=eq_false (by omega)
   have A5:((u.toNat:Int) = 95) = True:=eq_true (by omega)
   have A6:((u.toNat:Int) < 48) = False:=eq_false (by omega)
   have A7:((57:Int) < (u.toNat:Int)) = True:=eq_true (by omega)
   by_cases hk0:k = 0
   ·have B:((k:Int) = 0) = True:=eq_true (by omega)
    simp -implicitDefEqProofs (disch:=first|omega|(simp only [go_sem,seval,hlt,h1,A1,A2,A3,A4,A5,A6,A7,B];first|done|omega)) only [go_sem,seval,hlt,h1,A1,A2,A3,A4,A5,A6,A7,B]
    (first|refine pfN hM ?_ ?_|refine pf0 hM ?_ ?_)
    ·simp -implicitDefEqProofs (disch:=first|omega|(simp only [go_sem,seval];first|done|omega)) only [go_sem,seval]
     rw [Qz hlt (by rw [hch];simp [chOk,QB];omega)]
    ·(simp only [go_sem,seval]<;>omega)
   ·have B:((k:Int) = 0) = False:=eq_false (by omega)
    simp -implicitDefEqProofs (disch:=first|omega|(simp only [go_sem,seval,hlt,h1,A1,A2,A3,A4,A5,A6,A7,B];first|done|omega)) only [go_sem,seval,hlt,h1,A1,A2,A3,A4,A5,A6,A7,B]
    exact again' (k + 1) ⟨by omega,inv (by simp [chOk,QB];omega)⟩ (by omega) rfl rfl
  ·have A1:((97:Int) ≤ (u.toNat:Int)) = False:=eq_false (by omega)
   have A2:((u.toNat:Int) ≤ 122) = True:=eq_true (by omega)
   have A3:((65:Int) ≤ (u.toNat:Int)) = True:=eq_true (by omega)
   have A4:((u.toNat:Int) ≤ 90) = False:=eq_false (by omega)
   have A5:((u.toNat:Int) = 95) = False:=eq_false (by omega)
   have A6:((u.toNat:Int) < 48) = False:=eq_false (by omega)
   have A7:((57:Int) < (u.toNat:Int)) = True:=eq_true (by omega)
   by_cases hk0:k = 0
   ·have B:((k:Int) = 0) = True:=eq_true (by omega)
    simp -implicitDefEqProofs (disch:=first|omega|(simp only [go_sem,seval,hlt,h1,A1,A2,A3,A4,A5,A6,A7,B];first|done|omega)) only [go_sem,seval,hlt,h1,A1,A2,A3,A4,A5,A6,A7,B]
    (first|refine pfN hM ?_ ?_|refine pf0 hM ?_ ?_)
    ·simp -implicitDefEqProofs (disch:=first|omega|(simp only [go_sem,seval];first|done|omega)) only [go_sem,seval]
     rw [Qz hlt (by rw [hch];simp [chOk,QB];omega)]
    ·(simp only [go_sem,seval]<;>omega)
   ·have B:((k:Int) = 0) = False:=eq_false (by omega)
    simp -implicitDefEqProofs (disch:=first|omega|(simp only [go_sem,seval,hlt,h1,A1,A2,A3,A4,A5,A6,A7,B];first|done|omega)) only [go_sem,seval,hlt,h1,A1,A2,A3,A4,A5,A6,A7,B]
    (first|refine pfN hM ?_ ?_|refine pf0 hM ?_ ?_)
    ·simp -implicitDefEqProofs (disch:=first|omega|(simp only [go_sem,seval];first|done|omega)) only [go_sem,seval]
     rw [Qz hlt (by rw [hch];simp [chOk,QB];omega)]
    ·(simp only [go_sem,seval]<;>omega)
  ·have A1:((97:Int) ≤ (u.toNat:Int)) = True:=eq_true (by omega)
   have A2:((u.toNat:Int) ≤ 122) = True:=eq_true (by omega)
   have A3:((65:Int) ≤ (u.toNat:Int)) = True:=eq_true (by omega)
   have A4:((u.toNat:Int) ≤ 90) = False:=eq_false (by omega)
   have A5:((u.toNat:Int) = 95) = False:=eq_false (by omega)
   have A6:((u.toNat:Int) < 48) = False:=eq_false (by omega)
   have A7:((57:Int) < (u.toNat:Int)) = True:=eq_true (by omega)
   simp -implicitDefEqProofs (disch:=first|omega|(simp only [go_sem,seval,hlt,h1,A1,A2,A3,A4,A5,A6,A7];first|done|omega)) only [go_sem,seval,hlt,h1,A1,A2,A3,A4,A5,A6,A7]
   exact again' (k + 1) ⟨by omega,inv (by simp [chOk,QB];omega)⟩ (by omega) rfl rfl
  ·have A1:((97:Int) ≤ (u.toNat:Int)) = True:=eq_true (by omega)
   have A2:((u.toNat:Int) ≤ 122) = False:=eq_false (by omega)
   have A3:((65:Int) ≤ (u.toNat:Int)) = True:=eq_true (by omega)
   have A4:((u.toNat:Int) ≤ 90) = False:=eq_false (by omega)
   have A5:((u.toNat:Int) = 95) = False:=eq_false (by omega)
   have A6:((u.toNat:Int) < 48) = False:=eq_false (by omega)
   have A7:((57:Int) < (u.toNat:Int)) = True:=eq_true (by omega)
   by_cases hk0:k = 0
   ·have B:((k:Int) = 0) = True:=eq_true (by omega)
    simp -implicitDefEqProofs (disch:=first|omega|(simp only [go_sem,seval,hlt,h1,A1,A2,A3,A4,A5,A6,A7,B];first|done|omega)) only [go_sem,seval,hlt,h1,A1,A2,A3,A4,A5,A6,A7,B]
    (first|refine pfN hM ?_ ?_|refine pf0 hM ?_ ?_)
    ·simp -implicitDefEqProofs (disch:=first|omega|(simp only [go_sem,seval];first|done|omega)) only [go_sem,seval]
     rw [Qz hlt (by rw [hch];simp [chOk,QB];omega)]
    ·(simp only [go_sem,seval]<;>omega)
   ·have B:((k:Int) = 0) = False:=eq_false (by omega)
    simp -implicitDefEqProofs (disch:=first|omega|(simp only [go_sem,seval,hlt,h1,A1,A2,A3,A4,A5,A6,A7,B];first|done|omega)) only [go_sem,seval,hlt,h1,A1,A2,A3,A4,A5,A6,A7,B]
    (first|refine pfN hM ?_ ?_|refine pf0 hM ?_ ?_)
    ·simp -implicitDefEqProofs (disch:=first|omega|(simp only [go_sem,seval];first|done|omega)) only [go_sem,seval]
     rw [Qz hlt (by rw [hch];simp [chOk,QB];omega)]
    ·(simp only [go_sem,seval]<;>omega)
 ·simp -implicitDefEqProofs (disch:=first|omega|(simp only [go_sem,seval,hlt];first|done|omega)) only [go_sem,seval,hlt]
  (first|refine pfN hM ?_ ?_|refine pf0 hM ?_ ?_)
  ·simp -implicitDefEqProofs (disch:=first|omega|(simp only [go_sem,seval];first|done|omega)) only [go_sem,seval]
   rw [Qc3 h0 (by omega) (fun i hi => hs i (by omega))]
  ·(simp only [go_sem,seval]<;>omega)
theorem QfJ (s:ByteArray):Q X 76 [.s (.string s)] (.B (Qn s)):=by
 intro M
 by_cases h24:24 < s.size
 ·have f1:((24:Int) < s.size) = True:=eq_true (by omega)
  (refine Qd (cf:=L4.c76) rfl rfl fun hM hA => ?_;simp only [L4.c76,zO,zF,zT,zM,CX.i];rw [mk1 _ (by decide)];simp -implicitDefEqProofs (disch:=first|omega|(simp only [go_sem,seval,f1];first|done|omega)) only [go_sem,seval,f1])
  (first|refine pfN hM ?_ ?_|refine pf0 hM ?_ ?_)
  ·simp -implicitDefEqProofs (disch:=first|omega|(simp only [go_sem,seval];first|done|omega)) only [go_sem,seval]
   rw [QcN h24]
  ·(simp only [go_sem,seval]<;>omega)
 have f1:((24:Int) < s.size) = False:=eq_false (by omega)
 (refine Qd (cf:=L4.c76) rfl rfl fun hM hA => ?_;simp only [L4.c76,zO,zF,zT,zM,CX.i];rw [mk1 _ (by decide)];simp -implicitDefEqProofs (disch:=first|omega|(simp only [go_sem,seval,f1];first|done|omega)) only [go_sem,seval,f1])
 refine Qm (α:=Nat) 0 (fun k => k ≤ s.size ∧ ∀ i,i < k → chOk i (chAt s i) = true) (fun k => M ++ [.siter s k]) (fun k => [(0,.s (.string s)),(10,.oi M.length)]) (fun k => s.size - k) ⟨Nat.zero_le _,fun i h => absurd h (by omega)⟩ rfl rfl ?_
 rintro k ⟨hk,hs⟩
 by_cases hlt:k < s.size
 ·obtain ⟨u,h1⟩:=QhC hlt
  have hch:=Qfr h1
  have inv:chOk k u.toNat = true → ∀ i,i < k + 1 → chOk i (chAt s i) = true:=by
   intro hx i hi
   rcases Nat.lt_or_ge i k with h|h
   ·exact hs i h
   ·have:i = k:=by omega
    subst this;rw [hch];exact hx
  by_cases hu:u.toNat < 128
  ·have d1:(Utf8.decode s k).1 = u.toNat:=by rw [Qk6 h1 hu]
   have d2:(Utf8.decode s k).2 = 1:=by rw [Qk6 h1 hu]
   rcases (by omega:(u.toNat < 48) ∨ (48 ≤ u.toNat ∧ u.toNat ≤ 57) ∨ (57 < u.toNat ∧ u.toNat < 65) ∨ (65 ≤ u.toNat ∧ u.toNat ≤ 90) ∨ (90 < u.toNat ∧ u.toNat < 95) ∨ (u.toNat = 95) ∨ (u.toNat = 96) ∨ (97 ≤ u.toNat ∧ u.toNat ≤ 122) ∨ (122 < u.toNat)) with hc|hc|hc|hc|hc|hc|hc|hc|hc
   ·have A1:((97:Int) ≤ (u.toNat:Int)) = False:=eq_false (by omega)
    have A2:((u.toNat:Int) ≤ 122) = True:=eq_true (by omega)
    have A3:((65:Int) ≤ (u.toNat:Int)) = False:=eq_false (by omega)
    have A4:((u.toNat:Int) ≤ 90) = True:=eq_true (by omega)
    have A5:((u.toNat:Int) = 95) = False:=eq_false (by omega)
    have A6:((u.toNat:Int) < 48) = True:=eq_true (by omega)
    have A7:((57:Int) < (u.toNat:Int)) = False:=eq_false (by omega)
    by_cases hk0:k = 0
    ·have B:((k:Int) = 0) = True:=eq_true (by omega)
     simp -implicitDefEqProofs (disch:=first|omega|(simp only [go_sem,seval,hlt,h1,A1,A2,A3,A4,A5,A6,A7,B,d1,d2];first|done|omega)) only [go_sem,seval,hlt,h1,A1,A2,A3,A4,A5,A6,A7,B,d1,d2]
     (first|refine pfN hM ?_ ?_|refine pf0 hM ?_ ?_)
     ·simp -implicitDefEqProofs (disch:=first|omega|(simp only [go_sem,seval];first|done|omega)) only [go_sem,seval]
      rw [Qz hlt (by rw [hch];simp [chOk,QB];omega)]
     ·(simp only [go_sem,seval]<;>omega)
    ·have B:((k:Int) = 0) = False:=eq_false (by omega)
     simp -implicitDefEqProofs (disch:=first|omega|(simp only [go_sem,seval,hlt,h1,A1,A2,A3,A4,A5,A6,A7,B,d1,d2];first|done|omega)) only [go_sem,seval,hlt,h1,A1,A2,A3,A4,A5,A6,A7,B,d1,d2]
     (first|refine pfN hM ?_ ?_|refine pf0 hM ?_ ?_)
     ·simp -implicitDefEqProofs (disch:=first|omega|(simp only [go_sem,seval];first|done|omega)) only [go_sem,seval]
      rw [Qz hlt (by rw [hch];simp [chOk,QB];omega)]
     ·(simp only [go_sem,seval]<;>omega)
   ·have A1:((97:Int) ≤ (u.toNat:Int)) = False:=eq_false (by omega)
    have A2:((u.toNat:Int) ≤ 122) = True:=eq_true (by omega)
    have A3:((65:Int) ≤ (u.toNat:Int)) = False:=eq_false (by omega)
    have A4:((u.toNat:Int) ≤ 90) = True:=eq_true (by omega)
    have A5:((u.toNat:Int) = 95) = False:=eq_false (by omega)
    have A6:((u.toNat:Int) < 48) = False:=eq_false (by omega)
    have A7:((57:Int) < (u.toNat:Int)) = False:=eq_false (by omega)
    by_cases hk0:k = 0
    ·have B:((k:Int) = 0) = True:=eq_true (by omega)
     simp -implicitDefEqProofs (disch:=first|omega|(simp only [go_sem,seval,hlt,h1,A1,A2,A3,A4,A5,A6,A7,B,d1,d2];first|done|omega)) only [go_sem,seval,hlt,h1,A1,A2,A3,A4,A5,A6,A7,B,d1,d2]
     (first|refine pfN hM ?_ ?_|refine pf0 hM ?_ ?_)
     ·simp -implicitDefEqProofs (disch:=first|omega|(simp only [go_sem,seval];first|done|omega)) only [go_sem,seval]
      rw [Qz hlt (by rw [hch];simp [chOk,QB];omega)]
     ·(simp only [go_sem,seval]<;>omega)
    ·have B:((k:Int) = 0) = False:=eq_false (by omega)
     simp -implicitDefEqProofs (disch:=first|omega|(simp only [go_sem,seval,hlt,h1,A1,A2,A3,A4,A5,A6,A7,B,d1,d2];first|done|omega)) only [go_sem,seval,hlt,h1,A1,A2,A3,A4,A5,A6,A7,B,d1,d2]
     exact again' (k + 1) ⟨by omega,inv (by simp [chOk,QB];omega)⟩ (by omega) rfl rfl
   ·have A1:((97:Int) ≤ (u.toNat:Int)) = False:=eq_false (by omega)
    have A2:((u.toNat:Int) ≤ 122) = True:=eq_true (by omega)
    have A3:((65:Int) ≤ (u.toNat:Int)) = False:=eq_false (by omega)
    have A4:((u.toNat:Int) ≤ 90) = True:=eq_true (by omega)
    have A5:((u.toNat:Int) = 95) = False:=eq_false (by omega)
    have A6:((u.toNat:Int) < 48) = False:=eq_false (by omega)
    have A7:((57:Int) < (u.toNat:Int)) = True:=eq_true (by omega)
    by_cases hk0:k = 0
    ·have B:((k:Int) = 0) = True:=eq_true (by omega)
     simp -implicitDefEqProofs (disch:=first|omega|(simp only [go_sem,seval,hlt,h1,A1,A2,A3,A4,A5,A6,A7,B,d1,d2];first|done|omega)) only [go_sem,seval,hlt,h1,A1,A2,A3,A4,A5,A6,A7,B,d1,d2]
     (first|refine pfN hM ?_ ?_|refine pf0 hM ?_ ?_)
     ·simp -implicitDefEqProofs (disch:=first|omega|(simp only [go_sem,seval];first|done|omega)) only [go_sem,seval]
      rw [Qz hlt (by rw [hch];simp [chOk,QB];omega)]
     ·(simp only [go_sem,seval]<;>omega)
    ·have B:((k:Int) = 0) = False:=eq_false (by omega)
     simp -implicitDefEqProofs (disch:=first|omega|(simp only [go_sem,seval,hlt,h1,A1,A2,A3,A4,A5,A6,A7,B,d1,d2];first|done|omega)) only [go_sem,seval,hlt,h1,A1,A2,A3,A4,A5,A6,A7,B,d1,d2]
     (first|refine pfN hM ?_ ?_|refine pf0 hM ?_ ?_)
     ·simp -implicitDefEqProofs (disch:=first|omega|(simp only [go_sem,seval];first|done|omega)) only [go_sem,seval]
      rw [Qz hlt (by rw [hch];simp [chOk,QB];omega)]
     ·(simp only [go_sem,seval]<;>omega)
   ·have A1:((97:Int) ≤ (u.toNat:Int)) = False:=eq_false (by omega)
    have A2:((u.toNat:Int) ≤ 122) = True:=eq_true (by omega)
    have A3:((65:Int) ≤ (u.toNat:Int)) = True:=eq_true (by omega)
    have A4:((u.toNat:Int) ≤ 90) = True:=eq_true (by omega)
    have A5:((u.toNat:Int) = 95) = False:=eq_false (by omega)
    have A6:((u.toNat:Int) < 48) = False:=eq_false (by omega)
    have A7:((57:Int) < (u.toNat:Int)) = True:=eq_true (by omega)
    simp -implicitDefEqProofs (disch:=first|omega|(simp only [go_sem,seval,hlt,h1,A1,A2,A3,A4,A5,A6,A7,d1,d2];first|done|omega)) only [go_sem,seval,hlt,h1,A1,A2,A3,A4,A5,A6,A7,d1,d2]
    exact again' (k + 1) ⟨by omega,inv (by simp [chOk,QB];omega)⟩ (by omega) rfl rfl
   ·have A1:((97:Int) ≤ (u.toNat:Int)) = False:=eq_false (by omega)
    have A2:((u.toNat:Int) ≤ 122) = True:=eq_true (by omega)
    have A3:((65:Int) ≤ (u.toNat:Int)) = True:=eq_true (by omega)
    have A4:((u.toNat:Int) ≤ 90) = False:=eq_false (by omega)
    have A5:((u.toNat:Int) = 95) = False:=eq_false (by omega)
    have A6:((u.toNat:Int) < 48) = False:=eq_false (by omega)
    have A7:((57:Int) < (u.toNat:Int)) = True:=eq_true (by omega)
    by_cases hk0:k = 0
    ·have B:((k:Int) = 0) = True:=eq_true (by omega)
     simp -implicitDefEqProofs (disch:=first|omega|(simp only [go_sem,seval,hlt,h1,A1,A2,A3,A4,A5,A6,A7,B,d1,d2];first|done|omega)) only [go_sem,seval,hlt,h1,A1,A2,A3,A4,A5,A6,A7,B,d1,d2]
     (first|refine pfN hM ?_ ?_|refine pf0 hM ?_ ?_)
     ·simp -implicitDefEqProofs (disch:=first|omega|(simp only [go_sem,seval];first|done|omega)) only [go_sem,seval]
      rw [Qz hlt (by rw [hch];simp [chOk,QB];omega)]
     ·(simp only [go_sem,seval]<;>omega)
    ·have B:((k:Int) = 0) = False:=eq_false (by omega)
     simp -implicitDefEqProofs (disch:=first|omega|(simp only [go_sem,seval,hlt,h1,A1,A2,A3,A4,A5,A6,A7,B,d1,d2];first|done|omega)) only [go_sem,seval,hlt,h1,A1,A2,A3,A4,A5,A6,A7,B,d1,d2]
     (first|refine pfN hM ?_ ?_|refine pf0 hM ?_ ?_)
     ·simp -implicitDefEqProofs (disch:=first|omega|(simp only [go_sem,seval];first|done|omega)) only [go_sem,seval]
      rw [Qz hlt (by rw [hch];simp [chOk,QB];omega)]
     ·(simp only [go_sem,seval]<;>omega)
   ·have A1:((97:Int) ≤ (u.toNat:Int)) = False:=eq_false (by omega)
    have A2:((u.toNat:Int) ≤ 122) = True:=eq_true (by omega)
    have A3:((65:Int) ≤ (u.toNat:Int)) = True:=eq_true (by omega)
    have A4:((u.toNat:Int) ≤ 90) = False:=eq_false (by omega)
    have A5:((u.toNat:Int) = 95) = True:=eq_true (by omega)
    have A6:((u.toNat:Int) < 48) = False:=eq_false (by omega)
    have A7:((57:Int) < (u.toNat:Int)) = True:=eq_true (by omega)
    by_cases hk0:k = 0
    ·have B:((k:Int) = 0) = True:=eq_true (by omega)
     simp -implicitDefEqProofs (disch:=first|omega|(simp only [go_sem,seval,hlt,h1,A1,A2,A3,A4,A5,A6,A7,B,d1,d2];first|done|omega)) only [go_sem,seval,hlt,h1,A1,A2,A3,A4,A5,A6,A7,B,d1,d2]
     (first|refine pfN hM ?_ ?_|refine pf0 hM ?_ ?_)
     ·simp -implicitDefEqProofs (disch:=first|omega|(simp only [go_sem,seval];first|done|omega)) only [go_sem,seval]
      rw [Qz hlt (by rw [hch];simp [chOk,QB];omega)]
     ·(simp only [go_sem,seval]<;>omega)
    ·have B:((k:Int) = 0) = False:=eq_false (by omega)
     simp -implicitDefEqProofs (disch:=first|omega|(simp only [go_sem,seval,hlt,h1,A1,A2,A3,A4,A5,A6,A7,B,d1,d2];first|done|omega)) only [go_sem,seval,hlt,h1,A1,A2,A3,A4,A5,A6,A7,B,d1,d2]
     exact again' (k + 1) ⟨by omega,inv (by simp [chOk,QB];omega)⟩ (by omega) rfl rfl
   ·have A1:((97:Int) ≤ (u.toNat:Int)) = False:=eq_false (by omega)
    have A2:((u.toNat:Int) ≤ 122) = True:=eq_true (by omega)
    have A3:((65:Int) ≤ (u.toNat:Int)) = True:=eq_true (by omega)
    have A4:((u.toNat:Int) ≤ 90) = False:=eq_false (by omega)
    have A5:((u.toNat:Int) = 95) = False:=eq_false (by omega)
    have A6:((u.toNat:Int) < 48) = False:=eq_false (by omega)
    have A7:((57:Int) < (u.toNat:Int)) = True:=eq_true (by omega)
    by_cases hk0:k = 0
    ·have B:((k:Int) = 0) = True:=eq_true (by omega)
     simp -implicitDefEqProofs (disch:=first|omega|(simp only [go_sem,seval,hlt,h1,A1,A2,A3,A4,A5,A6,A7,B,d1,d2];first|done|omega)) only [go_sem,seval,hlt,h1,A1,A2,A3,A4,A5,A6,A7,B,d1,d2]
     (first|refine pfN hM ?_ ?_|refine pf0 hM ?_ ?_)
     ·simp -implicitDefEqProofs (disch:=first|omega|(simp only [go_sem,seval];first|done|omega)) only [go_sem,seval]
      rw [Qz hlt (by rw [hch];simp [chOk,QB];omega)]
     ·(simp only [go_sem,seval]<;>omega)
    ·have B:((k:Int) = 0) = False:=eq_false (by omega)
     simp -implicitDefEqProofs (disch:=first|omega|(simp only [go_sem,seval,hlt,h1,A1,A2,A3,A4,A5,A6,A7,B,d1,d2];first|done|omega)) only [go_sem,seval,hlt,h1,A1,A2,A3,A4,A5,A6,A7,B,d1,d2]
     (first|refine pfN hM ?_ ?_|refine pf0 hM ?_ ?_)
     ·simp -implicitDefEqProofs (disch:=first|omega|(simp only [go_sem,seval];first|done|omega)) only [go_sem,seval]
      rw [Qz hlt (by rw [hch];simp [chOk,QB];omega)]
     ·(simp only [go_sem,seval]<;>omega)
   ·have A1:((97:Int) ≤ (u.toNat:Int)) = True:=eq_true (by omega)
    have A2:((u.toNat:Int) ≤ 122) = True:=eq_true (by omega)
    have A3:((65:Int) ≤ (u.toNat:Int)) = True:=eq_true (by omega)
    have A4:((u.toNat:Int) ≤ 90) = False:=eq_false (by omega)
    have A5:((u.toNat:Int) = 95) = False:=eq_false (by omega)
    have A6:((u.toNat:Int) < 48) = False:=eq_false (by omega)
    have A7:((57:Int) < (u.toNat:Int)) = True:=eq_true (by omega)
    simp -implicitDefEqProofs (disch:=first|omega|(simp only [go_sem,seval,hlt,h1,A1,A2,A3,A4,A5,A6,A7,d1,d2];first|done|omega)) only [go_sem,seval,hlt,h1,A1,A2,A3,A4,A5,A6,A7,d1,d2]
    exact again' (k + 1) ⟨by omega,inv (by simp [chOk,QB];omega)⟩ (by omega) rfl rfl
   ·have A1:((97:Int) ≤ (u.toNat:Int)) = True:=eq_true (by omega)
    have A2:((u.toNat:Int) ≤ 122) = False:=eq_false (by omega)
    have A3:((65:Int) ≤ (u.toNat:Int)) = True:=eq_true (by omega)
    have A4:((u.toNat:Int) ≤ 90) = False:=eq_false (by omega)
    have A5:((u.toNat:Int) = 95) = False:=eq_false (by omega)
    have A6:((u.toNat:Int) < 48) = False:=eq_false (by omega)
    have A7:((57:Int) < (u.toNat:Int)) = True:=eq_true (by omega)
    by_cases hk0:k = 0
    ·have B:((k:Int) = 0) = True:=eq_true (by omega)
     simp -implicitDefEqProofs (disch:=first|omega|(simp only [go_sem,seval,hlt,h1,A1,A2,A3,A4,A5,A6,A7,B,d1,d2];first|done|omega)) only [go_sem,seval,hlt,h1,A1,A2,A3,A4,A5,A6,A7,B,d1,d2]
     (first|refine pfN hM ?_ ?_|refine pf0 hM ?_ ?_)
     ·simp -implicitDefEqProofs (disch:=first|omega|(simp only [go_sem,seval];first|done|omega)) only [go_sem,seval]
      rw [Qz hlt (by rw [hch];simp [chOk,QB];omega)]
     ·(simp only [go_sem,seval]<;>omega)
    ·have B:((k:Int) = 0) = False:=eq_false (by omega)
     simp -implicitDefEqProofs (disch:=first|omega|(simp only [go_sem,seval,hlt,h1,A1,A2,A3,A4,A5,A6,A7,B,d1,d2];first|done|omega)) only [go_sem,seval,hlt,h1,A1,A2,A3,A4,A5,A6,A7,B,d1,d2]
     (first|refine pfN hM ?_ ?_|refine pf0 hM ?_ ?_)
     ·simp -implicitDefEqProofs (disch:=first|omega|(simp only [go_sem,seval];first|done|omega)) only [go_sem,seval]
      rw [Qz hlt (by rw [hch];simp [chOk,QB];omega)]
     ·(simp only [go_sem,seval]<;>omega)
  ·have hr:=Qsy h1 hu
   have A1:((97:Int) ≤ ((Utf8.decode s k).1:Int)) = True:=eq_true (by omega)
   have A2:(((Utf8.decode s k).1:Int) ≤ 122) = False:=eq_false (by omega)
   have A3:((65:Int) ≤ ((Utf8.decode s k).1:Int)) = True:=eq_true (by omega)
   have A4:(((Utf8.decode s k).1:Int) ≤ 90) = False:=eq_false (by omega)
   have A5:(((Utf8.decode s k).1:Int) = 95) = False:=eq_false (by omega)
   have A6:(((Utf8.decode s k).1:Int) < 48) = False:=eq_false (by omega)
   have A7:((57:Int) < ((Utf8.decode s k).1:Int)) = True:=eq_true (by omega)
   by_cases hk0:k = 0
   ·have B:((k:Int) = 0) = True:=eq_true (by omega)
    simp -implicitDefEqProofs (disch:=first|omega|(simp only [go_sem,seval,hlt,A1,A2,A3,A4,A5,A6,A7,B];first|done|omega)) only [go_sem,seval,hlt,A1,A2,A3,A4,A5,A6,A7,B]
    (first|refine pfN hM ?_ ?_|refine pf0 hM ?_ ?_)
    ·simp -implicitDefEqProofs (disch:=first|omega|(simp only [go_sem,seval];first|done|omega)) only [go_sem,seval]
     rw [Qz hlt (by rw [hch];simp [chOk,QB];omega)]
    ·(simp only [go_sem,seval]<;>omega)
   ·have B:((k:Int) = 0) = False:=eq_false (by omega)
    simp -implicitDefEqProofs (disch:=first|omega|(simp only [go_sem,seval,hlt,A1,A2,A3,A4,A5,A6,A7,B];first|done|omega)) only [go_sem,seval,hlt,A1,A2,A3,A4,A5,A6,A7,B]
    (first|refine pfN hM ?_ ?_|refine pf0 hM ?_ ?_)
    ·simp -implicitDefEqProofs (disch:=first|omega|(simp only [go_sem,seval];first|done|omega)) only [go_sem,seval]
     rw [Qz hlt (by rw [hch];simp [chOk,QB];omega)]
    ·(simp only [go_sem,seval]<;>omega)
 ·simp -implicitDefEqProofs (disch:=first|omega|(simp only [go_sem,seval,hlt,Qbc];first|done|omega)) only [go_sem,seval,hlt,Qbc]
  (first|refine pfN hM ?_ ?_|refine pf0 hM ?_ ?_)
  ·simp -implicitDefEqProofs (disch:=first|omega|(simp only [go_sem,seval];first|done|omega)) only [go_sem,seval]
   by_cases h0:s.size = 0
   ·rw [QcW h0];simp [h0]
   ·rw [Qc3 h0 (by omega) (fun i hi => hs i (by omega))];simp [h0]
  ·(simp only [go_sem,seval]<;>omega)
end
end Go.Nac.L4
namespace Go.Nac.L4
attribute [local congr] Zx VT ZC Vz VA Vt Zs ZD
section
variable {X:XRel}
open Ieee
def FloorX (X:XRel):Prop:=∀ (x:Nat) (s:Bool) (m:Nat) (l:Int) (M:List Blk),double.read x = .number s m l → X 154 [.s (.float .f64 x)] M (.s (.float .f64 (double.write ((double.read x).integral .down)))) M
theorem QhI (hX:FloorX X) {x:Nat} {s:Bool} {m:Nat} {l:Int} (h:double.read x = .number s m l):Q X 126 [.s (.float .f64 x)] (.s (.float .f64 (double.write ((double.read x).integral .down)))):=by
 intro M
 (refine Qd (cf:=L4.c126) rfl rfl fun hM hA => ?_;simp only [L4.c126,zO,zF,zT,zM,CX.i];rw [mk1 _ (by decide)];simp -implicitDefEqProofs (disch:=first|omega|(simp only [go_sem,seval];first|done|omega)) only [go_sem,seval])
 refine Qa (QZ (hX x s m l M h)) ?_
 simp -implicitDefEqProofs (disch:=first|omega|(simp only [go_sem,seval];first|done|omega)) only [go_sem,seval]
 (all_goals (first|refine pfN hM ?_ ?_|refine pf0 hM ?_ ?_);all_goals first|(simp only [go_sem,seval]<;>omega)|skip;all_goals (try simp -implicitDefEqProofs (disch:=first|omega|(simp only [go_sem,seval];first|done|omega)) only [go_sem,seval]))
theorem QA (b:Bool) (e:Int):Q X 103 [.B b,.I e] (.I (if b = true then e else 0)):=by
 intro M
 (refine Qd (cf:=L4.c103) rfl rfl fun hM hA => ?_;simp only [L4.c103,zO,zF,zT,zM,CX.i];rw [mk2 _ (by decide)];simp -implicitDefEqProofs (disch:=first|omega|(simp only [go_sem,seval];first|done|omega)) only [go_sem,seval])
 repeat' (first|(refine QK ?_ ?_ <;> intro hc <;> (try simp only [decide_eq_true_eq,decide_eq_false_iff_not,Classical.not_not,Bool.not_eq_true,Bool.not_eq_true',Bool.not_eq_false',Bool.false_or,Bool.or_false,Bool.true_or,Bool.or_true,Bool.false_and,Bool.and_false,Bool.true_and,Bool.and_true] at hc) <;> (try simp -implicitDefEqProofs (disch:=first|omega|(simp only [go_sem,seval,hc];first|done|omega)) only [go_sem,seval,hc]))|(refine ZX ?_ ?_ <;> intro hc <;> (try simp only [decide_eq_true_eq,decide_eq_false_iff_not,Classical.not_not,Bool.not_eq_true,Bool.not_eq_true',Bool.not_eq_false',Bool.false_or,Bool.or_false,Bool.true_or,Bool.or_true,Bool.false_and,Bool.and_false,Bool.true_and,Bool.and_true] at hc) <;> (try simp -implicitDefEqProofs (disch:=first|omega|(simp only [go_sem,seval,hc];first|done|omega)) only [go_sem,seval,hc])))
 (all_goals (first|refine pfN hM ?_ ?_|refine pf0 hM ?_ ?_);all_goals first|(simp only [go_sem,seval]<;>omega)|skip;all_goals (try simp -implicitDefEqProofs (disch:=first|omega|(simp only [go_sem,seval];first|done|omega)) only [go_sem,seval]))
theorem Vi (n a b:Int):Q X 122 [.I n,.I a,.I b] (.I (rng n a b)):=by
 intro M
 (refine Qd (cf:=L4.c122) rfl rfl fun hM hA => ?_;simp only [L4.c122,zO,zF,zT,zM,CX.i];rw [mk3 _ (by decide)];simp -implicitDefEqProofs (disch:=first|omega|(simp only [go_sem,seval];first|done|omega)) only [go_sem,seval])
 repeat' (first|(refine Qa (QA _ _ _) ?_;(try simp -implicitDefEqProofs (disch:=first|omega|(simp only [go_sem,seval];first|done|omega)) only [go_sem,seval]))|(refine QK ?_ ?_ <;> intro hc <;> (try simp only [decide_eq_true_eq,decide_eq_false_iff_not,Classical.not_not,Bool.not_eq_true,Bool.not_eq_true',Bool.not_eq_false',Bool.false_or,Bool.or_false,Bool.true_or,Bool.or_true,Bool.false_and,Bool.and_false,Bool.true_and,Bool.and_true] at hc) <;> (try simp -implicitDefEqProofs (disch:=first|omega|(simp only [go_sem,seval,hc];first|done|omega)) only [go_sem,seval,hc]))|(refine ZX ?_ ?_ <;> intro hc <;> (try simp only [decide_eq_true_eq,decide_eq_false_iff_not,Classical.not_not,Bool.not_eq_true,Bool.not_eq_true',Bool.not_eq_false',Bool.false_or,Bool.or_false,Bool.true_or,Bool.or_true,Bool.false_and,Bool.and_false,Bool.true_and,Bool.and_true] at hc) <;> (try simp -implicitDefEqProofs (disch:=first|omega|(simp only [go_sem,seval,hc];first|done|omega)) only [go_sem,seval,hc])))
 (all_goals (first|refine pfN hM ?_ ?_|refine pf0 hM ?_ ?_);all_goals first|(simp only [go_sem,seval]<;>omega)|skip;all_goals (try simp -implicitDefEqProofs (disch:=first|omega|(simp only [go_sem,seval];first|done|omega)) only [go_sem,seval]))
 all_goals simp [rng, *]
section
variable {x:Nat} {s:Bool} {m:Nat} {e:Int}
theorem QbR (hr:single.read x = .number s m e) (hb:-9223372036854775808 ≤ fTr s m (e + 4) ∧ fTr s m (e + 4) ≤ 9223372036854775807):Q X 124 [encF x] (.I (fTr s m (e + 4))):=by
 intro M
 obtain ⟨b1,b2,b3⟩:=QM hr
 have F1:=s_ff hr
 have F2:=QmL (s:=s) b1 (show -1074 ≤ e by omega) (show e ≤ 966 by omega)
 have F3:=s_fi (s:=s) b1 (show -1070 ≤ e + 4 by omega) (show e + 4 ≤ 966 by omega) hb
 (refine Qd (cf:=L4.c124) rfl rfl fun hM hA => ?_;simp only [L4.c124,zO,zF,zT,zM,CX.i];rw [mk1 _ (by decide)];simp -implicitDefEqProofs (disch:=first|omega|(simp only [go_sem,seval,F1,F2,F3];first|done|omega)) only [go_sem,seval,F1,F2,F3])
 (all_goals (first|refine pfN hM ?_ ?_|refine pf0 hM ?_ ?_);all_goals first|(simp only [go_sem,seval]<;>omega)|skip;all_goals (try simp -implicitDefEqProofs (disch:=first|omega|(simp only [go_sem,seval];first|done|omega)) only [go_sem,seval]))
theorem QgA (h0:-1100 ≤ e + 4) (h1:¬ fV s m (e + 4) < fV true 32768 0) (h2:¬ fV false 32768 0 < fV s m (e + 4)):(fTr s m (e + 4)).natAbs ≤ 32768:=by
 rw [Zc];exact (fV_le h0 h1 h2).1
theorem Y7 (x:Nat):Q X 79 [encF x] (.I (smpE x)):=by
 intro M
 cases hr:single.read x with
 | nan s t =>
  have F1:=Qge hr
  (refine Qd (cf:=L4.c79) rfl rfl fun hM hA => ?_;simp only [L4.c79,zO,zF,zT,zM,CX.i];rw [mk1 _ (by decide)];simp -implicitDefEqProofs (disch:=first|omega|(simp only [go_sem,seval,F1,JT,V7];first|done|omega)) only [go_sem,seval,F1,JT,V7])
  (first|refine pfN hM ?_ ?_|refine pf0 hM ?_ ?_)
  ·simp -implicitDefEqProofs (disch:=first|omega|(simp only [go_sem,seval];first|done|omega)) only [go_sem,seval]
   unfold smpE;rw [hr]
  ·(simp only [go_sem,seval]<;>omega)
 | infinity s =>
  have F1:=Qgl hr
  have F2:=Qfh s
  (refine Qd (cf:=L4.c79) rfl rfl fun hM hA => ?_;simp only [L4.c79,zO,zF,zT,zM,CX.i];rw [mk1 _ (by decide)];simp -implicitDefEqProofs (disch:=first|omega|(simp only [go_sem,seval,F1,F2,V7];first|done|omega)) only [go_sem,seval,F1,F2,V7])
  (first|refine pfN hM ?_ ?_|refine pf0 hM ?_ ?_)
  ·simp -implicitDefEqProofs (disch:=first|omega|(simp only [go_sem,seval];first|done|omega)) only [go_sem,seval]
   unfold smpE;rw [hr]
  ·(simp only [go_sem,seval]<;>omega)
 | number s m e =>
  obtain ⟨b1,b2,b3⟩:=QM hr
  have F1:=s_ff hr
  have F2:=s_sub (s:=s) b1 (show -1074 ≤ e by omega) (show e ≤ 970 by omega)
  have F3:=s_lo' (s:=s) b1 (show -1070 ≤ e by omega) (show e ≤ 966 by omega)
  have F4:=s_hi' (s:=s) b1 (show -1070 ≤ e by omega) (show e ≤ 966 by omega)
  have F5:=QmL (s:=s) b1 (show -1074 ≤ e by omega) (show e ≤ 966 by omega)
  have hE:smpE x = if fV s m (e + 4) < fV true 32768 0 ∨ fV false 32768 0 < fV s m (e + 4) ∨ VX s m (e + 4) = false then 3 else 0:=by unfold smpE;rw [hr]
  by_cases h1:fV s m (e + 4) < fV true 32768 0
  ·have G1:=eq_true h1
   (refine Qd (cf:=L4.c79) rfl rfl fun hM hA => ?_;simp only [L4.c79,zO,zF,zT,zM,CX.i];rw [mk1 _ (by decide)];simp -implicitDefEqProofs (disch:=first|omega|(simp only [go_sem,seval,F1,F2,Zh,F3,G1];first|done|omega)) only [go_sem,seval,F1,F2,Zh,F3,G1])
   (first|refine pfN hM ?_ ?_|refine pf0 hM ?_ ?_)
   ·simp -implicitDefEqProofs (disch:=first|omega|(simp only [go_sem,seval];first|done|omega)) only [go_sem,seval]
    rw [hE,if_pos (.inl h1)]
   ·(simp only [go_sem,seval]<;>omega)
  have G1:=eq_false h1
  by_cases h2:fV false 32768 0 < fV s m (e + 4)
  ·have G2:=eq_true h2
   (refine Qd (cf:=L4.c79) rfl rfl fun hM hA => ?_;simp only [L4.c79,zO,zF,zT,zM,CX.i];rw [mk1 _ (by decide)];simp -implicitDefEqProofs (disch:=first|omega|(simp only [go_sem,seval,F1,F2,Zh,F3,G1,F4,G2];first|done|omega)) only [go_sem,seval,F1,F2,Zh,F3,G1,F4,G2])
   (first|refine pfN hM ?_ ?_|refine pf0 hM ?_ ?_)
   ·simp -implicitDefEqProofs (disch:=first|omega|(simp only [go_sem,seval];first|done|omega)) only [go_sem,seval]
    rw [hE,if_pos (.inr (.inl h2))]
   ·(simp only [go_sem,seval]<;>omega)
  have G2:=eq_false h2
  have ht:=QgA (by omega) h1 h2
  have F6:=s_eqi (s:=s) b1 (show -1070 ≤ e + 4 by omega) (show e + 4 ≤ 966 by omega) rfl (by omega)
  (refine Qd (cf:=L4.c79) rfl rfl fun hM hA => ?_;simp only [L4.c79,zO,zF,zT,zM,CX.i];rw [mk1 _ (by decide)];simp -implicitDefEqProofs (disch:=first|omega|(simp only [go_sem,seval,F1,F2,Zh,F3,G1,F4,G2];first|done|omega)) only [go_sem,seval,F1,F2,Zh,F3,G1,F4,G2])
  refine Qa (QbR hr (by omega) _) ?_
  by_cases h3:VX s m (e + 4) = true
  ·simp -implicitDefEqProofs (disch:=first|omega|(simp only [go_sem,seval,F5,F6,h3];first|done|omega)) only [go_sem,seval,F5,F6,h3]
   (first|refine pfN hM ?_ ?_|refine pf0 hM ?_ ?_)
   ·simp -implicitDefEqProofs (disch:=first|omega|(simp only [go_sem,seval];first|done|omega)) only [go_sem,seval]
    rw [hE,if_neg (by simp [h1,h2,h3])]
   ·(simp only [go_sem,seval]<;>omega)
  ·have h3:VX s m (e + 4) = false:=by simpa using h3
   simp -implicitDefEqProofs (disch:=first|omega|(simp only [go_sem,seval,F5,F6,h3];first|done|omega)) only [go_sem,seval,F5,F6,h3]
   (first|refine pfN hM ?_ ?_|refine pf0 hM ?_ ?_)
   ·simp -implicitDefEqProofs (disch:=first|omega|(simp only [go_sem,seval];first|done|omega)) only [go_sem,seval]
    rw [hE,if_pos (.inr (.inr h3))]
   ·(simp only [go_sem,seval]<;>omega)
theorem Qbi (hX:FloorX X) (x:Nat):Q X 68 [encF x] (.I (smpE x)):=by
 intro M
 cases hr:single.read x with
 | nan s t =>
  have F1:=Qge hr
  (refine Qd (cf:=L4.c68) rfl rfl fun hM hA => ?_;simp only [L4.c68,zO,zF,zT,zM,CX.i];rw [mk1 _ (by decide)];simp -implicitDefEqProofs (disch:=first|omega|(simp only [go_sem,seval,F1,Qfn,JT,V7];first|done|omega)) only [go_sem,seval,F1,Qfn,JT,V7])
  (first|refine pfN hM ?_ ?_|refine pf0 hM ?_ ?_)
  ·simp -implicitDefEqProofs (disch:=first|omega|(simp only [go_sem,seval];first|done|omega)) only [go_sem,seval]
   unfold smpE;rw [hr]
  ·(simp only [go_sem,seval]<;>omega)
 | infinity s =>
  have F1:=Qgl hr
  have F2:=Qfh s
  have F3:=Qlp s
  (refine Qd (cf:=L4.c68) rfl rfl fun hM hA => ?_;simp only [L4.c68,zO,zF,zT,zM,CX.i];rw [mk1 _ (by decide)];simp -implicitDefEqProofs (disch:=first|omega|(simp only [go_sem,seval,F1,F3,F2,V7];first|done|omega)) only [go_sem,seval,F1,F3,F2,V7])
  (first|refine pfN hM ?_ ?_|refine pf0 hM ?_ ?_)
  ·simp -implicitDefEqProofs (disch:=first|omega|(simp only [go_sem,seval];first|done|omega)) only [go_sem,seval]
   unfold smpE;rw [hr]
  ·(simp only [go_sem,seval]<;>omega)
 | number s m e =>
  obtain ⟨b1,b2,b3⟩:=QM hr
  have F1:=s_ff hr
  have F2:=s_sub (s:=s) b1 (show -1074 ≤ e + 4 by omega) (show e + 4 ≤ 970 by omega)
  have F3:=s_lo (s:=s) b1 (show -1070 ≤ e + 4 by omega) (show e + 4 ≤ 966 by omega)
  have F4:=s_hi (s:=s) b1 (show -1070 ≤ e + 4 by omega) (show e + 4 ≤ 966 by omega)
  have F5:=s_mul (s:=s) b1 (show -1074 ≤ e by omega) (show e ≤ 966 by omega)
  have hE:smpE x = if fV s m (e + 4) < fV true 32768 0 ∨ fV false 32768 0 < fV s m (e + 4) ∨ VX s m (e + 4) = false then 3 else 0:=by unfold smpE;rw [hr]
  by_cases h1:fV s m (e + 4) < fV true 32768 0
  ·have G1:=eq_true h1
   (refine Qd (cf:=L4.c68) rfl rfl fun hM hA => ?_;simp only [L4.c68,zO,zF,zT,zM,CX.i];rw [mk1 _ (by decide)];simp -implicitDefEqProofs (disch:=first|omega|(simp only [go_sem,seval,F1,F5,F2,Zh,F3,G1];first|done|omega)) only [go_sem,seval,F1,F5,F2,Zh,F3,G1])
   (first|refine pfN hM ?_ ?_|refine pf0 hM ?_ ?_)
   ·simp -implicitDefEqProofs (disch:=first|omega|(simp only [go_sem,seval];first|done|omega)) only [go_sem,seval]
    rw [hE,if_pos (.inl h1)]
   ·(simp only [go_sem,seval]<;>omega)
  have G1:=eq_false h1
  by_cases h2:fV false 32768 0 < fV s m (e + 4)
  ·have G2:=eq_true h2
   (refine Qd (cf:=L4.c68) rfl rfl fun hM hA => ?_;simp only [L4.c68,zO,zF,zT,zM,CX.i];rw [mk1 _ (by decide)];simp -implicitDefEqProofs (disch:=first|omega|(simp only [go_sem,seval,F1,F5,F2,Zh,F3,G1,F4,G2];first|done|omega)) only [go_sem,seval,F1,F5,F2,Zh,F3,G1,F4,G2])
   (first|refine pfN hM ?_ ?_|refine pf0 hM ?_ ?_)
   ·simp -implicitDefEqProofs (disch:=first|omega|(simp only [go_sem,seval];first|done|omega)) only [go_sem,seval]
    rw [hE,if_pos (.inr (.inl h2))]
   ·(simp only [go_sem,seval]<;>omega)
  have G2:=eq_false h2
  have ht:=QgA (by omega) h1 h2
  obtain ⟨k0,l0,r1,r2,r3⟩:=Ve s b1 (show -1074 ≤ e + 4 by omega) (show e + 4 ≤ 970 by omega)
  obtain ⟨k,l,g1,g2,g3⟩:=QfX (s:=s) b1 (show -1074 ≤ e + 4 by omega) (show e + 4 ≤ 970 by omega)
  have hf:fFl s (m * 2 ^ k) l < 2 ^ 53:=by
   have h3:=Zc s (m * 2 ^ k) l
   rw [Qg3 s m k g1] at h3
   have h4:∀ b:Bool,b.toNat ≤ 1:=by decide
   have h5:=h4 (s && m * 2 ^ k * 2 ^ l.toNat % 2 ^ (-l).toNat != 0)
   unfold fFl
   omega
  have F6:=s_eqf (s:=s) b1 (show -1070 ≤ e + 4 by omega) (show e + 4 ≤ 966 by omega) g1 g2 hf
  (refine Qd (cf:=L4.c68) rfl rfl fun hM hA => ?_;simp only [L4.c68,zO,zF,zT,zM,CX.i];rw [mk1 _ (by decide)];simp -implicitDefEqProofs (disch:=first|omega|(simp only [go_sem,seval,F1,F5,F2,Zh,F3,G1,F4,G2];first|done|omega)) only [go_sem,seval,F1,F5,F2,Zh,F3,G1,F4,G2])
  refine Qa (QhI hX r1 _) ?_
  by_cases h3:VX s m (e + 4) = true
  ·simp -implicitDefEqProofs (disch:=first|omega|(simp only [go_sem,seval,g3,F6,h3];first|done|omega)) only [go_sem,seval,g3,F6,h3]
   (first|refine pfN hM ?_ ?_|refine pf0 hM ?_ ?_)
   ·simp -implicitDefEqProofs (disch:=first|omega|(simp only [go_sem,seval];first|done|omega)) only [go_sem,seval]
    rw [hE,if_neg (by simp [h1,h2,h3])]
   ·(simp only [go_sem,seval]<;>omega)
  ·have h3:VX s m (e + 4) = false:=by simpa using h3
   simp -implicitDefEqProofs (disch:=first|omega|(simp only [go_sem,seval,g3,F6,h3];first|done|omega)) only [go_sem,seval,g3,F6,h3]
   (first|refine pfN hM ?_ ?_|refine pf0 hM ?_ ?_)
   ·simp -implicitDefEqProofs (disch:=first|omega|(simp only [go_sem,seval];first|done|omega)) only [go_sem,seval]
    rw [hE,if_pos (.inr (.inr h3))]
   ·(simp only [go_sem,seval]<;>omega)
end
end
end Go.Nac.L4
namespace Go.Nac.L4
attribute [local congr] Zx VT ZC Vz VA Vt Zs ZD
section
variable {X:XRel}
theorem QJ (l:List Int) (hl:l.length ≤ 1048576):Q X 99 [.fs (l.map .I)] (.I (fst0 l)):=by
 intro M
 (refine Qd (cf:=L4.c99) rfl rfl fun hM hA => ?_;simp only [L4.c99,zO,zF,zT,zM,CX.i];rw [mk1 _ (by decide)];simp -implicitDefEqProofs (disch:=first|omega|(simp only [go_sem,seval];first|done|omega)) only [go_sem,seval])
 refine Qm (α:=Nat) 0 (fun k => k ≤ l.length ∧ fst0 l = fst0 (l.drop k)) (fun k => M) (fun k => [(5,.fs (l.map .I)),(6,.I l.length),(7,.I k)]) (fun k => l.length - k) ⟨Nat.zero_le _,rfl⟩ rfl rfl ?_
 rintro k ⟨hk,hs⟩
 by_cases hlt:k < l.length
 ·obtain ⟨x,h1⟩:∃ x,l[k]? = some x:=⟨_,List.getElem?_eq_getElem hlt⟩
  have h2:=V4 l k x h1
  simp -implicitDefEqProofs (disch:=first|omega|(simp only [go_sem,seval,hlt,h1];first|done|omega)) only [go_sem,seval,hlt,h1]
  refine QK ?_ ?_ <;> intro hc <;> (try simp only [decide_eq_true_eq,decide_eq_false_iff_not,Classical.not_not,Bool.not_eq_true,Bool.not_eq_true',Bool.not_eq_false',Bool.false_or,Bool.or_false,Bool.true_or,Bool.or_true,Bool.false_and,Bool.and_false,Bool.true_and,Bool.and_true] at hc) <;> simp -implicitDefEqProofs (disch:=first|omega|(simp only [go_sem,seval,h1,hc];first|done|omega)) only [go_sem,seval,h1,hc]
  ·(first|refine pfN hM ?_ ?_|refine pf0 hM ?_ ?_)
   ·simp -implicitDefEqProofs (disch:=first|omega|(simp only [go_sem,seval];first|done|omega)) only [go_sem,seval]
    rw [hs,h2,if_neg hc]
   ·(simp only [go_sem,seval]<;>omega)
  ·exact again' (k + 1) ⟨by omega,by rw [hs,h2,if_pos hc]⟩ (by omega) rfl rfl
 ·simp -implicitDefEqProofs (disch:=first|omega|(simp only [go_sem,seval,hlt];first|done|omega)) only [go_sem,seval,hlt]
  (first|refine pfN hM ?_ ?_|refine pf0 hM ?_ ?_)
  ·simp -implicitDefEqProofs (disch:=first|omega|(simp only [go_sem,seval];first|done|omega)) only [go_sem,seval]
   rw [hs,List.drop_eq_nil_of_le (by omega)];rfl
  ·(simp only [go_sem,seval]<;>omega)
theorem ZZ (s:ByteArray):Q X 121 [.s (.string s)] (.I (if Qn s = false then 8 else 0)):=by
 intro M
 (refine Qd (cf:=L4.c121) rfl rfl fun hM hA => ?_;simp only [L4.c121,zO,zF,zT,zM,CX.i];rw [mk1 _ (by decide)];simp -implicitDefEqProofs (disch:=first|omega|(simp only [go_sem,seval];first|done|omega)) only [go_sem,seval])
 refine Qa (QfJ s _) ?_
 simp -implicitDefEqProofs (disch:=first|omega|(simp only [go_sem,seval];first|done|omega)) only [go_sem,seval]
 refine Qa (QA _ _ _) ?_
 simp -implicitDefEqProofs (disch:=first|omega|(simp only [go_sem,seval];first|done|omega)) only [go_sem,seval]
 (first|refine pfN hM ?_ ?_|refine pf0 hM ?_ ?_)
 ·simp -implicitDefEqProofs (disch:=first|omega|(simp only [go_sem,seval];first|done|omega)) only [go_sem,seval]
  cases Qn s <;> rfl
 ·(simp only [go_sem,seval]<;>omega)
theorem JO (x:Spn):Q X 26 [Qb x] (.I (Vl x)):=by
 intro M
 (refine Qd (cf:=L4.c26) rfl rfl fun hM hA => ?_;simp only [L4.c26,zO,zF,zT,zM,CX.i];rw [mk1 _ (by decide)];simp -implicitDefEqProofs (disch:=first|omega|(simp only [go_sem,seval,Qe];first|done|omega)) only [go_sem,seval,Qe])
 repeat' (first|(refine Qa (QA _ _ _) ?_;(try simp -implicitDefEqProofs (disch:=first|omega|(simp only [go_sem,seval,Qe];first|done|omega)) only [go_sem,seval,Qe]))|(refine QK ?_ ?_ <;> intro hc <;> (try simp only [decide_eq_true_eq,decide_eq_false_iff_not,Classical.not_not,Bool.not_eq_true,Bool.not_eq_true',Bool.not_eq_false',Bool.false_or,Bool.or_false,Bool.true_or,Bool.or_true,Bool.false_and,Bool.and_false,Bool.true_and,Bool.and_true] at hc) <;> (try simp -implicitDefEqProofs (disch:=first|omega|(simp only [go_sem,seval,Qe,hc];first|done|omega)) only [go_sem,seval,Qe,hc]))|(refine ZX ?_ ?_ <;> intro hc <;> (try simp only [decide_eq_true_eq,decide_eq_false_iff_not,Classical.not_not,Bool.not_eq_true,Bool.not_eq_true',Bool.not_eq_false',Bool.false_or,Bool.or_false,Bool.true_or,Bool.or_true,Bool.false_and,Bool.and_false,Bool.true_and,Bool.and_true] at hc) <;> (try simp -implicitDefEqProofs (disch:=first|omega|(simp only [go_sem,seval,Qe,hc];first|done|omega)) only [go_sem,seval,Qe,hc])))
 (all_goals (first|refine pfN hM ?_ ?_|refine pf0 hM ?_ ?_);all_goals first|(simp only [go_sem,seval]<;>omega)|skip;all_goals (try simp -implicitDefEqProofs (disch:=first|omega|(simp only [go_sem,seval];first|done|omega)) only [go_sem,seval]))
 all_goals simp [Vl, *] <;> omega
theorem Qcz (x:Spn):Q X 27 [Qb x] (.I (Vl x)):=by
 intro M
 (refine Qd (cf:=L4.c27) rfl rfl fun hM hA => ?_;simp only [L4.c27,zO,zF,zT,zM,CX.i];rw [mk1 _ (by decide)];simp -implicitDefEqProofs (disch:=first|omega|(simp only [go_sem,seval,Qe];first|done|omega)) only [go_sem,seval,Qe])
 repeat' (first|(refine QK ?_ ?_ <;> intro hc <;> (try simp only [decide_eq_true_eq,decide_eq_false_iff_not,Classical.not_not,Bool.not_eq_true,Bool.not_eq_true',Bool.not_eq_false',Bool.false_or,Bool.or_false,Bool.true_or,Bool.or_true,Bool.false_and,Bool.and_false,Bool.true_and,Bool.and_true] at hc) <;> (try simp -implicitDefEqProofs (disch:=first|omega|(simp only [go_sem,seval,Qe,hc];first|done|omega)) only [go_sem,seval,Qe,hc]))|(refine ZX ?_ ?_ <;> intro hc <;> (try simp only [decide_eq_true_eq,decide_eq_false_iff_not,Classical.not_not,Bool.not_eq_true,Bool.not_eq_true',Bool.not_eq_false',Bool.false_or,Bool.or_false,Bool.true_or,Bool.or_true,Bool.false_and,Bool.and_false,Bool.true_and,Bool.and_true] at hc) <;> (try simp -implicitDefEqProofs (disch:=first|omega|(simp only [go_sem,seval,Qe,hc];first|done|omega)) only [go_sem,seval,Qe,hc])))
 (all_goals (first|refine pfN hM ?_ ?_|refine pf0 hM ?_ ?_);all_goals first|(simp only [go_sem,seval]<;>omega)|skip;all_goals (try simp -implicitDefEqProofs (disch:=first|omega|(simp only [go_sem,seval];first|done|omega)) only [go_sem,seval]))
 all_goals simp [Vl, *] <;> omega
theorem VW (l:List Spn) (hl:l.length ≤ 1048576):Q X 28 [.fs (l.map Qb)] (.I (Qp l)):=by
 intro M
 (refine Qd (cf:=L4.c28) rfl rfl fun hM hA => ?_;simp only [L4.c28,zO,zF,zT,zM,CX.i];rw [mk1 _ (by decide)];simp -implicitDefEqProofs (disch:=first|omega|(simp only [go_sem,seval];first|done|omega)) only [go_sem,seval])
 refine QK ?_ ?_ <;> intro hc <;> (try simp only [decide_eq_true_eq,decide_eq_false_iff_not,Classical.not_not,Bool.not_eq_true,Bool.not_eq_true',Bool.not_eq_false',Bool.false_or,Bool.or_false,Bool.true_or,Bool.or_true,Bool.false_and,Bool.and_false,Bool.true_and,Bool.and_true] at hc) <;> simp -implicitDefEqProofs (disch:=first|omega|(simp only [go_sem,seval,hc];first|done|omega)) only [go_sem,seval,hc]
 ·(first|refine pfN hM ?_ ?_|refine pf0 hM ?_ ?_)
  ·simp -implicitDefEqProofs (disch:=first|omega|(simp only [go_sem,seval];first|done|omega)) only [go_sem,seval]
   congr 2;simp [Qp];omega
  ·(simp only [go_sem,seval]<;>omega)
 ·refine Qm (α:=Nat) 0 (fun k => k ≤ l.length ∧ Qp l = QY (V2 l k) (l.drop k)) (fun k => M) (fun k => [(3,.I (V2 l k)),(10,.fs (l.map Qb)),(11,.I l.length),(12,.I k)]) (fun k => l.length - k) ⟨Nat.zero_le _,by simp only [Qp];rw [if_neg (by omega)];rfl⟩ rfl rfl ?_
  rintro k ⟨hk,hs⟩
  by_cases hlt:k < l.length
  ·obtain ⟨x,h1⟩:∃ x,l[k]? = some x:=⟨_,List.getElem?_eq_getElem hlt⟩
   have hd:=Qbd h1 (V2 l k)
   have hq:∀ e:Int,e = fst0 [Vl x,if x.fr ≤ V2 l k then 11 else 0] → (e = 0 → Qp l = QY (V2 l (k + 1)) (l.drop (k + 1))) ∧ (¬ e = 0 → Qp l = e):=by
    intro e he
    rw [hs,hd,YK h1]
    have h14:Vl x = 0 ∨ Vl x = 14:=by unfold Vl;split <;> simp
    subst he
    simp only [fst0]
    refine ⟨fun h => ?_,fun h => ?_⟩ <;> rcases h14 with h14|h14 <;> by_cases h3:x.fr ≤ V2 l k <;> simp [h14,h3] at h ⊢
   simp -implicitDefEqProofs (disch:=first|omega|(simp only [go_sem,seval,hlt,h1,Qe];first|done|omega)) only [go_sem,seval,hlt,h1,Qe]
   refine Qa (JO x _) ?_
   simp -implicitDefEqProofs (disch:=first|omega|(simp only [go_sem,seval,Qe];first|done|omega)) only [go_sem,seval,Qe]
   refine Qa (QA _ _ _) ?_
   simp -implicitDefEqProofs (disch:=first|omega|(simp only [go_sem,seval];first|done|omega)) only [go_sem,seval]
   refine Qa (QJ [_,_] (by simp) _) ?_
   simp -implicitDefEqProofs (disch:=first|omega|(simp only [go_sem,seval];first|done|omega)) only [go_sem,seval]
   have hqe:=hq _ rfl
   refine QK ?_ ?_ <;> intro hc <;> (try simp only [decide_eq_true_eq,decide_eq_false_iff_not,Classical.not_not,Bool.not_eq_true,Bool.not_eq_true',Bool.not_eq_false',Bool.false_or,Bool.or_false,Bool.true_or,Bool.or_true,Bool.false_and,Bool.and_false,Bool.true_and,Bool.and_true] at hc) <;> simp -implicitDefEqProofs (disch:=first|omega|(simp only [go_sem,seval,hc];first|done|omega)) only [go_sem,seval,hc]
   ·(first|refine pfN hM ?_ ?_|refine pf0 hM ?_ ?_)
    ·simp -implicitDefEqProofs (disch:=first|omega|(simp only [go_sem,seval];first|done|omega)) only [go_sem,seval]
     congr 2
     rw [(hqe.2 (by simpa using hc))]
    ·(simp only [go_sem,seval]<;>omega)
   ·refine Qr hM rfl 0 (by simp) (by first|done|(simp only [go_sem,seval,Qf] <;> first|done|(refine ⟨?_,?_⟩ <;> omega)|omega)) (Qv (by first|done|(simp only [go_sem,seval,Qf] <;> first|done|(refine ⟨?_,?_⟩ <;> omega)|omega))) ?_
    simp -implicitDefEqProofs (disch:=first|omega|(simp only [go_sem,seval];first|done|omega)) only [go_sem,seval]
    exact again' (k + 1) ⟨by omega,hqe.1 (by simpa using hc)⟩ (by omega) rfl (by rw [YK h1];rfl)
  ·simp -implicitDefEqProofs (disch:=first|omega|(simp only [go_sem,seval,hlt];first|done|omega)) only [go_sem,seval,hlt]
   (first|refine pfN hM ?_ ?_|refine pf0 hM ?_ ?_)
   ·simp -implicitDefEqProofs (disch:=first|omega|(simp only [go_sem,seval];first|done|omega)) only [go_sem,seval]
    rw [hs,QbN (by omega)]
   ·(simp only [go_sem,seval]<;>omega)
theorem QbO (l:List Spn) (hl:l.length ≤ 1048576):Q X 23 [.fs (l.map Qb)] (.I (Qp l)):=by
 intro M
 (refine Qd (cf:=L4.c23) rfl rfl fun hM hA => ?_;simp only [L4.c23,zO,zF,zT,zM,CX.i];rw [mk1 _ (by decide)];simp -implicitDefEqProofs (disch:=first|omega|(simp only [go_sem,seval];first|done|omega)) only [go_sem,seval])
 refine QK ?_ ?_ <;> intro hc <;> (try simp only [decide_eq_true_eq,decide_eq_false_iff_not,Classical.not_not,Bool.not_eq_true,Bool.not_eq_true',Bool.not_eq_false',Bool.false_or,Bool.or_false,Bool.true_or,Bool.or_true,Bool.false_and,Bool.and_false,Bool.true_and,Bool.and_true] at hc) <;> simp -implicitDefEqProofs (disch:=first|omega|(simp only [go_sem,seval,hc];first|done|omega)) only [go_sem,seval,hc]
 ·(first|refine pfN hM ?_ ?_|refine pf0 hM ?_ ?_)
  ·simp -implicitDefEqProofs (disch:=first|omega|(simp only [go_sem,seval];first|done|omega)) only [go_sem,seval]
   congr 2;simp [Qp];omega
  ·(simp only [go_sem,seval]<;>omega)
 ·refine Qm (α:=Nat) 0 (fun k => k ≤ l.length ∧ Qp l = QY (V2 l k) (l.drop k)) (fun k => M) (fun k => [(0,.fs (l.map Qb)),(3,.I k)]) (fun k => l.length - k) ⟨Nat.zero_le _,by simp only [Qp];rw [if_neg (by omega)];rfl⟩ rfl rfl ?_
  rintro k ⟨hk,hs⟩
  by_cases hlt:k < l.length
  ·obtain ⟨x,h1⟩:∃ x,l[k]? = some x:=⟨_,List.getElem?_eq_getElem hlt⟩
   have hd:=Qbd h1 (V2 l k)
   simp -implicitDefEqProofs (disch:=first|omega|(simp only [go_sem,seval,hlt,h1,Qe];first|done|omega)) only [go_sem,seval,hlt,h1,Qe]
   refine Qa (Qcz x _) ?_
   simp -implicitDefEqProofs (disch:=first|omega|(simp only [go_sem,seval];first|done|omega)) only [go_sem,seval]
   by_cases h14:Vl x = 0
   ·have G:=eq_true h14
    simp -implicitDefEqProofs (disch:=first|omega|(simp only [go_sem,seval,G];first|done|omega)) only [go_sem,seval,G]
    have hf:=(JV h14).1
    by_cases h0:k = 0
    ·subst h0
     have B:((0:Int) < ((0:Nat):Int)) = False:=eq_false (by omega)
     simp -implicitDefEqProofs (disch:=first|omega|(simp only [go_sem,seval,B,h1,Qe];first|done|omega)) only [go_sem,seval,B,h1,Qe]
     exact again' 1 ⟨by omega,by rw [hs,hd,if_pos h14,if_neg (by rw [QiD];omega),YK h1]⟩ (by omega) rfl rfl
    ·have B:((0:Int) < (k:Int)) = True:=eq_true (by omega)
     have e1:(k:Int) - 1 = ((k - 1:Nat):Int):=by omega
     obtain ⟨p,g1⟩:∃ p,l[k - 1]? = some p:=⟨_,List.getElem?_eq_getElem (by omega)⟩
     have hp:V2 l k = p.to_:=by simp [V2,h0,g1]
     simp -implicitDefEqProofs (disch:=first|omega|(simp only [go_sem,seval,B,h1,e1,g1,Qe];first|done|omega)) only [go_sem,seval,B,h1,e1,g1,Qe]
     refine QK ?_ ?_ <;> intro hc <;> (try simp only [decide_eq_true_eq,decide_eq_false_iff_not,Classical.not_not,Bool.not_eq_true,Bool.not_eq_true',Bool.not_eq_false',Bool.false_or,Bool.or_false,Bool.true_or,Bool.or_true,Bool.false_and,Bool.and_false,Bool.true_and,Bool.and_true] at hc) <;> simp -implicitDefEqProofs (disch:=first|omega|(simp only [go_sem,seval,hc];first|done|omega)) only [go_sem,seval,hc]
     ·(first|refine pfN hM ?_ ?_|refine pf0 hM ?_ ?_)
      ·simp -implicitDefEqProofs (disch:=first|omega|(simp only [go_sem,seval];first|done|omega)) only [go_sem,seval]
       rw [hs,hd,if_pos h14,if_pos (by omega)]
      ·(simp only [go_sem,seval]<;>omega)
     ·exact again' (k + 1) ⟨by omega,by rw [hs,hd,if_pos h14,if_neg (by omega),YK h1]⟩ (by omega) rfl rfl
   ·have G:=eq_false h14
    simp -implicitDefEqProofs (disch:=first|omega|(simp only [go_sem,seval,G];first|done|omega)) only [go_sem,seval,G]
    (first|refine pfN hM ?_ ?_|refine pf0 hM ?_ ?_)
    ·simp -implicitDefEqProofs (disch:=first|omega|(simp only [go_sem,seval];first|done|omega)) only [go_sem,seval]
     rw [hs,hd,if_neg h14]
    ·(simp only [go_sem,seval]<;>omega)
  ·simp -implicitDefEqProofs (disch:=first|omega|(simp only [go_sem,seval,hlt];first|done|omega)) only [go_sem,seval,hlt]
   (first|refine pfN hM ?_ ?_|refine pf0 hM ?_ ?_)
   ·simp -implicitDefEqProofs (disch:=first|omega|(simp only [go_sem,seval];first|done|omega)) only [go_sem,seval]
    rw [hs,QbN (by omega)]
   ·(simp only [go_sem,seval]<;>omega)
theorem QaN (hX:FloorX X) (l:List Nat) (hl:l.length ≤ 1048576):Q X 125 [.fs (l.map encF)] (.I (fst0 (l.map smpE))):=by
 intro M
 (refine Qd (cf:=L4.c125) rfl rfl fun hM hA => ?_;simp only [L4.c125,zO,zF,zT,zM,CX.i];rw [mk1 _ (by decide)];simp -implicitDefEqProofs (disch:=first|omega|(simp only [go_sem,seval];first|done|omega)) only [go_sem,seval])
 refine Qm (α:=Nat) 0 (fun k => k ≤ l.length ∧ fst0 (l.map smpE) = fst0 ((l.map smpE).drop k)) (fun k => M) (fun k => [(0,.fs (l.map encF)),(3,.I k)]) (fun k => l.length - k) ⟨Nat.zero_le _,rfl⟩ rfl rfl ?_
 rintro k ⟨hk,hs⟩
 by_cases hlt:k < l.length
 ·obtain ⟨x,h1⟩:∃ x,l[k]? = some x:=⟨_,List.getElem?_eq_getElem hlt⟩
  have h2:=V4 (l.map smpE) k (smpE x) (by rw [List.getElem?_map,h1];rfl)
  simp -implicitDefEqProofs (disch:=first|omega|(simp only [go_sem,seval,hlt,h1];first|done|omega)) only [go_sem,seval,hlt,h1]
  refine Qa (Qbi hX x _) ?_
  simp -implicitDefEqProofs (disch:=first|omega|(simp only [go_sem,seval];first|done|omega)) only [go_sem,seval]
  refine QK ?_ ?_ <;> intro hc <;> (try simp only [decide_eq_true_eq,decide_eq_false_iff_not,Classical.not_not,Bool.not_eq_true,Bool.not_eq_true',Bool.not_eq_false',Bool.false_or,Bool.or_false,Bool.true_or,Bool.or_true,Bool.false_and,Bool.and_false,Bool.true_and,Bool.and_true] at hc) <;> simp -implicitDefEqProofs (disch:=first|omega|(simp only [go_sem,seval,hc];first|done|omega)) only [go_sem,seval,hc]
  ·(first|refine pfN hM ?_ ?_|refine pf0 hM ?_ ?_)
   ·simp -implicitDefEqProofs (disch:=first|omega|(simp only [go_sem,seval];first|done|omega)) only [go_sem,seval]
    rw [hs,h2,if_neg hc]
   ·(simp only [go_sem,seval]<;>omega)
  ·exact again' (k + 1) ⟨by omega,by rw [hs,h2,if_pos hc]⟩ (by omega) rfl rfl
 ·simp -implicitDefEqProofs (disch:=first|omega|(simp only [go_sem,seval,hlt];first|done|omega)) only [go_sem,seval,hlt]
  (first|refine pfN hM ?_ ?_|refine pf0 hM ?_ ?_)
  ·simp -implicitDefEqProofs (disch:=first|omega|(simp only [go_sem,seval];first|done|omega)) only [go_sem,seval]
   rw [hs,List.drop_eq_nil_of_le (by simp;omega)];rfl
  ·(simp only [go_sem,seval]<;>omega)
theorem Qc2 (l:List Spn) (n:Int) (hl:l.length ≤ 1048576):Q X 40 [.fs (l.map Qb),.I n] (.B (gapAt l n)):=by
 intro M
 (refine Qd (cf:=L4.c40) rfl rfl fun hM hA => ?_;simp only [L4.c40,zO,zF,zT,zM,CX.i];rw [mk2 _ (by decide)];simp -implicitDefEqProofs (disch:=first|omega|(simp only [go_sem,seval];first|done|omega)) only [go_sem,seval])
 refine Qm (α:=Nat) 0 (fun k => k ≤ l.length ∧ gapAt l n = gapAt (l.drop k) n) (fun k => M) (fun k => [(0,.fs (l.map Qb)),(1,.I n),(5,.I k)]) (fun k => l.length - k) ⟨Nat.zero_le _,rfl⟩ rfl rfl ?_
 rintro k ⟨hk,hs⟩
 by_cases hlt:k < l.length
 ·obtain ⟨x,h1⟩:∃ x,l[k]? = some x:=⟨_,List.getElem?_eq_getElem hlt⟩
  have hd:gapAt (l.drop k) n = (decide (x.fr ≤ n ∧ n < x.to_) || gapAt (l.drop (k + 1)) n):=by
   obtain ⟨h3,h4⟩:=List.getElem?_eq_some_iff.1 h1
   rw [List.drop_eq_getElem_cons h3,h4];rfl
  by_cases a1:x.fr ≤ n
  ·have A1:=eq_true a1
   by_cases a2:n < x.to_
   ·have A2:=eq_true a2
    simp -implicitDefEqProofs (disch:=first|omega|(simp only [go_sem,seval,hlt,h1,Qe,A1,A2];first|done|omega)) only [go_sem,seval,hlt,h1,Qe,A1,A2]
    (first|refine pfN hM ?_ ?_|refine pf0 hM ?_ ?_)
    ·simp -implicitDefEqProofs (disch:=first|omega|(simp only [go_sem,seval];first|done|omega)) only [go_sem,seval]
     rw [hs,hd];simp [a1,a2]
    ·(simp only [go_sem,seval]<;>omega)
   ·have A2:=eq_false a2
    simp -implicitDefEqProofs (disch:=first|omega|(simp only [go_sem,seval,hlt,h1,Qe,A1,A2];first|done|omega)) only [go_sem,seval,hlt,h1,Qe,A1,A2]
    exact again' (k + 1) ⟨by omega,by rw [hs,hd];simp [a2]⟩ (by omega) rfl rfl
  ·have A1:=eq_false a1
   simp -implicitDefEqProofs (disch:=first|omega|(simp only [go_sem,seval,hlt,h1,Qe,A1];first|done|omega)) only [go_sem,seval,hlt,h1,Qe,A1]
   exact again' (k + 1) ⟨by omega,by rw [hs,hd];simp [a1]⟩ (by omega) rfl rfl
 ·simp -implicitDefEqProofs (disch:=first|omega|(simp only [go_sem,seval,hlt];first|done|omega)) only [go_sem,seval,hlt]
  (first|refine pfN hM ?_ ?_|refine pf0 hM ?_ ?_)
  ·simp -implicitDefEqProofs (disch:=first|omega|(simp only [go_sem,seval];first|done|omega)) only [go_sem,seval]
   rw [hs,List.drop_eq_nil_of_le (by omega)];rfl
  ·(simp only [go_sem,seval]<;>omega)
theorem Yx (s:Ser) (hn:s.samples.length ≤ 40000) (hgl:s.gaps.length ≤ 1048576) (hg:∀ x:Spn,x ∈ s.gaps → 0 ≤ x.fr ∧ x.fr < x.to_ ∧ x.to_ ≤ s.samples.length) :
  Q X 128 [Qt s] (.fs (QQ s.samples.length s.gaps s.gaps.length)):=by
 intro M
 obtain ⟨nm,st,l,g⟩:=s
 simp only at hn hg hgl ⊢
 have hrep:=QmR l.length g
 (refine Qd (cf:=L4.c128) rfl rfl fun hM hA => ?_;simp only [L4.c128,zO,zF,zT,zM,CX.i];rw [mk1 _ (by decide)];simp -implicitDefEqProofs (disch:=first|omega|(simp only [go_sem,seval,Qg,hrep.symm];first|done|omega)) only [go_sem,seval,Qg,hrep.symm])
 have hl0:=Vy (m:=M.length) l.length g
 refine Qm (α:=Nat) 0 (fun k => k ≤ g.length) (fun k => M ++ [.row true 1 0 (QQ l.length g k)]) (fun k => [(3,.os M.length 0 0 l.length),(12,.fs (g.map Qb)),(13,.I g.length),(14,.I k)]) (fun k => g.length - k) (Nat.zero_le _) (by rw [hrep]) rfl ?_
 intro k hk
 by_cases hlt:k < g.length
 ·obtain ⟨x,h1⟩:∃ x,g[k]? = some x:=⟨_,List.getElem?_eq_getElem hlt⟩
  have hx:=hg x (List.mem_of_getElem? h1)
  obtain ⟨a,ha⟩:∃ a:Nat,x.fr = a:=⟨x.fr.toNat,by omega⟩
  obtain ⟨b,hb⟩:∃ b:Nat,x.to_ = b:=⟨x.to_.toNat,by omega⟩
  simp -implicitDefEqProofs (disch:=first|omega|(simp only [go_sem,seval,hlt,h1,Qe,ha,hb];first|done|omega)) only [go_sem,seval,hlt,h1,Qe,ha,hb]
  refine Qm (α:=Nat) a (fun j => a ≤ j ∧ j ≤ b) (fun j => M ++ [.row true 1 0 (Zz l.length g k x j),.row true 2 0 [.agg [.I a,.I b]]]) (fun j => [(3,.os M.length 0 0 l.length),(5,.op (M.length + 1) 0 0 0),(6,.I j),(12,.fs (g.map Qb)),(13,.I g.length),(14,.I k)]) (fun j => b - j) ⟨Nat.le_refl _,by omega⟩ (by rw [QlU ha]) rfl ?_
  rintro j ⟨hj1,hj2⟩
  by_cases hj:j < b
  ·have hget:=Qco (n:=l.length) (g:=g) (k:=k) (x:=x) (j:=j) (i:=j) (by omega)
   have hset:=Qq3 (n:=l.length) (g:=g) (k:=k) (x:=x) (j:=j) (by omega) (by omega)
   have hjl:j < l.length:=by omega
   have hlen:=Jk l.length g k x j
   simp -implicitDefEqProofs (disch:=first|omega|(simp only [go_sem,seval,hj,hget,hset,hjl,hlen];first|done|omega)) only [go_sem,seval,hj,hget,hset,hjl,hlen]
   exact again' (j + 1) ⟨by omega,by omega⟩ (by omega) rfl rfl
  ·simp -implicitDefEqProofs (disch:=first|omega|(simp only [go_sem,seval,hj];first|done|omega)) only [go_sem,seval,hj]
   have hjb:j = b:=by omega
   have hend:=QqY h1 (n:=l.length) hb
   subst hjb
   rw [hend]
   refine Qr hM rfl 1 (by simp) (by first|done|(simp only [go_sem,seval,Vy,Qf] <;> first|done|(refine ⟨?_,?_⟩ <;> omega)|omega)) (Qv (by first|done|(simp only [go_sem,seval,Vy,Qf] <;> first|done|(refine ⟨?_,?_⟩ <;> omega)|omega))) ?_
   simp -implicitDefEqProofs (disch:=first|omega|(simp only [go_sem,seval];first|done|omega)) only [go_sem,seval]
   exact again' (k + 1) (by omega) (by omega) rfl rfl
 ·have hk:k = g.length:=by omega
  subst hk
  have hlen:=J3 l.length g g.length
  simp -implicitDefEqProofs (disch:=first|omega|(simp only [go_sem,seval,hlen];first|done|omega)) only [go_sem,seval,hlen]
  (first|refine pfN hM ?_ ?_|refine pf0 hM ?_ ?_)
  ·simp -implicitDefEqProofs (disch:=first|omega|(simp only [go_sem,seval,hlen];first|done|omega)) only [go_sem,seval,hlen]
  ·(simp only [go_sem,seval,Vy]<;>omega)
theorem Vc (s:Ser) (hl:s.samples.length ≤ 1048576) (hgl:s.gaps.length ≤ 1048576):Q X 71 [Qt s] (.I (Ql s)):=by
 intro M
 have hS:=Qfj s
 have hmiss:=Yx (X:=X) s
 obtain ⟨nm,st,l,g⟩:=s
 simp only at hl hgl hmiss ⊢
 (refine Qd (cf:=L4.c71) rfl rfl fun hM hA => ?_;simp only [L4.c71,zO,zF,zT,zM,CX.i];rw [mk1 _ (by decide)];simp -implicitDefEqProofs (disch:=first|omega|(simp only [go_sem,seval,Qg];first|done|omega)) only [go_sem,seval,Qg])
 refine Qa (ZZ nm _) ?_
 simp -implicitDefEqProofs (disch:=first|omega|(simp only [go_sem,seval,Qg];first|done|omega)) only [go_sem,seval,Qg]
 refine Qa (Vi _ _ _ _) ?_
 simp -implicitDefEqProofs (disch:=first|omega|(simp only [go_sem,seval,Qg];first|done|omega)) only [go_sem,seval,Qg]
 refine Qa (QA _ _ _) ?_
 simp -implicitDefEqProofs (disch:=first|omega|(simp only [go_sem,seval,Qg];first|done|omega)) only [go_sem,seval,Qg]
 refine Qa (QJ [_,_,_] (by simp) _) ?_
 simp -implicitDefEqProofs (disch:=first|omega|(simp only [go_sem,seval];first|done|omega)) only [go_sem,seval]
 have hA:fst0 [if Qn nm = false then 8 else 0,rng st 0 999999999,if (40000:Int) < (l.length:Int) then 5 else 0] = serA ⟨nm,st,l,g⟩:=by
  unfold serA
  have e:((40000:Int) < (l.length:Int)) = (40000 < l.length):=propext (by omega)
  simp only [e]
 simp only [hA]
 generalize hEA:serA ⟨nm,st,l,g⟩ = eA at hS
 refine QK ?_ ?_ <;> intro hc <;> (try simp only [decide_eq_true_eq,decide_eq_false_iff_not,Classical.not_not,Bool.not_eq_true,Bool.not_eq_true',Bool.not_eq_false',Bool.false_or,Bool.or_false,Bool.true_or,Bool.or_true,Bool.false_and,Bool.and_false,Bool.true_and,Bool.and_true] at hc) <;> simp -implicitDefEqProofs (disch:=first|omega|(simp only [go_sem,seval,hc];first|done|omega)) only [go_sem,seval,hc]
 ·(first|refine pfN hM ?_ ?_|refine pf0 hM ?_ ?_)
  ·simp -implicitDefEqProofs (disch:=first|omega|(simp only [go_sem,seval];first|done|omega)) only [go_sem,seval]
   rw [hS,if_neg hc]
  ·(simp only [go_sem,seval]<;>omega)
 have hc0:eA = 0:=by simpa using hc
 rw [if_pos hc0] at hS
 rw [hc0] at hEA
 obtain ⟨hn1,hn2,hn3⟩:=QmB hEA
 simp only at hn1 hn2 hn3
 clear hA hEA hn1 hn2
 refine Qm (α:=Nat) 0 (fun k => k ≤ l.length ∧ fst0 (l.map smpE) = fst0 ((l.map smpE).drop k)) (fun k => M) (fun k => [(1,.fp [.s (.string nm),.I st,.fs (l.map encF),.fs (g.map Qb)]),(28,.fs (l.map encF)),(29,.I l.length),(30,.I k)]) (fun k => l.length - k) ⟨Nat.zero_le _,rfl⟩ rfl rfl ?_
 rintro k ⟨hk,hs⟩
 by_cases hlt:k < l.length
 ·obtain ⟨x,h1⟩:∃ x,l[k]? = some x:=⟨_,List.getElem?_eq_getElem hlt⟩
  have h2:=V4 (l.map smpE) k (smpE x) (by rw [List.getElem?_map,h1];rfl)
  simp -implicitDefEqProofs (disch:=first|omega|(simp only [go_sem,seval,hlt,h1];first|done|omega)) only [go_sem,seval,hlt,h1]
  refine Qa (Y7 x _) ?_
  simp -implicitDefEqProofs (disch:=first|omega|(simp only [go_sem,seval];first|done|omega)) only [go_sem,seval]
  refine QK ?_ ?_ <;> intro hc <;> (try simp only [decide_eq_true_eq,decide_eq_false_iff_not,Classical.not_not,Bool.not_eq_true,Bool.not_eq_true',Bool.not_eq_false',Bool.false_or,Bool.or_false,Bool.true_or,Bool.or_true,Bool.false_and,Bool.and_false,Bool.true_and,Bool.and_true] at hc) <;> simp -implicitDefEqProofs (disch:=first|omega|(simp only [go_sem,seval,hc];first|done|omega)) only [go_sem,seval,hc]
  ·(first|refine pfN hM ?_ ?_|refine pf0 hM ?_ ?_)
   ·simp -implicitDefEqProofs (disch:=first|omega|(simp only [go_sem,seval];first|done|omega)) only [go_sem,seval]
    rw [hS]
    have:fst0 (l.map smpE) = smpE x:=by rw [hs,h2,if_neg hc]
    unfold serB
    simp only
    rw [if_pos (by rw [this];exact hc),this]
   ·(simp only [go_sem,seval]<;>omega)
  ·exact again' (k + 1) ⟨by omega,by rw [hs,h2,if_pos (by simpa using hc)]⟩ (by omega) rfl rfl
 have hF:fst0 (l.map smpE) = 0:=by rw [hs,List.drop_eq_nil_of_le (by simp;omega)];rfl
 have hB:Ql ⟨nm,st,l,g⟩ = if ¬ Qp g = 0 then Qp g else if ¬ Vf l g = 0 then 14 else Vw l g:=by
  rw [hS];unfold serB;simp only;rw [if_neg (by rw [hF];simp)]
 clear hs hS hF
 simp -implicitDefEqProofs (disch:=first|omega|(simp only [go_sem,seval,hlt,Qg];first|done|omega)) only [go_sem,seval,hlt,Qg]
 refine Qa (VW g hgl _) ?_
 simp -implicitDefEqProofs (disch:=first|omega|(simp only [go_sem,seval];first|done|omega)) only [go_sem,seval]
 refine QK ?_ ?_ <;> intro hc <;> (try simp only [decide_eq_true_eq,decide_eq_false_iff_not,Classical.not_not,Bool.not_eq_true,Bool.not_eq_true',Bool.not_eq_false',Bool.false_or,Bool.or_false,Bool.true_or,Bool.or_true,Bool.false_and,Bool.and_false,Bool.true_and,Bool.and_true] at hc) <;> simp -implicitDefEqProofs (disch:=first|omega|(simp only [go_sem,seval,hc];first|done|omega)) only [go_sem,seval,hc]
 ·(first|refine pfN hM ?_ ?_|refine pf0 hM ?_ ?_)
  ·simp -implicitDefEqProofs (disch:=first|omega|(simp only [go_sem,seval];first|done|omega)) only [go_sem,seval]
   rw [hB,if_pos hc]
  ·(simp only [go_sem,seval]<;>omega)
 have hcs:Qp g = 0:=by simpa using hc
 rw [if_neg (by simpa using hcs)] at hB
 have tail:Vf l g = 0 → (∀ x:Spn,x ∈ g → 0 ≤ x.fr ∧ x.fr < x.to_ ∧ x.to_ ≤ l.length):=Qi9 hcs
 by_cases hg0:g = []
 ·have hL:Vf l g = 0:=by rw [hg0];exact QcQ
  have hB2:Ql ⟨nm,st,l,g⟩ = Vw l g:=by rw [hB,hL];simp
  have ht:=tail hL
  have Z:((0:Int) < (g.length:Int)) = False:=eq_false (by rw [hg0];simp)
  simp -implicitDefEqProofs (disch:=first|omega|(simp only [go_sem,seval,Z,Qg];first|done|omega)) only [go_sem,seval,Z,Qg]
  refine Qa (hmiss hn3 hgl ht _) ?_
  have hlen:=J3 l.length g g.length
  simp -implicitDefEqProofs (disch:=first|omega|(simp only [go_sem,seval,hlen];first|done|omega)) only [go_sem,seval,hlen]
  refine Qm (α:=Nat) 0 (fun k => k ≤ l.length ∧ Ya l g k) (fun k => M) (fun k => [(1,.fp [.s (.string nm),.I st,.fs (l.map encF),.fs (g.map Qb)]),(65,.fs (QQ l.length g g.length)),(66,.I l.length),(67,.I k)]) (fun k => l.length - k) ⟨Nat.zero_le _,Yp l g⟩ rfl rfl ?_
  rintro k ⟨hk,hs⟩
  by_cases hlt:k < l.length
  ·obtain ⟨x,h1⟩:∃ x,l[k]? = some x:=⟨_,List.getElem?_eq_getElem hlt⟩
   have hget:=QaK (n:=l.length) (g:=g) (k:=g.length) (i:=k) hlt
   rw [List.take_length] at hget
   have F:=s_nz (x:=x)
   by_cases hga:gapAt g k = true
   ·by_cases hnz:nz x = true
    ·simp -implicitDefEqProofs (disch:=first|omega|(simp only [go_sem,seval,hlt,hget,h1,hga,F,hnz];first|done|omega)) only [go_sem,seval,hlt,hget,h1,hga,F,hnz]
     (first|refine pfN hM ?_ ?_|refine pf0 hM ?_ ?_)
     ·simp -implicitDefEqProofs (disch:=first|omega|(simp only [go_sem,seval];first|done|omega)) only [go_sem,seval]
      rw [hB2,Jh h1 hnz hga]
     ·(simp only [go_sem,seval]<;>omega)
    ·have hnz:nz x = false:=by simpa using hnz
     simp -implicitDefEqProofs (disch:=first|omega|(simp only [go_sem,seval,hlt,hget,h1,hga,F,hnz];first|done|omega)) only [go_sem,seval,hlt,hget,h1,hga,F,hnz]
     exact again' (k + 1) ⟨by omega,Vs hs h1 (by rw [hnz];rfl)⟩ (by omega) rfl rfl
   ·have hga:gapAt g k = false:=by simpa using hga
    simp -implicitDefEqProofs (disch:=first|omega|(simp only [go_sem,seval,hlt,hget,h1,hga];first|done|omega)) only [go_sem,seval,hlt,hget,h1,hga]
    exact again' (k + 1) ⟨by omega,Vs hs h1 (by rw [hga,Bool.and_false])⟩ (by omega) rfl rfl
  ·simp -implicitDefEqProofs (disch:=first|omega|(simp only [go_sem,seval,hlt];first|done|omega)) only [go_sem,seval,hlt]
   (first|refine pfN hM ?_ ?_|refine pf0 hM ?_ ?_)
   ·simp -implicitDefEqProofs (disch:=first|omega|(simp only [go_sem,seval];first|done|omega)) only [go_sem,seval]
    rw [hB2,YM hs (by omega)]
   ·(simp only [go_sem,seval]<;>omega)
 ·have hglen:0 < g.length:=List.length_pos_iff.2 hg0
  obtain ⟨z,hz⟩:∃ z,g[g.length - 1]? = some z:=⟨_,List.getElem?_eq_getElem (by omega)⟩
  have Z:((0:Int) < (g.length:Int)) = True:=eq_true (by omega)
  have e1:(g.length:Int) - 1 = ((g.length - 1:Nat):Int):=by omega
  have hL:=Qcd (l:=l) hz
  by_cases hzl:(l.length:Int) < z.to_
  ·have G:=eq_true hzl
   simp -implicitDefEqProofs (disch:=first|omega|(simp only [go_sem,seval,Z,e1,hz,Qe,G];first|done|omega)) only [go_sem,seval,Z,e1,hz,Qe,G]
   (first|refine pfN hM ?_ ?_|refine pf0 hM ?_ ?_)
   ·simp -implicitDefEqProofs (disch:=first|omega|(simp only [go_sem,seval];first|done|omega)) only [go_sem,seval]
    rw [hB,hL,if_pos hzl];simp
   ·(simp only [go_sem,seval]<;>omega)
  ·have G:=eq_false hzl
   rw [if_neg hzl] at hL
   have hB2:Ql ⟨nm,st,l,g⟩ = Vw l g:=by rw [hB,hL];simp
   have ht:=tail hL
   simp -implicitDefEqProofs (disch:=first|omega|(simp only [go_sem,seval,Z,e1,hz,Qe,G,Qg];first|done|omega)) only [go_sem,seval,Z,e1,hz,Qe,G,Qg]
   refine Qa (hmiss hn3 hgl ht _) ?_
   have hlen:=J3 l.length g g.length
   simp -implicitDefEqProofs (disch:=first|omega|(simp only [go_sem,seval,hlen];first|done|omega)) only [go_sem,seval,hlen]
   refine Qm (α:=Nat) 0 (fun k => k ≤ l.length ∧ Ya l g k) (fun k => M) (fun k => [(1,.fp [.s (.string nm),.I st,.fs (l.map encF),.fs (g.map Qb)]),(65,.fs (QQ l.length g g.length)),(66,.I l.length),(67,.I k)]) (fun k => l.length - k) ⟨Nat.zero_le _,Yp l g⟩ rfl rfl ?_
   rintro k ⟨hk,hs⟩
   by_cases hlt:k < l.length
   ·obtain ⟨x,h1⟩:∃ x,l[k]? = some x:=⟨_,List.getElem?_eq_getElem hlt⟩
    have hget:=QaK (n:=l.length) (g:=g) (k:=g.length) (i:=k) hlt
    rw [List.take_length] at hget
    have F:=s_nz (x:=x)
    by_cases hga:gapAt g k = true
    ·by_cases hnz:nz x = true
     ·simp -implicitDefEqProofs (disch:=first|omega|(simp only [go_sem,seval,hlt,hget,h1,hga,F,hnz];first|done|omega)) only [go_sem,seval,hlt,hget,h1,hga,F,hnz]
      (first|refine pfN hM ?_ ?_|refine pf0 hM ?_ ?_)
      ·simp -implicitDefEqProofs (disch:=first|omega|(simp only [go_sem,seval];first|done|omega)) only [go_sem,seval]
       rw [hB2,Jh h1 hnz hga]
      ·(simp only [go_sem,seval]<;>omega)
     ·have hnz:nz x = false:=by simpa using hnz
      simp -implicitDefEqProofs (disch:=first|omega|(simp only [go_sem,seval,hlt,hget,h1,hga,F,hnz];first|done|omega)) only [go_sem,seval,hlt,hget,h1,hga,F,hnz]
      exact again' (k + 1) ⟨by omega,Vs hs h1 (by rw [hnz];rfl)⟩ (by omega) rfl rfl
    ·have hga:gapAt g k = false:=by simpa using hga
     simp -implicitDefEqProofs (disch:=first|omega|(simp only [go_sem,seval,hlt,hget,h1,hga];first|done|omega)) only [go_sem,seval,hlt,hget,h1,hga]
     exact again' (k + 1) ⟨by omega,Vs hs h1 (by rw [hga,Bool.and_false])⟩ (by omega) rfl rfl
   ·simp -implicitDefEqProofs (disch:=first|omega|(simp only [go_sem,seval,hlt];first|done|omega)) only [go_sem,seval,hlt]
    (first|refine pfN hM ?_ ?_|refine pf0 hM ?_ ?_)
    ·simp -implicitDefEqProofs (disch:=first|omega|(simp only [go_sem,seval];first|done|omega)) only [go_sem,seval]
     rw [hB2,YM hs (by omega)]
    ·(simp only [go_sem,seval]<;>omega)
theorem QbJ (xs:List PV) (n:Int):Q X 18 [.fs xs,.I n] (.B (decide ((xs.length:Int) ≤ n) || decide (xs.length = 1025))):=by
 intro M
 by_cases h1:(xs.length:Int) ≤ n
 ·have A:=eq_true h1
  (refine Qd (cf:=L4.c18) rfl rfl fun hM hA => ?_;simp only [L4.c18,zO,zF,zT,zM,CX.i];rw [mk2 _ (by decide)];simp -implicitDefEqProofs (disch:=first|omega|(simp only [go_sem,seval,A];first|done|omega)) only [go_sem,seval,A])
  (first|refine pfN hM ?_ ?_|refine pf0 hM ?_ ?_)
  ·simp -implicitDefEqProofs (disch:=first|omega|(simp only [go_sem,seval];first|done|omega)) only [go_sem,seval]
  ·(simp only [go_sem,seval]<;>omega)
 ·have A:=eq_false h1
  (refine Qd (cf:=L4.c18) rfl rfl fun hM hA => ?_;simp only [L4.c18,zO,zF,zT,zM,CX.i];rw [mk2 _ (by decide)];simp -implicitDefEqProofs (disch:=first|omega|(simp only [go_sem,seval,A];first|done|omega)) only [go_sem,seval,A])
  (first|refine pfN hM ?_ ?_|refine pf0 hM ?_ ?_)
  ·simp -implicitDefEqProofs (disch:=first|omega|(simp only [go_sem,seval];first|done|omega)) only [go_sem,seval]
   exact congrArg PV.B (decide_eq_decide.2 (by omega))
  ·(simp only [go_sem,seval]<;>omega)
def Js (s:Ser):Bool:=decide (s.name.size ≤ 60) && (decide (s.samples.length ≤ 96) || decide (s.samples.length = 40001)) && (decide (s.gaps.length ≤ 8) || decide (s.gaps.length = 1025))
theorem QfT (s:Ser):Q X 63 [Qt s] (.B (Js s)):=by
 intro M
 obtain ⟨nm,st,l,g⟩:=s
 unfold Js
 simp only
 have hS:=QbJ (X:=X) (g.map Qb) 8
 by_cases h1:nm.size ≤ 60
 ·have A:((nm.size:Int) ≤ 60) = True:=eq_true (by omega)
  by_cases h2:l.length ≤ 96
  ·have B:((l.length:Int) ≤ 96) = True:=eq_true (by omega)
   (refine Qd (cf:=L4.c63) rfl rfl fun hM hA => ?_;simp only [L4.c63,zO,zF,zT,zM,CX.i];rw [mk1 _ (by decide)];simp -implicitDefEqProofs (disch:=first|omega|(simp only [go_sem,seval,Qg,A,B];first|done|omega)) only [go_sem,seval,Qg,A,B])
   refine Qa (hS _) ?_
   simp -implicitDefEqProofs (disch:=first|omega|(simp only [go_sem,seval];first|done|omega)) only [go_sem,seval]
   (first|refine pfN hM ?_ ?_|refine pf0 hM ?_ ?_)
   ·simp -implicitDefEqProofs (disch:=first|omega|(simp only [go_sem,seval];first|done|omega)) only [go_sem,seval]
    simp [h1,h2]
    congr 1
    ·exact decide_eq_decide.2 (by omega)
   ·(simp only [go_sem,seval]<;>omega)
  ·have B:((l.length:Int) ≤ 96) = False:=eq_false (by omega)
   by_cases h3:l.length = 40001
   ·have C:((l.length:Int) = 40001) = True:=eq_true (by omega)
    (refine Qd (cf:=L4.c63) rfl rfl fun hM hA => ?_;simp only [L4.c63,zO,zF,zT,zM,CX.i];rw [mk1 _ (by decide)];simp -implicitDefEqProofs (disch:=first|omega|(simp only [go_sem,seval,Qg,A,B,C];first|done|omega)) only [go_sem,seval,Qg,A,B,C])
    refine Qa (hS _) ?_
    simp -implicitDefEqProofs (disch:=first|omega|(simp only [go_sem,seval];first|done|omega)) only [go_sem,seval]
    (first|refine pfN hM ?_ ?_|refine pf0 hM ?_ ?_)
    ·simp -implicitDefEqProofs (disch:=first|omega|(simp only [go_sem,seval];first|done|omega)) only [go_sem,seval]
     simp [h1,h2,h3]
     congr 1
     ·exact decide_eq_decide.2 (by omega)
    ·(simp only [go_sem,seval]<;>omega)
   ·have C:((l.length:Int) = 40001) = False:=eq_false (by omega)
    (refine Qd (cf:=L4.c63) rfl rfl fun hM hA => ?_;simp only [L4.c63,zO,zF,zT,zM,CX.i];rw [mk1 _ (by decide)];simp -implicitDefEqProofs (disch:=first|omega|(simp only [go_sem,seval,Qg,A,B,C];first|done|omega)) only [go_sem,seval,Qg,A,B,C])
    (first|refine pfN hM ?_ ?_|refine pf0 hM ?_ ?_)
    ·simp -implicitDefEqProofs (disch:=first|omega|(simp only [go_sem,seval];first|done|omega)) only [go_sem,seval]
     simp [h1,h2,h3]
    ·(simp only [go_sem,seval]<;>omega)
 ·have A:((nm.size:Int) ≤ 60) = False:=eq_false (by omega)
  (refine Qd (cf:=L4.c63) rfl rfl fun hM hA => ?_;simp only [L4.c63,zO,zF,zT,zM,CX.i];rw [mk1 _ (by decide)];simp -implicitDefEqProofs (disch:=first|omega|(simp only [go_sem,seval,Qg,A];first|done|omega)) only [go_sem,seval,Qg,A])
  (first|refine pfN hM ?_ ?_|refine pf0 hM ?_ ?_)
  ·simp -implicitDefEqProofs (disch:=first|omega|(simp only [go_sem,seval];first|done|omega)) only [go_sem,seval]
   simp [h1]
  ·(simp only [go_sem,seval]<;>omega)
theorem Qbh (hX:FloorX X) (s:Ser) (hl:s.samples.length ≤ 1048576) (hgl:s.gaps.length ≤ 1048576):Q X 67 [Qt s] (.I (Ql s)):=by
 intro M
 have hS:Ql s = if Qn s.name = false then 8 else if ¬ rng s.start 0 999999999 = 0 then 3 else if 40000 < s.samples.length then 5 else serB s:=rfl
 obtain ⟨nm,st,l,g⟩:=s
 simp only at hl hgl hS ⊢
 (refine Qd (cf:=L4.c67) rfl rfl fun hM hA => ?_;simp only [L4.c67,zO,zF,zT,zM,CX.i];rw [mk1 _ (by decide)];simp -implicitDefEqProofs (disch:=first|omega|(simp only [go_sem,seval,Qg];first|done|omega)) only [go_sem,seval,Qg])
 refine Qa (YD nm _) ?_
 by_cases hn:Qn nm = true
 ·simp -implicitDefEqProofs (disch:=first|omega|(simp only [go_sem,seval,hn,Qg];first|done|omega)) only [go_sem,seval,hn,Qg]
  refine Qa (VM _ _ _ _) ?_
  by_cases hr:rng st 0 999999999 = 0
  ·have G:=eq_true hr
   simp -implicitDefEqProofs (disch:=first|omega|(simp only [go_sem,seval,G,Qg];first|done|omega)) only [go_sem,seval,G,Qg]
   refine QK ?_ ?_ <;> intro hc <;> (try simp only [decide_eq_true_eq,decide_eq_false_iff_not,Classical.not_not,Bool.not_eq_true,Bool.not_eq_true',Bool.not_eq_false',Bool.false_or,Bool.or_false,Bool.true_or,Bool.or_true,Bool.false_and,Bool.and_false,Bool.true_and,Bool.and_true] at hc) <;> simp -implicitDefEqProofs (disch:=first|omega|(simp only [go_sem,seval,hc];first|done|omega)) only [go_sem,seval,hc]
   ·(first|refine pfN hM ?_ ?_|refine pf0 hM ?_ ?_)
    ·simp -implicitDefEqProofs (disch:=first|omega|(simp only [go_sem,seval];first|done|omega)) only [go_sem,seval]
     rw [hS,if_neg (by simp [hn]),if_neg (by simp [hr]),if_pos (by omega)]
    ·(simp only [go_sem,seval]<;>omega)
   have hS2:Ql ⟨nm,st,l,g⟩ = serB ⟨nm,st,l,g⟩:=by rw [hS,if_neg (by simp [hn]),if_neg (by simp [hr]),if_neg (by omega)]
   have hn3:l.length ≤ 40000:=by omega
   clear hS
   refine Qa (QaN hX l (by omega) _) ?_
   simp -implicitDefEqProofs (disch:=first|omega|(simp only [go_sem,seval,Qg];first|done|omega)) only [go_sem,seval,Qg]
   refine Qa (QbO g (by omega) _) ?_
   simp -implicitDefEqProofs (disch:=first|omega|(simp only [go_sem,seval];first|done|omega)) only [go_sem,seval]
   refine Qa (Qba [_,_] (by simp) _) ?_
   simp -implicitDefEqProofs (disch:=first|omega|(simp only [go_sem,seval];first|done|omega)) only [go_sem,seval]
   have hB:serB ⟨nm,st,l,g⟩ = if fst0 [fst0 (l.map smpE),Qp g] = 0 then (if ¬ Vf l g = 0 then 14 else Vw l g) else fst0 [fst0 (l.map smpE),Qp g]:=by
    unfold serB
    simp only [fst0]
    by_cases h1:fst0 (l.map smpE) = 0 <;> by_cases h2:Qp g = 0 <;> simp [h1,h2]
   rw [hB] at hS2
   have hcs:fst0 [fst0 (l.map smpE),Qp g] = 0 → Qp g = 0:=by
    simp only [fst0]
    by_cases h1:fst0 (l.map smpE) = 0 <;> by_cases h2:Qp g = 0 <;> simp [h1,h2]
   clear hB
   generalize fst0 [fst0 (l.map smpE),Qp g] = eB at hS2 hcs ⊢
   refine QK ?_ ?_ <;> intro hc <;> (try simp only [decide_eq_true_eq,decide_eq_false_iff_not,Classical.not_not,Bool.not_eq_true,Bool.not_eq_true',Bool.not_eq_false',Bool.false_or,Bool.or_false,Bool.true_or,Bool.or_true,Bool.false_and,Bool.and_false,Bool.true_and,Bool.and_true] at hc) <;> simp -implicitDefEqProofs (disch:=first|omega|(simp only [go_sem,seval,hc];first|done|omega)) only [go_sem,seval,hc]
   ·(first|refine pfN hM ?_ ?_|refine pf0 hM ?_ ?_)
    ·simp -implicitDefEqProofs (disch:=first|omega|(simp only [go_sem,seval];first|done|omega)) only [go_sem,seval]
     rw [hS2,if_neg hc]
    ·(simp only [go_sem,seval]<;>omega)
   have hc0:eB = 0:=by simpa using hc
   rw [if_pos hc0] at hS2
   clear hcs hc
   by_cases hg0:g = []
   ·have hL:Vf l g = 0:=by rw [hg0];exact QcQ
    have hB2:Ql ⟨nm,st,l,g⟩ = Vw l g:=by rw [hS2,hL];simp
    have Z:((0:Int) < (g.length:Int)) = False:=eq_false (by rw [hg0];simp)
    simp -implicitDefEqProofs (disch:=first|omega|(simp only [go_sem,seval,Z,Qg];first|done|omega)) only [go_sem,seval,Z,Qg]
    refine Qm (α:=Nat) 0 (fun k => k ≤ l.length ∧ Ya l g k) (fun k => M) (fun k => [(1,.fp [.s (.string nm),.I st,.fs (l.map encF),.fs (g.map Qb)]),(4,.I k)]) (fun k => l.length - k) ⟨Nat.zero_le _,Yp l g⟩ rfl rfl ?_
    rintro k ⟨hk,hs⟩
    by_cases hlt:k < l.length
    ·obtain ⟨x,h1⟩:∃ x,l[k]? = some x:=⟨_,List.getElem?_eq_getElem hlt⟩
     have F:=s_nz (x:=x)
     by_cases hnz:nz x = true
     ·simp -implicitDefEqProofs (disch:=first|omega|(simp only [go_sem,seval,hlt,h1,F,hnz];first|done|omega)) only [go_sem,seval,hlt,h1,F,hnz]
      refine Qa (Qc2 g k hgl _) ?_
      by_cases hga:gapAt g k = true
      ·simp -implicitDefEqProofs (disch:=first|omega|(simp only [go_sem,seval,hga];first|done|omega)) only [go_sem,seval,hga]
       (first|refine pfN hM ?_ ?_|refine pf0 hM ?_ ?_)
       ·simp -implicitDefEqProofs (disch:=first|omega|(simp only [go_sem,seval];first|done|omega)) only [go_sem,seval]
        rw [hB2,Jh h1 hnz hga]
       ·(simp only [go_sem,seval]<;>omega)
      ·have hga:gapAt g k = false:=by simpa using hga
       simp -implicitDefEqProofs (disch:=first|omega|(simp only [go_sem,seval,hga];first|done|omega)) only [go_sem,seval,hga]
       exact again' (k + 1) ⟨by omega,Vs hs h1 (by rw [hga,Bool.and_false])⟩ (by omega) rfl rfl
     ·have hnz:nz x = false:=by simpa using hnz
      simp -implicitDefEqProofs (disch:=first|omega|(simp only [go_sem,seval,hlt,h1,F,hnz];first|done|omega)) only [go_sem,seval,hlt,h1,F,hnz]
      exact again' (k + 1) ⟨by omega,Vs hs h1 (by rw [hnz];rfl)⟩ (by omega) rfl rfl
    ·simp -implicitDefEqProofs (disch:=first|omega|(simp only [go_sem,seval,hlt];first|done|omega)) only [go_sem,seval,hlt]
     (first|refine pfN hM ?_ ?_|refine pf0 hM ?_ ?_)
     ·simp -implicitDefEqProofs (disch:=first|omega|(simp only [go_sem,seval];first|done|omega)) only [go_sem,seval]
      rw [hB2,YM hs (by omega)]
     ·(simp only [go_sem,seval]<;>omega)
   ·have hglen:0 < g.length:=List.length_pos_iff.2 hg0
    obtain ⟨z,hz⟩:∃ z,g[g.length - 1]? = some z:=⟨_,List.getElem?_eq_getElem (by omega)⟩
    have Z:((0:Int) < (g.length:Int)) = True:=eq_true (by omega)
    have e1:(g.length:Int) - 1 = ((g.length - 1:Nat):Int):=by omega
    have hL:=Qcd (l:=l) hz
    by_cases hzl:(l.length:Int) < z.to_
    ·have G2:=eq_true hzl
     simp -implicitDefEqProofs (disch:=first|omega|(simp only [go_sem,seval,Z,e1,hz,Qe,G2];first|done|omega)) only [go_sem,seval,Z,e1,hz,Qe,G2]
     (first|refine pfN hM ?_ ?_|refine pf0 hM ?_ ?_)
     ·simp -implicitDefEqProofs (disch:=first|omega|(simp only [go_sem,seval];first|done|omega)) only [go_sem,seval]
      rw [hS2,hL,if_pos hzl];simp
     ·(simp only [go_sem,seval]<;>omega)
    ·have G2:=eq_false hzl
     rw [if_neg hzl] at hL
     have hB2:Ql ⟨nm,st,l,g⟩ = Vw l g:=by rw [hS2,hL];simp
     simp -implicitDefEqProofs (disch:=first|omega|(simp only [go_sem,seval,Z,e1,hz,Qe,G2,Qg];first|done|omega)) only [go_sem,seval,Z,e1,hz,Qe,G2,Qg]
     refine Qm (α:=Nat) 0 (fun k => k ≤ l.length ∧ Ya l g k) (fun k => M) (fun k => [(1,.fp [.s (.string nm),.I st,.fs (l.map encF),.fs (g.map Qb)]),(4,.I k)]) (fun k => l.length - k) ⟨Nat.zero_le _,Yp l g⟩ rfl rfl ?_
     rintro k ⟨hk,hs⟩
     by_cases hlt:k < l.length
     ·obtain ⟨x,h1⟩:∃ x,l[k]? = some x:=⟨_,List.getElem?_eq_getElem hlt⟩
      have F:=s_nz (x:=x)
      by_cases hnz:nz x = true
      ·simp -implicitDefEqProofs (disch:=first|omega|(simp only [go_sem,seval,hlt,h1,F,hnz];first|done|omega)) only [go_sem,seval,hlt,h1,F,hnz]
       refine Qa (Qc2 g k hgl _) ?_
       by_cases hga:gapAt g k = true
       ·simp -implicitDefEqProofs (disch:=first|omega|(simp only [go_sem,seval,hga];first|done|omega)) only [go_sem,seval,hga]
        (first|refine pfN hM ?_ ?_|refine pf0 hM ?_ ?_)
        ·simp -implicitDefEqProofs (disch:=first|omega|(simp only [go_sem,seval];first|done|omega)) only [go_sem,seval]
         rw [hB2,Jh h1 hnz hga]
        ·(simp only [go_sem,seval]<;>omega)
       ·have hga:gapAt g k = false:=by simpa using hga
        simp -implicitDefEqProofs (disch:=first|omega|(simp only [go_sem,seval,hga];first|done|omega)) only [go_sem,seval,hga]
        exact again' (k + 1) ⟨by omega,Vs hs h1 (by rw [hga,Bool.and_false])⟩ (by omega) rfl rfl
      ·have hnz:nz x = false:=by simpa using hnz
       simp -implicitDefEqProofs (disch:=first|omega|(simp only [go_sem,seval,hlt,h1,F,hnz];first|done|omega)) only [go_sem,seval,hlt,h1,F,hnz]
       exact again' (k + 1) ⟨by omega,Vs hs h1 (by rw [hnz];rfl)⟩ (by omega) rfl rfl
     ·simp -implicitDefEqProofs (disch:=first|omega|(simp only [go_sem,seval,hlt];first|done|omega)) only [go_sem,seval,hlt]
      (first|refine pfN hM ?_ ?_|refine pf0 hM ?_ ?_)
      ·simp -implicitDefEqProofs (disch:=first|omega|(simp only [go_sem,seval];first|done|omega)) only [go_sem,seval]
       rw [hB2,YM hs (by omega)]
      ·(simp only [go_sem,seval]<;>omega)
  ·have G:=eq_false hr
   simp -implicitDefEqProofs (disch:=first|omega|(simp only [go_sem,seval,G];first|done|omega)) only [go_sem,seval,G]
   (first|refine pfN hM ?_ ?_|refine pf0 hM ?_ ?_)
   ·simp -implicitDefEqProofs (disch:=first|omega|(simp only [go_sem,seval];first|done|omega)) only [go_sem,seval]
    rw [hS,if_neg (by simp [hn]),if_pos hr]
   ·(simp only [go_sem,seval]<;>omega)
 ·have hn:Qn nm = false:=by simpa using hn
  simp -implicitDefEqProofs (disch:=first|omega|(simp only [go_sem,seval,hn];first|done|omega)) only [go_sem,seval,hn]
  (first|refine pfN hM ?_ ?_|refine pf0 hM ?_ ?_)
  ·simp -implicitDefEqProofs (disch:=first|omega|(simp only [go_sem,seval];first|done|omega)) only [go_sem,seval]
   rw [hS,if_pos hn]
  ·(simp only [go_sem,seval]<;>omega)
end
end Go.Nac.L4
