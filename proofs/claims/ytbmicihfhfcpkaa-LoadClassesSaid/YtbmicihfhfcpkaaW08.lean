import Derived.Test.YtbmicihfhfcpkaaW07
set_option linter.unusedSimpArgs false
set_option linter.unusedVariables false
set_option linter.unnecessarySimpa false
set_option maxRecDepth 10000
namespace Go.Nac.L9
attribute [local congr] QaZ Ye Qbc Jh Je YR Qbi Qbj
section
variable {X:XRel}
theorem ZR (l:List Rev) (hl:l.length ≤ 1000000) (hs:∀ c ∈ l,QG c):Q X 63 [.fs (l.map Qd)] (.tup [.fs ((QD l).1.map Qn),.fs ((QD l).2.reverse.map Qd)]):=by
 intro M
 (refine Qe (cf:=L9.c63) rfl rfl fun hM hA => ?_;simp only [L9.c63,zO,zF,zT,zM,CX.i];rw [mk1 _ (by decide)];simp -implicitDefEqProofs (disch:=first|omega|(simp only [go_sem,seval];first|done|omega)) only [go_sem,seval])
 refine Qm (α:=Nat × Nat) (0,0) (fun q => q.1 ≤ l.length) (fun q => M ++ [.row true 4 (QD (l.take q.1)).1.length ((QD (l.take q.1)).1.map Qn),.row true 2 q.2 ((QD (l.take q.1)).2.reverse.map Qd)])
  (fun q => [(4,.os M.length (QD (l.take q.1)).1.length 0 (QD (l.take q.1)).1.length),(5,.os (M.length + 1) q.2 0 (QD (l.take q.1)).2.length),(13,.fs (l.map Qd)),(14,.I l.length),(15,.I q.1)]) (fun q => l.length - q.1) (Nat.zero_le _) rfl rfl ?_
 rintro ⟨k,v⟩ hk
 simp only at hk ⊢
 have hclen:=Qaa (l.take k)
 rw [List.length_take] at hclen
 by_cases hlt:k < l.length
 ·obtain ⟨x,h1⟩:∃ x,l[k]? = some x:=⟨_,List.getElem?_eq_getElem hlt⟩
  have hs1:=Qgj h1
  have hsm:=Qf6 (k:=k) hs
  generalize QD (l.take k) = s at hs1 hsm hclen ⊢
  obtain ⟨cs,st⟩:=s
  simp only at hs1 hsm hclen ⊢
  have hx:(st.reverse.map Qd ++ [PV.agg [.I x.at_,.I x.ld]]) = ((x :: st).reverse.map Qd):=by simp [Qd]
  have hsx:∀ c ∈ x :: st,QG c:=fun c hc => by
   rcases List.mem_cons.1 hc with rfl|hc
   ·exact hs c (List.mem_of_getElem? h1)
   ·exact hsm c hc
  simp -implicitDefEqProofs (disch:=first|omega|(simp only [go_sem,seval,hlt,h1,Qa,hx];first|done|omega)) only [go_sem,seval,hlt,h1,Qa,hx]
  generalize hJ:Blk.row true 2 0 [PV.agg [.I x.at_,.I x.ld]] = J
  have hJl:∀ n,J.low n:=by intro n;rw [← hJ];(simp only [go_sem,seval,Qf]<;>omega)
  refine Qm (α:=List Cyc × List Rev × Nat) (cs,x :: st,v + 1) (fun p => 2 * p.1.length + p.2.1.length = 2 * cs.length + st.length + 1 ∧ (∀ c ∈ p.2.1,QG c) ∧ Vt (cs,st) x = (p.1 ++ (drain p.2.1).1,(drain p.2.1).2))
   (fun p => M ++ [.row true 4 p.1.length (p.1.map Qn),.row true 2 p.2.2 (p.2.1.reverse.map Qd),J]) (fun p => [(4,.os M.length p.1.length 0 p.1.length),(5,.os (M.length + 1) p.2.2 0 p.2.1.length),(13,.fs (l.map Qd)),(14,.I l.length),(15,.I k)]) (fun p => p.2.1.length) ⟨by simp;omega,hsx,rfl⟩ rfl rfl ?_
  rintro ⟨acc,s,u⟩ ⟨hlen,hsm2,hcs⟩
  simp only at hlen hsm2 hcs ⊢
  clear hsx hx hJ
  by_cases h4:4 ≤ s.length
  ·have f4:(4:Int) ≤ s.length:=by omega
   obtain ⟨p,a,b,c,d,hp⟩:=last4 (l:=s.reverse) (by simpa using h4)
   obtain ⟨r,hr⟩:∃ r,s = d :: c :: b :: a :: r:=⟨p.reverse,by have:=congrArg List.reverse hp;simpa using this⟩
   have hpr:p = r.reverse:=by rw [hr] at hp;simpa using hp.symm
   subst hpr
   obtain ⟨g1,g2,g3,g4⟩:=get4 r.reverse a b c d
   rw [← hp,List.length_reverse] at g1 g2 g3 g4
   have hsl:s.length = r.length + 4:=by rw [hr];simp
   have e4:(s.length:Int) - 4 = (r.length:Int):=by omega
   have e3:(s.length:Int) - 3 = ((r.length + 1:Nat):Int):=by omega
   have hsub:s.length - r.length = 4:=by omega
   have hle:r.length ≤ s.length:=by omega
   have hle1:r.length + 1 ≤ s.length:=by omega
   have ha:=hsm2 a (by rw [hr];simp)
   have hb:=hsm2 b (by rw [hr];simp)
   have hcc:=hsm2 c (by rw [hr];simp)
   have hd:=hsm2 d (by rw [hr];simp)
   have hcell:J2 (s.reverse.map Qd) r.length 0 8 (some (Qd a)) = some [.I a.at_,.I a.ld,.I b.at_,.I b.ld,.I c.at_,.I c.ld,.I d.at_,.I d.ld]:=by
    have e:(s.reverse.map Qd).drop r.length = [Qd a,Qd b,Qd c,Qd d]:=by rw [hp];simp
    simp only [J2]
    rw [if_neg (by simp [Qa]),e]
    simp [Qa]
   simp -implicitDefEqProofs (disch:=first|omega|(simp only [go_sem,seval,f4,h1,g1,g2,g3,g4,e4,e3,hsub,hle,hle1,hcell,Qa];first|done|omega)) only [go_sem,seval,f4,h1,g1,g2,g3,g4,e4,e3,hsub,hle,hle1,hcell,Qa]
   refine ⟨by simp [Yd,Yp,Zn],?_⟩
   have ht:List.take (r.length + 1) (s.reverse.map Qd) = (a :: r).reverse.map Qd:=by rw [hp];simp [List.take_append];rw [List.take_of_length_le (by simp)]
   have hx2:(a :: r).reverse.map Qd ++ [PV.agg [.I d.at_,.I d.ld]] = (d :: a :: r).reverse.map Qd:=by simp [Qd]
   have hnl:(s.reverse.map Qd).length = r.length + 4:=by simp;omega
   have hns:V2 a b c d = false → Vt (cs,st) x = (acc,s):=by
    intro h;rw [hcs,hr,JM h,List.append_nil]
   have hgo:V2 a b c d = true → Vt (cs,st) x = ((acc ++ [mkCyc b c]) ++ (drain (d :: a :: r)).1,(drain (d :: a :: r)).2):=by
    intro h;rw [hcs,hr,Y2 h];simp
   repeat' (first|(refine Qb (ZY b c hb hcc _) ?_;(try simp -implicitDefEqProofs (disch:=first|omega|(simp only [go_sem,seval,Qa,e3,hle1,VB,ht,hx2];first|done|omega)) only [go_sem,seval,Qa,e3,hle1,VB,ht,hx2]))|(refine Qb (ZY a b ha hb _) ?_;(try simp -implicitDefEqProofs (disch:=first|omega|(simp only [go_sem,seval,Qa,e3,hle1,VB,ht,hx2];first|done|omega)) only [go_sem,seval,Qa,e3,hle1,VB,ht,hx2]))|(refine Qb (ZY c d hcc hd _) ?_;(try simp -implicitDefEqProofs (disch:=first|omega|(simp only [go_sem,seval,Qa,e3,hle1,VB,ht,hx2];first|done|omega)) only [go_sem,seval,Qa,e3,hle1,VB,ht,hx2]))|(refine Qi ?_ ?_ <;> intro hc <;> (try simp only [decide_eq_true_eq,decide_eq_false_iff_not,Classical.not_not,Bool.not_eq_true,Bool.not_eq_true',Bool.not_eq_false',Bool.false_or,Bool.or_false,Bool.true_or,Bool.or_true,Bool.false_and,Bool.and_false,Bool.true_and,Bool.and_true] at hc) <;> (try simp -implicitDefEqProofs (disch:=first|omega|(simp only [go_sem,seval,Qa,e3,hle1,VB,ht,hx2,hc];first|done|omega)) only [go_sem,seval,Qa,e3,hle1,VB,ht,hx2,hc]))|(refine QA ?_ ?_ <;> intro hc <;> (try simp only [decide_eq_true_eq,decide_eq_false_iff_not,Classical.not_not,Bool.not_eq_true,Bool.not_eq_true',Bool.not_eq_false',Bool.false_or,Bool.or_false,Bool.true_or,Bool.or_true,Bool.false_and,Bool.and_false,Bool.true_and,Bool.and_true] at hc) <;> (try simp -implicitDefEqProofs (disch:=first|omega|(simp only [go_sem,seval,Qa,e3,hle1,VB,ht,hx2,hc];first|done|omega)) only [go_sem,seval,Qa,e3,hle1,VB,ht,hx2,hc])))
   ·have hcs:=hns (by simp [V2];omega)
    refine Qo hM rfl 2 (by simp) (by first|done|(simp only [go_sem,seval,Qf,Qj] <;> first|done|(refine ⟨?_,?_⟩ <;> omega)|omega)) (Qr (by first|done|(simp only [go_sem,seval,Qf,Qj] <;> first|done|(refine ⟨?_,?_⟩ <;> omega)|omega))) ?_
    simp -implicitDefEqProofs (disch:=first|omega|(simp only [go_sem,seval];first|done|omega)) only [go_sem,seval]
    exact again' (k + 1,u) (by simp;omega) (by simp;omega) (by simp only [hs1,hcs]) (by simp only [hs1,hcs];rfl)
   ·have hcs:=hns (by simp [V2];omega)
    refine Qo hM rfl 2 (by simp) (by first|done|(simp only [go_sem,seval,Qf,Qj] <;> first|done|(refine ⟨?_,?_⟩ <;> omega)|omega)) (Qr (by first|done|(simp only [go_sem,seval,Qf,Qj] <;> first|done|(refine ⟨?_,?_⟩ <;> omega)|omega))) ?_
    simp -implicitDefEqProofs (disch:=first|omega|(simp only [go_sem,seval];first|done|omega)) only [go_sem,seval]
    exact again' (k + 1,u) (by simp;omega) (by simp;omega) (by simp only [hs1,hcs]) (by simp only [hs1,hcs];rfl)
   ·have hcs:=hgo (by simp [V2];omega)
    have htc:(acc.map Qn).take acc.length = acc.map Qn:=List.take_of_length_le (by simp)
    rw [htc]
    refine Qo hM rfl 3 (by simp) (by first|done|(simp only [go_sem,seval,Qf,Qj,hJl] <;> first|done|(refine ⟨?_,?_⟩ <;> omega)|omega)) (Qr (by first|done|(simp only [go_sem,seval,Qf,Qj,hJl] <;> first|done|(refine ⟨?_,?_⟩ <;> omega)|omega))) ?_
    simp -implicitDefEqProofs (disch:=first|omega|(simp only [go_sem,seval];first|done|omega)) only [go_sem,seval]
    refine again' (acc ++ [mkCyc b c],d :: a :: r,u + 1) ⟨?_,?_,hcs⟩ ?_ ?_ ?_
    ·simp at hlen ⊢;omega
    ·intro y hy;refine hsm2 y ?_;rw [hr];simp only [List.mem_cons] at hy ⊢;rcases hy with h|h|h <;> simp [h]
    ·simp;omega
    ·simp [Qn,mkCyc,List.take_of_length_le]
    ·simp
  ·have f4:¬ (4:Int) ≤ s.length:=by omega
   rw [QeJ (by omega),List.append_nil] at hcs
   simp -implicitDefEqProofs (disch:=first|omega|(simp only [go_sem,seval,f4];first|done|omega)) only [go_sem,seval,f4]
   refine Qo hM rfl 2 (by simp) (by first|done|(simp only [go_sem,seval,Qf,Qj] <;> first|done|(refine ⟨?_,?_⟩ <;> omega)|omega)) (Qr (by first|done|(simp only [go_sem,seval,Qf,Qj] <;> first|done|(refine ⟨?_,?_⟩ <;> omega)|omega))) ?_
   simp -implicitDefEqProofs (disch:=first|omega|(simp only [go_sem,seval];first|done|omega)) only [go_sem,seval]
   exact again' (k + 1,u) (by simp;omega) (by simp;omega) (by simp only [hs1,hcs]) (by simp only [hs1,hcs];rfl)
 ·simp -implicitDefEqProofs (disch:=first|omega|(simp only [go_sem,seval,hlt];first|done|omega)) only [go_sem,seval,hlt]
  (first|refine pfN hM ?_ ?_|refine pf0 hM ?_ ?_)
  ·simp -implicitDefEqProofs (disch:=first|omega|(simp only [go_sem,seval];first|done|omega)) only [go_sem,seval]
   rw [List.take_of_length_le (by omega)]
  ·(simp only [go_sem,seval,Qf,Qj]<;>omega)
theorem Qdh (l:List Rev) (hl:l.length ≤ 1000000):Q X 29 [.fs (l.map Qd)] (.tup [.fs ((Qam l).1.map Qn),.fs ((Qam l).2.reverse.map Qd),.I (Qt l)]):=by
 intro M
 (refine Qe (cf:=L9.c29) rfl rfl fun hM hA => ?_;simp only [L9.c29,zO,zF,zT,zM,CX.i];rw [mk1 _ (by decide)];simp -implicitDefEqProofs (disch:=first|omega|(simp only [go_sem,seval];first|done|omega)) only [go_sem,seval])
 refine Qb (QS l (by omega) _) ?_
 simp -implicitDefEqProofs (disch:=first|omega|(simp only [go_sem,seval];first|done|omega)) only [go_sem,seval]
 refine Qi ?_ ?_ <;> intro hc <;> (try simp only [decide_eq_true_eq,decide_eq_false_iff_not,Classical.not_not,Bool.not_eq_true,Bool.not_eq_true',Bool.not_eq_false',Bool.false_or,Bool.or_false,Bool.true_or,Bool.or_true,Bool.false_and,Bool.and_false,Bool.true_and,Bool.and_true] at hc) <;> simp -implicitDefEqProofs (disch:=first|omega|(simp only [go_sem,seval,hc];first|done|omega)) only [go_sem,seval,hc]
 ·(first|refine pfN hM ?_ ?_|refine pf0 hM ?_ ?_)
  ·simp -implicitDefEqProofs (disch:=first|omega|(simp only [go_sem,seval];first|done|omega)) only [go_sem,seval]
   simp [Qam,hc]
  ·(simp only [go_sem,seval,Qf,Qj]<;>omega)
 ·refine Qb (ZR l hl (ZH hc) _) ?_
  simp -implicitDefEqProofs (disch:=first|omega|(simp only [go_sem,seval];first|done|omega)) only [go_sem,seval]
  (first|refine pfN hM ?_ ?_|refine pf0 hM ?_ ?_)
  ·simp -implicitDefEqProofs (disch:=first|omega|(simp only [go_sem,seval];first|done|omega)) only [go_sem,seval]
   simp [Qam,hc]
  ·(simp only [go_sem,seval,Qf,Qj]<;>omega)
theorem Qgr {l:List Int} (h:QZ l = 0):∀ r ∈ QJ (points l),QG r:=fun r hr => (Yx.1 h).2 _ (Qbv (Qa1 _ r hr)).1
theorem J5 (l:List Int) (e:Int) (h:QZ l = 0) (he:1 ≤ e ∧ e ≤ 3):Q X 71 [.fs (l.map .I),.I e] (.tup [.I (twRes l e).1,.I (twRes l e).2]):=by
 intro M
 have hl:=(Yx.1 h).1
 have hrl:(QJ (points l)).length ≤ l.length:=Nat.le_trans (Qa7 _) (by simp [points])
 have hsr:=Qgr h
 (refine Qe (cf:=L9.c71) rfl rfl fun hM hA => ?_;simp only [L9.c71,zO,zF,zT,zM,CX.i];rw [mk2 _ (by decide)];simp -implicitDefEqProofs (disch:=first|omega|(simp only [go_sem,seval];first|done|omega)) only [go_sem,seval])
 refine Qb (Jr l (by omega) _) ?_
 simp -implicitDefEqProofs (disch:=first|omega|(simp only [go_sem,seval];first|done|omega)) only [go_sem,seval]
 refine Qb (ZR _ (by omega) hsr _) ?_
 simp -implicitDefEqProofs (disch:=first|omega|(simp only [go_sem,seval];first|done|omega)) only [go_sem,seval]
 have hself:(M ++ [mRow 0 (0,false)])[M.length]? = some (mRow 0 (0,false)):=by rw [getM0];rfl
 have hcl:=Qaa (QJ (points l))
 have hsc:=Jf hsr
 have hm1:mOk (Vl e 2 (0,false) (QD (QJ (points l))).1):=J9 (by omega) he ⟨by decide,by decide⟩ hsc
 refine V7 (Jy hself ⟨by decide,by decide⟩ (by omega) hsc he (by omega)) ?_
 rw [setM0]
 simp -implicitDefEqProofs (disch:=first|omega|(simp only [go_sem,seval];first|done|omega)) only [go_sem,seval]
 refine V7 (Jx (v:=0) (by rw [getM0];rfl) hm1 (by simp;omega) (fun c hc => hsr c (Qaj _ c (by simpa using hc))) he) ?_
 rw [setM0]
 simp -implicitDefEqProofs (disch:=first|omega|(simp only [go_sem,seval];first|done|omega)) only [go_sem,seval]
 refine Qb (Ya (m:=V5 e (Vl e 2 (0,false) (QD (QJ (points l))).1) (QD (QJ (points l))).2.reverse) (v:=0) (by rw [getM0];rfl)) ?_
 simp -implicitDefEqProofs (disch:=first|omega|(simp only [go_sem,seval];first|done|omega)) only [go_sem,seval]
 (first|refine pfN hM ?_ ?_|refine pf0 hM ?_ ?_)
 ·simp -implicitDefEqProofs (disch:=first|omega|(simp only [go_sem,seval];first|done|omega)) only [go_sem,seval]
  rfl
 ·(simp only [go_sem,seval]<;>omega)
theorem Qds (l:List Int) (e:Int) (hl:l.length ≤ 1048576):Q X 34 [.fs (l.map .I),.I e] (.tup [.I (YO l e).1,.I (YO l e).2]):=by
 intro M
 (refine Qe (cf:=L9.c34) rfl rfl fun hM hA => ?_;simp only [L9.c34,zO,zF,zT,zM,CX.i];rw [mk2 _ (by decide)];simp -implicitDefEqProofs (disch:=first|omega|(simp only [go_sem,seval];first|done|omega)) only [go_sem,seval])
 refine Qb (Zu l hl _) ?_
 simp -implicitDefEqProofs (disch:=first|omega|(simp only [go_sem,seval];first|done|omega)) only [go_sem,seval]
 repeat' (first|(refine Qb (Vn _ _) ?_;(try simp -implicitDefEqProofs (disch:=first|omega|(simp only [go_sem,seval];first|done|omega)) only [go_sem,seval]))|(refine Qb (QI [_,_] (by simp) _) ?_;(try simp -implicitDefEqProofs (disch:=first|omega|(simp only [go_sem,seval];first|done|omega)) only [go_sem,seval]))|(refine Qi ?_ ?_ <;> intro hc <;> (try simp only [decide_eq_true_eq,decide_eq_false_iff_not,Classical.not_not,Bool.not_eq_true,Bool.not_eq_true',Bool.not_eq_false',Bool.false_or,Bool.or_false,Bool.true_or,Bool.or_true,Bool.false_and,Bool.and_false,Bool.true_and,Bool.and_true] at hc) <;> (try simp -implicitDefEqProofs (disch:=first|omega|(simp only [go_sem,seval,hc];first|done|omega)) only [go_sem,seval,hc]))|(refine QA ?_ ?_ <;> intro hc <;> (try simp only [decide_eq_true_eq,decide_eq_false_iff_not,Classical.not_not,Bool.not_eq_true,Bool.not_eq_true',Bool.not_eq_false',Bool.false_or,Bool.or_false,Bool.true_or,Bool.or_true,Bool.false_and,Bool.and_false,Bool.true_and,Bool.and_true] at hc) <;> (try simp -implicitDefEqProofs (disch:=first|omega|(simp only [go_sem,seval,hc];first|done|omega)) only [go_sem,seval,hc])))
 ·(first|refine pfN hM ?_ ?_|refine pf0 hM ?_ ?_)
  ·simp -implicitDefEqProofs (disch:=first|omega|(simp only [go_sem,seval];first|done|omega)) only [go_sem,seval]
   simp [YO,hc]
  ·(simp only [go_sem,seval]<;>omega)
 ·have he:=QY hc
  refine Qb (J5 l e he.1 (Q8.1 he.2) _) ?_
  simp -implicitDefEqProofs (disch:=first|omega|(simp only [go_sem,seval];first|done|omega)) only [go_sem,seval]
  (first|refine pfN hM ?_ ?_|refine pf0 hM ?_ ?_)
  ·simp -implicitDefEqProofs (disch:=first|omega|(simp only [go_sem,seval];first|done|omega)) only [go_sem,seval]
   simp [YO,hc]
  ·(simp only [go_sem,seval]<;>omega)
theorem YW (l:List Rev) (lv:Int) (hl:l.length ≤ 1048576):Q X 16 [.fs (l.map Qd),.I lv] (.tup [.I (Zj l lv).1,.I (Zj l lv).2]):=by
 intro M
 (refine Qe (cf:=L9.c16) rfl rfl fun hM hA => ?_;simp only [L9.c16,zO,zF,zT,zM,CX.i];rw [mk2 _ (by decide)];simp -implicitDefEqProofs (disch:=first|omega|(simp only [go_sem,seval];first|done|omega)) only [go_sem,seval])
 refine Qb (QS l hl _) ?_
 simp -implicitDefEqProofs (disch:=first|omega|(simp only [go_sem,seval];first|done|omega)) only [go_sem,seval]
 repeat' (first|(refine Qb (Y0 _ _) ?_;(try simp -implicitDefEqProofs (disch:=first|omega|(simp only [go_sem,seval];first|done|omega)) only [go_sem,seval]))|(refine Qb (QI [_,_] (by simp) _) ?_;(try simp -implicitDefEqProofs (disch:=first|omega|(simp only [go_sem,seval];first|done|omega)) only [go_sem,seval]))|(refine Qi ?_ ?_ <;> intro hc <;> (try simp only [decide_eq_true_eq,decide_eq_false_iff_not,Classical.not_not,Bool.not_eq_true,Bool.not_eq_true',Bool.not_eq_false',Bool.false_or,Bool.or_false,Bool.true_or,Bool.or_true,Bool.false_and,Bool.and_false,Bool.true_and,Bool.and_true] at hc) <;> (try simp -implicitDefEqProofs (disch:=first|omega|(simp only [go_sem,seval,hc];first|done|omega)) only [go_sem,seval,hc]))|(refine QA ?_ ?_ <;> intro hc <;> (try simp only [decide_eq_true_eq,decide_eq_false_iff_not,Classical.not_not,Bool.not_eq_true,Bool.not_eq_true',Bool.not_eq_false',Bool.false_or,Bool.or_false,Bool.true_or,Bool.or_true,Bool.false_and,Bool.and_false,Bool.true_and,Bool.and_true] at hc) <;> (try simp -implicitDefEqProofs (disch:=first|omega|(simp only [go_sem,seval,hc];first|done|omega)) only [go_sem,seval,hc])))
 ·(first|refine pfN hM ?_ ?_|refine pf0 hM ?_ ?_)
  ·simp -implicitDefEqProofs (disch:=first|omega|(simp only [go_sem,seval];first|done|omega)) only [go_sem,seval]
   simp [Zj,hc]
  ·(simp only [go_sem,seval]<;>omega)
 ·cases l with
  | nil =>
   simp only [List.map_nil,List.length_nil] at *
   simp -implicitDefEqProofs (disch:=first|omega|(simp only [go_sem,seval];first|done|omega)) only [go_sem,seval]
   refine Qm (α:=Unit) () (fun _ => True) (fun _ => M) (fun _ => [(0,.fs []),(1,.I lv),(7,.I 0),(23,.fs []),(24,.I 0),(25,.I 0)]) (fun _ => 0) trivial rfl rfl ?_
   intro _ _
   simp -implicitDefEqProofs (disch:=first|omega|(simp only [go_sem,seval,Int.lt_irrefl];first|done|omega)) only [go_sem,seval,Int.lt_irrefl]
   (first|refine pfN hM ?_ ?_|refine pf0 hM ?_ ?_)
   ·simp -implicitDefEqProofs (disch:=first|omega|(simp only [go_sem,seval];first|done|omega)) only [go_sem,seval]
    simp [Zj,hc,QV]
   ·(simp only [go_sem,seval]<;>omega)
  | cons a r =>
   have hsz:sized 2 (Qd a :: r.map Qd) = true:=Qac (a :: r)
   have htk:List.take r.length (r.map Qd) = r.map Qd:=List.take_of_length_le (by simp)
   have hmin:min (1:Int) ((r.length + 1:Nat):Int) = 1:=by omega
   have hl':r.length ≤ 1048576:=by simp at hl;omega
   simp -implicitDefEqProofs (disch:=first|omega|(simp only [go_sem,seval,hsz,htk,hmin];first|done|omega)) only [go_sem,seval,hsz,htk,hmin]
   refine Qm (α:=Nat) 0 (fun k => k ≤ r.length) (fun _ => M) (fun k => [(0,.fs (Qd a :: r.map Qd)),(1,.I lv),(7,.I ((((a :: r).zip (a :: r).tail).take k).filter (crosses lv)).length),(23,.fs (r.map Qd)),(24,.I r.length),(25,.I k)]) (fun k => r.length - k) (Nat.zero_le _) rfl rfl ?_
   intro k hk
   by_cases hlt2:k < r.length
   ·obtain ⟨q,h1⟩:∃ x,r[k]? = some x:=⟨_,List.getElem?_eq_getElem hlt2⟩
    obtain ⟨p,h2⟩:∃ x,(a :: r)[k]? = some x:=⟨_,List.getElem?_eq_getElem (by simp;omega)⟩
    have h2':(Qd a :: r.map Qd)[k]? = some (Qd p):=by rw [← List.map_cons,List.getElem?_map,h2];rfl
    have hf:=Ja (crosses lv) (Qaf (a :: r) k p q h2 h1)
    have hfl:((((a :: r).zip (a :: r).tail).take k).filter (crosses lv)).length ≤ k:=Nat.le_trans (List.length_filter_le _ _) (by simp;omega)
    generalize (((a :: r).zip (a :: r).tail).take k).filter (crosses lv) = o at hf hfl ⊢
    have hcr:crosses lv (p,q) = (decide (p.ld ≤ lv) && decide (lv < q.ld)):=rfl
    clear hc
    simp -implicitDefEqProofs (disch:=first|omega|(simp only [go_sem,seval,hlt2,h1,h2',Qa];first|done|omega)) only [go_sem,seval,hlt2,h1,h2',Qa]
    repeat' (first|(refine Qi ?_ ?_ <;> intro hc <;> (try simp only [decide_eq_true_eq,decide_eq_false_iff_not,Classical.not_not,Bool.not_eq_true,Bool.not_eq_true',Bool.not_eq_false',Bool.false_or,Bool.or_false,Bool.true_or,Bool.or_true,Bool.false_and,Bool.and_false,Bool.true_and,Bool.and_true] at hc) <;> (try simp -implicitDefEqProofs (disch:=first|omega|(simp only [go_sem,seval,h1,h2',Qa,hc];first|done|omega)) only [go_sem,seval,h1,h2',Qa,hc]))|(refine QA ?_ ?_ <;> intro hc <;> (try simp only [decide_eq_true_eq,decide_eq_false_iff_not,Classical.not_not,Bool.not_eq_true,Bool.not_eq_true',Bool.not_eq_false',Bool.false_or,Bool.or_false,Bool.true_or,Bool.or_true,Bool.false_and,Bool.and_false,Bool.true_and,Bool.and_true] at hc) <;> (try simp -implicitDefEqProofs (disch:=first|omega|(simp only [go_sem,seval,h1,h2',Qa,hc];first|done|omega)) only [go_sem,seval,h1,h2',Qa,hc])))
    ·rename_i hc0
     rw [if_pos (by simp [hcr,hc,hc0])] at hf
     refine Qo hM rfl 0 (by simp) (by first|done|(simp only [go_sem,seval,Qf,Vf] <;> first|done|(refine ⟨?_,?_⟩ <;> omega)|omega)) (Qr (by first|done|(simp only [go_sem,seval,Qf,Vf] <;> first|done|(refine ⟨?_,?_⟩ <;> omega)|omega))) ?_
     simp -implicitDefEqProofs (disch:=first|omega|(simp only [go_sem,seval];first|done|omega)) only [go_sem,seval]
     exact again' (k + 1) (by omega) (by omega) rfl (by rw [hf];simp)
    ·rename_i hc0
     rw [if_neg (by simp [hcr,hc,hc0])] at hf
     refine Qo hM rfl 0 (by simp) (by first|done|(simp only [go_sem,seval,Qf,Vf] <;> first|done|(refine ⟨?_,?_⟩ <;> omega)|omega)) (Qr (by first|done|(simp only [go_sem,seval,Qf,Vf] <;> first|done|(refine ⟨?_,?_⟩ <;> omega)|omega))) ?_
     simp -implicitDefEqProofs (disch:=first|omega|(simp only [go_sem,seval];first|done|omega)) only [go_sem,seval]
     exact again' (k + 1) (by omega) (by omega) rfl (by rw [hf];simp)
    ·rw [if_neg (by simp [hcr,hc])] at hf
     refine Qo hM rfl 0 (by simp) (by first|done|(simp only [go_sem,seval,Qf,Vf] <;> first|done|(refine ⟨?_,?_⟩ <;> omega)|omega)) (Qr (by first|done|(simp only [go_sem,seval,Qf,Vf] <;> first|done|(refine ⟨?_,?_⟩ <;> omega)|omega))) ?_
     simp -implicitDefEqProofs (disch:=first|omega|(simp only [go_sem,seval];first|done|omega)) only [go_sem,seval]
     exact again' (k + 1) (by omega) (by omega) rfl (by rw [hf];simp)
   ·simp -implicitDefEqProofs (disch:=first|omega|(simp only [go_sem,seval,hlt2];first|done|omega)) only [go_sem,seval,hlt2]
    have e1:((a :: r).zip (a :: r).tail).take k = (a :: r).zip (a :: r).tail:=List.take_of_length_le (by rw [J0];simp;omega)
    rw [e1]
    (first|refine pfN hM ?_ ?_|refine pf0 hM ?_ ?_)
    ·simp -implicitDefEqProofs (disch:=first|omega|(simp only [go_sem,seval];first|done|omega)) only [go_sem,seval]
     simp [Zj,hc,QV]
    ·(simp only [go_sem,seval]<;>omega)
theorem QcB {α β:Type} {l:List α} {k:Nat} {x:α} (f:β → α → β) (b:β) (h:l[k]? = some x):(l.take (k + 1)).foldl f b = f ((l.take k).foldl f b) x:=by
 obtain ⟨h1,h2⟩:=List.getElem?_eq_some_iff.1 h
 rw [List.take_succ_eq_append_getElem h1,h2,List.foldl_append];rfl
theorem Qok {l:List Rev} {a:Int} (ha:-32768 ≤ a ∧ a ≤ 32768) (hs:∀ r ∈ l,QG r):-32768 ≤ l.foldl (fun m r => max m r.ld) a ∧ l.foldl (fun m r => max m r.ld) a ≤ 32768:=by
 induction l generalizing a with
 | nil => exact ha
 | cons r l ih =>
  have:=hs r (by simp)
  unfold QG at this
  exact ih (a:=max a r.ld) (by omega) fun c hc => hs c (by simp [hc])
theorem Qn5 {l:List Rev} {a:Int} (ha:-32768 ≤ a ∧ a ≤ 32768) (hs:∀ r ∈ l,QG r):-32768 ≤ l.foldl (fun m r => min m r.ld) a ∧ l.foldl (fun m r => min m r.ld) a ≤ 32768:=by
 induction l generalizing a with
 | nil => exact ha
 | cons r l ih =>
  have:=hs r (by simp)
  unfold QG at this
  exact ih (a:=min a r.ld) (by omega) fun c hc => hs c (by simp [hc])
theorem Y5 (l:List Rev) (hl:l.length ≤ 1048576):Q X 14 [.fs (l.map Qd)] (.tup [.I (grRes l).1,.I (grRes l).2]):=by
 intro M
 (refine Qe (cf:=L9.c14) rfl rfl fun hM hA => ?_;simp only [L9.c14,zO,zF,zT,zM,CX.i];rw [mk1 _ (by decide)];simp -implicitDefEqProofs (disch:=first|omega|(simp only [go_sem,seval];first|done|omega)) only [go_sem,seval])
 refine Qb (QS l hl _) ?_
 simp -implicitDefEqProofs (disch:=first|omega|(simp only [go_sem,seval];first|done|omega)) only [go_sem,seval]
 refine Qb (Vs _ _ _) ?_
 have hw:(if decide ((l.length:Int) < 2) = true then (7:Int) else 0) = if l.length < 2 then 7 else 0:=by
  by_cases h:l.length < 2
  ·have:(l.length:Int) < 2:=by omega
   simp [h,this]
  ·have:¬ (l.length:Int) < 2:=by omega
   simp [h,this]
 rw [hw]
 simp -implicitDefEqProofs (disch:=first|omega|(simp only [go_sem,seval];first|done|omega)) only [go_sem,seval]
 refine Qb (QI [_,_] (by simp) _) ?_
 simp -implicitDefEqProofs (disch:=first|omega|(simp only [go_sem,seval];first|done|omega)) only [go_sem,seval]
 refine Qi ?_ ?_ <;> intro hc <;> (try simp only [decide_eq_true_eq,decide_eq_false_iff_not,Classical.not_not,Bool.not_eq_true,Bool.not_eq_true',Bool.not_eq_false',Bool.false_or,Bool.or_false,Bool.true_or,Bool.or_true,Bool.false_and,Bool.and_false,Bool.true_and,Bool.and_true] at hc) <;> simp -implicitDefEqProofs (disch:=first|omega|(simp only [go_sem,seval,hc];first|done|omega)) only [go_sem,seval,hc]
 ·(first|refine pfN hM ?_ ?_|refine pf0 hM ?_ ?_)
  ·simp -implicitDefEqProofs (disch:=first|omega|(simp only [go_sem,seval];first|done|omega)) only [go_sem,seval]
   simp [grRes,hc]
  ·(simp only [go_sem,seval]<;>omega)
 ·have hz:=QY hc
  have hlen:¬ l.length < 2:=by intro h;rw [if_pos h] at hz;simp at hz
  obtain ⟨a,h0⟩:∃ x,l[0]? = some x:=⟨_,List.getElem?_eq_getElem (by omega)⟩
  have hs:=ZH hz.1
  have ha:=hs a (List.mem_of_getElem? h0)
  unfold QG at ha
  have hsp:spread l = l.foldl (fun m r => max m r.ld) a.ld - l.foldl (fun m r => min m r.ld) a.ld:=by
   cases l with
   | nil => simp at h0
   | cons b l => simp at h0;subst h0;rfl
  simp -implicitDefEqProofs (disch:=first|omega|(simp only [go_sem,seval,h0,Qa];first|done|omega)) only [go_sem,seval,h0,Qa]
  refine Qm (α:=Nat) 0 (fun k => k ≤ l.length) (fun _ => M) (fun k => [(5,.I ((l.take k).foldl (fun m r => min m r.ld) a.ld)),(6,.I ((l.take k).foldl (fun m r => max m r.ld) a.ld)),(28,.fs (l.map Qd)),(29,.I l.length),(30,.I k)]) (fun k => l.length - k) (Nat.zero_le _) rfl rfl ?_
  intro k hk
  by_cases hlt:k < l.length
  ·obtain ⟨x,h1⟩:∃ x,l[k]? = some x:=⟨_,List.getElem?_eq_getElem hlt⟩
   have g1:=QcB (fun m (r:Rev) => min m r.ld) a.ld h1
   have g2:=QcB (fun m (r:Rev) => max m r.ld) a.ld h1
   simp -implicitDefEqProofs (disch:=first|omega|(simp only [go_sem,seval,hlt,h1,Qa];first|done|omega)) only [go_sem,seval,hlt,h1,Qa]
   refine Qo hM rfl 0 (by simp) (by first|done|(simp only [go_sem,seval,Qf,Vf] <;> first|done|(refine ⟨?_,?_⟩ <;> omega)|omega)) (Qr (by first|done|(simp only [go_sem,seval,Qf,Vf] <;> first|done|(refine ⟨?_,?_⟩ <;> omega)|omega))) ?_
   simp -implicitDefEqProofs (disch:=first|omega|(simp only [go_sem,seval];first|done|omega)) only [go_sem,seval]
   exact again' (k + 1) (by omega) (by omega) rfl (by rw [g1,g2];rfl)
  ·have hmx:=Qok ha hs
   have hmn:=Qn5 ha hs
   rw [List.take_of_length_le (by omega)]
   simp -implicitDefEqProofs (disch:=first|omega|(simp only [go_sem,seval,hlt];first|done|omega)) only [go_sem,seval,hlt]
   (first|refine pfN hM ?_ ?_|refine pf0 hM ?_ ?_)
   ·simp -implicitDefEqProofs (disch:=first|omega|(simp only [go_sem,seval];first|done|omega)) only [go_sem,seval]
    simp [grRes,hc,hsp]
   ·(simp only [go_sem,seval]<;>omega)
theorem QbU {p:Rev → Bool} {g:FuncId} {cap:List PV} {l:List Rev} {M:List Blk} (hl:l.length ≤ 1048576) (hg:∀ n N,ACall F X (.fn g) (Qd n :: cap) (M ++ N) (.B (p n)) (M ++ N)) :
  ACall F X (.fn 64) [.fs (l.map Qd),.fn (.func g) [] cap] M (.fs ((l.filter p).map Qd)) M:=by
 (refine Qe (cf:=L9.c64) rfl rfl fun hM hA => ?_;simp only [L9.c64,zO,zF,zT,zM,CX.i];rw [mk2 _ (by decide)];simp -implicitDefEqProofs (disch:=first|omega|(simp only [go_sem,seval];first|done|omega)) only [go_sem,seval])
 have hcap:lowL M.length cap:=by simp only [lowL,PV.low] at hA;exact hA.2.1.2
 refine Qm (α:=Nat) 0 (fun k => k ≤ l.length) (fun k => M ++ [.row true 2 ((l.take k).filter p).length (((l.take k).filter p).map Qd)])
  (fun k => [(1,.fn (.func g) [] cap),(5,.os M.length ((l.take k).filter p).length 0 ((l.take k).filter p).length),(8,.fs (l.map Qd)),(9,.I l.length),(10,.I k)]) (fun k => l.length - k) (Nat.zero_le _) rfl rfl ?_
 intro k hk
 by_cases hlt:k < l.length
 ·obtain ⟨x,h1⟩:∃ x,l[k]? = some x:=⟨_,List.getElem?_eq_getElem hlt⟩
  have hf:=Ja p h1
  have hfl:((l.take k).filter p).length ≤ k:=Nat.le_trans (List.length_filter_le _ _) (by simp;omega)
  have hcap1:=Q0 (Nat.le_add_right M.length 1) cap hcap
  simp -implicitDefEqProofs (disch:=first|omega|(simp only [go_sem,seval,hlt,h1,Qa];first|done|omega)) only [go_sem,seval,hlt,h1,Qa]
  refine Qb (hg x _) ?_
  simp -implicitDefEqProofs (disch:=first|omega|(simp only [go_sem,seval];first|done|omega)) only [go_sem,seval]
  refine Qi ?_ ?_ <;> intro hc <;> (try simp only [decide_eq_true_eq,decide_eq_false_iff_not,Classical.not_not,Bool.not_eq_true,Bool.not_eq_true',Bool.not_eq_false',Bool.false_or,Bool.or_false,Bool.true_or,Bool.or_true,Bool.false_and,Bool.and_false,Bool.true_and,Bool.and_true] at hc) <;> simp -implicitDefEqProofs (disch:=first|omega|(simp only [go_sem,seval,h1,hc];first|done|omega)) only [go_sem,seval,h1,hc]
  ·rw [if_pos hc] at hf
   refine Qo hM rfl 1 (by simp) (by first|done|(simp only [go_sem,seval,Qf,hcap1] <;> first|done|(refine ⟨?_,?_⟩ <;> omega)|omega)) (Qr (by first|done|(simp only [go_sem,seval,Qf,hcap1] <;> first|done|(refine ⟨?_,?_⟩ <;> omega)|omega))) ?_
   simp -implicitDefEqProofs (disch:=first|omega|(simp only [go_sem,seval];first|done|omega)) only [go_sem,seval]
   exact again' (k + 1) (by omega) (by omega) (by rw [hf];simp [Qd]) (by rw [hf];simp)
  ·rw [if_neg (by simp [hc]),List.append_nil] at hf
   refine Qo hM rfl 1 (by simp) (by first|done|(simp only [go_sem,seval,Qf,hcap1] <;> first|done|(refine ⟨?_,?_⟩ <;> omega)|omega)) (Qr (by first|done|(simp only [go_sem,seval,Qf,hcap1] <;> first|done|(refine ⟨?_,?_⟩ <;> omega)|omega))) ?_
   simp -implicitDefEqProofs (disch:=first|omega|(simp only [go_sem,seval];first|done|omega)) only [go_sem,seval]
   exact again' (k + 1) (by omega) (by omega) (by rw [hf]) (by rw [hf];rfl)
 ·simp -implicitDefEqProofs (disch:=first|omega|(simp only [go_sem,seval,hlt];first|done|omega)) only [go_sem,seval,hlt]
  (first|refine pfN hM ?_ ?_|refine pf0 hM ?_ ?_)
  ·simp -implicitDefEqProofs (disch:=first|omega|(simp only [go_sem,seval];first|done|omega)) only [go_sem,seval]
   rw [List.take_of_length_le (by omega)]
  ·(simp only [go_sem,seval,Qf]<;>omega)
theorem Qbs (M N:List Blk) (least:Int) (cs:List Cyc) (r:Rev) :
  ACall F X (.fn 65) (Qd r :: [.op (M.length + 1) 0 0 0]) (M ++ .map (V1 least cs) :: .row true 1 0 [.om M.length] :: N) (.B (!ZE least cs r.at_)) (M ++ .map (V1 least cs) :: .row true 1 0 [.om M.length] :: N):=by
 have hk:=(QbF least cs).like r.at_
 have hf:=QeC least cs r.at_
 generalize V1 least cs = es at hk hf ⊢
 (refine Qe (cf:=L9.c65) rfl rfl fun hM hA => ?_;simp only [L9.c65,zO,zF,zT,zM,CX.i];rw [mk2 _ (by decide)];simp -implicitDefEqProofs (disch:=first|omega|(simp only [go_sem,seval,Qa,VS,Zd,Zk,Zc,Zo,VQ,VP,VT,VR,hk,hf];first|done|omega)) only [go_sem,seval,Qa,VS,Zd,Zk,Zc,Zo,VQ,VP,VT,VR,hk,hf])
 refine Vr J6 hM (by simp) ?_ ?_
 ·simp -implicitDefEqProofs (disch:=first|omega|(simp only [go_sem,seval];first|done|omega)) only [go_sem,seval]
 ·(simp only [go_sem,seval]<;>omega)
theorem JR (l:List Rev) (least:Int) (hl:l.length ≤ 1000000):Q X 30 [.fs (l.map Qd),.I least] (.tup [.fs ((if YJ l least = 0 then filt l least else []).map Qd),.I (YJ l least)]):=by
 intro M
 (refine Qe (cf:=L9.c30) rfl rfl fun hM hA => ?_;simp only [L9.c30,zO,zF,zT,zM,CX.i];rw [mk2 _ (by decide)];simp -implicitDefEqProofs (disch:=first|omega|(simp only [go_sem,seval];first|done|omega)) only [go_sem,seval])
 refine Qb (QS l (by omega) _) ?_
 simp -implicitDefEqProofs (disch:=first|omega|(simp only [go_sem,seval];first|done|omega)) only [go_sem,seval]
 repeat' (first|(refine Qb (Y0 _ _) ?_;(try simp -implicitDefEqProofs (disch:=first|omega|(simp only [go_sem,seval];first|done|omega)) only [go_sem,seval]))|(refine Qb (QI [_,_] (by simp) _) ?_;(try simp -implicitDefEqProofs (disch:=first|omega|(simp only [go_sem,seval];first|done|omega)) only [go_sem,seval]))|(refine Qi ?_ ?_ <;> intro hc <;> (try simp only [decide_eq_true_eq,decide_eq_false_iff_not,Classical.not_not,Bool.not_eq_true,Bool.not_eq_true',Bool.not_eq_false',Bool.false_or,Bool.or_false,Bool.true_or,Bool.or_true,Bool.false_and,Bool.and_false,Bool.true_and,Bool.and_true] at hc) <;> (try simp -implicitDefEqProofs (disch:=first|omega|(simp only [go_sem,seval,hc];first|done|omega)) only [go_sem,seval,hc]))|(refine QA ?_ ?_ <;> intro hc <;> (try simp only [decide_eq_true_eq,decide_eq_false_iff_not,Classical.not_not,Bool.not_eq_true,Bool.not_eq_true',Bool.not_eq_false',Bool.false_or,Bool.or_false,Bool.true_or,Bool.or_true,Bool.false_and,Bool.and_false,Bool.true_and,Bool.and_true] at hc) <;> (try simp -implicitDefEqProofs (disch:=first|omega|(simp only [go_sem,seval,hc];first|done|omega)) only [go_sem,seval,hc])))
 ·(first|refine pfN hM ?_ ?_|refine pf0 hM ?_ ?_)
  ·simp -implicitDefEqProofs (disch:=first|omega|(simp only [go_sem,seval];first|done|omega)) only [go_sem,seval]
   simp [YJ,hc]
  ·(simp only [go_sem,seval]<;>omega)
 ·have hz:=QY hc
  have hs:=ZH hz.1
  have hsc:=Jf hs
  have hcl:=Qaa l
  refine Qb (ZR l hl hs _) ?_
  simp -implicitDefEqProofs (disch:=first|omega|(simp only [go_sem,seval,Zd,Zk,Zc,Zo,VQ,VP,VT,VR];first|done|omega)) only [go_sem,seval,Zd,Zk,Zc,Zo,VQ,VP,VT,VR]
  have hft:filt l least = l.filter fun r => !ZE least (QD l).1 r.at_:=rfl
  generalize (QD l).1 = cs at hsc hcl hft ⊢
  refine Qm (α:=Nat) 0 (fun k => k ≤ cs.length) (fun k => M ++ [.map (V1 least (cs.take k)),.row true 1 0 [.om M.length]])
   (fun k => [(0,.fs (l.map Qd)),(1,.I least),(9,.op (M.length + 1) 0 0 0),(27,.fs (cs.map Qn)),(28,.I cs.length),(29,.I k)]) (fun k => cs.length - k) (Nat.zero_le _) rfl rfl ?_
  intro k hk
  by_cases hlt:k < cs.length
  ·obtain ⟨x,h1⟩:∃ x,cs[k]? = some x:=⟨_,List.getElem?_eq_getElem hlt⟩
   have hsn:=Qew (least:=least) h1
   have hai:=QbF least (cs.take k)
   have hx:=hsc x (List.mem_of_getElem? h1)
   unfold VG at hx
   generalize V1 least (cs.take k) = es at hsn hai ⊢
   have hk1:=hai.like x.from_
   have hk2:=(hai.upd x.from_ (.bool true)).like x.to_
   clear hc
   simp -implicitDefEqProofs (disch:=first|omega|(simp only [go_sem,seval,hlt,h1,Qk];first|done|omega)) only [go_sem,seval,hlt,h1,Qk]
   refine Qi ?_ ?_ <;> intro hc <;> (try simp only [decide_eq_true_eq,decide_eq_false_iff_not,Classical.not_not,Bool.not_eq_true,Bool.not_eq_true',Bool.not_eq_false',Bool.false_or,Bool.or_false,Bool.true_or,Bool.or_true,Bool.false_and,Bool.and_false,Bool.true_and,Bool.and_true] at hc) <;> simp -implicitDefEqProofs (disch:=first|omega|(simp only [go_sem,seval,h1,Qk,Zd,Zk,Zc,Zo,VQ,VP,VT,VR,hk1,hk2,hc];first|done|omega)) only [go_sem,seval,h1,Qk,Zd,Zk,Zc,Zo,VQ,VP,VT,VR,hk1,hk2,hc]
   ·simp only [Ys,if_pos hc] at hsn
    refine ⟨by simp [Yd,Yp,Zn],?_⟩
    refine Qo hM rfl 2 (by simp) (by first|done|(simp only [go_sem,seval,Qf] <;> first|done|(refine ⟨?_,?_⟩ <;> omega)|omega)) (Qr (by first|done|(simp only [go_sem,seval,Qf] <;> first|done|(refine ⟨?_,?_⟩ <;> omega)|omega))) ?_
    simp -implicitDefEqProofs (disch:=first|omega|(simp only [go_sem,seval];first|done|omega)) only [go_sem,seval]
    exact again' (k + 1) (by omega) (by omega) (by rw [hsn]) rfl
   ·simp only [Ys,if_neg hc] at hsn
    refine Qo hM rfl 2 (by simp) (by first|done|(simp only [go_sem,seval,Qf] <;> first|done|(refine ⟨?_,?_⟩ <;> omega)|omega)) (Qr (by first|done|(simp only [go_sem,seval,Qf] <;> first|done|(refine ⟨?_,?_⟩ <;> omega)|omega))) ?_
    simp -implicitDefEqProofs (disch:=first|omega|(simp only [go_sem,seval];first|done|omega)) only [go_sem,seval]
    exact again' (k + 1) (by omega) (by omega) (by rw [hsn]) rfl
  ·simp -implicitDefEqProofs (disch:=first|omega|(simp only [go_sem,seval,hlt];first|done|omega)) only [go_sem,seval,hlt]
   rw [List.take_of_length_le (by omega)]
   refine Qb (QbU (p:=fun r => !ZE least cs r.at_) (by omega) fun n N => by rw [List.append_assoc];exact Qbs M N least cs n) ?_
   simp -implicitDefEqProofs (disch:=first|omega|(simp only [go_sem,seval];first|done|omega)) only [go_sem,seval]
   (first|refine pfN hM ?_ ?_|refine pf0 hM ?_ ?_)
   ·simp -implicitDefEqProofs (disch:=first|omega|(simp only [go_sem,seval];first|done|omega)) only [go_sem,seval]
    simp [YJ,hc,hft]
   ·(simp only [go_sem,seval,Qf]<;>omega)
def zRev:PV:=.agg [.I 0,.I 0]
theorem QaD (M:List Blk):ACall F X (.fn 112) [PV.nilS,.I 0] M PV.nilS M:=by
 (refine Qe (cf:=L9.c112) rfl rfl fun hM hA => ?_;simp only [L9.c112,zO,zF,zT,zM,CX.i];rw [mk2 _ (by decide)];simp -implicitDefEqProofs (disch:=first|omega|(simp only [go_sem,seval,-List.reduceReplicate,Jj,ZM,Jt,Zr,Jq,Z7,ZI];first|done|omega)) only [go_sem,seval,-List.reduceReplicate,Jj,ZM,Jt,Zr,Jq,Z7,ZI])
 have hres:∀ N:List Blk,VC M.length [(4,none)] PV.nilS M .ret (M ++ N) (mk 27 [(4,PV.nilS)]):=fun N => QiY J6 hM rfl (by simp -implicitDefEqProofs (disch:=first|omega|(simp only [go_sem,seval,-List.reduceReplicate];first|done|omega)) only [go_sem,seval,-List.reduceReplicate])
 exact hres _
theorem QcK (n:Nat) (h:1 ≤ n) (hn:n ≤ 1048576) (M:List Blk):ACall F X (.fn 112) [PV.nilS,.I n] M (.os M.length 0 0 0) (M ++ [.row true 2 0 (List.replicate n zRev)]):=by
 refine QhF (cf:=c112) rfl rfl fun hM hA => ?_
 simp only [c112,zO,zF,zT,zM,CX.i]
 rw [mk2 _ (by decide)]
 have h1:¬ (n:Int) < 0:=by omega
 have h2:(0:Int) < n:=by omega
 have h3:((0:Int) ≤ 0) = True:=eq_true (by omega)
 have e1:(n:Int) - 0 = n:=by omega
 have e2:(0:Int) - 0 = 0:=by omega
 simp -implicitDefEqProofs (disch:=first|omega|(simp only [go_sem,seval,-List.reduceReplicate,Jj,ZM,Jt,Zr,Jq,Z7,ZI,h1,h2,h3,e1,e2,natZ];first|done|omega)) only [go_sem,seval,-List.reduceReplicate,Jj,ZM,Jt,Zr,Jq,Z7,ZI,h1,h2,h3,e1,e2,natZ]
 refine Qlg J6 hM (j:=1) rfl rfl ?_
 ·rw [VU]
  intro x hx
  rw [List.eq_of_mem_replicate hx]
  unfold zRev
  (simp only [go_sem,seval,-List.reduceReplicate]<;>omega)
theorem ZZ (l:List Rev):Q X 92 [.fs (l.map Qd)] (.fn (.func 111) [] [.fp [.fs (l.map Qd)]]):=by
 intro M
 (refine Qe (cf:=L9.c92) rfl rfl fun hM hA => ?_;simp only [L9.c92,zO,zF,zT,zM,CX.i];rw [mk1 _ (by decide)];simp -implicitDefEqProofs (disch:=first|omega|(simp only [go_sem,seval,-List.reduceReplicate];first|done|omega)) only [go_sem,seval,-List.reduceReplicate])
 (all_goals (first|refine pfN hM ?_ ?_|refine pf0 hM ?_ ?_);all_goals first|(simp only [go_sem,seval,-List.reduceReplicate,Qf]<;>omega)|skip;all_goals (try simp -implicitDefEqProofs (disch:=first|omega|(simp only [go_sem,seval,-List.reduceReplicate];first|done|omega)) only [go_sem,seval,-List.reduceReplicate]))
theorem Qcs {M:List Blk}:appO M 2 16 (.s (.slice none 0 0)) (some []) = some (.os M.length 0 0 0,M ++ [.row true 2 0 []]):=Qdg (by rfl) (by decide) (by decide) (by decide)
theorem Qck {M:List Blk} {i v:Nat}:appR M 2 16 i v 0 0 [] (some (.row true 2 v [])) = some (.os i (v + 1) 0 0,M.set i (.row true 2 (v + 1) [])):=Qda (xs:=[]) (ys:=[]) rfl (by rfl) (by decide) (by decide) (by decide)
theorem Z4 (a b:List Rev) (hl:a.length + b.length ≤ 1000000):Q X 93 [.fs [.fs (a.map Qd),.fs (b.map Qd)]] (.fs ((a ++ b).map Qd)):=by
 intro M
 (refine Qe (cf:=L9.c93) rfl rfl fun hM hA => ?_;simp only [L9.c93,zO,zF,zT,zM,CX.i];rw [mk1 _ (by decide)];simp -implicitDefEqProofs (disch:=first|omega|(simp only [go_sem,seval,-List.reduceReplicate];first|done|omega)) only [go_sem,seval,-List.reduceReplicate])
 refine Qm (α:=Nat) 0 (fun k => k ≤ 2) (fun _ => M) (fun k => [(0,.fs [.fs (a.map Qd),.fs (b.map Qd)]),(3,.I (if k = 0 then 0 else if k = 1 then a.length else a.length + b.length)),(9,.fs [.fs (a.map Qd),.fs (b.map Qd)]),(10,.I 2),(11,.I k)]) (fun k => 2 - k) (by omega) rfl rfl ?_
 intro k hk
 rcases (by omega:k = 0 ∨ k = 1 ∨ k = 2) with rfl|rfl|rfl
 ·have f1:¬ (a.length:Int) < 0:=by omega
  simp -implicitDefEqProofs (disch:=first|omega|(simp only [go_sem,seval,-List.reduceReplicate,f1];first|done|omega)) only [go_sem,seval,-List.reduceReplicate,f1]
  exact again' (α:=Nat) 1 (by decide) (by decide) rfl rfl
 ·have f1:¬ (a.length:Int) + (b.length:Int) < 0:=by omega
  simp -implicitDefEqProofs (disch:=first|omega|(simp only [go_sem,seval,-List.reduceReplicate,f1];first|done|omega)) only [go_sem,seval,-List.reduceReplicate,f1]
  exact again' (α:=Nat) 2 (by decide) (by decide) rfl rfl
 ·simp -implicitDefEqProofs (disch:=first|omega|(simp only [go_sem,seval,-List.reduceReplicate,Int.lt_irrefl];first|done|omega)) only [go_sem,seval,-List.reduceReplicate,Int.lt_irrefl]
  rcases (by omega:a.length + b.length = 0 ∨ 1 ≤ a.length + b.length) with h0|h0
  ·have ha:a = []:=List.eq_nil_of_length_eq_zero (by omega)
   have hb:b = []:=List.eq_nil_of_length_eq_zero (by omega)
   subst ha;subst hb
   simp -implicitDefEqProofs (disch:=first|omega|(simp only [go_sem,seval,-List.reduceReplicate];first|done|omega)) only [go_sem,seval,-List.reduceReplicate]
   refine Qb (QaD M) ?_
   simp -implicitDefEqProofs (disch:=first|omega|(simp only [go_sem,seval,-List.reduceReplicate];first|done|omega)) only [go_sem,seval,-List.reduceReplicate]
   refine Qm (α:=Nat) 0 (fun k => k ≤ 2) (fun k => if k = 0 then M else M ++ [.row true 2 (k - 1) []]) (fun k => [(6,if k = 0 then PV.nilS else .os M.length (k - 1) 0 0),(25,.fs [.fs [],.fs []]),(26,.I 2),(27,.I k)]) (fun k => 2 - k) (by omega) rfl rfl ?_
   intro k hk
   rcases (by omega:k = 0 ∨ k = 1 ∨ k = 2) with rfl|rfl|rfl
   ·simp -implicitDefEqProofs (disch:=first|omega|(simp only [go_sem,seval,-List.reduceReplicate,Qcs];first|done|omega)) only [go_sem,seval,-List.reduceReplicate,Qcs]
    exact again' (α:=Nat) 1 (by decide) (by decide) rfl rfl
   ·simp -implicitDefEqProofs (disch:=first|omega|(simp only [go_sem,seval,-List.reduceReplicate,Qck];first|done|omega)) only [go_sem,seval,-List.reduceReplicate,Qck]
    exact again' (α:=Nat) 2 (by decide) (by decide) rfl rfl
   ·simp -implicitDefEqProofs (disch:=first|omega|(simp only [go_sem,seval,-List.reduceReplicate];first|done|omega)) only [go_sem,seval,-List.reduceReplicate]
    (first|refine pfN hM ?_ ?_|refine pf0 hM ?_ ?_)
    ·simp -implicitDefEqProofs (disch:=first|omega|(simp only [go_sem,seval,-List.reduceReplicate];first|done|omega)) only [go_sem,seval,-List.reduceReplicate]
    ·(simp only [go_sem,seval,-List.reduceReplicate]<;>omega)
  ·have e1:(a.length:Int) + (b.length:Int) = ((a.length + b.length:Nat):Int):=by omega
   rw [e1]
   refine V7 (QcK _ h0 (by omega) M) ?_
   have oka:=Yw a
   have okb:=Yw b
   simp -implicitDefEqProofs (disch:=first|omega|(simp only [go_sem,seval,-List.reduceReplicate];first|done|omega)) only [go_sem,seval,-List.reduceReplicate]
   refine Qm (α:=Nat) 0 (fun k => k ≤ 2) (fun k => M ++ [.row true 2 k (if k = 0 then List.replicate (a.length + b.length) zRev else if k = 1 then a.map Qd else a.map Qd ++ b.map Qd)]) (fun k => [(6,.os M.length k 0 (if k = 0 then 0 else if k = 1 then a.length else a.length + b.length)),(25,.fs [.fs (a.map Qd),.fs (b.map Qd)]),(26,.I 2),(27,.I k)]) (fun k => 2 - k) (by omega) rfl rfl ?_
   intro k hk
   rcases (by omega:k = 0 ∨ k = 1 ∨ k = 2) with rfl|rfl|rfl
   ·have hc:=VB (M:=M ++ [.row true 2 0 (List.replicate (a.length + b.length) zRev)]) (k:=2) (bytes:=16) (i:=M.length) (ver:=0) (len:=0) (xs:=List.replicate (a.length + b.length) zRev) (ys:=a.map Qd) (by omega) oka (by omega) (by omega) (by simp;omega)
    simp only [List.take_zero,List.nil_append,List.length_map,Nat.zero_add] at hc
    simp -implicitDefEqProofs (disch:=first|omega|(simp only [go_sem,seval,-List.reduceReplicate,hc];first|done|omega)) only [go_sem,seval,-List.reduceReplicate,hc]
    refine again' (α:=Nat) 1 ?_ ?_ ?_ ?_
    ·decide
    ·decide
    ·rfl
    ·rfl
   ·simp -implicitDefEqProofs (disch:=first|omega|(simp only [go_sem,seval,-List.reduceReplicate,oka,okb];first|done|omega)) only [go_sem,seval,-List.reduceReplicate,oka,okb]
    refine again' (α:=Nat) 2 ?_ ?_ ?_ ?_
    ·decide
    ·decide
    ·rfl
    ·rfl
   ·simp -implicitDefEqProofs (disch:=first|omega|(simp only [go_sem,seval,-List.reduceReplicate,oka,okb];first|done|omega)) only [go_sem,seval,-List.reduceReplicate,oka,okb]
    (first|refine pfN hM ?_ ?_|refine pf0 hM ?_ ?_)
    ·simp -implicitDefEqProofs (disch:=first|omega|(simp only [go_sem,seval,-List.reduceReplicate];first|done|omega)) only [go_sem,seval,-List.reduceReplicate]
     simp
    ·(simp only [go_sem,seval,-List.reduceReplicate,Qf]<;>omega)
theorem Qbr (s:Int) (r:Rev):(shR s r).at_ = r.at_ + s:=rfl
theorem QbD (s:Int) (r:Rev):(shR s r).ld = r.ld:=rfl
theorem QcI (a b:List Rev) (s:Int) (ha:Qt a = 0) (hb:Qt b = 0) (hs:0 ≤ s ∧ s ≤ 40000):Q X 66 [.fs (a.map Qd),.fs (b.map Qd),.I s] (.tup [.fs ((Vu a b s).map Qd),.I (Q6 a b s)]):=by
 intro M
 have hal:=(VA.1 ha).1
 have hbl:=(VA.1 hb).1
 have hag:=Vm _ _ _ (VA.1 ha).2
 have hbg:=Vm _ _ _ (VA.1 hb).2
 have okb:=Yw b
 (refine Qe (cf:=L9.c66) rfl rfl fun hM hA => ?_;simp only [L9.c66,zO,zF,zT,zM,CX.i];rw [mk3 _ (by decide)];simp -implicitDefEqProofs (disch:=first|omega|(simp only [go_sem,seval,Jj,ZM,Jt,Zr,Jq,Z7,ZI,okb];first|done|omega)) only [go_sem,seval,Jj,ZM,Jt,Zr,Jq,Z7,ZI,okb])
 have hfar:∀ k,k ≤ b.length → farB b s = ((b.take k).any (fun r => decide (¬ rng (r.at_ + s) 0 39999 = 0)) || (b.drop k).any (fun r => decide (¬ rng (r.at_ + s) 0 39999 = 0))):=by
  intro k _
  rw [← List.any_append,List.take_append_drop];rfl
 refine Qm (α:=Nat) 0 (fun k => k ≤ b.length ∧ (b.take k).any (fun r => decide (¬ rng (r.at_ + s) 0 39999 = 0)) = false) (fun k => M ++ [.row true 2 0 ((shK b s k).map Qd)])
  (fun k => [(0,.fs (a.map Qd)),(2,.I s),(8,.os M.length 0 0 b.length),(17,.I b.length),(18,.I k)]) (fun k => b.length - k) ⟨Nat.zero_le _,rfl⟩ (by simp [shK]) rfl ?_
 rintro k ⟨hk,hno⟩
 have hlk:=QkY b s k
 by_cases hlt:k < b.length
 ·obtain ⟨x,h1⟩:∃ x,b[k]? = some x:=⟨_,List.getElem?_eq_getElem hlt⟩
  have h2:=Qk8 (s:=s) h1
  have h3:=Qmc (s:=s) h1
  have hx:=(hbg x (List.mem_of_getElem? h1)).1
  have h4:(shK b s k).length ≤ 1048576:=by omega
  have h5:=hfar k hk
  rw [hno,Bool.false_or,List.drop_eq_getElem_cons hlt,(List.getElem?_eq_some_iff.1 h1).2,List.any_cons] at h5
  have h6:(b.take (k + 1)).any (fun r => decide (¬ rng (r.at_ + s) 0 39999 = 0)) = decide (¬ rng (x.at_ + s) 0 39999 = 0):=by
   have:=QC (f:=id) h1
   simp only [List.map_id] at this
   rw [this,List.any_append,hno];simp
  generalize shK b s k = o at h2 h3 hlk h4 ⊢
  have h7:((o.map Qd).set k (PV.agg [.I (x.at_ + s),.I x.ld]))[k]? = some (PV.agg [.I (x.at_ + s),.I x.ld]):=by rw [List.getElem?_set_self (by simp;omega)]
  simp -implicitDefEqProofs (disch:=first|omega|(simp only [go_sem,seval,hlt,h1,h2,hlk,Qa,VS,h7,List.length_set];first|done|omega)) only [go_sem,seval,hlt,h1,h2,hlk,Qa,VS,h7,List.length_set]
  refine Qb (Vk _ _) ?_
  simp -implicitDefEqProofs (disch:=first|omega|(simp only [go_sem,seval,hlk];first|done|omega)) only [go_sem,seval,hlk]
  clear ha hb
  refine Qi ?_ ?_ <;> intro hc <;> (try simp only [decide_eq_true_eq,decide_eq_false_iff_not,Classical.not_not,Bool.not_eq_true,Bool.not_eq_true',Bool.not_eq_false',Bool.false_or,Bool.or_false,Bool.true_or,Bool.or_true,Bool.false_and,Bool.and_false,Bool.true_and,Bool.and_true] at hc) <;> simp -implicitDefEqProofs (disch:=first|omega|(simp only [go_sem,seval,hlk,hc];first|done|omega)) only [go_sem,seval,hlk,hc]
  ·rw [decide_eq_true hc,Bool.true_or] at h5
   (first|refine pfN hM ?_ ?_|refine pf0 hM ?_ ?_)
   ·simp -implicitDefEqProofs (disch:=first|omega|(simp only [go_sem,seval];first|done|omega)) only [go_sem,seval]
    simp [Vu,Q6,h5]
   ·(simp only [go_sem,seval,Qf]<;>omega)
  ·exact again' (k + 1) ⟨by omega,by rw [h6];simp [hc]⟩ (by omega) (by rw [← h3];simp [List.map_set,Qd,shR]) (by rfl)
 ·have hkb:k = b.length:=by omega
  subst hkb
  have hf:farB b s = false:=by rw [hfar _ (Nat.le_refl _),hno];simp
  rw [Ql8] at hlk ⊢
  rcases (by omega:a.length = 0 ∨ 1 ≤ a.length) with h0|h0
  ·have f1:¬ (0:Int) < a.length:=by omega
   have hn:nearB a b s = false:=by rw [List.eq_nil_of_length_eq_zero h0];rfl
   have hj:Q6 a b s = 0:=by simp [Q6,hf,hn]
   simp -implicitDefEqProofs (disch:=first|omega|(simp only [go_sem,seval,hlt,f1,hlk];first|done|omega)) only [go_sem,seval,hlt,f1,hlk]
   ((have hmm:List.map (fun x => Qd (shR s x)) b = (b.map (shR s)).map Qd:=(by simp));rw [hmm];refine Qb (Z4 a (b.map (shR s)) (by simp;omega) _) ?_;simp -implicitDefEqProofs (disch:=first|omega|(simp only [go_sem,seval];first|done|omega)) only [go_sem,seval];refine Qb (ZZ _ _) ?_;simp -implicitDefEqProofs (disch:=first|omega|(simp only [go_sem,seval];first|done|omega)) only [go_sem,seval];refine Qb (VW (by simp;omega) (ZW _ (by simp;omega)) _) ?_;simp -implicitDefEqProofs (disch:=first|omega|(simp only [go_sem,seval];first|done|omega)) only [go_sem,seval];((first|refine pfN hM ?_ ?_|refine pf0 hM ?_ ?_) <;> first|(simp only [go_sem,seval,Qf]<;>omega)|(simp -implicitDefEqProofs (disch:=first|omega|(simp only [go_sem,seval];first|done|omega)) only [go_sem,seval];simp [Vu,hj])))
  ·have f1:(0:Int) < a.length:=by omega
   rcases (by omega:b.length = 0 ∨ 1 ≤ b.length) with h0b|h0b
   ·have f2:¬ (0:Int) < b.length:=by omega
    have hn:nearB a b s = false:=by rw [List.eq_nil_of_length_eq_zero h0b];unfold nearB;cases a.getLast? <;> rfl
    have hj:Q6 a b s = 0:=by simp [Q6,hf,hn]
    simp -implicitDefEqProofs (disch:=first|omega|(simp only [go_sem,seval,hlt,f1,f2,hlk];first|done|omega)) only [go_sem,seval,hlt,f1,f2,hlk]
    ((have hmm:List.map (fun x => Qd (shR s x)) b = (b.map (shR s)).map Qd:=(by simp));rw [hmm];refine Qb (Z4 a (b.map (shR s)) (by simp;omega) _) ?_;simp -implicitDefEqProofs (disch:=first|omega|(simp only [go_sem,seval];first|done|omega)) only [go_sem,seval];refine Qb (ZZ _ _) ?_;simp -implicitDefEqProofs (disch:=first|omega|(simp only [go_sem,seval];first|done|omega)) only [go_sem,seval];refine Qb (VW (by simp;omega) (ZW _ (by simp;omega)) _) ?_;simp -implicitDefEqProofs (disch:=first|omega|(simp only [go_sem,seval];first|done|omega)) only [go_sem,seval];((first|refine pfN hM ?_ ?_|refine pf0 hM ?_ ?_) <;> first|(simp only [go_sem,seval,Qf]<;>omega)|(simp -implicitDefEqProofs (disch:=first|omega|(simp only [go_sem,seval];first|done|omega)) only [go_sem,seval];simp [Vu,hj])))
   ·have f2:(0:Int) < b.length:=by omega
    have e1:(a.length:Int) - 1 = ((a.length - 1:Nat):Int):=by omega
    obtain ⟨p,g1⟩:∃ x,a[a.length - 1]? = some x:=⟨_,List.getElem?_eq_getElem (by omega)⟩
    obtain ⟨q,g2⟩:∃ x,b[0]? = some x:=⟨_,List.getElem?_eq_getElem (by omega)⟩
    have hnb:nearB a b s = decide (q.at_ + s ≤ p.at_):=by
     unfold nearB
     rw [List.getLast?_eq_getElem?,g1,List.head?_eq_getElem?,g2]
    have hb0:0 < b.length:=h0b
    simp -implicitDefEqProofs (disch:=first|omega|(simp only [go_sem,seval,hlt,f1,f2,hlk,e1,g1,g2,Qa,Qbr,QbD,hb0];first|done|omega)) only [go_sem,seval,hlt,f1,f2,hlk,e1,g1,g2,Qa,Qbr,QbD,hb0]
    refine Qi ?_ ?_ <;> intro hc <;> (try simp only [decide_eq_true_eq,decide_eq_false_iff_not,Classical.not_not,Bool.not_eq_true,Bool.not_eq_true',Bool.not_eq_false',Bool.false_or,Bool.or_false,Bool.true_or,Bool.or_true,Bool.false_and,Bool.and_false,Bool.true_and,Bool.and_true] at hc) <;> simp -implicitDefEqProofs (disch:=first|omega|(simp only [go_sem,seval,hlt,f1,f2,hlk,e1,g1,g2,Qa,Qbr,QbD,hb0,hc];first|done|omega)) only [go_sem,seval,hlt,f1,f2,hlk,e1,g1,g2,Qa,Qbr,QbD,hb0,hc]
    ·have hn:nearB a b s = true:=by rw [hnb];simp [hc]
     have hj:Q6 a b s = 11:=by simp [Q6,hf,hn]
     (first|refine pfN hM ?_ ?_|refine pf0 hM ?_ ?_)
     ·simp -implicitDefEqProofs (disch:=first|omega|(simp only [go_sem,seval];first|done|omega)) only [go_sem,seval]
      simp [Vu,hj]
     ·(simp only [go_sem,seval,Qf]<;>omega)
    ·have hn:nearB a b s = false:=by rw [hnb];simp [hc]
     have hj:Q6 a b s = 0:=by simp [Q6,hf,hn]
     ((have hmm:List.map (fun x => Qd (shR s x)) b = (b.map (shR s)).map Qd:=(by simp));rw [hmm];refine Qb (Z4 a (b.map (shR s)) (by simp;omega) _) ?_;simp -implicitDefEqProofs (disch:=first|omega|(simp only [go_sem,seval];first|done|omega)) only [go_sem,seval];refine Qb (ZZ _ _) ?_;simp -implicitDefEqProofs (disch:=first|omega|(simp only [go_sem,seval];first|done|omega)) only [go_sem,seval];refine Qb (VW (by simp;omega) (ZW _ (by simp;omega)) _) ?_;simp -implicitDefEqProofs (disch:=first|omega|(simp only [go_sem,seval];first|done|omega)) only [go_sem,seval];((first|refine pfN hM ?_ ?_|refine pf0 hM ?_ ?_) <;> first|(simp only [go_sem,seval,Qf]<;>omega)|(simp -implicitDefEqProofs (disch:=first|omega|(simp only [go_sem,seval];first|done|omega)) only [go_sem,seval];simp [Vu,hj])))
theorem Qfc:∀ (l:List Rev) (pp p:Option Rev),Zl pp p l → ∀ a z,l.head? = some a → l.getLast? = some z → a.at_ ≤ z.at_
 | [],_,_,_,a,z,h,_ => by simp at h
 | [x],_,_,_,a,z,h,h' => by simp at h h';subst h;subst h';omega
 | x :: y :: r,pp,p,ht,a,z,h,h' => by
  simp at h;subst h
  have h2:=Qfc (y :: r) _ _ ht.2.2 y z rfl (by simpa using h')
  have h3:=(ht.2.2.2.1 x rfl).1
  omega
theorem QcN (l:List Rev) (hl:l.length ≤ 400000):Q X 31 [.fs (l.map Qd)] (.tup [.fs ((Zf l).map Qn),.I (ZB l)]):=by
 intro M
 (refine Qe (cf:=L9.c31) rfl rfl fun hM hA => ?_;simp only [L9.c31,zO,zF,zT,zM,CX.i];rw [mk1 _ (by decide)];simp -implicitDefEqProofs (disch:=first|omega|(simp only [go_sem,seval];first|done|omega)) only [go_sem,seval])
 refine Qb (QS l (by omega) _) ?_
 simp -implicitDefEqProofs (disch:=first|omega|(simp only [go_sem,seval];first|done|omega)) only [go_sem,seval]
 refine Qi ?_ ?_ <;> intro hc <;> (try simp only [decide_eq_true_eq,decide_eq_false_iff_not,Classical.not_not,Bool.not_eq_true,Bool.not_eq_true',Bool.not_eq_false',Bool.false_or,Bool.or_false,Bool.true_or,Bool.or_true,Bool.false_and,Bool.and_false,Bool.true_and,Bool.and_true] at hc) <;> simp -implicitDefEqProofs (disch:=first|omega|(simp only [go_sem,seval,hc];first|done|omega)) only [go_sem,seval,hc]
 ·(first|refine pfN hM ?_ ?_|refine pf0 hM ?_ ?_)
  ·simp -implicitDefEqProofs (disch:=first|omega|(simp only [go_sem,seval];first|done|omega)) only [go_sem,seval]
   simp [Zf,ZB,hc]
  ·(simp only [go_sem,seval,Qj]<;>omega)
 ·by_cases h0:l = []
  ·subst h0
   simp -implicitDefEqProofs (disch:=first|omega|(simp only [go_sem,seval];first|done|omega)) only [go_sem,seval]
   (first|refine pfN hM ?_ ?_|refine pf0 hM ?_ ?_)
   ·simp -implicitDefEqProofs (disch:=first|omega|(simp only [go_sem,seval];first|done|omega)) only [go_sem,seval]
    simp [Zf,ZB,hc]
   ·(simp only [go_sem,seval,Qj]<;>omega)
  ·have hlen:1 ≤ l.length:=by cases l <;> simp_all
   have f0:¬ (l.length:Int) = 0:=by omega
   have e1:(l.length:Int) - 1 = ((l.length - 1:Nat):Int):=by omega
   obtain ⟨p,g1⟩:∃ x,l[l.length - 1]? = some x:=⟨_,List.getElem?_eq_getElem (by omega)⟩
   obtain ⟨q,g2⟩:∃ x,l[0]? = some x:=⟨_,List.getElem?_eq_getElem (by omega)⟩
   have hcs:QW l = p.at_ - q.at_ + 1:=by
    unfold QW
    rw [List.getLast?_eq_getElem?,g1,List.head?_eq_getElem?,g2]
   have hch:=VA.1 hc
   have hpg:=Vm _ _ _ hch.2 p (List.mem_of_getElem? g1)
   have hqg:=Vm _ _ _ hch.2 q (List.mem_of_getElem? g2)
   have hmon:=Qfc _ _ _ hch.2 q p (by rw [List.head?_eq_getElem?,g2]) (by rw [List.getLast?_eq_getElem?,g1])
   unfold goodR at hpg hqg
   simp -implicitDefEqProofs (disch:=first|omega|(simp only [go_sem,seval,f0,e1,g1,g2,Qa];first|done|omega)) only [go_sem,seval,f0,e1,g1,g2,Qa]
   refine Qb (QcI l l _ hc hc (by omega) _) ?_
   rw [← hcs]
   clear f0 e1
   simp -implicitDefEqProofs (disch:=first|omega|(simp only [go_sem,seval];first|done|omega)) only [go_sem,seval]
   have hce:ZB l = Q6 l l (QW l):=by simp [ZB,hc,h0]
   have hcr:Q6 l l (QW l) = 0 → Zf l = (QD (Vu l l (QW l))).1:=by intro h;simp [Zf,hce,h,h0]
   have hcn:¬ Q6 l l (QW l) = 0 → Zf l = []:=by intro h;simp [Zf,hce,h]
   have hjl:Q6 l l (QW l) = 0 → Vu l l (QW l) = QJ (l ++ l.map (shR (QW l))):=by intro h;simp [Vu,h]
   refine Qi ?_ ?_ <;> intro hc <;> (try simp only [decide_eq_true_eq,decide_eq_false_iff_not,Classical.not_not,Bool.not_eq_true,Bool.not_eq_true',Bool.not_eq_false',Bool.false_or,Bool.or_false,Bool.true_or,Bool.or_true,Bool.false_and,Bool.and_false,Bool.true_and,Bool.and_true] at hc) <;> simp -implicitDefEqProofs (disch:=first|omega|(simp only [go_sem,seval,hc];first|done|omega)) only [go_sem,seval,hc]
   ·(first|refine pfN hM ?_ ?_|refine pf0 hM ?_ ?_)
    ·simp -implicitDefEqProofs (disch:=first|omega|(simp only [go_sem,seval];first|done|omega)) only [go_sem,seval]
     simp [hce,hcn hc]
    ·(simp only [go_sem,seval,Qj]<;>omega)
   ·have hsm:∀ r ∈ Vu l l (QW l),QG r:=by
     rw [hjl hc]
     intro r hr
     rcases List.mem_append.1 (Qa1 _ r hr) with h|h
     ·exact (Vm _ _ _ hch.2 r h).2
     ·obtain ⟨y,hy,rfl⟩:=List.mem_map.1 h
      exact (Vm _ _ _ hch.2 y hy).2
    have hln:(Vu l l (QW l)).length ≤ 1000000:=by
     rw [hjl hc]
     exact Nat.le_trans (Qa7 _) (by simp;omega)
    refine Qb (ZR _ hln hsm _) ?_
    simp -implicitDefEqProofs (disch:=first|omega|(simp only [go_sem,seval];first|done|omega)) only [go_sem,seval]
    (first|refine pfN hM ?_ ?_|refine pf0 hM ?_ ?_)
    ·simp -implicitDefEqProofs (disch:=first|omega|(simp only [go_sem,seval];first|done|omega)) only [go_sem,seval]
     simp [hce,hcr hc,hc]
    ·(simp only [go_sem,seval,Qj]<;>omega)
theorem Qez (n e:Int) (he:1 ≤ e ∧ e ≤ 3) (hn:0 ≤ n ∧ n ≤ 1152921504606846976):Q X 73 [.I n,.I e] (.I (rootOf n e)):=by
 intro M
 have run:∀ H:Int,(e = 2 ∧ H = 2147483648) ∨ (e = 3 ∧ H = 1048576) → (0:Int) = pwI 0 e ∧ n < pwI (H + 1) e:=by
  rintro H (⟨rfl,rfl⟩|⟨rfl,rfl⟩)
  ·exact ⟨rfl,by simp only [pwI_2];omega⟩
  ·exact ⟨rfl,by simp only [pwI_3];omega⟩
 (refine Qe (cf:=L9.c73) rfl rfl fun hM hA => ?_;simp only [L9.c73,zO,zF,zT,zM,CX.i];rw [mk2 _ (by decide)];simp -implicitDefEqProofs (disch:=first|omega|(simp only [go_sem,seval];first|done|omega)) only [go_sem,seval])
 refine Qi ?_ ?_ <;> intro hc <;> (try simp only [decide_eq_true_eq,decide_eq_false_iff_not,Classical.not_not,Bool.not_eq_true,Bool.not_eq_true',Bool.not_eq_false',Bool.false_or,Bool.or_false,Bool.true_or,Bool.or_true,Bool.false_and,Bool.and_false,Bool.true_and,Bool.and_true] at hc) <;> simp -implicitDefEqProofs (disch:=first|omega|(simp only [go_sem,seval,hc];first|done|omega)) only [go_sem,seval,hc]
 ·subst hc
  (first|refine pfN hM ?_ ?_|refine pf0 hM ?_ ?_)
  ·simp -implicitDefEqProofs (disch:=first|omega|(simp only [go_sem,seval];first|done|omega)) only [go_sem,seval]
   rw [Yo (r:=n) ⟨hn.1,by rw [pwI_1];omega,by rw [pwI_1];omega⟩]
  ·(simp only [go_sem,seval]<;>omega)
 ·have two:((2:Int) = 0) = False:=by simp
  have hh:∃ H:Int,((e = 2 ∧ H = 2147483648) ∨ (e = 3 ∧ H = 1048576)) ∧ (if 2 < e then (1048576:Int) else 2147483648) = H:=by
   by_cases h:e = 2
   ·exact ⟨2147483648,.inl ⟨h,rfl⟩,by rw [if_neg (by omega)]⟩
   ·exact ⟨1048576,.inr ⟨by omega,rfl⟩,by rw [if_pos (by omega)]⟩
  obtain ⟨H,hH,hHe⟩:=hh
  have hr:=run H hH
  refine Qi ?_ ?_ <;> intro hc <;> (try simp only [decide_eq_true_eq,decide_eq_false_iff_not,Classical.not_not,Bool.not_eq_true,Bool.not_eq_true',Bool.not_eq_false',Bool.false_or,Bool.or_false,Bool.true_or,Bool.or_true,Bool.false_and,Bool.and_false,Bool.true_and,Bool.and_true] at hc) <;> simp -implicitDefEqProofs (disch:=first|omega|(simp only [go_sem,seval,hc];first|done|omega)) only [go_sem,seval,hc]
  ·rw [if_pos (by omega)] at hHe
   subst hHe
   (refine Qm (α:=Int × Int) (0,_) (fun p => 0 ≤ p.1 ∧ p.1 ≤ p.2 ∧ ((e = 2 ∧ p.2 ≤ 2147483648) ∨ (e = 3 ∧ p.2 ≤ 1048576)) ∧ pwI p.1 e ≤ n ∧ n < pwI (p.2 + 1) e) (fun _ => M) (fun p => [(0,.I n),(1,.I e),(5,.I p.1),(6,.I p.2)]) (fun p => (p.2 - p.1).toNat) ⟨by omega,by omega,by omega,(by show pwI 0 e ≤ n;rw [← hr.1];exact hn.1),hr.2⟩ rfl rfl ?_;rintro ⟨lo,hi⟩ ⟨h1,h2,h3,h4,h5⟩;simp only [] at h1 h2 h3 h4 h5;by_cases hlt:lo < hi;(have hm:lo < (lo + hi + 1) / 2 ∧ (lo + hi + 1) / 2 ≤ hi:=(by omega));simp -implicitDefEqProofs (disch:=first|omega|(simp only [go_sem,seval,hlt,two,Int.tdiv_eq_ediv_of_nonneg];first|done|omega)) only [go_sem,seval,hlt,two,Int.tdiv_eq_ediv_of_nonneg];generalize (lo + hi + 1) / 2 = m at hm ⊢;refine Qb (ZQ _ _ (by omega) _) ?_;rw [QdF he (by omega) (by omega)];simp -implicitDefEqProofs (disch:=first|omega|(simp only [go_sem,seval];first|done|omega)) only [go_sem,seval];refine Qi ?_ ?_ <;> intro hc <;> (try simp only [decide_eq_true_eq,decide_eq_false_iff_not,Classical.not_not,Bool.not_eq_true,Bool.not_eq_true',Bool.not_eq_false',Bool.false_or,Bool.or_false,Bool.true_or,Bool.or_true,Bool.false_and,Bool.and_false,Bool.true_and,Bool.and_true] at hc) <;> simp -implicitDefEqProofs (disch:=first|omega|(simp only [go_sem,seval,hc];first|done|omega)) only [go_sem,seval,hc];exact again' (m,hi) ⟨by omega,by simp only [];omega,by simp only [];omega,hc,h5⟩ (by simp only [];omega) rfl rfl;exact again' (lo,m - 1) ⟨h1,by simp only [];omega,by simp only [];omega,h4,by simp only [];rw [Int.sub_add_cancel];omega⟩ (by simp only [];omega) rfl rfl;(have he2:hi = lo:=(by omega));subst he2;simp -implicitDefEqProofs (disch:=first|omega|(simp only [go_sem,seval,hlt];first|done|omega)) only [go_sem,seval,hlt];(first|refine pfN hM ?_ ?_|refine pf0 hM ?_ ?_);simp -implicitDefEqProofs (disch:=first|omega|(simp only [go_sem,seval];first|done|omega)) only [go_sem,seval];rw [Yo ⟨h1,h4,h5⟩];(simp only [go_sem,seval]<;>omega))
  ·rw [if_neg (by omega)] at hHe
   subst hHe
   (refine Qm (α:=Int × Int) (0,_) (fun p => 0 ≤ p.1 ∧ p.1 ≤ p.2 ∧ ((e = 2 ∧ p.2 ≤ 2147483648) ∨ (e = 3 ∧ p.2 ≤ 1048576)) ∧ pwI p.1 e ≤ n ∧ n < pwI (p.2 + 1) e) (fun _ => M) (fun p => [(0,.I n),(1,.I e),(5,.I p.1),(6,.I p.2)]) (fun p => (p.2 - p.1).toNat) ⟨by omega,by omega,by omega,(by show pwI 0 e ≤ n;rw [← hr.1];exact hn.1),hr.2⟩ rfl rfl ?_;rintro ⟨lo,hi⟩ ⟨h1,h2,h3,h4,h5⟩;simp only [] at h1 h2 h3 h4 h5;by_cases hlt:lo < hi;(have hm:lo < (lo + hi + 1) / 2 ∧ (lo + hi + 1) / 2 ≤ hi:=(by omega));simp -implicitDefEqProofs (disch:=first|omega|(simp only [go_sem,seval,hlt,two,Int.tdiv_eq_ediv_of_nonneg];first|done|omega)) only [go_sem,seval,hlt,two,Int.tdiv_eq_ediv_of_nonneg];generalize (lo + hi + 1) / 2 = m at hm ⊢;refine Qb (ZQ _ _ (by omega) _) ?_;rw [QdF he (by omega) (by omega)];simp -implicitDefEqProofs (disch:=first|omega|(simp only [go_sem,seval];first|done|omega)) only [go_sem,seval];refine Qi ?_ ?_ <;> intro hc <;> (try simp only [decide_eq_true_eq,decide_eq_false_iff_not,Classical.not_not,Bool.not_eq_true,Bool.not_eq_true',Bool.not_eq_false',Bool.false_or,Bool.or_false,Bool.true_or,Bool.or_true,Bool.false_and,Bool.and_false,Bool.true_and,Bool.and_true] at hc) <;> simp -implicitDefEqProofs (disch:=first|omega|(simp only [go_sem,seval,hc];first|done|omega)) only [go_sem,seval,hc];exact again' (m,hi) ⟨by omega,by simp only [];omega,by simp only [];omega,hc,h5⟩ (by simp only [];omega) rfl rfl;exact again' (lo,m - 1) ⟨h1,by simp only [];omega,by simp only [];omega,h4,by simp only [];rw [Int.sub_add_cancel];omega⟩ (by simp only [];omega) rfl rfl;(have he2:hi = lo:=(by omega));subst he2;simp -implicitDefEqProofs (disch:=first|omega|(simp only [go_sem,seval,hlt];first|done|omega)) only [go_sem,seval,hlt];(first|refine pfN hM ?_ ?_|refine pf0 hM ?_ ?_);simp -implicitDefEqProofs (disch:=first|omega|(simp only [go_sem,seval];first|done|omega)) only [go_sem,seval];rw [Yo ⟨h1,h4,h5⟩];(simp only [go_sem,seval]<;>omega))
theorem Qa9 (x:Life):Q X 72 [ZN x] (.I (Z9 x)):=by
 intro M
 (refine Qe (cf:=L9.c72) rfl rfl fun hM hA => ?_;simp only [L9.c72,zO,zF,zT,zM,CX.i];rw [mk1 _ (by decide)];simp -implicitDefEqProofs (disch:=first|omega|(simp only [go_sem,seval,VF,Va];first|done|omega)) only [go_sem,seval,VF,Va])
 repeat' (first|(refine Qb (Vb _ _ _ _) ?_;(try simp -implicitDefEqProofs (disch:=first|omega|(simp only [go_sem,seval];first|done|omega)) only [go_sem,seval]))|(refine Qb (Vn _ _) ?_;(try simp -implicitDefEqProofs (disch:=first|omega|(simp only [go_sem,seval];first|done|omega)) only [go_sem,seval]))|(refine Qb (QI [_,_] (by simp) _) ?_;(try simp -implicitDefEqProofs (disch:=first|omega|(simp only [go_sem,seval];first|done|omega)) only [go_sem,seval]))|(refine Qi ?_ ?_ <;> intro hc <;> (try simp only [decide_eq_true_eq,decide_eq_false_iff_not,Classical.not_not,Bool.not_eq_true,Bool.not_eq_true',Bool.not_eq_false',Bool.false_or,Bool.or_false,Bool.true_or,Bool.or_true,Bool.false_and,Bool.and_false,Bool.true_and,Bool.and_true] at hc) <;> (try simp -implicitDefEqProofs (disch:=first|omega|(simp only [go_sem,seval,hc];first|done|omega)) only [go_sem,seval,hc]))|(refine QA ?_ ?_ <;> intro hc <;> (try simp only [decide_eq_true_eq,decide_eq_false_iff_not,Classical.not_not,Bool.not_eq_true,Bool.not_eq_true',Bool.not_eq_false',Bool.false_or,Bool.or_false,Bool.true_or,Bool.or_true,Bool.false_and,Bool.and_false,Bool.true_and,Bool.and_true] at hc) <;> (try simp -implicitDefEqProofs (disch:=first|omega|(simp only [go_sem,seval,hc];first|done|omega)) only [go_sem,seval,hc])))
 (all_goals (first|refine pfN hM ?_ ?_|refine pf0 hM ?_ ?_);all_goals first|(simp only [go_sem,seval,Qea]<;>omega)|skip;all_goals (try simp -implicitDefEqProofs (disch:=first|omega|(simp only [go_sem,seval,Z9];first|done|omega)) only [go_sem,seval,Z9]))
theorem YA (l:List Cyc) (e number:Int) (hl:l.length ≤ 1048576):Q X 41 [.fs (l.map Qn),.I e,.I number] (.tup [.I (eqvRes l e number).1,.I (eqvRes l e number).2]):=by
 intro M
 (refine Qe (cf:=L9.c41) rfl rfl fun hM hA => ?_;simp only [L9.c41,zO,zF,zT,zM,CX.i];rw [mk3 _ (by decide)];simp -implicitDefEqProofs (disch:=first|omega|(simp only [go_sem,seval];first|done|omega)) only [go_sem,seval])
 refine Qb (JQ l e hl _) ?_
 simp -implicitDefEqProofs (disch:=first|omega|(simp only [go_sem,seval];first|done|omega)) only [go_sem,seval]
 have hd:=Qip l e
 have hx:=@QgD l e
 generalize hD:Vc l e = D at hd hx
 obtain ⟨d,e1⟩:=D
 simp only [] at hd hx
 have hfin:∀ r:Int × Int,eqvRes l e number = r → (eqvRes l e number).1 = r.1 ∧ (eqvRes l e number).2 = r.2:=fun r h => by rw [h];exact ⟨rfl,rfl⟩
 rcases (by omega:(¬ e1 = 0 ∧ ¬ e1 = 4) ∨ e1 = 0 ∨ e1 = 4) with ⟨h0,h4⟩|rfl|rfl
 ·simp -implicitDefEqProofs (disch:=first|omega|(simp only [go_sem,seval,h0,h4];first|done|omega)) only [go_sem,seval,h0,h4]
  (first|refine pfN hM ?_ ?_|refine pf0 hM ?_ ?_)
  ·simp -implicitDefEqProofs (disch:=first|omega|(simp only [go_sem,seval];first|done|omega)) only [go_sem,seval]
   simp [eqvRes,hD,h0,h4]
  ·(simp only [go_sem,seval]<;>omega)
 ·have he:=hx (.inl rfl)
  simp -implicitDefEqProofs (disch:=first|omega|(simp only [go_sem,seval];first|done|omega)) only [go_sem,seval]
  refine Qb (Vb _ _ _ _) ?_
  simp -implicitDefEqProofs (disch:=first|omega|(simp only [go_sem,seval];first|done|omega)) only [go_sem,seval]
  refine Qb (QI [_,_] (by simp) _) ?_
  simp -implicitDefEqProofs (disch:=first|omega|(simp only [go_sem,seval];first|done|omega)) only [go_sem,seval]
  refine Qi ?_ ?_ <;> intro hc <;> (try simp only [decide_eq_true_eq,decide_eq_false_iff_not,Classical.not_not,Bool.not_eq_true,Bool.not_eq_true',Bool.not_eq_false',Bool.false_or,Bool.or_false,Bool.true_or,Bool.or_true,Bool.false_and,Bool.and_false,Bool.true_and,Bool.and_true] at hc) <;> simp -implicitDefEqProofs (disch:=first|omega|(simp only [go_sem,seval,hc];first|done|omega)) only [go_sem,seval,hc]
  ·(first|refine pfN hM ?_ ?_|refine pf0 hM ?_ ?_)
   ·simp -implicitDefEqProofs (disch:=first|omega|(simp only [go_sem,seval];first|done|omega)) only [go_sem,seval]
    simp [eqvRes,hD,hc]
   ·(simp only [go_sem,seval]<;>omega)
  ·have hn:=Q8.1 (QY hc).1
   have hq:0 ≤ d / number ∧ d / number ≤ 1152921504606846976:=⟨Int.ediv_nonneg hd.1 (by omega),Int.le_trans (Int.ediv_le_self _ hd.1) hd.2⟩
   have n0:¬ number = 0:=by omega
   simp -implicitDefEqProofs (disch:=first|omega|(simp only [go_sem,seval,n0,Int.tdiv_eq_ediv_of_nonneg];first|done|omega)) only [go_sem,seval,n0,Int.tdiv_eq_ediv_of_nonneg]
   refine Qb (Qez _ _ he hq _) ?_
   simp -implicitDefEqProofs (disch:=first|omega|(simp only [go_sem,seval];first|done|omega)) only [go_sem,seval]
   (first|refine pfN hM ?_ ?_|refine pf0 hM ?_ ?_)
   ·simp -implicitDefEqProofs (disch:=first|omega|(simp only [go_sem,seval];first|done|omega)) only [go_sem,seval]
    simp [eqvRes,hD,hc]
   ·(simp only [go_sem,seval]<;>omega)
 ·have f40:((4:Int) = 0) = False:=by simp
  simp -implicitDefEqProofs (disch:=first|omega|(simp only [go_sem,seval,f40];first|done|omega)) only [go_sem,seval,f40]
  refine Qb (Vb _ _ _ _) ?_
  simp -implicitDefEqProofs (disch:=first|omega|(simp only [go_sem,seval];first|done|omega)) only [go_sem,seval]
  refine Qb (QI [_,_] (by simp) _) ?_
  simp -implicitDefEqProofs (disch:=first|omega|(simp only [go_sem,seval];first|done|omega)) only [go_sem,seval]
  refine Qi ?_ ?_ <;> intro hc <;> (try simp only [decide_eq_true_eq,decide_eq_false_iff_not,Classical.not_not,Bool.not_eq_true,Bool.not_eq_true',Bool.not_eq_false',Bool.false_or,Bool.or_false,Bool.true_or,Bool.or_true,Bool.false_and,Bool.and_false,Bool.true_and,Bool.and_true] at hc) <;> simp -implicitDefEqProofs (disch:=first|omega|(simp only [go_sem,seval,hc];first|done|omega)) only [go_sem,seval,hc]
  ·(first|refine pfN hM ?_ ?_|refine pf0 hM ?_ ?_)
   ·simp -implicitDefEqProofs (disch:=first|omega|(simp only [go_sem,seval];first|done|omega)) only [go_sem,seval]
    simp [eqvRes,hD,hc]
   ·(simp only [go_sem,seval]<;>omega)
  ·exact absurd (QY hc).2 (by simp)
theorem Qb5 (x:Life) (l:List Int) (hl:l.length ≤ 1048576):Q X 40 [ZN x,.fs (l.map .I)] (.tup [.I (Jo x l).1,.I (Jo x l).2]):=by
 intro M
 (refine Qe (cf:=L9.c40) rfl rfl fun hM hA => ?_;simp only [L9.c40,zO,zF,zT,zM,CX.i];rw [mk2 _ (by decide)];simp -implicitDefEqProofs (disch:=first|omega|(simp only [go_sem,seval,VF,Va];first|done|omega)) only [go_sem,seval,VF,Va])
 refine Qb (Qa9 x _) ?_
 simp -implicitDefEqProofs (disch:=first|omega|(simp only [go_sem,seval,VF,Va];first|done|omega)) only [go_sem,seval,VF,Va]
 refine Qb (Zu l hl _) ?_
 simp -implicitDefEqProofs (disch:=first|omega|(simp only [go_sem,seval];first|done|omega)) only [go_sem,seval]
 refine Qb (QI [_,_] (by simp) _) ?_
 simp -implicitDefEqProofs (disch:=first|omega|(simp only [go_sem,seval];first|done|omega)) only [go_sem,seval]
 refine Qi ?_ ?_ <;> intro hc <;> (try simp only [decide_eq_true_eq,decide_eq_false_iff_not,Classical.not_not,Bool.not_eq_true,Bool.not_eq_true',Bool.not_eq_false',Bool.false_or,Bool.or_false,Bool.true_or,Bool.or_true,Bool.false_and,Bool.and_false,Bool.true_and,Bool.and_true] at hc) <;> simp -implicitDefEqProofs (disch:=first|omega|(simp only [go_sem,seval,hc];first|done|omega)) only [go_sem,seval,hc]
 ·(first|refine pfN hM ?_ ?_|refine pf0 hM ?_ ?_)
  ·simp -implicitDefEqProofs (disch:=first|omega|(simp only [go_sem,seval];first|done|omega)) only [go_sem,seval]
   simp [Jo,hc]
  ·(simp only [go_sem,seval]<;>omega)
 ·have hz:=QY hc
  have he:=Q8.1 (QY hz.1).2
  have hcp:=Q8.1 (QY hz.1).1
  have ht:=Qju hz.2 he
  refine Qb (J5 l x.exp hz.2 he _) ?_
  simp -implicitDefEqProofs (disch:=first|omega|(simp only [go_sem,seval];first|done|omega)) only [go_sem,seval]
  refine Qb (Vs _ _ _) ?_
  simp -implicitDefEqProofs (disch:=first|omega|(simp only [go_sem,seval];first|done|omega)) only [go_sem,seval]
  refine Qb (QI [_,_] (by simp) _) ?_
  simp -implicitDefEqProofs (disch:=first|omega|(simp only [go_sem,seval];first|done|omega)) only [go_sem,seval]
  have h0:=hc
  clear hc
  refine Qi ?_ ?_ <;> intro hc <;> (try simp only [decide_eq_true_eq,decide_eq_false_iff_not,Classical.not_not,Bool.not_eq_true,Bool.not_eq_true',Bool.not_eq_false',Bool.false_or,Bool.or_false,Bool.true_or,Bool.or_true,Bool.false_and,Bool.and_false,Bool.true_and,Bool.and_true] at hc) <;> simp -implicitDefEqProofs (disch:=first|omega|(simp only [go_sem,seval,hc];first|done|omega)) only [go_sem,seval,hc]
  ·(first|refine pfN hM ?_ ?_|refine pf0 hM ?_ ?_)
   ·simp -implicitDefEqProofs (disch:=first|omega|(simp only [go_sem,seval];first|done|omega)) only [go_sem,seval]
    simp [Jo,h0,hc]
   ·(simp only [go_sem,seval]<;>omega)
  ·have hn:¬ (twRes l x.exp).1 = 0:=by
    intro h
    have:=(QY hc).2
    simp [h] at this
   have hq:0 ≤ 2 * x.cap / (twRes l x.exp).1 ∧ 2 * x.cap / (twRes l x.exp).1 ≤ 2 * 1152921504606846976:=⟨Int.ediv_nonneg (by omega) (by omega),Int.le_trans (Int.ediv_le_self _ (by omega)) (by omega)⟩
   simp -implicitDefEqProofs (disch:=first|omega|(simp only [go_sem,seval,hn,VF,Va,Int.tdiv_eq_ediv_of_nonneg];first|done|omega)) only [go_sem,seval,hn,VF,Va,Int.tdiv_eq_ediv_of_nonneg]
   (first|refine pfN hM ?_ ?_|refine pf0 hM ?_ ?_)
   ·simp -implicitDefEqProofs (disch:=first|omega|(simp only [go_sem,seval];first|done|omega)) only [go_sem,seval]
    simp [Jo,h0,hc]
   ·(simp only [go_sem,seval]<;>omega)
theorem Qa0:Q X 28 [] (.fs (awL.map .I)):=Qci
theorem Qev:Q X 27 [.fs (awL.map .I)] (.tup [.fs (awR.map Qd),.I 0]):=by
 have:=Qa6 (X:=X) awL (by decide)
 rw [aw2,if_pos rfl,aw1] at this;exact this
theorem QlH:Q X 29 [.fs (awR.map Qd)] (.tup [.fs (awC.map Qn),.fs (awD.map Qd),.I 0]):=by
 have:=Qdh (X:=X) awR (by decide)
 rw [aw3,aw4] at this;exact this
theorem Qid:Q X 30 [.fs (awR.map Qd),.I 3] (.tup [.fs (awD.map Qd),.I 0]):=by
 have:=JR (X:=X) awR 3 (by decide)
 rw [aw7,if_pos rfl,aw5] at this;exact this
theorem QgH:Q X 30 [.fs (awR.map Qd),.I 2] (.tup [.fs (awR.map Qd),.I 0]):=by
 have:=JR (X:=X) awR 2 (by decide)
 rw [aw8,if_pos rfl,aw6] at this;exact this
theorem QkE:Q X 31 [.fs (awD.map Qd)] (.tup [.fs (awO.map Qn),.I 0]):=by
 have:=QcN (X:=X) awD (by decide)
 rw [aw9,aw10] at this;exact this
theorem QeD:Q X 16 [.fs (awR.map Qd),.I 3] (.tup [.I 3,.I 0]):=by
 have:=YW (X:=X) awR 3 (by decide)
 rw [aw11] at this;exact this
theorem Qgd:Q X 14 [.fs (awR.map Qd)] (.tup [.I 7,.I 0]):=by
 have:=Y5 (X:=X) awR (by decide)
 rw [aw12] at this;exact this
theorem Qjj:Q X 32 [.fs [.agg [.I 3,.I 4,.I 2,.I 4]],.I 2] (.tup [.I 4,.I 0]):=by
 have:=JQ (X:=X) awC 2 (by decide)
 rw [aw13] at this;exact this
theorem Qnd:Q X 33 [.fs (awD.map Qd),.I 2] (.tup [.I 110,.I 0]):=by
 have:=Qex (X:=X) awD 2 (by decide)
 rw [aw14] at this;exact this
theorem Qmo:Q X 34 [.fs (awL.map .I),.I 2] (.tup [.I 118,.I 0]):=by
 have:=Qds (X:=X) awL 2 (by decide)
 rw [aw15] at this;exact this
theorem Qiv:Q X 40 [.agg [.I 40,.I 1],.fs (awL.map .I)] (.tup [.I 3,.I 0]):=by
 have:=Qb5 (X:=X) ⟨40,1⟩ awL (by decide)
 rw [aw16] at this;exact this
theorem QcY:Q X 41 [.fs [.agg [.I 3,.I 4,.I 2,.I 4]],.I 2,.I 1] (.tup [.I 2,.I 0]):=by
 have:=YA (X:=X) awC 2 1 (by decide)
 rw [aw17] at this;exact this
theorem QcM:Q X 41 [.fs [.agg [.I 3,.I 4,.I 2,.I 4]],.I 2,.I 2] (.tup [.I 1,.I 0]):=by
 have:=YA (X:=X) awC 2 2 (by decide)
 rw [aw18] at this;exact this
theorem Jp (l:List Rev) (hl:l.length ≤ 1048576):Q X 36 [.fs (l.map Qd)] (.fs (l.map Qd)):=Qc5 l hl
theorem Qd5 (l:List Cyc) (hl:l.length ≤ 1048576):Q X 38 [.fs (l.map Qn)] (.fs (l.map Qn)):=Qce l hl
theorem Qlp:Q X 39 [.fs (awD.map Qd)] (.fs [.I 0,.I 5,.I (-1),.I 6]):=QcH awD (by decide)
theorem Qgp:Q X 10 [.fs [.I 0,.I 5,.I (-1),.I 6],.fs [.I 0,.I 5,.I (-1),.I 6]] (.B true):=Qa2 [0,5,-1,6] [0,5,-1,6] (by decide)
theorem QdG (l:List Rev) (hl:l.length ≤ 1048576):Q X 35 [.fs (l.map Qd),.fs (l.map Qd)] (.B true):=by
 have:=Jz (X:=X) l l hl
 rw [decide_eq_true rfl] at this;exact this
theorem QlO:Q X 35 [.fs (awR.map Qd),.fs [.agg [.I 0,.I 0],.agg [.I 1,.I 5],.agg [.I 3,.I 2],.agg [.I 4,.I 4],.agg [.I 5,.I (-1)],.agg [.I 7,.I 6]]] (.B true):=QdG awR (by decide)
theorem QlW:Q X 37 [.fs (awC.map Qn),.fs [.agg [.I 3,.I 4,.I 2,.I 4]]] (.B true):=Yt awC awC (by decide)
theorem QmJ:Q X 37 [.fs (awO.map Qn),.fs [.agg [.I 8,.I 9,.I 0,.I 5],.agg [.I 7,.I 13,.I (-1),.I 6]]] (.B true):=Yt awO awO (by decide)
theorem Q1:awR.length = 6:=rfl
theorem Q2:awD.length = 4:=rfl
theorem QR:(awR.map Qd).take 6 = awR.map Qd:=rfl
theorem QQ:(awD.map Qd).take 4 = awD.map Qd:=rfl
theorem Yz:Q X 5 [] (.B true):=by
 intro M
 have okR:=Yw awR
 have okD:=Yw awD
 (refine Qe (cf:=L9.c5) rfl rfl fun hM hA => ?_;simp only [L9.c5,zO,zF,zT,zM,CX.i];rw [mk0];simp -implicitDefEqProofs (disch:=first|omega|(simp only [go_sem,seval];first|done|omega)) only [go_sem,seval])
 refine Qb (Qa0 _) ?_
 simp -implicitDefEqProofs (disch:=first|omega|(simp only [go_sem,seval];first|done|omega)) only [go_sem,seval]
 refine Qb (Qev _) ?_
 simp -implicitDefEqProofs (disch:=first|omega|(simp only [go_sem,seval,okR,okD,Q1,Q2,QR,QQ];first|done|omega)) only [go_sem,seval,okR,okD,Q1,Q2,QR,QQ]
 refine Qb (QlH _) ?_
 simp -implicitDefEqProofs (disch:=first|omega|(simp only [go_sem,seval,okR,okD,Q1,Q2,QR,QQ];first|done|omega)) only [go_sem,seval,okR,okD,Q1,Q2,QR,QQ]
 refine Qb (Qid _) ?_
 simp -implicitDefEqProofs (disch:=first|omega|(simp only [go_sem,seval,okR,okD,Q1,Q2,QR,QQ];first|done|omega)) only [go_sem,seval,okR,okD,Q1,Q2,QR,QQ]
 refine Qb (QgH _) ?_
 simp -implicitDefEqProofs (disch:=first|omega|(simp only [go_sem,seval,okR,okD,Q1,Q2,QR,QQ];first|done|omega)) only [go_sem,seval,okR,okD,Q1,Q2,QR,QQ]
 refine Qb (QkE _) ?_
 simp -implicitDefEqProofs (disch:=first|omega|(simp only [go_sem,seval,okR,okD,Q1,Q2,QR,QQ];first|done|omega)) only [go_sem,seval,okR,okD,Q1,Q2,QR,QQ]
 refine Qb (QeD _) ?_
 simp -implicitDefEqProofs (disch:=first|omega|(simp only [go_sem,seval,okR,okD,Q1,Q2,QR,QQ];first|done|omega)) only [go_sem,seval,okR,okD,Q1,Q2,QR,QQ]
 refine Qb (Qgd _) ?_
 simp -implicitDefEqProofs (disch:=first|omega|(simp only [go_sem,seval,okR,okD,Q1,Q2,QR,QQ];first|done|omega)) only [go_sem,seval,okR,okD,Q1,Q2,QR,QQ]
 refine Qb (Qjj _) ?_
 simp -implicitDefEqProofs (disch:=first|omega|(simp only [go_sem,seval,okR,okD,Q1,Q2,QR,QQ];first|done|omega)) only [go_sem,seval,okR,okD,Q1,Q2,QR,QQ]
 refine Qb (Qnd _) ?_
 simp -implicitDefEqProofs (disch:=first|omega|(simp only [go_sem,seval,okR,okD,Q1,Q2,QR,QQ];first|done|omega)) only [go_sem,seval,okR,okD,Q1,Q2,QR,QQ]
 refine Qb (Qa0 _) ?_
 simp -implicitDefEqProofs (disch:=first|omega|(simp only [go_sem,seval];first|done|omega)) only [go_sem,seval]
 refine Qb (Qmo _) ?_
 simp -implicitDefEqProofs (disch:=first|omega|(simp only [go_sem,seval];first|done|omega)) only [go_sem,seval]
 refine Qb (Jp awR (by decide) _) ?_
 simp -implicitDefEqProofs (disch:=first|omega|(simp only [go_sem,seval];first|done|omega)) only [go_sem,seval]
 refine Qb (QlO _) ?_
 simp -implicitDefEqProofs (disch:=first|omega|(simp only [go_sem,seval];first|done|omega)) only [go_sem,seval]
 refine Qb (Qd5 awC (by decide) _) ?_
 simp -implicitDefEqProofs (disch:=first|omega|(simp only [go_sem,seval];first|done|omega)) only [go_sem,seval]
 refine Qb (QlW _) ?_
 simp -implicitDefEqProofs (disch:=first|omega|(simp only [go_sem,seval];first|done|omega)) only [go_sem,seval]
 refine Qb (Jp awD (by decide) _) ?_
 simp -implicitDefEqProofs (disch:=first|omega|(simp only [go_sem,seval];first|done|omega)) only [go_sem,seval]
 refine Qb (Qlp _) ?_
 simp -implicitDefEqProofs (disch:=first|omega|(simp only [go_sem,seval];first|done|omega)) only [go_sem,seval]
 refine Qb (Qgp _) ?_
 simp -implicitDefEqProofs (disch:=first|omega|(simp only [go_sem,seval];first|done|omega)) only [go_sem,seval]
 refine Qb (Jp awD (by decide) _) ?_
 simp -implicitDefEqProofs (disch:=first|omega|(simp only [go_sem,seval];first|done|omega)) only [go_sem,seval]
 refine Qb (Jp awD (by decide) _) ?_
 simp -implicitDefEqProofs (disch:=first|omega|(simp only [go_sem,seval];first|done|omega)) only [go_sem,seval]
 refine Qb (QdG awD (by decide) _) ?_
 simp -implicitDefEqProofs (disch:=first|omega|(simp only [go_sem,seval];first|done|omega)) only [go_sem,seval]
 refine Qb (Jp awR (by decide) _) ?_
 simp -implicitDefEqProofs (disch:=first|omega|(simp only [go_sem,seval];first|done|omega)) only [go_sem,seval]
 refine Qb (Jp awR (by decide) _) ?_
 simp -implicitDefEqProofs (disch:=first|omega|(simp only [go_sem,seval];first|done|omega)) only [go_sem,seval]
 refine Qb (QdG awR (by decide) _) ?_
 simp -implicitDefEqProofs (disch:=first|omega|(simp only [go_sem,seval];first|done|omega)) only [go_sem,seval]
 refine Qb (Qa0 _) ?_
 simp -implicitDefEqProofs (disch:=first|omega|(simp only [go_sem,seval];first|done|omega)) only [go_sem,seval]
 refine Qb (Qiv _) ?_
 simp -implicitDefEqProofs (disch:=first|omega|(simp only [go_sem,seval];first|done|omega)) only [go_sem,seval]
 refine Qb (QcY _) ?_
 simp -implicitDefEqProofs (disch:=first|omega|(simp only [go_sem,seval];first|done|omega)) only [go_sem,seval]
 refine Qb (QcM _) ?_
 simp -implicitDefEqProofs (disch:=first|omega|(simp only [go_sem,seval];first|done|omega)) only [go_sem,seval]
 refine Qb (Qd5 awO (by decide) _) ?_
 simp -implicitDefEqProofs (disch:=first|omega|(simp only [go_sem,seval];first|done|omega)) only [go_sem,seval]
 refine Qb (QmJ _) ?_
 simp -implicitDefEqProofs (disch:=first|omega|(simp only [go_sem,seval];first|done|omega)) only [go_sem,seval]
 (first|refine pfN hM ?_ ?_|refine pf0 hM ?_ ?_)
 ·simp -implicitDefEqProofs (disch:=first|omega|(simp only [go_sem,seval];first|done|omega)) only [go_sem,seval]
 ·(simp only [go_sem,seval]<;>omega)
theorem Qp (a e bad want:Int):Q X 26 [.I a,.I e,.I bad,.I want] (.B (decide (e = bad ∧ (¬ bad = 0 ∧ a = 0 ∨ bad = 0 ∧ a = want)))):=by
 intro M
 (refine Qe (cf:=L9.c26) rfl rfl fun hM hA => ?_;simp only [L9.c26,zO,zF,zT,zM,CX.i];rw [mk4 _ (by decide)];simp -implicitDefEqProofs (disch:=first|omega|(simp only [go_sem,seval];first|done|omega)) only [go_sem,seval])
 by_cases h1:e = bad
 ·subst h1
  by_cases h2:e = 0
  ·subst h2
   by_cases h3:a = want
   ·subst h3
    simp -implicitDefEqProofs (disch:=first|omega|(simp only [go_sem,seval];first|done|omega)) only [go_sem,seval]
    (all_goals (first|refine pfN hM ?_ ?_|refine pf0 hM ?_ ?_);all_goals first|(simp only [go_sem,seval]<;>omega)|skip;all_goals (try simp -implicitDefEqProofs (disch:=first|omega|(simp only [go_sem,seval];first|done|omega)) only [go_sem,seval]))
    simp
   ·simp -implicitDefEqProofs (disch:=first|omega|(simp only [go_sem,seval,h3];first|done|omega)) only [go_sem,seval,h3]
    (all_goals (first|refine pfN hM ?_ ?_|refine pf0 hM ?_ ?_);all_goals first|(simp only [go_sem,seval]<;>omega)|skip;all_goals (try simp -implicitDefEqProofs (disch:=first|omega|(simp only [go_sem,seval];first|done|omega)) only [go_sem,seval]))
    simp [h3]
  ·by_cases h3:a = 0
   ·subst h3
    simp -implicitDefEqProofs (disch:=first|omega|(simp only [go_sem,seval,h2];first|done|omega)) only [go_sem,seval,h2]
    (all_goals (first|refine pfN hM ?_ ?_|refine pf0 hM ?_ ?_);all_goals first|(simp only [go_sem,seval]<;>omega)|skip;all_goals (try simp -implicitDefEqProofs (disch:=first|omega|(simp only [go_sem,seval];first|done|omega)) only [go_sem,seval]))
    simp [h2]
   ·simp -implicitDefEqProofs (disch:=first|omega|(simp only [go_sem,seval,h2,h3];first|done|omega)) only [go_sem,seval,h2,h3]
    (all_goals (first|refine pfN hM ?_ ?_|refine pf0 hM ?_ ?_);all_goals first|(simp only [go_sem,seval]<;>omega)|skip;all_goals (try simp -implicitDefEqProofs (disch:=first|omega|(simp only [go_sem,seval];first|done|omega)) only [go_sem,seval]))
    simp [h2,h3]
 ·simp -implicitDefEqProofs (disch:=first|omega|(simp only [go_sem,seval,h1];first|done|omega)) only [go_sem,seval,h1]
  (all_goals (first|refine pfN hM ?_ ?_|refine pf0 hM ?_ ?_);all_goals first|(simp only [go_sem,seval]<;>omega)|skip;all_goals (try simp -implicitDefEqProofs (disch:=first|omega|(simp only [go_sem,seval];first|done|omega)) only [go_sem,seval]))
  simp [h1]
end
end Go.Nac.L9
