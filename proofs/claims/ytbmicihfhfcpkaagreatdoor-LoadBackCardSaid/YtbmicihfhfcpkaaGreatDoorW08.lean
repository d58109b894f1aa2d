import Derived.Test.YtbmicihfhfcpkaaGreatDoorW07
set_option linter.unusedSimpArgs false
set_option linter.unusedVariables false
set_option linter.unnecessarySimpa false
set_option maxRecDepth 10000
namespace Go.Nac.L7
attribute [local congr] Qa8 YZ Qbf Jn Jf YU Qbc QaZ
section
variable {X:XRel}
theorem QdL (l:List Rev) (hl:l.length ≤ 1000000):Q X 20 [.fs (l.map Qc)] (.tup [.fs ((J2 l).1.map Qw),.fs ((J2 l).2.reverse.map Qc),.I (Qh l)]):=by
 intro M
 (refine Qd (cf:=L7.c20) rfl rfl fun hM hA => ?_;simp only [L7.c20,zO,zF,zT,zM,CX.i];rw [mk1 _ (by decide)];simp -implicitDefEqProofs (disch:=first|omega|(simp only [go_sem,seval];first|done|omega)) only [go_sem,seval])
 refine Qb (QB l (by omega) _) ?_
 simp -implicitDefEqProofs (disch:=first|omega|(simp only [go_sem,seval];first|done|omega)) only [go_sem,seval]
 refine Qg ?_ ?_ <;> intro hc <;> (try simp only [decide_eq_true_eq,decide_eq_false_iff_not,Classical.not_not,Bool.not_eq_true,Bool.not_eq_true',Bool.not_eq_false',Bool.false_or,Bool.or_false,Bool.true_or,Bool.or_true,Bool.false_and,Bool.and_false,Bool.true_and,Bool.and_true] at hc) <;> simp -implicitDefEqProofs (disch:=first|omega|(simp only [go_sem,seval,hc];first|done|omega)) only [go_sem,seval,hc]
 ·(first|refine pfN hM ?_ ?_|refine pf0 hM ?_ ?_)
  ·simp -implicitDefEqProofs (disch:=first|omega|(simp only [go_sem,seval];first|done|omega)) only [go_sem,seval]
   simp [J2,hc]
  ·(simp only [go_sem,seval,Qe,Qu]<;>omega)
 ·refine Qb (ZH l hl (Yf hc) _) ?_
  simp -implicitDefEqProofs (disch:=first|omega|(simp only [go_sem,seval];first|done|omega)) only [go_sem,seval]
  (first|refine pfN hM ?_ ?_|refine pf0 hM ?_ ?_)
  ·simp -implicitDefEqProofs (disch:=first|omega|(simp only [go_sem,seval];first|done|omega)) only [go_sem,seval]
   simp [J2,hc]
  ·(simp only [go_sem,seval,Qe,Qu]<;>omega)
theorem QfW {l:List Int} (h:QI l = 0):∀ r ∈ Qv (points l),Qx r:=fun r hr => (Yr.1 h).2 _ (QbB (Qa9 _ r hr)).1
theorem J6 (l:List Int) (e:Int) (h:QI l = 0) (he:1 ≤ e ∧ e ≤ 3):Q X 58 [.fs (l.map .I),.I e] (.tup [.I (twRes l e).1,.I (twRes l e).2]):=by
 intro M
 have hl:=(Yr.1 h).1
 have hrl:(Qv (points l)).length ≤ l.length:=Nat.le_trans (Qbb _) (by simp [points])
 have hsr:=QfW h
 (refine Qd (cf:=L7.c58) rfl rfl fun hM hA => ?_;simp only [L7.c58,zO,zF,zT,zM,CX.i];rw [mk2 _ (by decide)];simp -implicitDefEqProofs (disch:=first|omega|(simp only [go_sem,seval];first|done|omega)) only [go_sem,seval])
 refine Qb (Jw l (by omega) _) ?_
 simp -implicitDefEqProofs (disch:=first|omega|(simp only [go_sem,seval];first|done|omega)) only [go_sem,seval]
 refine Qb (ZH _ (by omega) hsr _) ?_
 simp -implicitDefEqProofs (disch:=first|omega|(simp only [go_sem,seval];first|done|omega)) only [go_sem,seval]
 have hself:(M ++ [mRow 0 (0,false)])[M.length]? = some (mRow 0 (0,false)):=by rw [getM0];rfl
 have hcl:=Qam (Qv (points l))
 have hsc:=Jl hsr
 have hm1:mOk (Vc e 2 (0,false) (Qt (Qv (points l))).1):=Qab (by omega) he ⟨by decide,by decide⟩ hsc
 refine Q0 (JD hself ⟨by decide,by decide⟩ (by omega) hsc he (by omega)) ?_
 rw [setM0]
 simp -implicitDefEqProofs (disch:=first|omega|(simp only [go_sem,seval];first|done|omega)) only [go_sem,seval]
 refine Q0 (JE (v:=0) (by rw [getM0];rfl) hm1 (by simp;omega) (fun c hc => hsr c (Qao _ c (by simpa using hc))) he) ?_
 rw [setM0]
 simp -implicitDefEqProofs (disch:=first|omega|(simp only [go_sem,seval];first|done|omega)) only [go_sem,seval]
 refine Qb (ZT (m:=VN e (Vc e 2 (0,false) (Qt (Qv (points l))).1) (Qt (Qv (points l))).2.reverse) (v:=0) (by rw [getM0];rfl)) ?_
 simp -implicitDefEqProofs (disch:=first|omega|(simp only [go_sem,seval];first|done|omega)) only [go_sem,seval]
 (first|refine pfN hM ?_ ?_|refine pf0 hM ?_ ?_)
 ·simp -implicitDefEqProofs (disch:=first|omega|(simp only [go_sem,seval];first|done|omega)) only [go_sem,seval]
  rfl
 ·(simp only [go_sem,seval]<;>omega)
theorem QdQ (l:List Int) (e:Int) (hl:l.length ≤ 1048576):Q X 27 [.fs (l.map .I),.I e] (.tup [.I (YY l e).1,.I (YY l e).2]):=by
 intro M
 (refine Qd (cf:=L7.c27) rfl rfl fun hM hA => ?_;simp only [L7.c27,zO,zF,zT,zM,CX.i];rw [mk2 _ (by decide)];simp -implicitDefEqProofs (disch:=first|omega|(simp only [go_sem,seval];first|done|omega)) only [go_sem,seval])
 refine Qb (Zb l hl _) ?_
 simp -implicitDefEqProofs (disch:=first|omega|(simp only [go_sem,seval];first|done|omega)) only [go_sem,seval]
 repeat' (first|(refine Qb (Vf _ _) ?_;(try simp -implicitDefEqProofs (disch:=first|omega|(simp only [go_sem,seval];first|done|omega)) only [go_sem,seval]))|(refine Qb (Qy [_,_] (by simp) _) ?_;(try simp -implicitDefEqProofs (disch:=first|omega|(simp only [go_sem,seval];first|done|omega)) only [go_sem,seval]))|(refine Qg ?_ ?_ <;> intro hc <;> (try simp only [decide_eq_true_eq,decide_eq_false_iff_not,Classical.not_not,Bool.not_eq_true,Bool.not_eq_true',Bool.not_eq_false',Bool.false_or,Bool.or_false,Bool.true_or,Bool.or_true,Bool.false_and,Bool.and_false,Bool.true_and,Bool.and_true] at hc) <;> (try simp -implicitDefEqProofs (disch:=first|omega|(simp only [go_sem,seval,hc];first|done|omega)) only [go_sem,seval,hc]))|(refine Qq ?_ ?_ <;> intro hc <;> (try simp only [decide_eq_true_eq,decide_eq_false_iff_not,Classical.not_not,Bool.not_eq_true,Bool.not_eq_true',Bool.not_eq_false',Bool.false_or,Bool.or_false,Bool.true_or,Bool.or_true,Bool.false_and,Bool.and_false,Bool.true_and,Bool.and_true] at hc) <;> (try simp -implicitDefEqProofs (disch:=first|omega|(simp only [go_sem,seval,hc];first|done|omega)) only [go_sem,seval,hc])))
 ·(first|refine pfN hM ?_ ?_|refine pf0 hM ?_ ?_)
  ·simp -implicitDefEqProofs (disch:=first|omega|(simp only [go_sem,seval];first|done|omega)) only [go_sem,seval]
   simp [YY,hc]
  ·(simp only [go_sem,seval]<;>omega)
 ·have he:=Q4 hc
  refine Qb (J6 l e he.1 (Vb.1 he.2) _) ?_
  simp -implicitDefEqProofs (disch:=first|omega|(simp only [go_sem,seval];first|done|omega)) only [go_sem,seval]
  (first|refine pfN hM ?_ ?_|refine pf0 hM ?_ ?_)
  ·simp -implicitDefEqProofs (disch:=first|omega|(simp only [go_sem,seval];first|done|omega)) only [go_sem,seval]
   simp [YY,hc]
  ·(simp only [go_sem,seval]<;>omega)
theorem Qa5 (l:List Rev) (lv:Int) (hl:l.length ≤ 1048576):Q X 23 [.fs (l.map Qc),.I lv] (.tup [.I (Z0 l lv).1,.I (Z0 l lv).2]):=by
 intro M
 (refine Qd (cf:=L7.c23) rfl rfl fun hM hA => ?_;simp only [L7.c23,zO,zF,zT,zM,CX.i];rw [mk2 _ (by decide)];simp -implicitDefEqProofs (disch:=first|omega|(simp only [go_sem,seval];first|done|omega)) only [go_sem,seval])
 refine Qb (QB l hl _) ?_
 simp -implicitDefEqProofs (disch:=first|omega|(simp only [go_sem,seval];first|done|omega)) only [go_sem,seval]
 repeat' (first|(refine Qb (Y6 _ _) ?_;(try simp -implicitDefEqProofs (disch:=first|omega|(simp only [go_sem,seval];first|done|omega)) only [go_sem,seval]))|(refine Qb (Qy [_,_] (by simp) _) ?_;(try simp -implicitDefEqProofs (disch:=first|omega|(simp only [go_sem,seval];first|done|omega)) only [go_sem,seval]))|(refine Qg ?_ ?_ <;> intro hc <;> (try simp only [decide_eq_true_eq,decide_eq_false_iff_not,Classical.not_not,Bool.not_eq_true,Bool.not_eq_true',Bool.not_eq_false',Bool.false_or,Bool.or_false,Bool.true_or,Bool.or_true,Bool.false_and,Bool.and_false,Bool.true_and,Bool.and_true] at hc) <;> (try simp -implicitDefEqProofs (disch:=first|omega|(simp only [go_sem,seval,hc];first|done|omega)) only [go_sem,seval,hc]))|(refine Qq ?_ ?_ <;> intro hc <;> (try simp only [decide_eq_true_eq,decide_eq_false_iff_not,Classical.not_not,Bool.not_eq_true,Bool.not_eq_true',Bool.not_eq_false',Bool.false_or,Bool.or_false,Bool.true_or,Bool.or_true,Bool.false_and,Bool.and_false,Bool.true_and,Bool.and_true] at hc) <;> (try simp -implicitDefEqProofs (disch:=first|omega|(simp only [go_sem,seval,hc];first|done|omega)) only [go_sem,seval,hc])))
 ·(first|refine pfN hM ?_ ?_|refine pf0 hM ?_ ?_)
  ·simp -implicitDefEqProofs (disch:=first|omega|(simp only [go_sem,seval];first|done|omega)) only [go_sem,seval]
   simp [Z0,hc]
  ·(simp only [go_sem,seval]<;>omega)
 ·cases l with
  | nil =>
   simp only [List.map_nil,List.length_nil] at *
   simp -implicitDefEqProofs (disch:=first|omega|(simp only [go_sem,seval];first|done|omega)) only [go_sem,seval]
   refine Qn (α:=Unit) () (fun _ => True) (fun _ => M) (fun _ => [(0,.fs []),(1,.I lv),(7,.I 0),(23,.fs []),(24,.I 0),(25,.I 0)]) (fun _ => 0) trivial rfl rfl ?_
   intro _ _
   simp -implicitDefEqProofs (disch:=first|omega|(simp only [go_sem,seval,Int.lt_irrefl];first|done|omega)) only [go_sem,seval,Int.lt_irrefl]
   (first|refine pfN hM ?_ ?_|refine pf0 hM ?_ ?_)
   ·simp -implicitDefEqProofs (disch:=first|omega|(simp only [go_sem,seval];first|done|omega)) only [go_sem,seval]
    simp [Z0,hc,QdB]
   ·(simp only [go_sem,seval]<;>omega)
  | cons a r =>
   have hsz:sized 2 (Qc a :: r.map Qc) = true:=J5 (a :: r)
   have htk:List.take r.length (r.map Qc) = r.map Qc:=List.take_of_length_le (by simp)
   have hmin:min (1:Int) ((r.length + 1:Nat):Int) = 1:=by omega
   have hl':r.length ≤ 1048576:=by simp at hl;omega
   simp -implicitDefEqProofs (disch:=first|omega|(simp only [go_sem,seval,hsz,htk,hmin];first|done|omega)) only [go_sem,seval,hsz,htk,hmin]
   refine Qn (α:=Nat) 0 (fun k => k ≤ r.length) (fun _ => M) (fun k => [(0,.fs (Qc a :: r.map Qc)),(1,.I lv),(7,.I ((((a :: r).zip (a :: r).tail).take k).filter (crosses lv)).length),(23,.fs (r.map Qc)),(24,.I r.length),(25,.I k)]) (fun k => r.length - k) (Nat.zero_le _) rfl rfl ?_
   intro k hk
   by_cases hlt2:k < r.length
   ·obtain ⟨q,h1⟩:∃ x,r[k]? = some x:=⟨_,List.getElem?_eq_getElem hlt2⟩
    obtain ⟨p,h2⟩:∃ x,(a :: r)[k]? = some x:=⟨_,List.getElem?_eq_getElem (by simp;omega)⟩
    have h2':(Qc a :: r.map Qc)[k]? = some (Qc p):=by rw [← List.map_cons,List.getElem?_map,h2];rfl
    have hf:=Je (crosses lv) (QdD (a :: r) k p q h2 h1)
    have hfl:((((a :: r).zip (a :: r).tail).take k).filter (crosses lv)).length ≤ k:=Nat.le_trans (List.length_filter_le _ _) (by simp;omega)
    generalize (((a :: r).zip (a :: r).tail).take k).filter (crosses lv) = o at hf hfl ⊢
    have hcr:crosses lv (p,q) = (decide (p.ld ≤ lv) && decide (lv < q.ld)):=rfl
    clear hc
    simp -implicitDefEqProofs (disch:=first|omega|(simp only [go_sem,seval,hlt2,h1,h2',Qa];first|done|omega)) only [go_sem,seval,hlt2,h1,h2',Qa]
    repeat' (first|(refine Qg ?_ ?_ <;> intro hc <;> (try simp only [decide_eq_true_eq,decide_eq_false_iff_not,Classical.not_not,Bool.not_eq_true,Bool.not_eq_true',Bool.not_eq_false',Bool.false_or,Bool.or_false,Bool.true_or,Bool.or_true,Bool.false_and,Bool.and_false,Bool.true_and,Bool.and_true] at hc) <;> (try simp -implicitDefEqProofs (disch:=first|omega|(simp only [go_sem,seval,h1,h2',Qa,hc];first|done|omega)) only [go_sem,seval,h1,h2',Qa,hc]))|(refine Qq ?_ ?_ <;> intro hc <;> (try simp only [decide_eq_true_eq,decide_eq_false_iff_not,Classical.not_not,Bool.not_eq_true,Bool.not_eq_true',Bool.not_eq_false',Bool.false_or,Bool.or_false,Bool.true_or,Bool.or_true,Bool.false_and,Bool.and_false,Bool.true_and,Bool.and_true] at hc) <;> (try simp -implicitDefEqProofs (disch:=first|omega|(simp only [go_sem,seval,h1,h2',Qa,hc];first|done|omega)) only [go_sem,seval,h1,h2',Qa,hc])))
    ·rename_i hc0
     rw [if_pos (by simp [hcr,hc,hc0])] at hf
     refine Qm hM rfl 0 (by simp) (by first|done|(simp only [go_sem,seval,Qe,QM] <;> first|done|(refine ⟨?_,?_⟩ <;> omega)|omega)) (Qr (by first|done|(simp only [go_sem,seval,Qe,QM] <;> first|done|(refine ⟨?_,?_⟩ <;> omega)|omega))) ?_
     simp -implicitDefEqProofs (disch:=first|omega|(simp only [go_sem,seval];first|done|omega)) only [go_sem,seval]
     exact again' (k + 1) (by omega) (by omega) rfl (by rw [hf];simp)
    ·rename_i hc0
     rw [if_neg (by simp [hcr,hc,hc0])] at hf
     refine Qm hM rfl 0 (by simp) (by first|done|(simp only [go_sem,seval,Qe,QM] <;> first|done|(refine ⟨?_,?_⟩ <;> omega)|omega)) (Qr (by first|done|(simp only [go_sem,seval,Qe,QM] <;> first|done|(refine ⟨?_,?_⟩ <;> omega)|omega))) ?_
     simp -implicitDefEqProofs (disch:=first|omega|(simp only [go_sem,seval];first|done|omega)) only [go_sem,seval]
     exact again' (k + 1) (by omega) (by omega) rfl (by rw [hf];simp)
    ·rw [if_neg (by simp [hcr,hc])] at hf
     refine Qm hM rfl 0 (by simp) (by first|done|(simp only [go_sem,seval,Qe,QM] <;> first|done|(refine ⟨?_,?_⟩ <;> omega)|omega)) (Qr (by first|done|(simp only [go_sem,seval,Qe,QM] <;> first|done|(refine ⟨?_,?_⟩ <;> omega)|omega))) ?_
     simp -implicitDefEqProofs (disch:=first|omega|(simp only [go_sem,seval];first|done|omega)) only [go_sem,seval]
     exact again' (k + 1) (by omega) (by omega) rfl (by rw [hf];simp)
   ·simp -implicitDefEqProofs (disch:=first|omega|(simp only [go_sem,seval,hlt2];first|done|omega)) only [go_sem,seval,hlt2]
    have e1:((a :: r).zip (a :: r).tail).take k = (a :: r).zip (a :: r).tail:=List.take_of_length_le (by rw [QdK];simp;omega)
    rw [e1]
    (first|refine pfN hM ?_ ?_|refine pf0 hM ?_ ?_)
    ·simp -implicitDefEqProofs (disch:=first|omega|(simp only [go_sem,seval];first|done|omega)) only [go_sem,seval]
     simp [Z0,hc,QdB]
    ·(simp only [go_sem,seval]<;>omega)
theorem QcT {α β:Type} {l:List α} {k:Nat} {x:α} (f:β → α → β) (b:β) (h:l[k]? = some x):(l.take (k + 1)).foldl f b = f ((l.take k).foldl f b) x:=by
 obtain ⟨h1,h2⟩:=List.getElem?_eq_some_iff.1 h
 rw [List.take_succ_eq_append_getElem h1,h2,List.foldl_append];rfl
theorem Qpn {l:List Rev} {a:Int} (ha:-32768 ≤ a ∧ a ≤ 32768) (hs:∀ r ∈ l,Qx r):-32768 ≤ l.foldl (fun m r => max m r.ld) a ∧ l.foldl (fun m r => max m r.ld) a ≤ 32768:=by
 induction l generalizing a with
 | nil => exact ha
 | cons r l ih =>
  have:=hs r (by simp)
  unfold Qx at this
  exact ih (a:=max a r.ld) (by omega) fun c hc => hs c (by simp [hc])
theorem Qpj {l:List Rev} {a:Int} (ha:-32768 ≤ a ∧ a ≤ 32768) (hs:∀ r ∈ l,Qx r):-32768 ≤ l.foldl (fun m r => min m r.ld) a ∧ l.foldl (fun m r => min m r.ld) a ≤ 32768:=by
 induction l generalizing a with
 | nil => exact ha
 | cons r l ih =>
  have:=hs r (by simp)
  unfold Qx at this
  exact ih (a:=min a r.ld) (by omega) fun c hc => hs c (by simp [hc])
theorem QbG (l:List Rev) (hl:l.length ≤ 1048576):Q X 24 [.fs (l.map Qc)] (.tup [.I (grRes l).1,.I (grRes l).2]):=by
 intro M
 (refine Qd (cf:=L7.c24) rfl rfl fun hM hA => ?_;simp only [L7.c24,zO,zF,zT,zM,CX.i];rw [mk1 _ (by decide)];simp -implicitDefEqProofs (disch:=first|omega|(simp only [go_sem,seval];first|done|omega)) only [go_sem,seval])
 refine Qb (QB l hl _) ?_
 simp -implicitDefEqProofs (disch:=first|omega|(simp only [go_sem,seval];first|done|omega)) only [go_sem,seval]
 refine Qb (Vj _ _ _) ?_
 have hw:(if decide ((l.length:Int) < 2) = true then (7:Int) else 0) = if l.length < 2 then 7 else 0:=by
  by_cases h:l.length < 2
  ·have:(l.length:Int) < 2:=by omega
   simp [h,this]
  ·have:¬ (l.length:Int) < 2:=by omega
   simp [h,this]
 rw [hw]
 simp -implicitDefEqProofs (disch:=first|omega|(simp only [go_sem,seval];first|done|omega)) only [go_sem,seval]
 refine Qb (Qy [_,_] (by simp) _) ?_
 simp -implicitDefEqProofs (disch:=first|omega|(simp only [go_sem,seval];first|done|omega)) only [go_sem,seval]
 refine Qg ?_ ?_ <;> intro hc <;> (try simp only [decide_eq_true_eq,decide_eq_false_iff_not,Classical.not_not,Bool.not_eq_true,Bool.not_eq_true',Bool.not_eq_false',Bool.false_or,Bool.or_false,Bool.true_or,Bool.or_true,Bool.false_and,Bool.and_false,Bool.true_and,Bool.and_true] at hc) <;> simp -implicitDefEqProofs (disch:=first|omega|(simp only [go_sem,seval,hc];first|done|omega)) only [go_sem,seval,hc]
 ·(first|refine pfN hM ?_ ?_|refine pf0 hM ?_ ?_)
  ·simp -implicitDefEqProofs (disch:=first|omega|(simp only [go_sem,seval];first|done|omega)) only [go_sem,seval]
   simp [grRes,hc]
  ·(simp only [go_sem,seval]<;>omega)
 ·have hz:=Q4 hc
  have hlen:¬ l.length < 2:=by intro h;rw [if_pos h] at hz;simp at hz
  obtain ⟨a,h0⟩:∃ x,l[0]? = some x:=⟨_,List.getElem?_eq_getElem (by omega)⟩
  have hs:=Yf hz.1
  have ha:=hs a (List.mem_of_getElem? h0)
  unfold Qx at ha
  have hsp:spread l = l.foldl (fun m r => max m r.ld) a.ld - l.foldl (fun m r => min m r.ld) a.ld:=by
   cases l with
   | nil => simp at h0
   | cons b l => simp at h0;subst h0;rfl
  simp -implicitDefEqProofs (disch:=first|omega|(simp only [go_sem,seval,h0,Qa];first|done|omega)) only [go_sem,seval,h0,Qa]
  refine Qn (α:=Nat) 0 (fun k => k ≤ l.length) (fun _ => M) (fun k => [(5,.I ((l.take k).foldl (fun m r => min m r.ld) a.ld)),(6,.I ((l.take k).foldl (fun m r => max m r.ld) a.ld)),(28,.fs (l.map Qc)),(29,.I l.length),(30,.I k)]) (fun k => l.length - k) (Nat.zero_le _) rfl rfl ?_
  intro k hk
  by_cases hlt:k < l.length
  ·obtain ⟨x,h1⟩:∃ x,l[k]? = some x:=⟨_,List.getElem?_eq_getElem hlt⟩
   have g1:=QcT (fun m (r:Rev) => min m r.ld) a.ld h1
   have g2:=QcT (fun m (r:Rev) => max m r.ld) a.ld h1
   simp -implicitDefEqProofs (disch:=first|omega|(simp only [go_sem,seval,hlt,h1,Qa];first|done|omega)) only [go_sem,seval,hlt,h1,Qa]
   refine Qm hM rfl 0 (by simp) (by first|done|(simp only [go_sem,seval,Qe,QM] <;> first|done|(refine ⟨?_,?_⟩ <;> omega)|omega)) (Qr (by first|done|(simp only [go_sem,seval,Qe,QM] <;> first|done|(refine ⟨?_,?_⟩ <;> omega)|omega))) ?_
   simp -implicitDefEqProofs (disch:=first|omega|(simp only [go_sem,seval];first|done|omega)) only [go_sem,seval]
   exact again' (k + 1) (by omega) (by omega) rfl (by rw [g1,g2];rfl)
  ·have hmx:=Qpn ha hs
   have hmn:=Qpj ha hs
   rw [List.take_of_length_le (by omega)]
   simp -implicitDefEqProofs (disch:=first|omega|(simp only [go_sem,seval,hlt];first|done|omega)) only [go_sem,seval,hlt]
   (first|refine pfN hM ?_ ?_|refine pf0 hM ?_ ?_)
   ·simp -implicitDefEqProofs (disch:=first|omega|(simp only [go_sem,seval];first|done|omega)) only [go_sem,seval]
    simp [grRes,hc,hsp]
   ·(simp only [go_sem,seval]<;>omega)
theorem Qb2 {p:Rev → Bool} {g:FuncId} {cap:List PV} {l:List Rev} {M:List Blk} (hl:l.length ≤ 1048576) (hg:∀ n N,ACall F X (.fn g) (Qc n :: cap) (M ++ N) (.B (p n)) (M ++ N)) :
  ACall F X (.fn 49) [.fs (l.map Qc),.fn (.func g) [] cap] M (.fs ((l.filter p).map Qc)) M:=by
 (refine Qd (cf:=L7.c49) rfl rfl fun hM hA => ?_;simp only [L7.c49,zO,zF,zT,zM,CX.i];rw [mk2 _ (by decide)];simp -implicitDefEqProofs (disch:=first|omega|(simp only [go_sem,seval];first|done|omega)) only [go_sem,seval])
 have hcap:lowL M.length cap:=by simp only [lowL,PV.low] at hA;exact hA.2.1.2
 refine Qn (α:=Nat) 0 (fun k => k ≤ l.length) (fun k => M ++ [.row true 2 ((l.take k).filter p).length (((l.take k).filter p).map Qc)])
  (fun k => [(1,.fn (.func g) [] cap),(5,.os M.length ((l.take k).filter p).length 0 ((l.take k).filter p).length),(8,.fs (l.map Qc)),(9,.I l.length),(10,.I k)]) (fun k => l.length - k) (Nat.zero_le _) rfl rfl ?_
 intro k hk
 by_cases hlt:k < l.length
 ·obtain ⟨x,h1⟩:∃ x,l[k]? = some x:=⟨_,List.getElem?_eq_getElem hlt⟩
  have hf:=Je p h1
  have hfl:((l.take k).filter p).length ≤ k:=Nat.le_trans (List.length_filter_le _ _) (by simp;omega)
  have hcap1:=QR (Nat.le_add_right M.length 1) cap hcap
  simp -implicitDefEqProofs (disch:=first|omega|(simp only [go_sem,seval,hlt,h1,Qa];first|done|omega)) only [go_sem,seval,hlt,h1,Qa]
  refine Qb (hg x _) ?_
  simp -implicitDefEqProofs (disch:=first|omega|(simp only [go_sem,seval];first|done|omega)) only [go_sem,seval]
  refine Qg ?_ ?_ <;> intro hc <;> (try simp only [decide_eq_true_eq,decide_eq_false_iff_not,Classical.not_not,Bool.not_eq_true,Bool.not_eq_true',Bool.not_eq_false',Bool.false_or,Bool.or_false,Bool.true_or,Bool.or_true,Bool.false_and,Bool.and_false,Bool.true_and,Bool.and_true] at hc) <;> simp -implicitDefEqProofs (disch:=first|omega|(simp only [go_sem,seval,h1,hc];first|done|omega)) only [go_sem,seval,h1,hc]
  ·rw [if_pos hc] at hf
   refine Qm hM rfl 1 (by simp) (by first|done|(simp only [go_sem,seval,Qe,hcap1] <;> first|done|(refine ⟨?_,?_⟩ <;> omega)|omega)) (Qr (by first|done|(simp only [go_sem,seval,Qe,hcap1] <;> first|done|(refine ⟨?_,?_⟩ <;> omega)|omega))) ?_
   simp -implicitDefEqProofs (disch:=first|omega|(simp only [go_sem,seval];first|done|omega)) only [go_sem,seval]
   exact again' (k + 1) (by omega) (by omega) (by rw [hf];simp [Qc]) (by rw [hf];simp)
  ·rw [if_neg (by simp [hc]),List.append_nil] at hf
   refine Qm hM rfl 1 (by simp) (by first|done|(simp only [go_sem,seval,Qe,hcap1] <;> first|done|(refine ⟨?_,?_⟩ <;> omega)|omega)) (Qr (by first|done|(simp only [go_sem,seval,Qe,hcap1] <;> first|done|(refine ⟨?_,?_⟩ <;> omega)|omega))) ?_
   simp -implicitDefEqProofs (disch:=first|omega|(simp only [go_sem,seval];first|done|omega)) only [go_sem,seval]
   exact again' (k + 1) (by omega) (by omega) (by rw [hf]) (by rw [hf];rfl)
 ·simp -implicitDefEqProofs (disch:=first|omega|(simp only [go_sem,seval,hlt];first|done|omega)) only [go_sem,seval,hlt]
  (first|refine pfN hM ?_ ?_|refine pf0 hM ?_ ?_)
  ·simp -implicitDefEqProofs (disch:=first|omega|(simp only [go_sem,seval];first|done|omega)) only [go_sem,seval]
   rw [List.take_of_length_le (by omega)]
  ·(simp only [go_sem,seval,Qe]<;>omega)
theorem QbS (M N:List Blk) (least:Int) (cs:List Cyc) (r:Rev) :
  ACall F X (.fn 50) (Qc r :: [.op (M.length + 1) 0 0 0]) (M ++ .map (VK least cs) :: .row true 1 0 [.om M.length] :: N) (.B (!Zj least cs r.at_)) (M ++ .map (VK least cs) :: .row true 1 0 [.om M.length] :: N):=by
 have hk:=(Qb9 least cs).like r.at_
 have hf:=Qe4 least cs r.at_
 generalize VK least cs = es at hk hf ⊢
 (refine Qd (cf:=L7.c50) rfl rfl fun hM hA => ?_;simp only [L7.c50,zO,zF,zT,zM,CX.i];rw [mk2 _ (by decide)];simp -implicitDefEqProofs (disch:=first|omega|(simp only [go_sem,seval,Qa,QD,ZZ,ZW,ZX,ZU,ZB,Zs,Zu,Zp,hk,hf];first|done|omega)) only [go_sem,seval,Qa,QD,ZZ,ZW,ZX,ZU,ZB,Zs,Zu,Zp,hk,hf])
 refine QQ ZP hM (by simp) ?_ ?_
 ·simp -implicitDefEqProofs (disch:=first|omega|(simp only [go_sem,seval];first|done|omega)) only [go_sem,seval]
 ·(simp only [go_sem,seval]<;>omega)
theorem JZ (l:List Rev) (least:Int) (hl:l.length ≤ 1000000):Q X 21 [.fs (l.map Qc),.I least] (.tup [.fs ((if YB l least = 0 then filt l least else []).map Qc),.I (YB l least)]):=by
 intro M
 (refine Qd (cf:=L7.c21) rfl rfl fun hM hA => ?_;simp only [L7.c21,zO,zF,zT,zM,CX.i];rw [mk2 _ (by decide)];simp -implicitDefEqProofs (disch:=first|omega|(simp only [go_sem,seval];first|done|omega)) only [go_sem,seval])
 refine Qb (QB l (by omega) _) ?_
 simp -implicitDefEqProofs (disch:=first|omega|(simp only [go_sem,seval];first|done|omega)) only [go_sem,seval]
 repeat' (first|(refine Qb (Y6 _ _) ?_;(try simp -implicitDefEqProofs (disch:=first|omega|(simp only [go_sem,seval];first|done|omega)) only [go_sem,seval]))|(refine Qb (Qy [_,_] (by simp) _) ?_;(try simp -implicitDefEqProofs (disch:=first|omega|(simp only [go_sem,seval];first|done|omega)) only [go_sem,seval]))|(refine Qg ?_ ?_ <;> intro hc <;> (try simp only [decide_eq_true_eq,decide_eq_false_iff_not,Classical.not_not,Bool.not_eq_true,Bool.not_eq_true',Bool.not_eq_false',Bool.false_or,Bool.or_false,Bool.true_or,Bool.or_true,Bool.false_and,Bool.and_false,Bool.true_and,Bool.and_true] at hc) <;> (try simp -implicitDefEqProofs (disch:=first|omega|(simp only [go_sem,seval,hc];first|done|omega)) only [go_sem,seval,hc]))|(refine Qq ?_ ?_ <;> intro hc <;> (try simp only [decide_eq_true_eq,decide_eq_false_iff_not,Classical.not_not,Bool.not_eq_true,Bool.not_eq_true',Bool.not_eq_false',Bool.false_or,Bool.or_false,Bool.true_or,Bool.or_true,Bool.false_and,Bool.and_false,Bool.true_and,Bool.and_true] at hc) <;> (try simp -implicitDefEqProofs (disch:=first|omega|(simp only [go_sem,seval,hc];first|done|omega)) only [go_sem,seval,hc])))
 ·(first|refine pfN hM ?_ ?_|refine pf0 hM ?_ ?_)
  ·simp -implicitDefEqProofs (disch:=first|omega|(simp only [go_sem,seval];first|done|omega)) only [go_sem,seval]
   simp [YB,hc]
  ·(simp only [go_sem,seval]<;>omega)
 ·have hz:=Q4 hc
  have hs:=Yf hz.1
  have hsc:=Jl hs
  have hcl:=Qam l
  refine Qb (ZH l hl hs _) ?_
  simp -implicitDefEqProofs (disch:=first|omega|(simp only [go_sem,seval,ZZ,ZW,ZX,ZU,ZB,Zs,Zu,Zp];first|done|omega)) only [go_sem,seval,ZZ,ZW,ZX,ZU,ZB,Zs,Zu,Zp]
  have hft:filt l least = l.filter fun r => !Zj least (Qt l).1 r.at_:=rfl
  generalize (Qt l).1 = cs at hsc hcl hft ⊢
  refine Qn (α:=Nat) 0 (fun k => k ≤ cs.length) (fun k => M ++ [.map (VK least (cs.take k)),.row true 1 0 [.om M.length]])
   (fun k => [(0,.fs (l.map Qc)),(1,.I least),(9,.op (M.length + 1) 0 0 0),(27,.fs (cs.map Qw)),(28,.I cs.length),(29,.I k)]) (fun k => cs.length - k) (Nat.zero_le _) rfl rfl ?_
  intro k hk
  by_cases hlt:k < cs.length
  ·obtain ⟨x,h1⟩:∃ x,cs[k]? = some x:=⟨_,List.getElem?_eq_getElem hlt⟩
   have hsn:=QeG (least:=least) h1
   have hai:=Qb9 least (cs.take k)
   have hx:=hsc x (List.mem_of_getElem? h1)
   unfold Vy at hx
   generalize VK least (cs.take k) = es at hsn hai ⊢
   have hk1:=hai.like x.from_
   have hk2:=(hai.upd x.from_ (.bool true)).like x.to_
   clear hc
   simp -implicitDefEqProofs (disch:=first|omega|(simp only [go_sem,seval,hlt,h1,Qj];first|done|omega)) only [go_sem,seval,hlt,h1,Qj]
   refine Qg ?_ ?_ <;> intro hc <;> (try simp only [decide_eq_true_eq,decide_eq_false_iff_not,Classical.not_not,Bool.not_eq_true,Bool.not_eq_true',Bool.not_eq_false',Bool.false_or,Bool.or_false,Bool.true_or,Bool.or_true,Bool.false_and,Bool.and_false,Bool.true_and,Bool.and_true] at hc) <;> simp -implicitDefEqProofs (disch:=first|omega|(simp only [go_sem,seval,h1,Qj,ZZ,ZW,ZX,ZU,ZB,Zs,Zu,Zp,hk1,hk2,hc];first|done|omega)) only [go_sem,seval,h1,Qj,ZZ,ZW,ZX,ZU,ZB,Zs,Zu,Zp,hk1,hk2,hc]
   ·simp only [Yi,if_pos hc] at hsn
    refine ⟨by simp [YE,YW,Zd],?_⟩
    refine Qm hM rfl 2 (by simp) (by first|done|(simp only [go_sem,seval,Qe] <;> first|done|(refine ⟨?_,?_⟩ <;> omega)|omega)) (Qr (by first|done|(simp only [go_sem,seval,Qe] <;> first|done|(refine ⟨?_,?_⟩ <;> omega)|omega))) ?_
    simp -implicitDefEqProofs (disch:=first|omega|(simp only [go_sem,seval];first|done|omega)) only [go_sem,seval]
    exact again' (k + 1) (by omega) (by omega) (by rw [hsn]) rfl
   ·simp only [Yi,if_neg hc] at hsn
    refine Qm hM rfl 2 (by simp) (by first|done|(simp only [go_sem,seval,Qe] <;> first|done|(refine ⟨?_,?_⟩ <;> omega)|omega)) (Qr (by first|done|(simp only [go_sem,seval,Qe] <;> first|done|(refine ⟨?_,?_⟩ <;> omega)|omega))) ?_
    simp -implicitDefEqProofs (disch:=first|omega|(simp only [go_sem,seval];first|done|omega)) only [go_sem,seval]
    exact again' (k + 1) (by omega) (by omega) (by rw [hsn]) rfl
  ·simp -implicitDefEqProofs (disch:=first|omega|(simp only [go_sem,seval,hlt];first|done|omega)) only [go_sem,seval,hlt]
   rw [List.take_of_length_le (by omega)]
   refine Qb (Qb2 (p:=fun r => !Zj least cs r.at_) (by omega) fun n N => by rw [List.append_assoc];exact QbS M N least cs n) ?_
   simp -implicitDefEqProofs (disch:=first|omega|(simp only [go_sem,seval];first|done|omega)) only [go_sem,seval]
   (first|refine pfN hM ?_ ?_|refine pf0 hM ?_ ?_)
   ·simp -implicitDefEqProofs (disch:=first|omega|(simp only [go_sem,seval];first|done|omega)) only [go_sem,seval]
    simp [YB,hc,hft]
   ·(simp only [go_sem,seval,Qe]<;>omega)
def zRev:PV:=.agg [.I 0,.I 0]
theorem QaI (M:List Blk):ACall F X (.fn 86) [PV.nilS,.I 0] M PV.nilS M:=by
 (refine Qd (cf:=L7.c86) rfl rfl fun hM hA => ?_;simp only [L7.c86,zO,zF,zT,zM,CX.i];rw [mk2 _ (by decide)];simp -implicitDefEqProofs (disch:=first|omega|(simp only [go_sem,seval,-List.reduceReplicate,Ju,Zl,Jx,V8,Js,ZY,Zm];first|done|omega)) only [go_sem,seval,-List.reduceReplicate,Ju,Zl,Jx,V8,Js,ZY,Zm])
 have hres:∀ N:List Blk,Q9 M.length [(4,none)] PV.nilS M .ret (M ++ N) (mk 27 [(4,PV.nilS)]):=fun N => QkU ZP hM rfl (by simp -implicitDefEqProofs (disch:=first|omega|(simp only [go_sem,seval,-List.reduceReplicate];first|done|omega)) only [go_sem,seval,-List.reduceReplicate])
 exact hres _
theorem Qc3 (n:Nat) (h:1 ≤ n) (hn:n ≤ 1048576) (M:List Blk):ACall F X (.fn 86) [PV.nilS,.I n] M (.os M.length 0 0 0) (M ++ [.row true 2 0 (List.replicate n zRev)]):=by
 refine QiB (cf:=c86) rfl rfl fun hM hA => ?_
 simp only [c86,zO,zF,zT,zM,CX.i]
 rw [mk2 _ (by decide)]
 have h1:¬ (n:Int) < 0:=by omega
 have h2:(0:Int) < n:=by omega
 have h3:((0:Int) ≤ 0) = True:=eq_true (by omega)
 have e1:(n:Int) - 0 = n:=by omega
 have e2:(0:Int) - 0 = 0:=by omega
 simp -implicitDefEqProofs (disch:=first|omega|(simp only [go_sem,seval,-List.reduceReplicate,Ju,Zl,Jx,V8,Js,ZY,Zm,h1,h2,h3,e1,e2,natZ];first|done|omega)) only [go_sem,seval,-List.reduceReplicate,Ju,Zl,Jx,V8,Js,ZY,Zm,h1,h2,h3,e1,e2,natZ]
 refine Qnp ZP hM (j:=1) rfl rfl ?_
 ·rw [VF]
  intro x hx
  rw [List.eq_of_mem_replicate hx]
  unfold zRev
  (simp only [go_sem,seval,-List.reduceReplicate]<;>omega)
theorem ZQ (l:List Rev):Q X 75 [.fs (l.map Qc)] (.fn (.func 85) [] [.fp [.fs (l.map Qc)]]):=by
 intro M
 (refine Qd (cf:=L7.c75) rfl rfl fun hM hA => ?_;simp only [L7.c75,zO,zF,zT,zM,CX.i];rw [mk1 _ (by decide)];simp -implicitDefEqProofs (disch:=first|omega|(simp only [go_sem,seval,-List.reduceReplicate];first|done|omega)) only [go_sem,seval,-List.reduceReplicate])
 (all_goals (first|refine pfN hM ?_ ?_|refine pf0 hM ?_ ?_);all_goals first|(simp only [go_sem,seval,-List.reduceReplicate,Qe]<;>omega)|skip;all_goals (try simp -implicitDefEqProofs (disch:=first|omega|(simp only [go_sem,seval,-List.reduceReplicate];first|done|omega)) only [go_sem,seval,-List.reduceReplicate]))
theorem QcD {M:List Blk}:appO M 2 16 (.s (.slice none 0 0)) (some []) = some (.os M.length 0 0 0,M ++ [.row true 2 0 []]):=Qeq (by rfl) (by decide) (by decide) (by decide)
theorem QcF {M:List Blk} {i v:Nat}:appR M 2 16 i v 0 0 [] (some (.row true 2 v [])) = some (.os i (v + 1) 0 0,M.set i (.row true 2 (v + 1) [])):=Qel (xs:=[]) (ys:=[]) rfl (by rfl) (by decide) (by decide) (by decide)
theorem ZD (a b:List Rev) (hl:a.length + b.length ≤ 1000000):Q X 76 [.fs [.fs (a.map Qc),.fs (b.map Qc)]] (.fs ((a ++ b).map Qc)):=by
 intro M
 (refine Qd (cf:=L7.c76) rfl rfl fun hM hA => ?_;simp only [L7.c76,zO,zF,zT,zM,CX.i];rw [mk1 _ (by decide)];simp -implicitDefEqProofs (disch:=first|omega|(simp only [go_sem,seval,-List.reduceReplicate];first|done|omega)) only [go_sem,seval,-List.reduceReplicate])
 refine Qn (α:=Nat) 0 (fun k => k ≤ 2) (fun _ => M) (fun k => [(0,.fs [.fs (a.map Qc),.fs (b.map Qc)]),(3,.I (if k = 0 then 0 else if k = 1 then a.length else a.length + b.length)),(9,.fs [.fs (a.map Qc),.fs (b.map Qc)]),(10,.I 2),(11,.I k)]) (fun k => 2 - k) (by omega) rfl rfl ?_
 intro k hk
 rcases (by omega:k = 0 ∨ k = 1 ∨ k = 2) with rfl|rfl|rfl
 ·have f1:¬ (a.length:Int) < 0:=by omega
  simp -implicitDefEqProofs (disch:=first|omega|(simp only [go_sem,seval,-List.reduceReplicate,f1];first|done|omega)) only [go_sem,seval,-List.reduceReplicate,f1]
  exact again' (α:=Nat) 1 (by decide) (by decide) rfl rfl
 ·have f1:¬ (a.length:Int) + (b.length:Int) < 0:=by omega
  simp -implicitDefEqProofs (disch:=first|omega|(simp only [go_sem,seval,-List.reduceReplicate,f1];first|done|omega)) only [go_sem,seval,-List.reduceReplicate,f1]
  exact again' (α:=Nat) 2 (by decide) (by decide) rfl rfl
 ·simp -implicitDefEqProofs (disch:=first|omega|(simp only [go_sem,seval,-List.reduceReplicate,Int.lt_irrefl];first|done|omega)) only [go_sem,seval,-List.reduceReplicate,Int.lt_irrefl]
  rcases (by omega:a.length + b.length = 0 ∨ 1 ≤ a.length + b.length) with h0|h0
  ·have ha:a = []:=List.eq_nil_of_length_eq_zero (by omega)
   have hb:b = []:=List.eq_nil_of_length_eq_zero (by omega)
   subst ha;subst hb
   simp -implicitDefEqProofs (disch:=first|omega|(simp only [go_sem,seval,-List.reduceReplicate];first|done|omega)) only [go_sem,seval,-List.reduceReplicate]
   refine Qb (QaI M) ?_
   simp -implicitDefEqProofs (disch:=first|omega|(simp only [go_sem,seval,-List.reduceReplicate];first|done|omega)) only [go_sem,seval,-List.reduceReplicate]
   refine Qn (α:=Nat) 0 (fun k => k ≤ 2) (fun k => if k = 0 then M else M ++ [.row true 2 (k - 1) []]) (fun k => [(6,if k = 0 then PV.nilS else .os M.length (k - 1) 0 0),(25,.fs [.fs [],.fs []]),(26,.I 2),(27,.I k)]) (fun k => 2 - k) (by omega) rfl rfl ?_
   intro k hk
   rcases (by omega:k = 0 ∨ k = 1 ∨ k = 2) with rfl|rfl|rfl
   ·simp -implicitDefEqProofs (disch:=first|omega|(simp only [go_sem,seval,-List.reduceReplicate,QcD];first|done|omega)) only [go_sem,seval,-List.reduceReplicate,QcD]
    exact again' (α:=Nat) 1 (by decide) (by decide) rfl rfl
   ·simp -implicitDefEqProofs (disch:=first|omega|(simp only [go_sem,seval,-List.reduceReplicate,QcF];first|done|omega)) only [go_sem,seval,-List.reduceReplicate,QcF]
    exact again' (α:=Nat) 2 (by decide) (by decide) rfl rfl
   ·simp -implicitDefEqProofs (disch:=first|omega|(simp only [go_sem,seval,-List.reduceReplicate];first|done|omega)) only [go_sem,seval,-List.reduceReplicate]
    (first|refine pfN hM ?_ ?_|refine pf0 hM ?_ ?_)
    ·simp -implicitDefEqProofs (disch:=first|omega|(simp only [go_sem,seval,-List.reduceReplicate];first|done|omega)) only [go_sem,seval,-List.reduceReplicate]
    ·(simp only [go_sem,seval,-List.reduceReplicate]<;>omega)
  ·have e1:(a.length:Int) + (b.length:Int) = ((a.length + b.length:Nat):Int):=by omega
   rw [e1]
   refine Q0 (Qc3 _ h0 (by omega) M) ?_
   have oka:=Yd a
   have okb:=Yd b
   simp -implicitDefEqProofs (disch:=first|omega|(simp only [go_sem,seval,-List.reduceReplicate];first|done|omega)) only [go_sem,seval,-List.reduceReplicate]
   refine Qn (α:=Nat) 0 (fun k => k ≤ 2) (fun k => M ++ [.row true 2 k (if k = 0 then List.replicate (a.length + b.length) zRev else if k = 1 then a.map Qc else a.map Qc ++ b.map Qc)]) (fun k => [(6,.os M.length k 0 (if k = 0 then 0 else if k = 1 then a.length else a.length + b.length)),(25,.fs [.fs (a.map Qc),.fs (b.map Qc)]),(26,.I 2),(27,.I k)]) (fun k => 2 - k) (by omega) rfl rfl ?_
   intro k hk
   rcases (by omega:k = 0 ∨ k = 1 ∨ k = 2) with rfl|rfl|rfl
   ·have hc:=Vs (M:=M ++ [.row true 2 0 (List.replicate (a.length + b.length) zRev)]) (k:=2) (bytes:=16) (i:=M.length) (ver:=0) (len:=0) (xs:=List.replicate (a.length + b.length) zRev) (ys:=a.map Qc) (by omega) oka (by omega) (by omega) (by simp;omega)
    simp only [List.take_zero,List.nil_append,List.length_map,Nat.zero_add] at hc
    simp -implicitDefEqProofs (disch:=first|omega|(simp only [go_sem,seval,-List.reduceReplicate,hc];first|done|omega)) only [go_sem,seval,-List.reduceReplicate,hc]
    refine again' (α:=Nat) 1 ?_ ?_ ?_ ?_
    ·decide
    ·decide
    ·rfl
    ·rfl
   ·simp -implicitDefEqProofs (disch:=first|omega|(simp only [go_sem,seval,-List.reduceReplicate,oka,okb];first|done|omega)) only [go_sem,seval,-List.reduceReplicate,oka,okb]
    refine again' (α:=Nat) 2 ?_ ?_ ?_ ?_
    ·decide
    ·decide
    ·rfl
    ·rfl
   ·simp -implicitDefEqProofs (disch:=first|omega|(simp only [go_sem,seval,-List.reduceReplicate,oka,okb];first|done|omega)) only [go_sem,seval,-List.reduceReplicate,oka,okb]
    (first|refine pfN hM ?_ ?_|refine pf0 hM ?_ ?_)
    ·simp -implicitDefEqProofs (disch:=first|omega|(simp only [go_sem,seval,-List.reduceReplicate];first|done|omega)) only [go_sem,seval,-List.reduceReplicate]
     simp
    ·(simp only [go_sem,seval,-List.reduceReplicate,Qe]<;>omega)
theorem Qb1 (s:Int) (r:Rev):(shR s r).at_ = r.at_ + s:=rfl
theorem QbK (s:Int) (r:Rev):(shR s r).ld = r.ld:=rfl
theorem Qdg (a b:List Rev) (s:Int) (ha:Qh a = 0) (hb:Qh b = 0) (hs:0 ≤ s ∧ s ≤ 40000):Q X 51 [.fs (a.map Qc),.fs (b.map Qc),.I s] (.tup [.fs ((Vl a b s).map Qc),.I (QX a b s)]):=by
 intro M
 have hal:=(Vp.1 ha).1
 have hbl:=(Vp.1 hb).1
 have hag:=Ve _ _ _ (Vp.1 ha).2
 have hbg:=Ve _ _ _ (Vp.1 hb).2
 have okb:=Yd b
 (refine Qd (cf:=L7.c51) rfl rfl fun hM hA => ?_;simp only [L7.c51,zO,zF,zT,zM,CX.i];rw [mk3 _ (by decide)];simp -implicitDefEqProofs (disch:=first|omega|(simp only [go_sem,seval,Ju,Zl,Jx,V8,Js,ZY,Zm,okb];first|done|omega)) only [go_sem,seval,Ju,Zl,Jx,V8,Js,ZY,Zm,okb])
 have hfar:∀ k,k ≤ b.length → farB b s = ((b.take k).any (fun r => decide (¬ rng (r.at_ + s) 0 39999 = 0)) || (b.drop k).any (fun r => decide (¬ rng (r.at_ + s) 0 39999 = 0))):=by
  intro k _
  rw [← List.any_append,List.take_append_drop];rfl
 refine Qn (α:=Nat) 0 (fun k => k ≤ b.length ∧ (b.take k).any (fun r => decide (¬ rng (r.at_ + s) 0 39999 = 0)) = false) (fun k => M ++ [.row true 2 0 ((shK b s k).map Qc)])
  (fun k => [(0,.fs (a.map Qc)),(2,.I s),(8,.os M.length 0 0 b.length),(17,.I b.length),(18,.I k)]) (fun k => b.length - k) ⟨Nat.zero_le _,rfl⟩ (by simp [shK]) rfl ?_
 rintro k ⟨hk,hno⟩
 have hlk:=Qmw b s k
 by_cases hlt:k < b.length
 ·obtain ⟨x,h1⟩:∃ x,b[k]? = some x:=⟨_,List.getElem?_eq_getElem hlt⟩
  have h2:=QmY (s:=s) h1
  have h3:=QlG (s:=s) h1
  have hx:=(hbg x (List.mem_of_getElem? h1)).1
  have h4:(shK b s k).length ≤ 1048576:=by omega
  have h5:=hfar k hk
  rw [hno,Bool.false_or,List.drop_eq_getElem_cons hlt,(List.getElem?_eq_some_iff.1 h1).2,List.any_cons] at h5
  have h6:(b.take (k + 1)).any (fun r => decide (¬ rng (r.at_ + s) 0 39999 = 0)) = decide (¬ rng (x.at_ + s) 0 39999 = 0):=by
   have:=Q1 (f:=id) h1
   simp only [List.map_id] at this
   rw [this,List.any_append,hno];simp
  generalize shK b s k = o at h2 h3 hlk h4 ⊢
  have h7:((o.map Qc).set k (PV.agg [.I (x.at_ + s),.I x.ld]))[k]? = some (PV.agg [.I (x.at_ + s),.I x.ld]):=by rw [List.getElem?_set_self (by simp;omega)]
  simp -implicitDefEqProofs (disch:=first|omega|(simp only [go_sem,seval,hlt,h1,h2,hlk,Qa,QD,h7,List.length_set];first|done|omega)) only [go_sem,seval,hlt,h1,h2,hlk,Qa,QD,h7,List.length_set]
  refine Qb (Vd _ _) ?_
  simp -implicitDefEqProofs (disch:=first|omega|(simp only [go_sem,seval,hlk];first|done|omega)) only [go_sem,seval,hlk]
  clear ha hb
  refine Qg ?_ ?_ <;> intro hc <;> (try simp only [decide_eq_true_eq,decide_eq_false_iff_not,Classical.not_not,Bool.not_eq_true,Bool.not_eq_true',Bool.not_eq_false',Bool.false_or,Bool.or_false,Bool.true_or,Bool.or_true,Bool.false_and,Bool.and_false,Bool.true_and,Bool.and_true] at hc) <;> simp -implicitDefEqProofs (disch:=first|omega|(simp only [go_sem,seval,hlk,hc];first|done|omega)) only [go_sem,seval,hlk,hc]
  ·rw [decide_eq_true hc,Bool.true_or] at h5
   (first|refine pfN hM ?_ ?_|refine pf0 hM ?_ ?_)
   ·simp -implicitDefEqProofs (disch:=first|omega|(simp only [go_sem,seval];first|done|omega)) only [go_sem,seval]
    simp [Vl,QX,h5]
   ·(simp only [go_sem,seval,Qe]<;>omega)
  ·exact again' (k + 1) ⟨by omega,by rw [h6];simp [hc]⟩ (by omega) (by rw [← h3];simp [List.map_set,Qc,shR]) (by rfl)
 ·have hkb:k = b.length:=by omega
  subst hkb
  have hf:farB b s = false:=by rw [hfar _ (Nat.le_refl _),hno];simp
  rw [QnR] at hlk ⊢
  rcases (by omega:a.length = 0 ∨ 1 ≤ a.length) with h0|h0
  ·have f1:¬ (0:Int) < a.length:=by omega
   have hn:nearB a b s = false:=by rw [List.eq_nil_of_length_eq_zero h0];rfl
   have hj:QX a b s = 0:=by simp [QX,hf,hn]
   simp -implicitDefEqProofs (disch:=first|omega|(simp only [go_sem,seval,hlt,f1,hlk];first|done|omega)) only [go_sem,seval,hlt,f1,hlk]
   ((have hmm:List.map (fun x => Qc (shR s x)) b = (b.map (shR s)).map Qc:=(by simp));rw [hmm];refine Qb (ZD a (b.map (shR s)) (by simp;omega) _) ?_;simp -implicitDefEqProofs (disch:=first|omega|(simp only [go_sem,seval];first|done|omega)) only [go_sem,seval];refine Qb (ZQ _ _) ?_;simp -implicitDefEqProofs (disch:=first|omega|(simp only [go_sem,seval];first|done|omega)) only [go_sem,seval];refine Qb (VJ (by simp;omega) (ZG _ (by simp;omega)) _) ?_;simp -implicitDefEqProofs (disch:=first|omega|(simp only [go_sem,seval];first|done|omega)) only [go_sem,seval];((first|refine pfN hM ?_ ?_|refine pf0 hM ?_ ?_) <;> first|(simp only [go_sem,seval,Qe]<;>omega)|(simp -implicitDefEqProofs (disch:=first|omega|(simp only [go_sem,seval];first|done|omega)) only [go_sem,seval];simp [Vl,hj])))
  ·have f1:(0:Int) < a.length:=by omega
   rcases (by omega:b.length = 0 ∨ 1 ≤ b.length) with h0b|h0b
   ·have f2:¬ (0:Int) < b.length:=by omega
    have hn:nearB a b s = false:=by rw [List.eq_nil_of_length_eq_zero h0b];unfold nearB;cases a.getLast? <;> rfl
    have hj:QX a b s = 0:=by simp [QX,hf,hn]
    simp -implicitDefEqProofs (disch:=first|omega|(simp only [go_sem,seval,hlt,f1,f2,hlk];first|done|omega)) only [go_sem,seval,hlt,f1,f2,hlk]
    ((have hmm:List.map (fun x => Qc (shR s x)) b = (b.map (shR s)).map Qc:=(by simp));rw [hmm];refine Qb (ZD a (b.map (shR s)) (by simp;omega) _) ?_;simp -implicitDefEqProofs (disch:=first|omega|(simp only [go_sem,seval];first|done|omega)) only [go_sem,seval];refine Qb (ZQ _ _) ?_;simp -implicitDefEqProofs (disch:=first|omega|(simp only [go_sem,seval];first|done|omega)) only [go_sem,seval];refine Qb (VJ (by simp;omega) (ZG _ (by simp;omega)) _) ?_;simp -implicitDefEqProofs (disch:=first|omega|(simp only [go_sem,seval];first|done|omega)) only [go_sem,seval];((first|refine pfN hM ?_ ?_|refine pf0 hM ?_ ?_) <;> first|(simp only [go_sem,seval,Qe]<;>omega)|(simp -implicitDefEqProofs (disch:=first|omega|(simp only [go_sem,seval];first|done|omega)) only [go_sem,seval];simp [Vl,hj])))
   ·have f2:(0:Int) < b.length:=by omega
    have e1:(a.length:Int) - 1 = ((a.length - 1:Nat):Int):=by omega
    obtain ⟨p,g1⟩:∃ x,a[a.length - 1]? = some x:=⟨_,List.getElem?_eq_getElem (by omega)⟩
    obtain ⟨q,g2⟩:∃ x,b[0]? = some x:=⟨_,List.getElem?_eq_getElem (by omega)⟩
    have hnb:nearB a b s = decide (q.at_ + s ≤ p.at_):=by
     unfold nearB
     rw [List.getLast?_eq_getElem?,g1,List.head?_eq_getElem?,g2]
    have hb0:0 < b.length:=h0b
    simp -implicitDefEqProofs (disch:=first|omega|(simp only [go_sem,seval,hlt,f1,f2,hlk,e1,g1,g2,Qa,Qb1,QbK,hb0];first|done|omega)) only [go_sem,seval,hlt,f1,f2,hlk,e1,g1,g2,Qa,Qb1,QbK,hb0]
    refine Qg ?_ ?_ <;> intro hc <;> (try simp only [decide_eq_true_eq,decide_eq_false_iff_not,Classical.not_not,Bool.not_eq_true,Bool.not_eq_true',Bool.not_eq_false',Bool.false_or,Bool.or_false,Bool.true_or,Bool.or_true,Bool.false_and,Bool.and_false,Bool.true_and,Bool.and_true] at hc) <;> simp -implicitDefEqProofs (disch:=first|omega|(simp only [go_sem,seval,hlt,f1,f2,hlk,e1,g1,g2,Qa,Qb1,QbK,hb0,hc];first|done|omega)) only [go_sem,seval,hlt,f1,f2,hlk,e1,g1,g2,Qa,Qb1,QbK,hb0,hc]
    ·have hn:nearB a b s = true:=by rw [hnb];simp [hc]
     have hj:QX a b s = 11:=by simp [QX,hf,hn]
     (first|refine pfN hM ?_ ?_|refine pf0 hM ?_ ?_)
     ·simp -implicitDefEqProofs (disch:=first|omega|(simp only [go_sem,seval];first|done|omega)) only [go_sem,seval]
      simp [Vl,hj]
     ·(simp only [go_sem,seval,Qe]<;>omega)
    ·have hn:nearB a b s = false:=by rw [hnb];simp [hc]
     have hj:QX a b s = 0:=by simp [QX,hf,hn]
     ((have hmm:List.map (fun x => Qc (shR s x)) b = (b.map (shR s)).map Qc:=(by simp));rw [hmm];refine Qb (ZD a (b.map (shR s)) (by simp;omega) _) ?_;simp -implicitDefEqProofs (disch:=first|omega|(simp only [go_sem,seval];first|done|omega)) only [go_sem,seval];refine Qb (ZQ _ _) ?_;simp -implicitDefEqProofs (disch:=first|omega|(simp only [go_sem,seval];first|done|omega)) only [go_sem,seval];refine Qb (VJ (by simp;omega) (ZG _ (by simp;omega)) _) ?_;simp -implicitDefEqProofs (disch:=first|omega|(simp only [go_sem,seval];first|done|omega)) only [go_sem,seval];((first|refine pfN hM ?_ ?_|refine pf0 hM ?_ ?_) <;> first|(simp only [go_sem,seval,Qe]<;>omega)|(simp -implicitDefEqProofs (disch:=first|omega|(simp only [go_sem,seval];first|done|omega)) only [go_sem,seval];simp [Vl,hj])))
theorem QfQ:∀ (l:List Rev) (pp p:Option Rev),V1 pp p l → ∀ a z,l.head? = some a → l.getLast? = some z → a.at_ ≤ z.at_
 | [],_,_,_,a,z,h,_ => by simp at h
 | [x],_,_,_,a,z,h,h' => by simp at h h';subst h;subst h';omega
 | x :: y :: r,pp,p,ht,a,z,h,h' => by
  simp at h;subst h
  have h2:=QfQ (y :: r) _ _ ht.2.2 y z rfl (by simpa using h')
  have h3:=(ht.2.2.2.1 x rfl).1
  omega
theorem Qdj (l:List Rev) (hl:l.length ≤ 400000):Q X 22 [.fs (l.map Qc)] (.tup [.fs ((V2 l).map Qw),.I (Zi l)]):=by
 intro M
 (refine Qd (cf:=L7.c22) rfl rfl fun hM hA => ?_;simp only [L7.c22,zO,zF,zT,zM,CX.i];rw [mk1 _ (by decide)];simp -implicitDefEqProofs (disch:=first|omega|(simp only [go_sem,seval];first|done|omega)) only [go_sem,seval])
 refine Qb (QB l (by omega) _) ?_
 simp -implicitDefEqProofs (disch:=first|omega|(simp only [go_sem,seval];first|done|omega)) only [go_sem,seval]
 refine Qg ?_ ?_ <;> intro hc <;> (try simp only [decide_eq_true_eq,decide_eq_false_iff_not,Classical.not_not,Bool.not_eq_true,Bool.not_eq_true',Bool.not_eq_false',Bool.false_or,Bool.or_false,Bool.true_or,Bool.or_true,Bool.false_and,Bool.and_false,Bool.true_and,Bool.and_true] at hc) <;> simp -implicitDefEqProofs (disch:=first|omega|(simp only [go_sem,seval,hc];first|done|omega)) only [go_sem,seval,hc]
 ·(first|refine pfN hM ?_ ?_|refine pf0 hM ?_ ?_)
  ·simp -implicitDefEqProofs (disch:=first|omega|(simp only [go_sem,seval];first|done|omega)) only [go_sem,seval]
   simp [V2,Zi,hc]
  ·(simp only [go_sem,seval,Qu]<;>omega)
 ·by_cases h0:l = []
  ·subst h0
   simp -implicitDefEqProofs (disch:=first|omega|(simp only [go_sem,seval];first|done|omega)) only [go_sem,seval]
   (first|refine pfN hM ?_ ?_|refine pf0 hM ?_ ?_)
   ·simp -implicitDefEqProofs (disch:=first|omega|(simp only [go_sem,seval];first|done|omega)) only [go_sem,seval]
    simp [V2,Zi,hc]
   ·(simp only [go_sem,seval,Qu]<;>omega)
  ·have hlen:1 ≤ l.length:=by cases l <;> simp_all
   have f0:¬ (l.length:Int) = 0:=by omega
   have e1:(l.length:Int) - 1 = ((l.length - 1:Nat):Int):=by omega
   obtain ⟨p,g1⟩:∃ x,l[l.length - 1]? = some x:=⟨_,List.getElem?_eq_getElem (by omega)⟩
   obtain ⟨q,g2⟩:∃ x,l[0]? = some x:=⟨_,List.getElem?_eq_getElem (by omega)⟩
   have hcs:QO l = p.at_ - q.at_ + 1:=by
    unfold QO
    rw [List.getLast?_eq_getElem?,g1,List.head?_eq_getElem?,g2]
   have hch:=Vp.1 hc
   have hpg:=Ve _ _ _ hch.2 p (List.mem_of_getElem? g1)
   have hqg:=Ve _ _ _ hch.2 q (List.mem_of_getElem? g2)
   have hmon:=QfQ _ _ _ hch.2 q p (by rw [List.head?_eq_getElem?,g2]) (by rw [List.getLast?_eq_getElem?,g1])
   unfold goodR at hpg hqg
   simp -implicitDefEqProofs (disch:=first|omega|(simp only [go_sem,seval,f0,e1,g1,g2,Qa];first|done|omega)) only [go_sem,seval,f0,e1,g1,g2,Qa]
   refine Qb (Qdg l l _ hc hc (by omega) _) ?_
   rw [← hcs]
   clear f0 e1
   simp -implicitDefEqProofs (disch:=first|omega|(simp only [go_sem,seval];first|done|omega)) only [go_sem,seval]
   have hce:Zi l = QX l l (QO l):=by simp [Zi,hc,h0]
   have hcr:QX l l (QO l) = 0 → V2 l = (Qt (Vl l l (QO l))).1:=by intro h;simp [V2,hce,h,h0]
   have hcn:¬ QX l l (QO l) = 0 → V2 l = []:=by intro h;simp [V2,hce,h]
   have hjl:QX l l (QO l) = 0 → Vl l l (QO l) = Qv (l ++ l.map (shR (QO l))):=by intro h;simp [Vl,h]
   refine Qg ?_ ?_ <;> intro hc <;> (try simp only [decide_eq_true_eq,decide_eq_false_iff_not,Classical.not_not,Bool.not_eq_true,Bool.not_eq_true',Bool.not_eq_false',Bool.false_or,Bool.or_false,Bool.true_or,Bool.or_true,Bool.false_and,Bool.and_false,Bool.true_and,Bool.and_true] at hc) <;> simp -implicitDefEqProofs (disch:=first|omega|(simp only [go_sem,seval,hc];first|done|omega)) only [go_sem,seval,hc]
   ·(first|refine pfN hM ?_ ?_|refine pf0 hM ?_ ?_)
    ·simp -implicitDefEqProofs (disch:=first|omega|(simp only [go_sem,seval];first|done|omega)) only [go_sem,seval]
     simp [hce,hcn hc]
    ·(simp only [go_sem,seval,Qu]<;>omega)
   ·have hsm:∀ r ∈ Vl l l (QO l),Qx r:=by
     rw [hjl hc]
     intro r hr
     rcases List.mem_append.1 (Qa9 _ r hr) with h|h
     ·exact (Ve _ _ _ hch.2 r h).2
     ·obtain ⟨y,hy,rfl⟩:=List.mem_map.1 h
      exact (Ve _ _ _ hch.2 y hy).2
    have hln:(Vl l l (QO l)).length ≤ 1000000:=by
     rw [hjl hc]
     exact Nat.le_trans (Qbb _) (by simp;omega)
    refine Qb (ZH _ hln hsm _) ?_
    simp -implicitDefEqProofs (disch:=first|omega|(simp only [go_sem,seval];first|done|omega)) only [go_sem,seval]
    (first|refine pfN hM ?_ ?_|refine pf0 hM ?_ ?_)
    ·simp -implicitDefEqProofs (disch:=first|omega|(simp only [go_sem,seval];first|done|omega)) only [go_sem,seval]
     simp [hce,hcr hc,hc]
    ·(simp only [go_sem,seval,Qu]<;>omega)
theorem Qe1 (n e:Int) (he:1 ≤ e ∧ e ≤ 3) (hn:0 ≤ n ∧ n ≤ 1152921504606846976):Q X 61 [.I n,.I e] (.I (rootOf n e)):=by
 intro M
 have run:∀ H:Int,(e = 2 ∧ H = 2147483648) ∨ (e = 3 ∧ H = 1048576) → (0:Int) = pwI 0 e ∧ n < pwI (H + 1) e:=by
  rintro H (⟨rfl,rfl⟩|⟨rfl,rfl⟩)
  ·exact ⟨rfl,by simp only [pwI_2];omega⟩
  ·exact ⟨rfl,by simp only [pwI_3];omega⟩
 (refine Qd (cf:=L7.c61) rfl rfl fun hM hA => ?_;simp only [L7.c61,zO,zF,zT,zM,CX.i];rw [mk2 _ (by decide)];simp -implicitDefEqProofs (disch:=first|omega|(simp only [go_sem,seval];first|done|omega)) only [go_sem,seval])
 refine Qg ?_ ?_ <;> intro hc <;> (try simp only [decide_eq_true_eq,decide_eq_false_iff_not,Classical.not_not,Bool.not_eq_true,Bool.not_eq_true',Bool.not_eq_false',Bool.false_or,Bool.or_false,Bool.true_or,Bool.or_true,Bool.false_and,Bool.and_false,Bool.true_and,Bool.and_true] at hc) <;> simp -implicitDefEqProofs (disch:=first|omega|(simp only [go_sem,seval,hc];first|done|omega)) only [go_sem,seval,hc]
 ·subst hc
  (first|refine pfN hM ?_ ?_|refine pf0 hM ?_ ?_)
  ·simp -implicitDefEqProofs (disch:=first|omega|(simp only [go_sem,seval];first|done|omega)) only [go_sem,seval]
   rw [Yn (r:=n) ⟨hn.1,by rw [pwI_1];omega,by rw [pwI_1];omega⟩]
  ·(simp only [go_sem,seval]<;>omega)
 ·have two:((2:Int) = 0) = False:=by simp
  have hh:∃ H:Int,((e = 2 ∧ H = 2147483648) ∨ (e = 3 ∧ H = 1048576)) ∧ (if 2 < e then (1048576:Int) else 2147483648) = H:=by
   by_cases h:e = 2
   ·exact ⟨2147483648,.inl ⟨h,rfl⟩,by rw [if_neg (by omega)]⟩
   ·exact ⟨1048576,.inr ⟨by omega,rfl⟩,by rw [if_pos (by omega)]⟩
  obtain ⟨H,hH,hHe⟩:=hh
  have hr:=run H hH
  refine Qg ?_ ?_ <;> intro hc <;> (try simp only [decide_eq_true_eq,decide_eq_false_iff_not,Classical.not_not,Bool.not_eq_true,Bool.not_eq_true',Bool.not_eq_false',Bool.false_or,Bool.or_false,Bool.true_or,Bool.or_true,Bool.false_and,Bool.and_false,Bool.true_and,Bool.and_true] at hc) <;> simp -implicitDefEqProofs (disch:=first|omega|(simp only [go_sem,seval,hc];first|done|omega)) only [go_sem,seval,hc]
  ·rw [if_pos (by omega)] at hHe
   subst hHe
   (refine Qn (α:=Int × Int) (0,_) (fun p => 0 ≤ p.1 ∧ p.1 ≤ p.2 ∧ ((e = 2 ∧ p.2 ≤ 2147483648) ∨ (e = 3 ∧ p.2 ≤ 1048576)) ∧ pwI p.1 e ≤ n ∧ n < pwI (p.2 + 1) e) (fun _ => M) (fun p => [(0,.I n),(1,.I e),(5,.I p.1),(6,.I p.2)]) (fun p => (p.2 - p.1).toNat) ⟨by omega,by omega,by omega,(by show pwI 0 e ≤ n;rw [← hr.1];exact hn.1),hr.2⟩ rfl rfl ?_;rintro ⟨lo,hi⟩ ⟨h1,h2,h3,h4,h5⟩;simp only [] at h1 h2 h3 h4 h5;by_cases hlt:lo < hi;(have hm:lo < (lo + hi + 1) / 2 ∧ (lo + hi + 1) / 2 ≤ hi:=(by omega));simp -implicitDefEqProofs (disch:=first|omega|(simp only [go_sem,seval,hlt,two,Int.tdiv_eq_ediv_of_nonneg];first|done|omega)) only [go_sem,seval,hlt,two,Int.tdiv_eq_ediv_of_nonneg];generalize (lo + hi + 1) / 2 = m at hm ⊢;refine Qb (ZO _ _ (by omega) _) ?_;rw [QdG he (by omega) (by omega)];simp -implicitDefEqProofs (disch:=first|omega|(simp only [go_sem,seval];first|done|omega)) only [go_sem,seval];refine Qg ?_ ?_ <;> intro hc <;> (try simp only [decide_eq_true_eq,decide_eq_false_iff_not,Classical.not_not,Bool.not_eq_true,Bool.not_eq_true',Bool.not_eq_false',Bool.false_or,Bool.or_false,Bool.true_or,Bool.or_true,Bool.false_and,Bool.and_false,Bool.true_and,Bool.and_true] at hc) <;> simp -implicitDefEqProofs (disch:=first|omega|(simp only [go_sem,seval,hc];first|done|omega)) only [go_sem,seval,hc];exact again' (m,hi) ⟨by omega,by simp only [];omega,by simp only [];omega,hc,h5⟩ (by simp only [];omega) rfl rfl;exact again' (lo,m - 1) ⟨h1,by simp only [];omega,by simp only [];omega,h4,by simp only [];rw [Int.sub_add_cancel];omega⟩ (by simp only [];omega) rfl rfl;(have he2:hi = lo:=(by omega));subst he2;simp -implicitDefEqProofs (disch:=first|omega|(simp only [go_sem,seval,hlt];first|done|omega)) only [go_sem,seval,hlt];(first|refine pfN hM ?_ ?_|refine pf0 hM ?_ ?_);simp -implicitDefEqProofs (disch:=first|omega|(simp only [go_sem,seval];first|done|omega)) only [go_sem,seval];rw [Yn ⟨h1,h4,h5⟩];(simp only [go_sem,seval]<;>omega))
  ·rw [if_neg (by omega)] at hHe
   subst hHe
   (refine Qn (α:=Int × Int) (0,_) (fun p => 0 ≤ p.1 ∧ p.1 ≤ p.2 ∧ ((e = 2 ∧ p.2 ≤ 2147483648) ∨ (e = 3 ∧ p.2 ≤ 1048576)) ∧ pwI p.1 e ≤ n ∧ n < pwI (p.2 + 1) e) (fun _ => M) (fun p => [(0,.I n),(1,.I e),(5,.I p.1),(6,.I p.2)]) (fun p => (p.2 - p.1).toNat) ⟨by omega,by omega,by omega,(by show pwI 0 e ≤ n;rw [← hr.1];exact hn.1),hr.2⟩ rfl rfl ?_;rintro ⟨lo,hi⟩ ⟨h1,h2,h3,h4,h5⟩;simp only [] at h1 h2 h3 h4 h5;by_cases hlt:lo < hi;(have hm:lo < (lo + hi + 1) / 2 ∧ (lo + hi + 1) / 2 ≤ hi:=(by omega));simp -implicitDefEqProofs (disch:=first|omega|(simp only [go_sem,seval,hlt,two,Int.tdiv_eq_ediv_of_nonneg];first|done|omega)) only [go_sem,seval,hlt,two,Int.tdiv_eq_ediv_of_nonneg];generalize (lo + hi + 1) / 2 = m at hm ⊢;refine Qb (ZO _ _ (by omega) _) ?_;rw [QdG he (by omega) (by omega)];simp -implicitDefEqProofs (disch:=first|omega|(simp only [go_sem,seval];first|done|omega)) only [go_sem,seval];refine Qg ?_ ?_ <;> intro hc <;> (try simp only [decide_eq_true_eq,decide_eq_false_iff_not,Classical.not_not,Bool.not_eq_true,Bool.not_eq_true',Bool.not_eq_false',Bool.false_or,Bool.or_false,Bool.true_or,Bool.or_true,Bool.false_and,Bool.and_false,Bool.true_and,Bool.and_true] at hc) <;> simp -implicitDefEqProofs (disch:=first|omega|(simp only [go_sem,seval,hc];first|done|omega)) only [go_sem,seval,hc];exact again' (m,hi) ⟨by omega,by simp only [];omega,by simp only [];omega,hc,h5⟩ (by simp only [];omega) rfl rfl;exact again' (lo,m - 1) ⟨h1,by simp only [];omega,by simp only [];omega,h4,by simp only [];rw [Int.sub_add_cancel];omega⟩ (by simp only [];omega) rfl rfl;(have he2:hi = lo:=(by omega));subst he2;simp -implicitDefEqProofs (disch:=first|omega|(simp only [go_sem,seval,hlt];first|done|omega)) only [go_sem,seval,hlt];(first|refine pfN hM ?_ ?_|refine pf0 hM ?_ ?_);simp -implicitDefEqProofs (disch:=first|omega|(simp only [go_sem,seval];first|done|omega)) only [go_sem,seval];rw [Yn ⟨h1,h4,h5⟩];(simp only [go_sem,seval]<;>omega))
theorem Qa7 (x:Life):Q X 59 [Zn x] (.I (ZR x)):=by
 intro M
 (refine Qd (cf:=L7.c59) rfl rfl fun hM hA => ?_;simp only [L7.c59,zO,zF,zT,zM,CX.i];rw [mk1 _ (by decide)];simp -implicitDefEqProofs (disch:=first|omega|(simp only [go_sem,seval,Vx,Q2];first|done|omega)) only [go_sem,seval,Vx,Q2])
 repeat' (first|(refine Qb (Va _ _ _ _) ?_;(try simp -implicitDefEqProofs (disch:=first|omega|(simp only [go_sem,seval];first|done|omega)) only [go_sem,seval]))|(refine Qb (Vf _ _) ?_;(try simp -implicitDefEqProofs (disch:=first|omega|(simp only [go_sem,seval];first|done|omega)) only [go_sem,seval]))|(refine Qb (Qy [_,_] (by simp) _) ?_;(try simp -implicitDefEqProofs (disch:=first|omega|(simp only [go_sem,seval];first|done|omega)) only [go_sem,seval]))|(refine Qg ?_ ?_ <;> intro hc <;> (try simp only [decide_eq_true_eq,decide_eq_false_iff_not,Classical.not_not,Bool.not_eq_true,Bool.not_eq_true',Bool.not_eq_false',Bool.false_or,Bool.or_false,Bool.true_or,Bool.or_true,Bool.false_and,Bool.and_false,Bool.true_and,Bool.and_true] at hc) <;> (try simp -implicitDefEqProofs (disch:=first|omega|(simp only [go_sem,seval,hc];first|done|omega)) only [go_sem,seval,hc]))|(refine Qq ?_ ?_ <;> intro hc <;> (try simp only [decide_eq_true_eq,decide_eq_false_iff_not,Classical.not_not,Bool.not_eq_true,Bool.not_eq_true',Bool.not_eq_false',Bool.false_or,Bool.or_false,Bool.true_or,Bool.or_true,Bool.false_and,Bool.and_false,Bool.true_and,Bool.and_true] at hc) <;> (try simp -implicitDefEqProofs (disch:=first|omega|(simp only [go_sem,seval,hc];first|done|omega)) only [go_sem,seval,hc])))
 (all_goals (first|refine pfN hM ?_ ?_|refine pf0 hM ?_ ?_);all_goals first|(simp only [go_sem,seval,QeZ]<;>omega)|skip;all_goals (try simp -implicitDefEqProofs (disch:=first|omega|(simp only [go_sem,seval,ZR];first|done|omega)) only [go_sem,seval,ZR]))
theorem Ys (l:List Cyc) (e number:Int) (hl:l.length ≤ 1048576):Q X 31 [.fs (l.map Qw),.I e,.I number] (.tup [.I (eqvRes l e number).1,.I (eqvRes l e number).2]):=by
 intro M
 (refine Qd (cf:=L7.c31) rfl rfl fun hM hA => ?_;simp only [L7.c31,zO,zF,zT,zM,CX.i];rw [mk3 _ (by decide)];simp -implicitDefEqProofs (disch:=first|omega|(simp only [go_sem,seval];first|done|omega)) only [go_sem,seval])
 refine Qb (JX l e hl _) ?_
 simp -implicitDefEqProofs (disch:=first|omega|(simp only [go_sem,seval];first|done|omega)) only [go_sem,seval]
 have hd:=QhY l e
 have hx:=@Qg2 l e
 generalize hD:Q3 l e = D at hd hx
 obtain ⟨d,e1⟩:=D
 simp only [] at hd hx
 have hfin:∀ r:Int × Int,eqvRes l e number = r → (eqvRes l e number).1 = r.1 ∧ (eqvRes l e number).2 = r.2:=fun r h => by rw [h];exact ⟨rfl,rfl⟩
 rcases (by omega:(¬ e1 = 0 ∧ ¬ e1 = 4) ∨ e1 = 0 ∨ e1 = 4) with ⟨h0,h4⟩|rfl|rfl
 ·simp -implicitDefEqProofs (disch:=first|omega|(simp only [go_sem,seval,h0,h4];first|done|omega)) only [go_sem,seval,h0,h4]
  (first|refine pfN hM ?_ ?_|refine pf0 hM ?_ ?_)
  ·simp -implicitDefEqProofs (disch:=first|omega|(simp only [go_sem,seval];first|done|omega)) only [go_sem,seval]
   simp [eqvRes,hD,h0,h4]
  ·(simp only [go_sem,seval]<;>omega)
 ·have he:=hx (.inl rfl)
  simp -implicitDefEqProofs (disch:=first|omega|(simp only [go_sem,seval];first|done|omega)) only [go_sem,seval]
  refine Qb (Va _ _ _ _) ?_
  simp -implicitDefEqProofs (disch:=first|omega|(simp only [go_sem,seval];first|done|omega)) only [go_sem,seval]
  refine Qb (Qy [_,_] (by simp) _) ?_
  simp -implicitDefEqProofs (disch:=first|omega|(simp only [go_sem,seval];first|done|omega)) only [go_sem,seval]
  refine Qg ?_ ?_ <;> intro hc <;> (try simp only [decide_eq_true_eq,decide_eq_false_iff_not,Classical.not_not,Bool.not_eq_true,Bool.not_eq_true',Bool.not_eq_false',Bool.false_or,Bool.or_false,Bool.true_or,Bool.or_true,Bool.false_and,Bool.and_false,Bool.true_and,Bool.and_true] at hc) <;> simp -implicitDefEqProofs (disch:=first|omega|(simp only [go_sem,seval,hc];first|done|omega)) only [go_sem,seval,hc]
  ·(first|refine pfN hM ?_ ?_|refine pf0 hM ?_ ?_)
   ·simp -implicitDefEqProofs (disch:=first|omega|(simp only [go_sem,seval];first|done|omega)) only [go_sem,seval]
    simp [eqvRes,hD,hc]
   ·(simp only [go_sem,seval]<;>omega)
  ·have hn:=Vb.1 (Q4 hc).1
   have hq:0 ≤ d / number ∧ d / number ≤ 1152921504606846976:=⟨Int.ediv_nonneg hd.1 (by omega),Int.le_trans (Int.ediv_le_self _ hd.1) hd.2⟩
   have n0:¬ number = 0:=by omega
   simp -implicitDefEqProofs (disch:=first|omega|(simp only [go_sem,seval,n0,Int.tdiv_eq_ediv_of_nonneg];first|done|omega)) only [go_sem,seval,n0,Int.tdiv_eq_ediv_of_nonneg]
   refine Qb (Qe1 _ _ he hq _) ?_
   simp -implicitDefEqProofs (disch:=first|omega|(simp only [go_sem,seval];first|done|omega)) only [go_sem,seval]
   (first|refine pfN hM ?_ ?_|refine pf0 hM ?_ ?_)
   ·simp -implicitDefEqProofs (disch:=first|omega|(simp only [go_sem,seval];first|done|omega)) only [go_sem,seval]
    simp [eqvRes,hD,hc]
   ·(simp only [go_sem,seval]<;>omega)
 ·have f40:((4:Int) = 0) = False:=by simp
  simp -implicitDefEqProofs (disch:=first|omega|(simp only [go_sem,seval,f40];first|done|omega)) only [go_sem,seval,f40]
  refine Qb (Va _ _ _ _) ?_
  simp -implicitDefEqProofs (disch:=first|omega|(simp only [go_sem,seval];first|done|omega)) only [go_sem,seval]
  refine Qb (Qy [_,_] (by simp) _) ?_
  simp -implicitDefEqProofs (disch:=first|omega|(simp only [go_sem,seval];first|done|omega)) only [go_sem,seval]
  refine Qg ?_ ?_ <;> intro hc <;> (try simp only [decide_eq_true_eq,decide_eq_false_iff_not,Classical.not_not,Bool.not_eq_true,Bool.not_eq_true',Bool.not_eq_false',Bool.false_or,Bool.or_false,Bool.true_or,Bool.or_true,Bool.false_and,Bool.and_false,Bool.true_and,Bool.and_true] at hc) <;> simp -implicitDefEqProofs (disch:=first|omega|(simp only [go_sem,seval,hc];first|done|omega)) only [go_sem,seval,hc]
  ·(first|refine pfN hM ?_ ?_|refine pf0 hM ?_ ?_)
   ·simp -implicitDefEqProofs (disch:=first|omega|(simp only [go_sem,seval];first|done|omega)) only [go_sem,seval]
    simp [eqvRes,hD,hc]
   ·(simp only [go_sem,seval]<;>omega)
  ·exact absurd (Q4 hc).2 (by simp)
theorem Qck (x:Life) (l:List Int) (hl:l.length ≤ 1048576):Q X 30 [Zn x,.fs (l.map .I)] (.tup [.I (JC x l).1,.I (JC x l).2]):=by
 intro M
 (refine Qd (cf:=L7.c30) rfl rfl fun hM hA => ?_;simp only [L7.c30,zO,zF,zT,zM,CX.i];rw [mk2 _ (by decide)];simp -implicitDefEqProofs (disch:=first|omega|(simp only [go_sem,seval,Vx,Q2];first|done|omega)) only [go_sem,seval,Vx,Q2])
 refine Qb (Qa7 x _) ?_
 simp -implicitDefEqProofs (disch:=first|omega|(simp only [go_sem,seval,Vx,Q2];first|done|omega)) only [go_sem,seval,Vx,Q2]
 refine Qb (Zb l hl _) ?_
 simp -implicitDefEqProofs (disch:=first|omega|(simp only [go_sem,seval];first|done|omega)) only [go_sem,seval]
 refine Qb (Qy [_,_] (by simp) _) ?_
 simp -implicitDefEqProofs (disch:=first|omega|(simp only [go_sem,seval];first|done|omega)) only [go_sem,seval]
 refine Qg ?_ ?_ <;> intro hc <;> (try simp only [decide_eq_true_eq,decide_eq_false_iff_not,Classical.not_not,Bool.not_eq_true,Bool.not_eq_true',Bool.not_eq_false',Bool.false_or,Bool.or_false,Bool.true_or,Bool.or_true,Bool.false_and,Bool.and_false,Bool.true_and,Bool.and_true] at hc) <;> simp -implicitDefEqProofs (disch:=first|omega|(simp only [go_sem,seval,hc];first|done|omega)) only [go_sem,seval,hc]
 ·(first|refine pfN hM ?_ ?_|refine pf0 hM ?_ ?_)
  ·simp -implicitDefEqProofs (disch:=first|omega|(simp only [go_sem,seval];first|done|omega)) only [go_sem,seval]
   simp [JC,hc]
  ·(simp only [go_sem,seval]<;>omega)
 ·have hz:=Q4 hc
  have he:=Vb.1 (Q4 hz.1).2
  have hcp:=Vb.1 (Q4 hz.1).1
  have ht:=QkO hz.2 he
  refine Qb (J6 l x.exp hz.2 he _) ?_
  simp -implicitDefEqProofs (disch:=first|omega|(simp only [go_sem,seval];first|done|omega)) only [go_sem,seval]
  refine Qb (Vj _ _ _) ?_
  simp -implicitDefEqProofs (disch:=first|omega|(simp only [go_sem,seval];first|done|omega)) only [go_sem,seval]
  refine Qb (Qy [_,_] (by simp) _) ?_
  simp -implicitDefEqProofs (disch:=first|omega|(simp only [go_sem,seval];first|done|omega)) only [go_sem,seval]
  have h0:=hc
  clear hc
  refine Qg ?_ ?_ <;> intro hc <;> (try simp only [decide_eq_true_eq,decide_eq_false_iff_not,Classical.not_not,Bool.not_eq_true,Bool.not_eq_true',Bool.not_eq_false',Bool.false_or,Bool.or_false,Bool.true_or,Bool.or_true,Bool.false_and,Bool.and_false,Bool.true_and,Bool.and_true] at hc) <;> simp -implicitDefEqProofs (disch:=first|omega|(simp only [go_sem,seval,hc];first|done|omega)) only [go_sem,seval,hc]
  ·(first|refine pfN hM ?_ ?_|refine pf0 hM ?_ ?_)
   ·simp -implicitDefEqProofs (disch:=first|omega|(simp only [go_sem,seval];first|done|omega)) only [go_sem,seval]
    simp [JC,h0,hc]
   ·(simp only [go_sem,seval]<;>omega)
  ·have hn:¬ (twRes l x.exp).1 = 0:=by
    intro h
    have:=(Q4 hc).2
    simp [h] at this
   have hq:0 ≤ 2 * x.cap / (twRes l x.exp).1 ∧ 2 * x.cap / (twRes l x.exp).1 ≤ 2 * 1152921504606846976:=⟨Int.ediv_nonneg (by omega) (by omega),Int.le_trans (Int.ediv_le_self _ (by omega)) (by omega)⟩
   simp -implicitDefEqProofs (disch:=first|omega|(simp only [go_sem,seval,hn,Vx,Q2,Int.tdiv_eq_ediv_of_nonneg];first|done|omega)) only [go_sem,seval,hn,Vx,Q2,Int.tdiv_eq_ediv_of_nonneg]
   (first|refine pfN hM ?_ ?_|refine pf0 hM ?_ ?_)
   ·simp -implicitDefEqProofs (disch:=first|omega|(simp only [go_sem,seval];first|done|omega)) only [go_sem,seval]
    simp [JC,h0,hc]
   ·(simp only [go_sem,seval]<;>omega)
theorem Qbk:Q X 19 [] (.fs (awL.map .I)):=Qcu
theorem QeJ:Q X 16 [.fs (awL.map .I)] (.tup [.fs (awR.map Qc),.I 0]):=by
 have:=Y0 (X:=X) awL (by decide)
 rw [aw2,if_pos rfl,aw1] at this;exact this
theorem Qni:Q X 20 [.fs (awR.map Qc)] (.tup [.fs (awC.map Qw),.fs (awD.map Qc),.I 0]):=by
 have:=QdL (X:=X) awR (by decide)
 rw [aw3,aw4] at this;exact this
theorem QhQ:Q X 21 [.fs (awR.map Qc),.I 3] (.tup [.fs (awD.map Qc),.I 0]):=by
 have:=JZ (X:=X) awR 3 (by decide)
 rw [aw7,if_pos rfl,aw5] at this;exact this
theorem Qib:Q X 21 [.fs (awR.map Qc),.I 2] (.tup [.fs (awR.map Qc),.I 0]):=by
 have:=JZ (X:=X) awR 2 (by decide)
 rw [aw8,if_pos rfl,aw6] at this;exact this
theorem QkP:Q X 22 [.fs (awD.map Qc)] (.tup [.fs (awO.map Qw),.I 0]):=by
 have:=Qdj (X:=X) awD (by decide)
 rw [aw9,aw10] at this;exact this
theorem QeE:Q X 23 [.fs (awR.map Qc),.I 3] (.tup [.I 3,.I 0]):=by
 have:=Qa5 (X:=X) awR 3 (by decide)
 rw [aw11] at this;exact this
theorem Qgb:Q X 24 [.fs (awR.map Qc)] (.tup [.I 7,.I 0]):=by
 have:=QbG (X:=X) awR (by decide)
 rw [aw12] at this;exact this
theorem QkC:Q X 25 [.fs [.agg [.I 3,.I 4,.I 2,.I 4]],.I 2] (.tup [.I 4,.I 0]):=by
 have:=JX (X:=X) awC 2 (by decide)
 rw [aw13] at this;exact this
theorem Qpk:Q X 26 [.fs (awD.map Qc),.I 2] (.tup [.I 110,.I 0]):=by
 have:=QeM (X:=X) awD 2 (by decide)
 rw [aw14] at this;exact this
theorem QmA:Q X 27 [.fs (awL.map .I),.I 2] (.tup [.I 118,.I 0]):=by
 have:=QdQ (X:=X) awL 2 (by decide)
 rw [aw15] at this;exact this
theorem Qh5:Q X 30 [.agg [.I 40,.I 1],.fs (awL.map .I)] (.tup [.I 3,.I 0]):=by
 have:=Qck (X:=X) ⟨40,1⟩ awL (by decide)
 rw [aw16] at this;exact this
theorem Qc5:Q X 31 [.fs [.agg [.I 3,.I 4,.I 2,.I 4]],.I 2,.I 1] (.tup [.I 2,.I 0]):=by
 have:=Ys (X:=X) awC 2 1 (by decide)
 rw [aw17] at this;exact this
theorem Qdb:Q X 31 [.fs [.agg [.I 3,.I 4,.I 2,.I 4]],.I 2,.I 2] (.tup [.I 1,.I 0]):=by
 have:=Ys (X:=X) awC 2 2 (by decide)
 rw [aw18] at this;exact this
theorem Jp (l:List Rev) (hl:l.length ≤ 1048576):Q X 14 [.fs (l.map Qc)] (.fs (l.map Qc)):=YT l hl
theorem Qea (l:List Cyc) (hl:l.length ≤ 1048576):Q X 29 [.fs (l.map Qw)] (.fs (l.map Qw)):=Qcl l hl
theorem Qmj:Q X 18 [.fs (awD.map Qc)] (.fs [.I 0,.I 5,.I (-1),.I 6]):=Yo awD (by decide)
theorem Qg4:Q X 17 [.fs [.I 0,.I 5,.I (-1),.I 6],.fs [.I 0,.I 5,.I (-1),.I 6]] (.B true):=Y2 [0,5,-1,6] [0,5,-1,6] (by decide)
theorem QdW (l:List Rev) (hl:l.length ≤ 1048576):Q X 13 [.fs (l.map Qc),.fs (l.map Qc)] (.B true):=by
 have:=Zy (X:=X) l l hl
 rw [decide_eq_true rfl] at this;exact this
theorem QlM:Q X 13 [.fs (awR.map Qc),.fs [.agg [.I 0,.I 0],.agg [.I 1,.I 5],.agg [.I 3,.I 2],.agg [.I 4,.I 4],.agg [.I 5,.I (-1)],.agg [.I 7,.I 6]]] (.B true):=QdW awR (by decide)
theorem Qmv:Q X 28 [.fs (awC.map Qw),.fs [.agg [.I 3,.I 4,.I 2,.I 4]]] (.B true):=Z8 awC awC (by decide)
theorem QmD:Q X 28 [.fs (awO.map Qw),.fs [.agg [.I 8,.I 9,.I 0,.I 5],.agg [.I 7,.I 13,.I (-1),.I 6]]] (.B true):=Z8 awO awO (by decide)
theorem QT:awR.length = 6:=rfl
theorem QU:awD.length = 4:=rfl
theorem QG:(awR.map Qc).take 6 = awR.map Qc:=rfl
theorem QH:(awD.map Qc).take 4 = awD.map Qc:=rfl
theorem Qdh:Q X 5 [] (.B true):=by
 intro M
 have okR:=Yd awR
 have okD:=Yd awD
 (refine Qd (cf:=L7.c5) rfl rfl fun hM hA => ?_;simp only [L7.c5,zO,zF,zT,zM,CX.i];rw [mk0];simp -implicitDefEqProofs (disch:=first|omega|(simp only [go_sem,seval];first|done|omega)) only [go_sem,seval])
 refine Qb (Qbk _) ?_
 simp -implicitDefEqProofs (disch:=first|omega|(simp only [go_sem,seval];first|done|omega)) only [go_sem,seval]
 refine Qb (QeJ _) ?_
 simp -implicitDefEqProofs (disch:=first|omega|(simp only [go_sem,seval,okR,okD,QT,QU,QG,QH];first|done|omega)) only [go_sem,seval,okR,okD,QT,QU,QG,QH]
 refine Qb (Qni _) ?_
 simp -implicitDefEqProofs (disch:=first|omega|(simp only [go_sem,seval,okR,okD,QT,QU,QG,QH];first|done|omega)) only [go_sem,seval,okR,okD,QT,QU,QG,QH]
 refine Qb (QhQ _) ?_
 simp -implicitDefEqProofs (disch:=first|omega|(simp only [go_sem,seval,okR,okD,QT,QU,QG,QH];first|done|omega)) only [go_sem,seval,okR,okD,QT,QU,QG,QH]
 refine Qb (Qib _) ?_
 simp -implicitDefEqProofs (disch:=first|omega|(simp only [go_sem,seval,okR,okD,QT,QU,QG,QH];first|done|omega)) only [go_sem,seval,okR,okD,QT,QU,QG,QH]
 refine Qb (QkP _) ?_
 simp -implicitDefEqProofs (disch:=first|omega|(simp only [go_sem,seval,okR,okD,QT,QU,QG,QH];first|done|omega)) only [go_sem,seval,okR,okD,QT,QU,QG,QH]
 refine Qb (QeE _) ?_
 simp -implicitDefEqProofs (disch:=first|omega|(simp only [go_sem,seval,okR,okD,QT,QU,QG,QH];first|done|omega)) only [go_sem,seval,okR,okD,QT,QU,QG,QH]
 refine Qb (Qgb _) ?_
 simp -implicitDefEqProofs (disch:=first|omega|(simp only [go_sem,seval,okR,okD,QT,QU,QG,QH];first|done|omega)) only [go_sem,seval,okR,okD,QT,QU,QG,QH]
 refine Qb (QkC _) ?_
 simp -implicitDefEqProofs (disch:=first|omega|(simp only [go_sem,seval,okR,okD,QT,QU,QG,QH];first|done|omega)) only [go_sem,seval,okR,okD,QT,QU,QG,QH]
 refine Qb (Qpk _) ?_
 simp -implicitDefEqProofs (disch:=first|omega|(simp only [go_sem,seval,okR,okD,QT,QU,QG,QH];first|done|omega)) only [go_sem,seval,okR,okD,QT,QU,QG,QH]
 refine Qb (Qbk _) ?_
 simp -implicitDefEqProofs (disch:=first|omega|(simp only [go_sem,seval];first|done|omega)) only [go_sem,seval]
 refine Qb (QmA _) ?_
 simp -implicitDefEqProofs (disch:=first|omega|(simp only [go_sem,seval];first|done|omega)) only [go_sem,seval]
 refine Qb (Jp awR (by decide) _) ?_
 simp -implicitDefEqProofs (disch:=first|omega|(simp only [go_sem,seval];first|done|omega)) only [go_sem,seval]
 refine Qb (QlM _) ?_
 simp -implicitDefEqProofs (disch:=first|omega|(simp only [go_sem,seval];first|done|omega)) only [go_sem,seval]
 refine Qb (Qea awC (by decide) _) ?_
 simp -implicitDefEqProofs (disch:=first|omega|(simp only [go_sem,seval];first|done|omega)) only [go_sem,seval]
 refine Qb (Qmv _) ?_
 simp -implicitDefEqProofs (disch:=first|omega|(simp only [go_sem,seval];first|done|omega)) only [go_sem,seval]
 refine Qb (Jp awD (by decide) _) ?_
 simp -implicitDefEqProofs (disch:=first|omega|(simp only [go_sem,seval];first|done|omega)) only [go_sem,seval]
 refine Qb (Qmj _) ?_
 simp -implicitDefEqProofs (disch:=first|omega|(simp only [go_sem,seval];first|done|omega)) only [go_sem,seval]
 refine Qb (Qg4 _) ?_
 simp -implicitDefEqProofs (disch:=first|omega|(simp only [go_sem,seval];first|done|omega)) only [go_sem,seval]
 refine Qb (Jp awD (by decide) _) ?_
 simp -implicitDefEqProofs (disch:=first|omega|(simp only [go_sem,seval];first|done|omega)) only [go_sem,seval]
 refine Qb (Jp awD (by decide) _) ?_
 simp -implicitDefEqProofs (disch:=first|omega|(simp only [go_sem,seval];first|done|omega)) only [go_sem,seval]
 refine Qb (QdW awD (by decide) _) ?_
 simp -implicitDefEqProofs (disch:=first|omega|(simp only [go_sem,seval];first|done|omega)) only [go_sem,seval]
 refine Qb (Jp awR (by decide) _) ?_
 simp -implicitDefEqProofs (disch:=first|omega|(simp only [go_sem,seval];first|done|omega)) only [go_sem,seval]
 refine Qb (Jp awR (by decide) _) ?_
 simp -implicitDefEqProofs (disch:=first|omega|(simp only [go_sem,seval];first|done|omega)) only [go_sem,seval]
 refine Qb (QdW awR (by decide) _) ?_
 simp -implicitDefEqProofs (disch:=first|omega|(simp only [go_sem,seval];first|done|omega)) only [go_sem,seval]
 refine Qb (Qbk _) ?_
 simp -implicitDefEqProofs (disch:=first|omega|(simp only [go_sem,seval];first|done|omega)) only [go_sem,seval]
 refine Qb (Qh5 _) ?_
 simp -implicitDefEqProofs (disch:=first|omega|(simp only [go_sem,seval];first|done|omega)) only [go_sem,seval]
 refine Qb (Qc5 _) ?_
 simp -implicitDefEqProofs (disch:=first|omega|(simp only [go_sem,seval];first|done|omega)) only [go_sem,seval]
 refine Qb (Qdb _) ?_
 simp -implicitDefEqProofs (disch:=first|omega|(simp only [go_sem,seval];first|done|omega)) only [go_sem,seval]
 refine Qb (Qea awO (by decide) _) ?_
 simp -implicitDefEqProofs (disch:=first|omega|(simp only [go_sem,seval];first|done|omega)) only [go_sem,seval]
 refine Qb (QmD _) ?_
 simp -implicitDefEqProofs (disch:=first|omega|(simp only [go_sem,seval];first|done|omega)) only [go_sem,seval]
 (first|refine pfN hM ?_ ?_|refine pf0 hM ?_ ?_)
 ·simp -implicitDefEqProofs (disch:=first|omega|(simp only [go_sem,seval];first|done|omega)) only [go_sem,seval]
 ·(simp only [go_sem,seval]<;>omega)
end
end Go.Nac.L7
