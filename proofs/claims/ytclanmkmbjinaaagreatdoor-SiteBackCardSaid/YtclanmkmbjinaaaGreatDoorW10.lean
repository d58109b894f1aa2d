import Derived.Test.YtclanmkmbjinaaaGreatDoorW09
set_option linter.unusedSimpArgs false
set_option linter.unusedVariables false
set_option linter.unnecessarySimpa false
set_option maxRecDepth 10000
namespace Go.Nac.L4
attribute [local congr] Zx VT ZC Vz VA Vt Zs ZD
section
variable {X:XRel}
theorem QeL (s:Ste) (hl:s.tbs.length ≤ 1048576):Q X 42 [Qq s] (.tup [.I (if spcE s = 0 then spcOf s.tbs else 0),.I (spcE s)]):=by
 have hC:=Za (X:=X) s hl
 have hq:=QJ (X:=X) [Qx s,if s.tbs.length < 2 then 7 else 0] (by simp)
 have hz:spcE s = 0 → Qx s = 0 ∧ 2 ≤ s.tbs.length:=by
  intro h
  obtain ⟨h1,h2⟩:=Yz h
  refine ⟨h1,?_⟩
  split at h2
  ·cases h2
  ·omega
 have e:spcE s = fst0 [Qx s,if s.tbs.length < 2 then 7 else 0]:=rfl
 rw [← e] at hq
 clear e
 have hi:=fun h => Yb (s:=s) h
 generalize spcE s = e at hq hz ⊢
 obtain ⟨nm,least,l⟩:=s
 simp only at hl hz hi
 have e:Qq ⟨nm,least,l⟩ = .agg [.s (.string nm),.I least,.fs (l.map encTb)]:=rfl
 rw [e] at hC ⊢
 clear e
 intro M
 (refine Qd (cf:=L4.c42) rfl rfl fun hM hA => ?_;simp only [L4.c42,zO,zF,zT,zM,CX.i];rw [mk1 _ (by decide)];simp -implicitDefEqProofs (disch:=first|omega|(simp only [go_sem,seval];first|done|omega)) only [go_sem,seval])
 refine Qa (hC _) ?_
 simp -implicitDefEqProofs (disch:=first|omega|(simp only [go_sem,seval];first|done|omega)) only [go_sem,seval]
 refine Qa (QA _ _ _) ?_
 simp -implicitDefEqProofs (disch:=first|omega|(simp only [go_sem,seval];first|done|omega)) only [go_sem,seval]
 have e:(if decide ((l.length:Int) < 2) = true then (7:Int) else 0) = if l.length < 2 then 7 else 0:=by
  by_cases h:l.length < 2
  ·rw [if_pos h,if_pos (by simp;omega)]
  ·rw [if_neg h,if_neg (by simp;omega)]
 simp only [decide_eq_true_eq] at e
 rw [e]
 clear e
 refine Qa (hq _) ?_
 by_cases h0:e = 0
 case neg =>
  rw [if_neg h0]
  simp -implicitDefEqProofs (disch:=first|omega|(simp only [go_sem,seval,h0];first|done|omega)) only [go_sem,seval,h0]
  (all_goals (first|refine pfN hM ?_ ?_|refine pf0 hM ?_ ?_);all_goals first|(simp only [go_sem,seval]<;>omega)|skip;all_goals (try simp -implicitDefEqProofs (disch:=first|omega|(simp only [go_sem,seval];first|done|omega)) only [go_sem,seval]))
 subst h0
 rw [if_pos rfl]
 obtain ⟨h1,h2⟩:=hz rfl
 obtain ⟨_,_,h3,hin⟩:=hi h1
 obtain ⟨t0,ht0⟩:∃ t,l[0]? = some t:=⟨_,List.getElem?_eq_getElem (by omega)⟩
 obtain ⟨t1,ht1⟩:∃ t,l[1]? = some t:=⟨_,List.getElem?_eq_getElem (by omega)⟩
 have f0:(0 < l.length) = True:=eq_true (by omega)
 have f1:(1 < l.length) = True:=eq_true (by omega)
 have hpt:=fun (i:Nat) (t:Tb) (ht:l[i]? = some t) => QaJ hin (List.getElem?_eq_some_iff.1 ht).1 ht
 have hs0:spcTo l 0 = Q1 t0.at_ t1.at_:=by rw [spcTo,List.getD_eq_getElem?_getD,List.getD_eq_getElem?_getD,ht0,ht1];rfl
 simp -implicitDefEqProofs (disch:=first|omega|(simp only [go_sem,seval,ht0,ht1,f0,f1,Qh,Qi];first|done|omega)) only [go_sem,seval,ht0,ht1,f0,f1,Qh,Qi]
 refine Qa (JH t0.at_ t1.at_ (ZQ (hpt _ _ ht0)) (ZQ (hpt _ _ ht1)) _) ?_
 rw [← hs0]
 simp -implicitDefEqProofs (disch:=first|omega|(simp only [go_sem,seval];first|done|omega)) only [go_sem,seval]
 refine Qm (α:=Nat) 0 (fun k => k ≤ l.length) (fun k => M) (fun k => [(1,.fp [.s (.string nm),.I least,.fs (l.map encTb)]),(5,.I (spcTo l k)),(34,.fs (l.map encTb)),(35,.I l.length),(36,.I k)]) (fun k => l.length - k) (Nat.zero_le _) rfl rfl ?_
 intro k hk
 by_cases hlt:k < l.length
 case neg =>
  have hkk:k = l.length:=by omega
  subst hkk
  simp -implicitDefEqProofs (disch:=first|omega|(simp only [go_sem,seval,hlt];first|done|omega)) only [go_sem,seval,hlt]
  (first|refine pfN hM ?_ ?_|refine pf0 hM ?_ ?_)
  ·simp -implicitDefEqProofs (disch:=first|omega|(simp only [go_sem,seval];first|done|omega)) only [go_sem,seval]
   rfl
  ·(simp only [go_sem,seval]<;>omega)
 obtain ⟨x,hx⟩:∃ x,l[k]? = some x:=⟨_,List.getElem?_eq_getElem hlt⟩
 have hkl:(k ≤ l.length) = True:=eq_true hk
 have htk:List.take k (List.map encTb l) = (l.take k).map encTb:=by rw [List.map_take]
 have hlk:(l.take k).length = k:=by rw [List.length_take];omega
 have hsk:=Zl (l.take k)
 have hsz:=Zl l
 have hss:=Qkr hx
 simp -implicitDefEqProofs (disch:=first|omega|(simp only [go_sem,seval,hlt,hx,Qh,Qi,hsz,hkl,htk,hlk,List.drop_zero,Nat.sub_zero];first|done|omega)) only [go_sem,seval,hlt,hx,Qh,Qi,hsz,hkl,htk,hlk,List.drop_zero,Nat.sub_zero]
 refine Qm (α:=Nat) 0 (fun i => i ≤ k) (fun _ => M ++ [.row true 3 0 [encTb x]])
  (fun i => [(1,.fp [.s (.string nm),.I least,.fs (l.map encTb)]),(5,.I (nearK x (spcTo l k) (l.take i))),(7,.op M.length 0 0 0),(34,.fs (l.map encTb)),(35,.I l.length),(36,.I k),(44,.fs ((l.take k).map encTb)),(45,.I k),(46,.I i)])
  (fun i => k - i) (Nat.zero_le _) rfl rfl ?_
 intro i hi
 by_cases hij:i < k
 ·obtain ⟨y,hy⟩:∃ y,l[i]? = some y:=⟨_,List.getElem?_eq_getElem (by omega)⟩
  have hy':(l.take k)[i]? = some y:=by rw [List.getElem?_take_of_lt hij];exact hy
  have f1:i < (l.take k).length:=by omega
  have hsn:=QjW (x:=x) (m:=spcTo l k) hy
  have hne:=QoU hin hlt hx hij hy
  have hb:(x.name == y.name) = false:=by rw [Qd6,decide_eq_false_iff_not];exact fun h => hne h.symm
  simp -implicitDefEqProofs (disch:=first|omega|(simp only [go_sem,seval,hij,f1,hy',hlk,Qh,Qi,hb,Bool.false_and,Bool.not_false];first|done|omega)) only [go_sem,seval,hij,f1,hy',hlk,Qh,Qi,hb,Bool.false_and,Bool.not_false]
  refine Qa (JH x.at_ y.at_ (ZQ (hpt _ _ hx)) (ZQ (hpt _ _ hy)) _) ?_
  simp -implicitDefEqProofs (disch:=first|omega|(simp only [go_sem,seval,Qh,Qi];first|done|omega)) only [go_sem,seval,Qh,Qi]
  refine Qr hM rfl 1 (by simp) (by first|done|(simp only [go_sem,seval,QF] <;> first|done|(refine ⟨?_,?_⟩ <;> omega)|omega)) (Qv (by first|done|(simp only [go_sem,seval,QF] <;> first|done|(refine ⟨?_,?_⟩ <;> omega)|omega))) ?_
  simp -implicitDefEqProofs (disch:=first|omega|(simp only [go_sem,seval];first|done|omega)) only [go_sem,seval]
  exact again' (i + 1) (by omega) (by omega) rfl (by rw [hsn];rfl)
 have hij':i = k:=by omega
 subst hij'
 rw [← hss]
 simp -implicitDefEqProofs (disch:=first|omega|(simp only [go_sem,seval,hij,Qh,Qi];first|done|omega)) only [go_sem,seval,hij,Qh,Qi]
 refine Qr hM rfl 0 (by simp) (by first|done|(simp only [go_sem,seval,QF] <;> first|done|(refine ⟨?_,?_⟩ <;> omega)|omega)) (Qv (by first|done|(simp only [go_sem,seval,QF] <;> first|done|(refine ⟨?_,?_⟩ <;> omega)|omega))) ?_
 simp -implicitDefEqProofs (disch:=first|omega|(simp only [go_sem,seval];first|done|omega)) only [go_sem,seval]
 exact again' (i + 1) (by omega) (by omega) rfl rfl
theorem Qcx (p:Pt) (n:Nat) (hp:ptIn p) (hn:n ≤ 1000) (M:List Blk):ACall F X (.fn 114) [encPt p,.fp [.I n]] M (encPt (trnN n p)) M:=by
 (refine Qd (cf:=L4.c114) rfl rfl fun hM hA => ?_;simp only [L4.c114,zO,zF,zT,zM,CX.i];rw [mk2 _ (by decide)];simp -implicitDefEqProofs (disch:=first|omega|(simp only [go_sem,seval,Qo];first|done|omega)) only [go_sem,seval,Qo])
 refine Qm (α:=Nat) 0 (fun k => k ≤ n) (fun k => M ++ [.row true 2 0 [encPt (trnN k p)],.row true 2 0 [encPt ⟨0,0⟩]]) (fun k => [(2,.op M.length 0 0 0),(3,.op (M.length + 1) 0 0 0),(4,.I n),(5,.I k)]) (fun k => n - k) (Nat.zero_le _) rfl rfl ?_
 intro k hk
 have hw:=QrP hp k
 unfold ptIn at hw
 by_cases hlt:k < n
 ·simp -implicitDefEqProofs (disch:=first|omega|(simp only [go_sem,seval,hlt,Qo];first|done|omega)) only [go_sem,seval,hlt,Qo]
  exact again' (k + 1) (by omega) (by omega) rfl rfl
 have hkk:k = n:=by omega
 subst hkk
 simp -implicitDefEqProofs (disch:=first|omega|(simp only [go_sem,seval,hlt,Qo];first|done|omega)) only [go_sem,seval,hlt,Qo]
 (all_goals (first|refine pfN hM ?_ ?_|refine pf0 hM ?_ ?_);all_goals first|(simp only [go_sem,seval]<;>omega)|skip;all_goals (try simp -implicitDefEqProofs (disch:=first|omega|(simp only [go_sem,seval,Qo];first|done|omega)) only [go_sem,seval,Qo]))
theorem Qhd {g:FuncId} {cap:List PV} {f:Pt → Pt} (s:Ste) (hl:s.tbs.length ≤ 1048576) (hg:∀ t ∈ s.tbs,∀ M:List Blk,ACall F X (.fn g) (encPt t.at_ :: cap) M (encPt (f t.at_)) M) :
  Q X 113 [Qq s,.fn (.func g) [] cap] (Qq ⟨s.name,s.least,s.tbs.map (mvT f)⟩):=by
 obtain ⟨nm,least,l⟩:=s
 simp only at hl hg ⊢
 have e:Qq ⟨nm,least,l⟩ = .agg [.s (.string nm),.I least,.fs (l.map encTb)]:=rfl
 rw [e]
 clear e
 intro M
 (refine Qd (cf:=L4.c113) rfl rfl fun hM hA => ?_;simp only [L4.c113,zO,zF,zT,zM,CX.i];rw [mk2 _ (by decide)];simp -implicitDefEqProofs (disch:=first|omega|(simp only [go_sem,seval];first|done|omega)) only [go_sem,seval])
 have okl:=Qnb l
 simp -implicitDefEqProofs (disch:=first|omega|(simp only [go_sem,seval,Qao,Yt,Z2,okl,List.length_map,List.length_replicate];first|done|omega)) only [go_sem,seval,Qao,Yt,Z2,okl,List.length_map,List.length_replicate]
 refine Qm (α:=Nat) 0 (fun k => k ≤ l.length) (fun k => M ++ [.row true 3 0 [Qq ⟨nm,least,l⟩],.row true 3 0 [zSte],.row true 3 0 ((mvK f l k).map encTb)])
  (fun k => [(1,.fn (.func g) [] cap),(2,.op M.length 0 0 0),(4,.op (M.length + 1) 0 0 0),(5,.os (M.length + 2) 0 0 l.length),(16,.I l.length),(17,.I k)]) (fun k => l.length - k) (Nat.zero_le _) ?_ rfl ?_
 ·rw [Qn2];rfl
 intro k hk
 by_cases hlt:k < l.length
 ·obtain ⟨x,hx⟩:∃ x,l[k]? = some x:=⟨_,List.getElem?_eq_getElem hlt⟩
  have hgx:=hg x (List.mem_of_getElem? hx)
  have hmx:=Qrj (f:=f) hx
  have hml:=QqH f l k
  have hms:=Qqq (f:=f) hx
  simp -implicitDefEqProofs (disch:=first|omega|(simp only [go_sem,seval,hlt,hmx,hml,Qh,Qi];first|done|omega)) only [go_sem,seval,hlt,hmx,hml,Qh,Qi]
  refine Qa (hgx _) ?_
  have hms':((mvK f l k).map encTb).set k (PV.agg [.s (.string x.name),.I (f x.at_).x,.I (f x.at_).y]) = (mvK f l (k + 1)).map encTb:=by
   rw [← hms,List.map_set];rfl
  simp -implicitDefEqProofs (disch:=first|omega|(simp only [go_sem,seval,hlt,hmx,hml,Qh,Qi,Qo,hms'];first|done|omega)) only [go_sem,seval,hlt,hmx,hml,Qh,Qi,Qo,hms']
  have hca:lowL (M.length + 3) cap = True:=eq_true (QT (by omega) _ hA.2.1.2)
  refine Qr hM rfl 3 (by simp) (by first|done|(simp only [go_sem,seval,QF,ZP,Yy,hca] <;> first|done|(refine ⟨?_,?_⟩ <;> omega)|omega)) (Qv (by first|done|(simp only [go_sem,seval,QF,ZP,Yy,hca] <;> first|done|(refine ⟨?_,?_⟩ <;> omega)|omega))) ?_
  simp -implicitDefEqProofs (disch:=first|omega|(simp only [go_sem,seval];first|done|omega)) only [go_sem,seval]
  exact again' (k + 1) (by omega) (by omega) rfl rfl
 have hkk:k = l.length:=by omega
 subst hkk
 rw [QpU f l (Nat.le_refl _)]
 have hz:zSte = .agg [.s (.string ⟨#[]⟩),.I 0,.s (.slice none 0 0)]:=rfl
 have hlw:∀ n:Nat,lowL n (List.map (fun x => encTb (mvT f x)) l) = True:=fun n => eq_true (Vp _ _ fun r => by simp [encTb,mvT,PV.low,lowL])
 simp -implicitDefEqProofs (disch:=first|omega|(simp only [go_sem,seval,hlt,List.length_map,QW,hz,Zl];first|done|omega)) only [go_sem,seval,hlt,List.length_map,QW,hz,Zl]
 (all_goals (first|refine pfN hM ?_ ?_|refine pf0 hM ?_ ?_);all_goals first|(simp only [go_sem,seval,hlw]<;>omega)|skip;all_goals (try simp -implicitDefEqProofs (disch:=first|omega|(simp only [go_sem,seval];first|done|omega)) only [go_sem,seval]))
def turnE (s:Ste) (q:Int):Int:=fst0 [Qx s,rng q 0 3]
def s0:Ste:=⟨⟨#[]⟩,0,[]⟩
theorem encS0:Qq s0 = .agg [.s (.string ⟨#[]⟩),.I 0,.fs []]:=rfl
def mvS (f:Pt → Pt) (s:Ste):Ste:=⟨s.name,s.least,s.tbs.map (mvT f)⟩
theorem QgF {s:Ste} (h:Qx s = 0):∀ t ∈ s.tbs,ptIn t.at_:=by
 intro t ht
 obtain ⟨i,hi,h2⟩:=List.mem_iff_getElem.1 ht
 exact QaJ (Yb h).2.2.2 hi (List.getElem?_eq_some_iff.2 ⟨hi,h2⟩)
theorem QdK (s:Ste) (q:Int) (hl:s.tbs.length ≤ 1048576):Q X 44 [Qq s,.I q] (.tup [Qq (if turnE s q = 0 then mvS (trnN q.toNat) s else s0),.I (turnE s q)]):=by
 have hC:=Za (X:=X) s hl
 have hq:=QJ (X:=X) [Qx s,rng q 0 3] (by simp)
 have hz:turnE s q = 0 → Qx s = 0 ∧ rng q 0 3 = 0:=Yz
 have hm:Qx s = 0 ∧ rng q 0 3 = 0 → Q X 113 [Qq s,.fn (.func 114) [] [.fp [.I q]]] (Qq (mvS (trnN q.toNat) s)):=by
  rintro ⟨h1,h2⟩
  rw [ZR] at h2
  obtain ⟨n,rfl⟩:∃ n:Nat,q = n:=⟨q.toNat,by omega⟩
  exact Qhd s hl (fun t ht M => Qcx t.at_ n (QgF h1 t ht) (by omega) M)
 have e:turnE s q = fst0 [Qx s,rng q 0 3]:=rfl
 rw [← e] at hq
 clear e
 generalize turnE s q = e at hq hz ⊢
 have es:=QW s
 have ls:=ZP (n:=0) s
 have lt:=fun n => ZP (n:=n) (mvS (trnN q.toNat) s)
 have et:=QW (mvS (trnN q.toNat) s)
 intro M
 (refine Qd (cf:=L4.c44) rfl rfl fun hM hA => ?_;simp only [L4.c44,zO,zF,zT,zM,CX.i];rw [mk2 _ (by decide)];simp -implicitDefEqProofs (disch:=first|omega|(simp only [go_sem,seval,es];first|done|omega)) only [go_sem,seval,es])
 refine Qa (hC _) ?_
 simp -implicitDefEqProofs (disch:=first|omega|(simp only [go_sem,seval,es];first|done|omega)) only [go_sem,seval,es]
 refine Qa (Jc q _) ?_
 simp -implicitDefEqProofs (disch:=first|omega|(simp only [go_sem,seval];first|done|omega)) only [go_sem,seval]
 refine Qa (hq _) ?_
 by_cases h0:e = 0
 case neg =>
  rw [if_neg h0]
  simp -implicitDefEqProofs (disch:=first|omega|(simp only [go_sem,seval,h0,encS0];first|done|omega)) only [go_sem,seval,h0,encS0]
  (all_goals (first|refine pfN hM ?_ ?_|refine pf0 hM ?_ ?_);all_goals first|(simp only [go_sem,seval]<;>omega)|skip;all_goals (try simp -implicitDefEqProofs (disch:=first|omega|(simp only [go_sem,seval];first|done|omega)) only [go_sem,seval]))
 subst h0
 rw [if_pos rfl]
 have hm:=hm (hz rfl)
 generalize mvS (trnN q.toNat) s = s' at lt et hm ⊢
 simp -implicitDefEqProofs (disch:=first|omega|(simp only [go_sem,seval,es];first|done|omega)) only [go_sem,seval,es]
 refine Qa (hm _) ?_
 simp -implicitDefEqProofs (disch:=first|omega|(simp only [go_sem,seval,QW];first|done|omega)) only [go_sem,seval,QW]
 (all_goals (first|refine pfN hM ?_ ?_|refine pf0 hM ?_ ?_);all_goals first|(simp only [go_sem,seval,QF]<;>omega)|skip;all_goals (try simp -implicitDefEqProofs (disch:=first|omega|(simp only [go_sem,seval,QW];first|done|omega)) only [go_sem,seval,QW]))
def stepL:List Pt:=[⟨0,-1⟩,⟨-1,-1⟩,⟨-1,0⟩,⟨-1,1⟩,⟨0,1⟩,⟨1,1⟩,⟨1,0⟩,⟨1,-1⟩]
def QE (n:Int):Pt:=if rng n 0 7 = 0 then stepL.getD n.toNat ⟨0,0⟩ else ⟨0,0⟩
theorem QcV (n:Int):Q X 57 [.I n] (.tup [encPt (QE n),.I (rng n 0 7)]):=by
 intro M
 (refine Qd (cf:=L4.c57) rfl rfl fun hM hA => ?_;simp only [L4.c57,zO,zF,zT,zM,CX.i];rw [mk1 _ (by decide)];simp -implicitDefEqProofs (disch:=first|omega|(simp only [go_sem,seval];first|done|omega)) only [go_sem,seval])
 refine Qa (Vi n 0 7 _) ?_
 by_cases h:rng n 0 7 = 0
 case neg =>
  have e:QE n = ⟨0,0⟩:=if_neg h
  rw [e]
  simp -implicitDefEqProofs (disch:=first|omega|(simp only [go_sem,seval,h];first|done|omega)) only [go_sem,seval,h]
  (all_goals (first|refine pfN hM ?_ ?_|refine pf0 hM ?_ ?_);all_goals first|(simp only [go_sem,seval]<;>omega)|skip;all_goals (try simp -implicitDefEqProofs (disch:=first|omega|(simp only [go_sem,seval,Qo];first|done|omega)) only [go_sem,seval,Qo]))
 have h1:=ZR.1 h
 rcases (by omega:n = 0 ∨ n = 1 ∨ n = 2 ∨ n = 3 ∨ n = 4 ∨ n = 5 ∨ n = 6 ∨ n = 7) with rfl|rfl|rfl|rfl|rfl|rfl|rfl|rfl
 ·have e:QE 0 = ⟨0,-1⟩:=by decide
  rw [e,h]
  simp -implicitDefEqProofs (disch:=first|omega|(simp only [go_sem,seval];first|done|omega)) only [go_sem,seval]
  (all_goals (first|refine pfN hM ?_ ?_|refine pf0 hM ?_ ?_);all_goals first|(simp only [go_sem,seval]<;>omega)|skip;all_goals (try simp -implicitDefEqProofs (disch:=first|omega|(simp only [go_sem,seval,Qo];first|done|omega)) only [go_sem,seval,Qo]))
 ·have e:QE 1 = ⟨-1,-1⟩:=by decide
  rw [e,h]
  simp -implicitDefEqProofs (disch:=first|omega|(simp only [go_sem,seval];first|done|omega)) only [go_sem,seval]
  (all_goals (first|refine pfN hM ?_ ?_|refine pf0 hM ?_ ?_);all_goals first|(simp only [go_sem,seval]<;>omega)|skip;all_goals (try simp -implicitDefEqProofs (disch:=first|omega|(simp only [go_sem,seval,Qo];first|done|omega)) only [go_sem,seval,Qo]))
 ·have e:QE 2 = ⟨-1,0⟩:=by decide
  rw [e,h]
  simp -implicitDefEqProofs (disch:=first|omega|(simp only [go_sem,seval];first|done|omega)) only [go_sem,seval]
  (all_goals (first|refine pfN hM ?_ ?_|refine pf0 hM ?_ ?_);all_goals first|(simp only [go_sem,seval]<;>omega)|skip;all_goals (try simp -implicitDefEqProofs (disch:=first|omega|(simp only [go_sem,seval,Qo];first|done|omega)) only [go_sem,seval,Qo]))
 ·have e:QE 3 = ⟨-1,1⟩:=by decide
  rw [e,h]
  simp -implicitDefEqProofs (disch:=first|omega|(simp only [go_sem,seval];first|done|omega)) only [go_sem,seval]
  (all_goals (first|refine pfN hM ?_ ?_|refine pf0 hM ?_ ?_);all_goals first|(simp only [go_sem,seval]<;>omega)|skip;all_goals (try simp -implicitDefEqProofs (disch:=first|omega|(simp only [go_sem,seval,Qo];first|done|omega)) only [go_sem,seval,Qo]))
 ·have e:QE 4 = ⟨0,1⟩:=by decide
  rw [e,h]
  simp -implicitDefEqProofs (disch:=first|omega|(simp only [go_sem,seval];first|done|omega)) only [go_sem,seval]
  (all_goals (first|refine pfN hM ?_ ?_|refine pf0 hM ?_ ?_);all_goals first|(simp only [go_sem,seval]<;>omega)|skip;all_goals (try simp -implicitDefEqProofs (disch:=first|omega|(simp only [go_sem,seval,Qo];first|done|omega)) only [go_sem,seval,Qo]))
 ·have e:QE 5 = ⟨1,1⟩:=by decide
  rw [e,h]
  simp -implicitDefEqProofs (disch:=first|omega|(simp only [go_sem,seval];first|done|omega)) only [go_sem,seval]
  (all_goals (first|refine pfN hM ?_ ?_|refine pf0 hM ?_ ?_);all_goals first|(simp only [go_sem,seval]<;>omega)|skip;all_goals (try simp -implicitDefEqProofs (disch:=first|omega|(simp only [go_sem,seval,Qo];first|done|omega)) only [go_sem,seval,Qo]))
 ·have e:QE 6 = ⟨1,0⟩:=by decide
  rw [e,h]
  simp -implicitDefEqProofs (disch:=first|omega|(simp only [go_sem,seval];first|done|omega)) only [go_sem,seval]
  (all_goals (first|refine pfN hM ?_ ?_|refine pf0 hM ?_ ?_);all_goals first|(simp only [go_sem,seval]<;>omega)|skip;all_goals (try simp -implicitDefEqProofs (disch:=first|omega|(simp only [go_sem,seval,Qo];first|done|omega)) only [go_sem,seval,Qo]))
 ·have e:QE 7 = ⟨1,-1⟩:=by decide
  rw [e,h]
  simp -implicitDefEqProofs (disch:=first|omega|(simp only [go_sem,seval];first|done|omega)) only [go_sem,seval]
  (all_goals (first|refine pfN hM ?_ ?_|refine pf0 hM ?_ ?_);all_goals first|(simp only [go_sem,seval]<;>omega)|skip;all_goals (try simp -implicitDefEqProofs (disch:=first|omega|(simp only [go_sem,seval,Qo];first|done|omega)) only [go_sem,seval,Qo]))
def stepC:List PV:=[.I 0,.I (-1),.I (-1),.I (-1),.I (-1),.I 0,.I (-1),.I 1,.I 0,.I 1,.I 1,.I 1,.I 1,.I 0,.I 1,.I (-1)]
theorem Qc8 (r:Rse) (hl:r.length = 408):Q X 62 [encRs r] (.I (VK r)):=by
 have hc:=Jw hl
 have e:encRs r = .agg (r.map .I):=rfl
 rw [e]
 clear e
 generalize r.map PV.I = cs at hc ⊢
 generalize (fun k => (blk r k).map PV.I) = bk at hc
 intro M
 have hz:=Qep
 have heq:=hc.eq z408 List.length_replicate
 have hzl:(z408.map PV.I).length = 408:=by rw [List.length_map];exact List.length_replicate
 generalize z408.map PV.I = zz at hz heq hzl
 have h51:(List.replicate 51 (Value.int .i64 0)).length = 51:=List.length_replicate
 generalize hz5:List.replicate 51 (Value.int .i64 0) = z5 at h51
 have h5d:(List.map PV.s z5).drop 51 = []:=List.drop_of_length_le (by rw [List.length_map,h51];omega)
 have hcl:=hc.len
 have hct:=hc.tk
 have hvw:=hc.vw
 (refine Qd (cf:=L4.c62) rfl rfl fun hM hA => ?_;simp only [L4.c62,zO,zF,zT,zM,CX.i];rw [mk1 _ (by decide)];simp -implicitDefEqProofs (disch:=first|omega|(simp only [go_sem,seval,-List.reduceReplicate,hz,hz5,hcl,hct,hzl,hvw,Jx,heq];first|done|omega)) only [go_sem,seval,-List.reduceReplicate,hz,hz5,hcl,hct,hzl,hvw,Jx,heq])
 by_cases h0:r = z408
 ·have h1:VK r = 0:=by rw [h0];exact Qm2
  have f0:(r = z408) = True:=eq_true h0
  rw [h1]
  simp -implicitDefEqProofs (disch:=first|omega|(simp only [go_sem,seval,-List.reduceReplicate,f0];first|done|omega)) only [go_sem,seval,-List.reduceReplicate,f0]
  (all_goals (first|refine pfN hM ?_ ?_|refine pf0 hM ?_ ?_);all_goals first|(simp only [go_sem,seval,-List.reduceReplicate]<;>omega)|skip;all_goals (try simp -implicitDefEqProofs (disch:=first|omega|(simp only [go_sem,seval,-List.reduceReplicate];first|done|omega)) only [go_sem,seval,-List.reduceReplicate]))
 have f0:(r = z408) = False:=eq_false h0
 simp -implicitDefEqProofs (disch:=first|omega|(simp only [go_sem,seval,-List.reduceReplicate,f0,hcl,hct];first|done|omega)) only [go_sem,seval,-List.reduceReplicate,f0,hcl,hct]
 refine Qm (α:=Nat) 0 (fun k => k ≤ 8 ∧ VK r = fst0 ((r.map fun n => rng n 0 40000).drop (k * 51))) (fun _ => M) (fun k => [(11,.agg cs),(12,.I k)]) (fun k => 8 - k) ⟨by decide,by simp [VK]⟩ rfl rfl ?_
 rintro k ⟨hk,hs⟩
 by_cases hlt:k < 8
 case neg =>
  have f1:((k:Int) < 8) = False:=eq_false (by omega)
  simp -implicitDefEqProofs (disch:=first|omega|(simp only [go_sem,seval,-List.reduceReplicate,f1];first|done|omega)) only [go_sem,seval,-List.reduceReplicate,f1]
  (first|refine pfN hM ?_ ?_|refine pf0 hM ?_ ?_)
  ·simp -implicitDefEqProofs (disch:=first|omega|(simp only [go_sem,seval,-List.reduceReplicate];first|done|omega)) only [go_sem,seval,-List.reduceReplicate]
   rw [hs,List.drop_of_length_le (by rw [List.length_map,hl];omega)];rfl
  ·(simp only [go_sem,seval,-List.reduceReplicate]<;>omega)
 have f1:((k:Int) < 8) = True:=eq_true (by omega)
 have hix:=hc.idx k hlt
 have hbl:=hc.blen k hlt
 have hbt:=hc.btk k hlt
 have hbo:=hc.bone k
 have hbb:=hc.bvw k
 simp -implicitDefEqProofs (disch:=first|omega|(simp only [go_sem,seval,-List.reduceReplicate,f1,hix,hz5,h51,hbl,hbt,hbo,hbb,Qs,List.length_map,h5d,List.append_nil];first|done|omega)) only [go_sem,seval,-List.reduceReplicate,f1,hix,hz5,h51,hbl,hbt,hbo,hbb,Qs,List.length_map,h5d,List.append_nil]
 refine Qm (α:=Nat) 0 (fun v => v ≤ 51 ∧ VK r = fst0 ((r.map fun n => rng n 0 40000).drop (k * 51 + v))) (fun _ => M ++ [.row true 51 0 [.agg (bk k)]]) (fun v => [(11,.agg cs),(12,.I k),(15,.agg (bk k)),(16,.I v)]) (fun v => 51 - v) ⟨by decide,hs⟩ rfl rfl ?_
 rintro v ⟨hv,hs2⟩
 by_cases hvl:v < 51
 ·have f2:((v:Int) < 51) = True:=eq_true (by omega)
  obtain ⟨x,hx⟩:∃ x,r[k * 51 + v]? = some x:=⟨_,List.getElem?_eq_getElem (by omega)⟩
  have hbi:=hc.bidx k v x hlt hvl hx
  have hd:=V4 (r.map fun n => rng n 0 40000) (k * 51 + v) (rng x 0 40000) (by rw [List.getElem?_map,hx];rfl)
  simp -implicitDefEqProofs (disch:=first|omega|(simp only [go_sem,seval,-List.reduceReplicate,f2,hbi];first|done|omega)) only [go_sem,seval,-List.reduceReplicate,f2,hbi]
  refine Qa (Vi _ _ _ _) ?_
  by_cases hg:rng x 0 40000 = 0
  ·rw [if_pos hg] at hd
   simp -implicitDefEqProofs (disch:=first|omega|(simp only [go_sem,seval,-List.reduceReplicate,hg];first|done|omega)) only [go_sem,seval,-List.reduceReplicate,hg]
   exact again' (v + 1) ⟨by omega,by rw [hs2,hd];rfl⟩ (by omega) rfl rfl
  ·rw [if_neg hg] at hd
   simp -implicitDefEqProofs (disch:=first|omega|(simp only [go_sem,seval,-List.reduceReplicate,hg];first|done|omega)) only [go_sem,seval,-List.reduceReplicate,hg]
   (first|refine pfN hM ?_ ?_|refine pf0 hM ?_ ?_)
   ·simp -implicitDefEqProofs (disch:=first|omega|(simp only [go_sem,seval,-List.reduceReplicate];first|done|omega)) only [go_sem,seval,-List.reduceReplicate]
    rw [hs2,hd]
   ·(simp only [go_sem,seval,-List.reduceReplicate]<;>omega)
 have f2:((v:Int) < 51) = False:=eq_false (by omega)
 have hv51:v = 51:=by omega
 subst hv51
 have hlo:=hc.low
 have hbw:=hc.blow
 simp -implicitDefEqProofs (disch:=first|omega|(simp only [go_sem,seval,-List.reduceReplicate,f2];first|done|omega)) only [go_sem,seval,-List.reduceReplicate,f2]
 refine Qr hM rfl 0 (by simp) (by first|done|(simp only [go_sem,seval,-List.reduceReplicate,hlo,hbw] <;> first|done|(refine ⟨?_,?_⟩ <;> omega)|omega)) (Qv (by first|done|(simp only [go_sem,seval,-List.reduceReplicate,hlo,hbw] <;> first|done|(refine ⟨?_,?_⟩ <;> omega)|omega))) ?_
 simp -implicitDefEqProofs (disch:=first|omega|(simp only [go_sem,seval,-List.reduceReplicate];first|done|omega)) only [go_sem,seval,-List.reduceReplicate]
 exact again' (k + 1) ⟨by omega,by rw [hs2,Nat.succ_mul]⟩ (by omega) rfl rfl
theorem Qdi (r:Rse) (hl:r.length = 408) (h0:VK r = 0):Q X 61 [encRs r] (.I (sumR r 408)):=by
 have hc:=Jw hl
 have e:encRs r = .agg (r.map .I):=rfl
 rw [e]
 clear e
 generalize r.map PV.I = cs at hc ⊢
 generalize (fun k => (blk r k).map PV.I) = bk at hc
 intro M
 have hcl:=hc.len
 have hct:=hc.tk
 have hvw:=hc.vw
 (refine Qd (cf:=L4.c61) rfl rfl fun hM hA => ?_;simp only [L4.c61,zO,zF,zT,zM,CX.i];rw [mk1 _ (by decide)];simp -implicitDefEqProofs (disch:=first|omega|(simp only [go_sem,seval,-List.reduceReplicate,hcl,hct,hvw];first|done|omega)) only [go_sem,seval,-List.reduceReplicate,hcl,hct,hvw])
 refine Qm (α:=Nat) 0 (fun k => k ≤ 8) (fun _ => M) (fun k => [(1,.fp cs),(3,.I (sumR r (k * 51))),(4,.I k)]) (fun k => 8 - k) (by decide) rfl rfl ?_
 intro k hk
 by_cases hlt:k < 8
 case neg =>
  have f1:((k:Int) < 8) = False:=eq_false (by omega)
  have hk8:k = 8:=by omega
  subst hk8
  simp -implicitDefEqProofs (disch:=first|omega|(simp only [go_sem,seval,-List.reduceReplicate,f1];first|done|omega)) only [go_sem,seval,-List.reduceReplicate,f1]
  (all_goals (first|refine pfN hM ?_ ?_|refine pf0 hM ?_ ?_);all_goals first|(simp only [go_sem,seval,-List.reduceReplicate]<;>omega)|skip;all_goals (try simp -implicitDefEqProofs (disch:=first|omega|(simp only [go_sem,seval,-List.reduceReplicate];first|done|omega)) only [go_sem,seval,-List.reduceReplicate]))
 have f1:((k:Int) < 8) = True:=eq_true (by omega)
 have f1':(k < 8) = True:=eq_true hlt
 have hdr:=hc.drop k hlt
 have hbl:=hc.blen k hlt
 simp -implicitDefEqProofs (disch:=first|omega|(simp only [go_sem,seval,-List.reduceReplicate,f1];first|done|omega)) only [go_sem,seval,-List.reduceReplicate,f1]
 refine Qm (α:=Nat) 0 (fun v => v ≤ 51) (fun _ => M) (fun v => [(1,.fp cs),(3,.I (sumR r (k * 51 + v))),(4,.I k),(5,.I v)]) (fun v => 51 - v) (by decide) rfl rfl ?_
 intro v hv
 by_cases hvl:v < 51
 ·have f2:((v:Int) ≤ 50) = True:=eq_true (by omega)
  have f2':(v < 51) = True:=eq_true hvl
  obtain ⟨x,hx⟩:∃ x,r[k * 51 + v]? = some x:=⟨_,List.getElem?_eq_getElem (by omega)⟩
  have hxb:=Qfb h0 hx
  have hsb:=Qrr h0 (i:=k * 51 + v) (by omega)
  have hss:=Qff hx
  have hbg:=hc.bget k v x hlt hvl hx
  have hb1:((bk k).drop v).take 1 = [PV.I x]:=by
   obtain ⟨q1,q2⟩:=List.getElem?_eq_some_iff.1 hbg
   rw [List.drop_eq_getElem_cons q1,q2];rfl
  simp -implicitDefEqProofs (disch:=first|omega|(simp only [go_sem,seval,-List.reduceReplicate,f1,f1',f2,f2',hcl,hdr,hbl,hb1,Nat.mul_one];first|done|omega)) only [go_sem,seval,-List.reduceReplicate,f1,f1',f2,f2',hcl,hdr,hbl,hb1,Nat.mul_one]
  exact again' (v + 1) (by omega) (by omega) rfl (by rw [← Nat.add_assoc,hss];rfl)
 have f2:((v:Int) ≤ 50) = False:=eq_false (by omega)
 have hv51:v = 51:=by omega
 subst hv51
 simp -implicitDefEqProofs (disch:=first|omega|(simp only [go_sem,seval,-List.reduceReplicate,f2];first|done|omega)) only [go_sem,seval,-List.reduceReplicate,f2]
 exact again' (k + 1) (by omega) (by omega) rfl (by rw [Nat.succ_mul];rfl)
def trnE (r:Rse) (q:Int):Int:=fst0 [VK r,rng q 0 3]
theorem Qeo (r:Rse) (q:Int) (hl:r.length = 408):Q X 58 [encRs r,.I q] (.tup [encRs (if trnE r q = 0 then trnR r q.toNat 8 else z408),.I (trnE r q)]):=by
 have hC:=Qc8 (X:=X) r hl
 have hq:=QJ (X:=X) [VK r,rng q 0 3] (by simp)
 have hz:trnE r q = 0 → VK r = 0 ∧ rng q 0 3 = 0:=Yz
 have e:trnE r q = fst0 [VK r,rng q 0 3]:=rfl
 rw [← e] at hq
 clear e
 generalize trnE r q = e at hq hz ⊢
 have hc:=Jw hl
 have e1:encRs r = .agg (r.map .I):=rfl
 rw [e1] at hC ⊢
 clear e1
 have hbk:∀ k:Nat,(fun k => (blk r k).map PV.I) k = (blk r k).map PV.I:=fun _ => rfl
 generalize r.map PV.I = cs at hc hC ⊢
 generalize (fun k => (blk r k).map PV.I) = bk at hc hbk
 intro M
 have hzz:List.replicate 408 (Value.int .i64 0) = z408.map (Value.int .i64):=by unfold z408;rw [List.map_replicate]
 have hz51:(List.replicate 51 (Value.int .i64 0)).length = 51:=List.length_replicate
 generalize hz5:List.replicate 51 (Value.int .i64 0) = z5 at hz51
 have h5d:(List.map PV.s z5).drop 51 = []:=List.drop_of_length_le (by rw [List.length_map,hz51];omega)
 have hcl:=hc.len
 have hct:=hc.tk
 have hvw:=hc.vw
 have hzI:=Qep
 have hzl:(List.map PV.I z408).length = 408:=by rw [List.length_map];exact List.length_replicate
 have hzv:=fun M => ZN M z408
 have hzo:=Yj z408
 have hzw:=fun m:Nat => VL (n:=m) z408
 generalize hZ:List.map PV.I z408 = Z at hzI hzl hzv hzo hzw
 (refine Qd (cf:=L4.c58) rfl rfl fun hM hA => ?_;simp only [L4.c58,zO,zF,zT,zM,CX.i];rw [mk2 _ (by decide)];simp -implicitDefEqProofs (disch:=first|omega|(simp only [go_sem,seval,-List.reduceReplicate,hzI,hcl,hct,hvw,hzl];first|done|omega)) only [go_sem,seval,-List.reduceReplicate,hzI,hcl,hct,hvw,hzl])
 refine Qa (hC _) ?_
 simp -implicitDefEqProofs (disch:=first|omega|(simp only [go_sem,seval,-List.reduceReplicate];first|done|omega)) only [go_sem,seval,-List.reduceReplicate]
 refine Qa (Jc q _) ?_
 simp -implicitDefEqProofs (disch:=first|omega|(simp only [go_sem,seval,-List.reduceReplicate];first|done|omega)) only [go_sem,seval,-List.reduceReplicate]
 refine Qa (hq _) ?_
 by_cases h0:e = 0
 case neg =>
  have e1:encRs z408 = .agg Z:=by rw [← hZ];rfl
  have hzd:Z.drop 408 = []:=List.drop_of_length_le (by omega)
  have hzt:Z.take 408 = Z:=List.take_of_length_le (by omega)
  rw [if_neg h0,e1]
  simp -implicitDefEqProofs (disch:=first|omega|(simp only [go_sem,seval,-List.reduceReplicate,h0,hzI,hzl,Qs,hzo,hzd,hzv,List.append_nil,hzt];first|done|omega)) only [go_sem,seval,-List.reduceReplicate,h0,hzI,hzl,Qs,hzo,hzd,hzv,List.append_nil,hzt]
  have hzx:∀ (n:Nat) (M:List Blk),List.map (out1 n M) Z = Z:=by rw [← hZ];exact fun n M => JR n M _
  (first|refine pfN hM ?_ ?_|refine pf0 hM ?_ ?_)
  ·simp -implicitDefEqProofs (disch:=first|omega|(simp only [go_sem,seval,-List.reduceReplicate,hzt,hzx];first|done|omega)) only [go_sem,seval,-List.reduceReplicate,hzt,hzx]
  ·(simp only [go_sem,seval,-List.reduceReplicate,hzw,hzt,hzx]<;>omega)
 subst h0
 obtain ⟨g1,g2⟩:=hz rfl
 rw [ZR] at g2
 obtain ⟨n,rfl⟩:∃ n:Nat,q = n:=⟨q.toNat,by omega⟩
 rw [if_pos rfl,Int.toNat_natCast]
 have ht:=Qpi hl n
 have e1:encRs (trnR r n 8) = .agg ((fun k => (trnR r n k).map PV.I) 8):=rfl
 have e2:(fun k => (trnR r n k).map PV.I) 0 = Z:=hZ
 have e3:(fun k => (blk r k).map PV.I) = bk:=by funext k;exact (hbk k).symm
 rw [e1]
 rw [e3] at ht
 clear e1 e3
 generalize (fun k => (trnR r n k).map PV.I) = tk at ht e2 ⊢
 have h2n:(2:Int) * n = ((2 * n:Nat):Int):=by omega
 simp -implicitDefEqProofs (disch:=first|omega|(simp only [go_sem,seval,-List.reduceReplicate,hzI,hzl,hct,hcl,hvw];first|done|omega)) only [go_sem,seval,-List.reduceReplicate,hzI,hzl,hct,hcl,hvw]
 refine Qm (α:=Nat) 0 (fun k => k ≤ 8) (fun k => M ++ [.row true 408 0 [.agg Z],.row true 408 0 [.agg (tk k)]]) (fun k => [(1,.I n),(4,.op M.length 0 0 0),(7,.op (M.length + 1) 0 0 0),(20,.agg cs),(21,.I k)]) (fun k => 8 - k) (by decide) (by rw [e2]) rfl ?_
 intro k hk
 have hlo:=hc.low
 have hbw:=hc.blow
 have htw:=ht.low
 have htl:=ht.len k hk
 have hto:=ht.one k
 have htv:=ht.vw
 by_cases hlt:k < 8
 case neg =>
  have f1:((k:Int) < 8) = False:=eq_false (by omega)
  have hk8:k = 8:=by omega
  subst hk8
  have htk:(tk 8).take 408 = tk 8:=List.take_of_length_le (by omega)
  have hzd:Z.drop 408 = []:=List.drop_of_length_le (by omega)
  have hto2:=ht.ow 8
  simp -implicitDefEqProofs (disch:=first|omega|(simp only [go_sem,seval,-List.reduceReplicate,f1,htl,hto,htv,htk,Qs,hzl,hzd,List.append_nil];first|done|omega)) only [go_sem,seval,-List.reduceReplicate,f1,htl,hto,htv,htk,Qs,hzl,hzd,List.append_nil]
  (first|refine pfN hM ?_ ?_|refine pf0 hM ?_ ?_)
  ·simp -implicitDefEqProofs (disch:=first|omega|(simp only [go_sem,seval,-List.reduceReplicate,htk,hto2];first|done|omega)) only [go_sem,seval,-List.reduceReplicate,htk,hto2]
  ·(simp only [go_sem,seval,-List.reduceReplicate,htw,htk,hto2]<;>omega)
 have f1:((k:Int) < 8) = True:=eq_true (by omega)
 have hix:=hc.idx k hlt
 have hbl:=hc.blen k hlt
 have hbt:=hc.btk k hlt
 have hbo:=hc.bone k
 have hbb:=hc.bvw k
 have hstp:=ht.stp k hlt
 unfold setRange at hstp
 rw [hbl,List.append_assoc] at hstp
 have h8:(k + 2 * n) % 8 < 8:=Nat.mod_lt _ (by decide)
 have f80:((8:Int) = 0) = False:=by decide
 have hmd:Int.tmod ((k:Int) + 2 * (n:Int)) 8 = (((k + 2 * n) % 8:Nat):Int):=by
  rw [h2n,← Int.natCast_add];rfl
 have h8t:((k + 2 * n) % 8 < 8) = True:=eq_true h8
 have hlen2:((k + 2 * n) % 8 * 51 + 51 ≤ 408) = True:=eq_true (by omega)
 simp -implicitDefEqProofs (disch:=first|omega|(simp only [go_sem,seval,-List.reduceReplicate,f1,hix,hz5,hz51,hbl,hbt,hbo,hbb,Qs,List.length_map,h5d,List.append_nil,f80,hmd,h8t,hlen2,hstp];first|done|omega)) only [go_sem,seval,-List.reduceReplicate,f1,hix,hz5,hz51,hbl,hbt,hbo,hbb,Qs,List.length_map,h5d,List.append_nil,f80,hmd,h8t,hlen2,hstp]
 have hlo:=hc.low
 refine Qr hM rfl 2 (by simp) (by first|done|(simp only [go_sem,seval,-List.reduceReplicate,hlo,hbw,htw,hzw] <;> first|done|(refine ⟨?_,?_⟩ <;> omega)|omega)) (Qv (by first|done|(simp only [go_sem,seval,-List.reduceReplicate,hlo,hbw,htw,hzw] <;> first|done|(refine ⟨?_,?_⟩ <;> omega)|omega))) ?_
 simp -implicitDefEqProofs (disch:=first|omega|(simp only [go_sem,seval,-List.reduceReplicate];first|done|omega)) only [go_sem,seval,-List.reduceReplicate]
 exact again' (k + 1) (by omega) (by omega) rfl rfl
abbrev QqX (X:XRel):=QgX F X
def serIn (s:Ser):Prop:=s.samples.length ≤ 40000 ∧ s.gaps.length ≤ 1048576 ∧ ∀ x:Spn,x ∈ s.gaps → 0 ≤ x.fr ∧ x.fr < x.to_ ∧ x.to_ ≤ s.samples.length
theorem Yf (s:Ser):Q X 123 [Qt s] (.fn (.func 153) [] [.fp (Qt s).cells]):=by
 intro M
 (refine Qd (cf:=L4.c123) rfl rfl fun hM hA => ?_;simp only [L4.c123,zO,zF,zT,zM,CX.i];rw [mk1 _ (by decide)];simp -implicitDefEqProofs (disch:=first|omega|(simp only [go_sem,seval,Qg];first|done|omega)) only [go_sem,seval,Qg])
 (all_goals (first|refine pfN hM ?_ ?_|refine pf0 hM ?_ ?_);all_goals first|(simp only [go_sem,seval,Q3,Qf]<;>omega)|skip;all_goals (try simp -implicitDefEqProofs (disch:=first|omega|(simp only [go_sem,seval];first|done|omega)) only [go_sem,seval]))
theorem Qje (s:Ser) (hs:serIn s) {i:Nat} {N:Nat → List Blk} {m:Nat} (hm:m ≤ (recP s.samples s.gaps).length) (hN:∀ k,k ≤ m → (N k).length = (N 0).length ∧ lowM (N k).length (N k))
  (hy:∀ k x E,k < m → (recP s.samples s.gaps)[k]? = some x → ACall F X (.yl i) [x.1,x.2] (N k ++ E) (.B true) (N (k + 1) ++ E)) {Ne:List Blk}
  (he:(m = (recP s.samples s.gaps).length ∧ Ne = N m) ∨ ∃ x,(recP s.samples s.gaps)[m]? = some x ∧ (Ne.length = (N 0).length ∧ lowM Ne.length Ne) ∧ ∀ E,ACall F X (.yl i) [x.1,x.2] (N m ++ E) (.B false) (Ne ++ E)) :
  ACall F X (.fn 153) (.yl i :: [.fp (Qt s).cells]) (N 0) (.tup []) Ne:=by
 have hmi:=Yx (X:=X) s hs.1 hs.2.1 hs.2.2
 obtain ⟨nm,st,l,g⟩:=s
 simp only at hm hy he hmi
 have hs1:l.length ≤ 40000:=hs.1
 clear hs
 refine Qd (cf:=c153) rfl rfl fun hM hA => ?_
 have hi:i < (N 0).length:=by simp only [lowL,PV.low] at hA;exact hA.1
 simp only [c153,zO,zF,zT,zM,CX.i]
 rw [mk2 _ (by decide)]
 simp -implicitDefEqProofs (disch:=first|omega|(simp only [go_sem,seval,VH];first|done|omega)) only [go_sem,seval,VH]
 refine Qa (hmi _) ?_
 have hgl:(QQ l.length g g.length).length = l.length:=by simp [QQ]
 simp -implicitDefEqProofs (disch:=first|omega|(simp only [go_sem,seval,VH];first|done|omega)) only [go_sem,seval,VH]
 have hbase:recK l g 0 = []:=by simp [recK]
 have hall:(recP l g).length = (recK l g l.length).length:=QaX l g
 have hNl:∀ k,k ≤ m → lowM (N 0).length (N k):=fun k hk => by have:=hN k hk;rw [← this.1];exact this.2
 refine Qm (α:=Nat) 0 (fun k => k ≤ l.length ∧ (recK l g k).length ≤ m) (fun k => N (recK l g k).length)
  (fun k => [(0,.yl i),(3,.fs (QQ l.length g g.length)),(9,.fs (l.map encF)),(10,.I l.length),(11,.I k)]) (fun k => l.length - k) ⟨Nat.zero_le _,by rw [hbase];exact Nat.zero_le _⟩ (by rw [hbase];rfl) rfl ?_
 rintro k ⟨hk,hkm⟩
 have hgw:=Vy (m:=(N 0).length) l.length g g.length
 by_cases hlt:k < l.length
 case neg =>
  have hkk:k = l.length:=by omega
  subst hkk
  have e:Ne = N m:=by
   rcases he with ⟨_,h⟩|⟨x,h,_⟩
   ·exact h
   ·have:=(List.getElem?_eq_some_iff.1 h).1;omega
  have e2:(recK l g l.length).length = m:=by
   rcases he with ⟨h,_⟩|⟨x,h,_⟩
   ·omega
   ·have:=(List.getElem?_eq_some_iff.1 h).1;omega
  rw [e2,e]
  have hk0:=hN m (Nat.le_refl _)
  simp -implicitDefEqProofs (disch:=first|omega|(simp only [go_sem,seval,hlt];first|done|omega)) only [go_sem,seval,hlt]
  refine Vj Qb8 hk0.2 hk0.1.symm ?_ ?_
  ·simp -implicitDefEqProofs (disch:=first|omega|(simp only [go_sem,seval];first|done|omega)) only [go_sem,seval]
   rfl
  ·(simp only [go_sem,seval]<;>omega)
 obtain ⟨x,hx⟩:∃ x,l[k]? = some x:=⟨_,List.getElem?_eq_getElem hlt⟩
 have hgg:(QQ l.length g g.length)[k]? = some (.B (gapAt g k)):=by rw [QaK hlt,List.take_length]
 have hsn:=Qcf (g:=g) hx
 have hk0:=hN _ hkm
 by_cases hg:gapAt g k = true
 ·rw [hg] at hgg
  rw [if_pos hg,List.append_nil] at hsn
  simp -implicitDefEqProofs (disch:=first|omega|(simp only [go_sem,seval,hlt,hx,hgg,hgl];first|done|omega)) only [go_sem,seval,hlt,hx,hgg,hgl]
  refine Qi7 hk0.2 hk0.1.symm (Qv ?_) ?_
  ·have:i < (N (recK l g k).length).length:=by omega
   simp only [go_sem,seval,this,Nat.add_zero,Q3,Vy]
  ·simp -implicitDefEqProofs (disch:=first|omega|(simp only [go_sem,seval];first|done|omega)) only [go_sem,seval]
   exact again' (k + 1) ⟨by omega,by rw [hsn];exact hkm⟩ (by omega) (by rw [hsn]) rfl
 have hg':gapAt g k = false:=by simpa using hg
 rw [hg'] at hgg
 rw [if_neg hg] at hsn
 have hp:=QnV hx hg'
 have hsl:(recK l g (k + 1)).length = (recK l g k).length + 1:=by rw [hsn,List.length_append];rfl
 by_cases hcm:(recK l g k).length < m
 ·have hk1:=hN ((recK l g k).length + 1) (by omega)
  have hy':=hy _ _ [] hcm hp
  rw [List.append_nil,List.append_nil] at hy'
  simp -implicitDefEqProofs (disch:=first|omega|(simp only [go_sem,seval,hlt,hx,hgg,hgl];first|done|omega)) only [go_sem,seval,hlt,hx,hgg,hgl]
  refine QL hy' ?_
  simp -implicitDefEqProofs (disch:=first|omega|(simp only [go_sem,seval];first|done|omega)) only [go_sem,seval]
  refine Qi7 hk1.2 hk1.1.symm (Qv ?_) ?_
  ·have:i < (N ((recK l g k).length + 1)).length:=by omega
   simp only [go_sem,seval,this,Nat.add_zero,Q3,Vy]
  ·simp -implicitDefEqProofs (disch:=first|omega|(simp only [go_sem,seval];first|done|omega)) only [go_sem,seval]
   exact again' (k + 1) ⟨by omega,by omega⟩ (by omega) (by rw [hsl]) rfl
 have hcm':(recK l g k).length = m:=by omega
 rcases he with ⟨h1,_⟩|⟨y,h1,h2,h3⟩
 ·have:=(List.getElem?_eq_some_iff.1 hp).1;omega
 rw [hcm'] at hp
 rw [hp] at h1
 cases h1
 have h3':=h3 []
 rw [List.append_nil,List.append_nil] at h3'
 rw [hcm']
 simp -implicitDefEqProofs (disch:=first|omega|(simp only [go_sem,seval,hlt,hx,hgg,hgl];first|done|omega)) only [go_sem,seval,hlt,hx,hgg,hgl]
 refine QL h3' ?_
 simp -implicitDefEqProofs (disch:=first|omega|(simp only [go_sem,seval];first|done|omega)) only [go_sem,seval]
 refine Vj Q8 h2.2 h2.1.symm ?_ ?_
 ·simp -implicitDefEqProofs (disch:=first|omega|(simp only [go_sem,seval];first|done|omega)) only [go_sem,seval]
  rfl
 ·(simp only [go_sem,seval]<;>omega)
theorem QaI (s:Ser) (hs:serIn s):QqX X 153 [.fp (Qt s).cells] (recP s.samples s.gaps):=by
 intro i N m hm hN hy
 exact ⟨fun h => Qje s hs hm hN hy (.inl ⟨h,rfl⟩),fun x N' hx hN' hf => Qje s hs hm hN hy (.inr ⟨x,hx,hN',hf⟩)⟩
theorem Zt {s:Ser} (h:Ql s = 0):serIn s ∧ (∀ x ∈ s.samples,smpE x = 0):=by
 obtain ⟨nm,st,l,g⟩:=s
 unfold Ql at h
 simp only at h
 split at h
 ·cases h
 ·split at h
  ·cases h
  ·split at h
   ·cases h
   ·rename_i h3
    split at h
    ·rename_i h4;exact absurd h h4
    ·rename_i h4
     split at h
     ·rename_i h5;exact absurd h h5
     ·rename_i h5
      split at h
      ·cases h
      ·rename_i h6
       have h5:Qp g = 0:=Decidable.of_not_not h5
       have h6:Vf l g = 0:=Decidable.of_not_not h6
       have h4:fst0 (l.map smpE) = 0:=Decidable.of_not_not h4
       refine ⟨⟨by simp only;omega,?_,Qi9 h5 h6⟩,?_⟩
       ·have:=(V9 h5).2;simp only;omega
       ·intro x hx
        exact YC h4 _ (List.mem_map.2 ⟨x,hx,rfl⟩)
theorem Qat {l:List Nat} {g:List Spn} {p:Nat × Nat} (h:p ∈ recOf l g):p.2 ∈ l ∧ p.1 < l.length:=by
 unfold recOf recK at h
 obtain ⟨q,hq,rfl⟩:=List.mem_map.1 h
 have hq:=(List.mem_filter.1 hq).1
 rw [List.take_length] at hq
 obtain ⟨i,hi,h2⟩:=List.mem_iff_getElem.1 hq
 rw [List.getElem_zipIdx] at h2
 rw [← h2]
 simp only [Nat.zero_add]
 rw [List.length_zipIdx] at hi
 exact ⟨List.getElem_mem _,hi⟩
def sumE (s:Ser):Int:=if Ql s = 0 then (if (sttTo (recOf s.samples s.gaps)).count = 0 then 12 else 0) else Ql s
def sumOf (s:Ser):Stt:=if Ql s = 0 then sttTo (recOf s.samples s.gaps) else st0
theorem JN {x:Nat} (h:smpE x = 0):Q X 124 [encF x] (.I (six x)):=by
 obtain ⟨s,m,e,hr⟩:=V1 h
 have e1:six x = fTr s m (e + 4):=by unfold six;rw [hr]
 have hb:=Y0 h
 rw [e1] at hb ⊢
 exact QbR hr (by omega)
theorem QeH (s:Ser) (hl:s.samples.length ≤ 1048576) (hgl:s.gaps.length ≤ 1048576):Q X 64 [Qt s] (.tup [encSt (sumOf s),.I (sumE s)]):=by
 intro M
 have e:=Qg s
 (refine Qd (cf:=L4.c64) rfl rfl fun hM hA => ?_;simp only [L4.c64,zO,zF,zT,zM,CX.i];rw [mk1 _ (by decide)];simp -implicitDefEqProofs (disch:=first|omega|(simp only [go_sem,seval,e];first|done|omega)) only [go_sem,seval,e])
 refine Qa (Vc s hl hgl _) ?_
 unfold sumOf sumE
 by_cases h0:Ql s = 0
 case neg =>
  rw [if_neg h0,if_neg h0]
  simp -implicitDefEqProofs (disch:=first|omega|(simp only [go_sem,seval,h0];first|done|omega)) only [go_sem,seval,h0]
  (all_goals (first|refine pfN hM ?_ ?_|refine pf0 hM ?_ ?_);all_goals first|(simp only [go_sem,seval]<;>omega)|skip;all_goals (try simp -implicitDefEqProofs (disch:=first|omega|(simp only [go_sem,seval,QR,st0];first|done|omega)) only [go_sem,seval,QR,st0]))
 obtain ⟨hin,hsm⟩:=Zt h0
 rw [if_pos h0,if_pos h0,h0]
 simp -implicitDefEqProofs (disch:=first|omega|(simp only [go_sem,seval,e];first|done|omega)) only [go_sem,seval,e]
 refine Qa (Yf s _) ?_
 have hrec:∀ p ∈ recOf s.samples s.gaps,smpE p.2 = 0:=fun p hp => hsm _ (Qat hp).1
 have hinv:=fun k (hk:k ≤ (recOf s.samples s.gaps).length) => Qql hrec hk
 have hrl:(recOf s.samples s.gaps).length ≤ 40000:=Nat.le_trans (Qex _ _ _) hin.1
 have hlen:=QaX s.samples s.gaps
 have hy:=QaI (X:=X) s hin
 have hsn:=fun (k:Nat) (p:Nat × Nat) (hp:(recOf s.samples s.gaps)[k]? = some p) => QdG hp
 simp -implicitDefEqProofs (disch:=first|omega|(simp only [go_sem,seval];first|done|omega)) only [go_sem,seval]
 refine YL hy (fun k => [.row true 4 0 [encSt st0],.row true 4 0 [encSt (sttTo ((recOf s.samples s.gaps).take k))]]) (recP s.samples s.gaps).length (Nat.le_refl _) hM (by simp -implicitDefEqProofs (disch:=first|omega|(simp only [go_sem,seval];first|done|omega)) only [go_sem,seval]) (fun k => rfl) ?_ ?_ ?_ ?_
 ·intro k _
  simp only [go_sem,seval,QR]
  try simp
 ·refine (?_:lowL (M.length + (0 + 1 + 1)) _)
  simp only [go_sem,seval,Qg,Q3,Qf]
  try simp
 ·intro k x E L LB hk hx hE
  obtain ⟨p,hp,rfl⟩:∃ p,(recOf s.samples s.gaps)[k]? = some p ∧ (PV.I p.1,encF p.2) = x:=by
   unfold recP at hx;rw [List.getElem?_map] at hx;exact Option.map_eq_some_iff.1 hx
  have hk':k < (recOf s.samples s.gaps).length:=by omega
  have hxs:=hrec p (List.mem_of_getElem? hp)
  have hss:=hsn k p hp
  obtain ⟨i1,⟨i2,i2'⟩,i3⟩:=hinv k (by omega)
  simp only [hss]
  generalize sttTo ((recOf s.samples s.gaps).take k) = t at i1 i2 i2' i3 ⊢
  obtain ⟨c,sm,le,mo⟩:=t
  simp only at i1 i2 i2' i3
  obtain ⟨j,y⟩:=p
  simp only at hxs ⊢
  clear hss hx hsn
  have h6:=Y0 hxs
  simp -implicitDefEqProofs (disch:=first|omega|(simp only [go_sem,seval,QR];first|done|omega)) only [go_sem,seval,QR]
  refine QbY (by rw [getMj];rfl) ?_
  by_cases h0c:c = 0
  ·have m1:=Qhv hxs hxs
   have m2:=Qgi hxs hxs
   simp -implicitDefEqProofs (disch:=first|omega|(simp only [go_sem,seval,h0c,QR];first|done|omega)) only [go_sem,seval,h0c,QR]
   refine Qa (JN hxs _) ?_
   simp -implicitDefEqProofs (disch:=first|omega|(simp only [go_sem,seval,QR,m1,m2];first|done|omega)) only [go_sem,seval,QR,m1,m2]
   refine VF [] ?_
   simp [encSt,Qai,h0c,st0]
  ·obtain ⟨k1,k2⟩:=i3.resolve_left h0c
   have m1:=Qhv k1 hxs
   have m2:=Qgi k2 hxs
   simp -implicitDefEqProofs (disch:=first|omega|(simp only [go_sem,seval,h0c,QR];first|done|omega)) only [go_sem,seval,h0c,QR]
   refine Qa (JN hxs _) ?_
   simp -implicitDefEqProofs (disch:=first|omega|(simp only [go_sem,seval,QR,m1,m2];first|done|omega)) only [go_sem,seval,QR,m1,m2]
   refine VF [] ?_
   simp [encSt,Qai,h0c,st0]
 ·refine .inl ⟨rfl,?_⟩
  have hall:(recOf s.samples s.gaps).take (recP s.samples s.gaps).length = recOf s.samples s.gaps:=List.take_of_length_le (by omega)
  rw [hall]
  generalize sttTo (recOf s.samples s.gaps) = t
  simp -implicitDefEqProofs (disch:=first|omega|(simp only [go_sem,seval,QR];first|done|omega)) only [go_sem,seval,QR]
  refine Qa (QA _ _ _) ?_
  simp -implicitDefEqProofs (disch:=first|omega|(simp only [go_sem,seval,QR];first|done|omega)) only [go_sem,seval,QR]
  (all_goals (first|refine pfN hM ?_ ?_|refine pf0 hM ?_ ?_);all_goals first|(simp only [go_sem,seval]<;>omega)|skip;all_goals (try simp -implicitDefEqProofs (disch:=first|omega|(simp only [go_sem,seval];first|done|omega)) only [go_sem,seval]))
def Jt (s:Ser) (lv:Nat) (n:Int):Int:=fst0 [Ql s,smpE lv,rng n 1 40000]
def Qce (s:Ser) (lv:Nat) (n:Int):List Spn:=longK n (spTo lv (recOf s.samples s.gaps))
def QbM (s:Ser) (lv:Nat) (n:Int):List Spn × Int :=
 if Jt s lv n = 0 then (if 1024 < (Qce s lv n).length then ([],5) else (Qce s lv n,0)) else ([],Jt s lv n)
theorem Qbb (s:Ser) (lv:Nat) (n:Int) (hl:s.samples.length ≤ 1048576) (hgl:s.gaps.length ≤ 1048576):Q X 66 [Qt s,encF lv,.I n] (.tup [.fs ((QbM s lv n).1.map Qb),.I (QbM s lv n).2]):=by
 intro M
 have e:=Qg s
 (refine Qd (cf:=L4.c66) rfl rfl fun hM hA => ?_;simp only [L4.c66,zO,zF,zT,zM,CX.i];rw [mk3 _ (by decide)];simp -implicitDefEqProofs (disch:=first|omega|(simp only [go_sem,seval,e];first|done|omega)) only [go_sem,seval,e])
 refine Qa (Vc s hl hgl _) ?_
 simp -implicitDefEqProofs (disch:=first|omega|(simp only [go_sem,seval];first|done|omega)) only [go_sem,seval]
 refine Qa (Y7 lv _) ?_
 simp -implicitDefEqProofs (disch:=first|omega|(simp only [go_sem,seval];first|done|omega)) only [go_sem,seval]
 refine Qa (Vi _ _ _ _) ?_
 simp -implicitDefEqProofs (disch:=first|omega|(simp only [go_sem,seval];first|done|omega)) only [go_sem,seval]
 have hq:=QJ (X:=X) [Ql s,smpE lv,rng n 1 40000] (by simp) M
 have e1:Jt s lv n = fst0 [Ql s,smpE lv,rng n 1 40000]:=rfl
 rw [← e1] at hq
 refine Qa hq ?_
 unfold QbM
 by_cases h0:Jt s lv n = 0
 case neg =>
  rw [if_neg h0]
  generalize Jt s lv n = ee at h0
  simp -implicitDefEqProofs (disch:=first|omega|(simp only [go_sem,seval,h0];first|done|omega)) only [go_sem,seval,h0]
  (all_goals (first|refine pfN hM ?_ ?_|refine pf0 hM ?_ ?_);all_goals first|(simp only [go_sem,seval]<;>omega)|skip;all_goals (try simp -implicitDefEqProofs (disch:=first|omega|(simp only [go_sem,seval];first|done|omega)) only [go_sem,seval]))
 rw [if_pos h0,h0]
 rw [e1] at h0
 have g0:=YC h0
 have g1:=g0 (Ql s) (by simp)
 have g2:=g0 (smpE lv) (by simp)
 have g3:=g0 (rng n 1 40000) (by simp)
 obtain ⟨hin,hsm⟩:=Zt g1
 rw [ZR] at g3
 simp -implicitDefEqProofs (disch:=first|omega|(simp only [go_sem,seval,e];first|done|omega)) only [go_sem,seval,e]
 refine Qa (Yf s _) ?_
 have hrec:∀ p ∈ recOf s.samples s.gaps,smpE p.2 = 0:=fun p hp => hsm _ (Qat hp).1
 have hrl:(recOf s.samples s.gaps).length ≤ 40000:=Nat.le_trans (Qex _ _ _) hin.1
 have hidx:∀ p ∈ recOf s.samples s.gaps,p.1 < 40000:=fun p hp => Nat.lt_of_lt_of_le (Qat hp).2 hin.1
 have hlen:=QaX s.samples s.gaps
 have hy:=QaI (X:=X) s hin
 have hsn:=fun (k:Nat) (p:Nat × Nat) (hp:(recOf s.samples s.gaps)[k]? = some p) => Qlz (lv:=lv) hp
 have hspl:=fun k:Nat => Qgn lv ((recOf s.samples s.gaps).take k)
 simp -implicitDefEqProofs (disch:=first|omega|(simp only [go_sem,seval];first|done|omega)) only [go_sem,seval]
 refine YL hy (fun k => [.row true 1 0 [.os (M.length + 2) (spTo lv ((recOf s.samples s.gaps).take k)).length 0 (spTo lv ((recOf s.samples s.gaps).take k)).length],.row true 2 0 [],.row true 2 (spTo lv ((recOf s.samples s.gaps).take k)).length ((spTo lv ((recOf s.samples s.gaps).take k)).map Qb)]) (recP s.samples s.gaps).length (Nat.le_refl _) hM (by simp -implicitDefEqProofs (disch:=first|omega|(simp only [go_sem,seval];first|done|omega)) only [go_sem,seval]) (fun k => rfl) ?_ ?_ ?_ ?_
 ·intro k _
  simp only [go_sem,seval,Qf]
  try simp
 ·refine (?_:lowL (M.length + (0 + 1 + 1 + 1)) _)
  simp only [go_sem,seval,Qg,Q3,Qf]
  try simp
 ·intro k x E L LB hk hx hE
  obtain ⟨p,hp,rfl⟩:∃ p,(recOf s.samples s.gaps)[k]? = some p ∧ (PV.I p.1,encF p.2) = x:=by
   unfold recP at hx;rw [List.getElem?_map] at hx;exact Option.map_eq_some_iff.1 hx
  have hk':k < (recOf s.samples s.gaps).length:=by omega
  have hxs:=hrec p (List.mem_of_getElem? hp)
  have hxi:=hidx p (List.mem_of_getElem? hp)
  have hss:=hsn k p hp
  have hol:=hspl k
  have htl:((recOf s.samples s.gaps).take k).length = k:=by rw [List.length_take];omega
  simp only [hss]
  generalize spTo lv ((recOf s.samples s.gaps).take k) = o at hol ⊢
  obtain ⟨j,y⟩:=p
  simp only at hxs hxi ⊢
  clear hss hx hsn
  have hgt:=QkZ hxs g2
  simp -implicitDefEqProofs (disch:=first|omega|(simp only [go_sem,seval,Qe];first|done|omega)) only [go_sem,seval,Qe]
  refine QbY (by rw [getMj];rfl) ?_
  by_cases hab:YO y lv = true
  ·rw [Qf3 hab]
   rw [hab] at hgt
   simp -implicitDefEqProofs (disch:=first|omega|(simp only [go_sem,seval,hgt,Qe];first|done|omega)) only [go_sem,seval,hgt,Qe]
   exact VF [] (by simp)
  have hab':YO y lv = false:=by simpa using hab
  rw [hab'] at hgt
  simp -implicitDefEqProofs (disch:=first|omega|(simp only [go_sem,seval,hgt,Qe];first|done|omega)) only [go_sem,seval,hgt,Qe]
  have hol1:o.length ≤ 40000:=by omega
  clear hspl hy hidx hrec hE
  rcases (by omega:o.length = 0 ∨ 1 ≤ o.length) with h0|h0
  ·have ho:o = []:=List.eq_nil_of_length_eq_zero h0
   subst ho
   rw [Qic hab']
   simp -implicitDefEqProofs (disch:=first|omega|(simp only [go_sem,seval,List.length_nil,Int.lt_irrefl];first|done|omega)) only [go_sem,seval,List.length_nil,Int.lt_irrefl]
   refine VF [] ?_
   simp [Qb]
  ·have f1:((0:Int) < o.length) = True:=eq_true (by omega)
   obtain ⟨z,g1⟩:∃ z,o[o.length - 1]? = some z:=⟨_,List.getElem?_eq_getElem (by omega)⟩
   have e1:(o.length:Int) - 1 = ((o.length - 1:Nat):Int):=by omega
   have l1:o.length - 1 < o.length:=by omega
   have eset:(o.map Qb).set (o.length - 1) (.agg [.I z.fr,.I ((j:Int) + 1)]) = (o.set (o.length - 1) ⟨z.fr,(j:Int) + 1⟩).map Qb:=by rw [List.map_set];rfl
   by_cases hc:z.to_ = j
   ·have hst:=Qh1 hab' g1 hc
    rw [hst]
    simp -implicitDefEqProofs (disch:=first|omega|(simp only [go_sem,seval,f1,e1,g1,l1,hc,Qj,Qe,eset];first|done|omega)) only [go_sem,seval,f1,e1,g1,l1,hc,Qj,Qe,eset]
    refine VF [] ?_
    simp
   ·have hst:=Qiu hab' g1 hc
    rw [hst]
    simp -implicitDefEqProofs (disch:=first|omega|(simp only [go_sem,seval,f1,e1,g1,l1,hc,Qj,Qe,eset];first|done|omega)) only [go_sem,seval,f1,e1,g1,l1,hc,Qj,Qe,eset]
    refine VF [] ?_
    simp [Qb]
 ·refine .inl ⟨rfl,?_⟩
  have hall:(recOf s.samples s.gaps).take (recP s.samples s.gaps).length = recOf s.samples s.gaps:=List.take_of_length_le (by omega)
  rw [hall]
  have hL:Qce s lv n = longK n (spTo lv (recOf s.samples s.gaps)):=rfl
  rw [hL]
  have hin2:spIn 40000 (spTo lv (recOf s.samples s.gaps)):=QqD hidx
  have hsl:=Qgn lv (recOf s.samples s.gaps)
  generalize spTo lv (recOf s.samples s.gaps) = all at hin2 hsl ⊢
  have hlk:=fun k:Nat => QfF n (all.take k)
  simp -implicitDefEqProofs (disch:=first|omega|(simp only [go_sem,seval];first|done|omega)) only [go_sem,seval]
  refine Qm (α:=Nat) 0 (fun k => k ≤ all.length) (fun k => M ++ [.row true 1 0 [.os (M.length + 2) all.length 0 all.length],.row true 2 (longK n (all.take k)).length ((longK n (all.take k)).map Qb),.row true 2 all.length (all.map Qb)])
   (fun k => [(2,.I n),(10,.os (M.length + 1) (longK n (all.take k)).length 0 (longK n (all.take k)).length),(62,.os (M.length + 2) all.length 0 all.length),(63,.I all.length),(64,.I k)]) (fun k => all.length - k) (Nat.zero_le _) rfl rfl ?_
  intro k hk
  have hkk:=hlk k
  have htl:(all.take k).length = k:=by rw [List.length_take];omega
  by_cases hlt:k < all.length
  ·obtain ⟨z,hz⟩:∃ z,all[k]? = some z:=⟨_,List.getElem?_eq_getElem hlt⟩
   have hzi:=hin2 z (List.mem_of_getElem? hz)
   have hsn2:=Qjq (least:=n) hz
   have again:∀ o:List Spn,longK n (all.take (k + 1)) = o → Again 84 (fun k => k ≤ all.length) (fun k => M ++ [.row true 1 0 [.os (M.length + 2) all.length 0 all.length],.row true 2 (longK n (all.take k)).length ((longK n (all.take k)).map Qb),.row true 2 all.length (all.map Qb)])
    (fun k => [(2,.I n),(10,.os (M.length + 1) (longK n (all.take k)).length 0 (longK n (all.take k)).length),(62,.os (M.length + 2) all.length 0 all.length),(63,.I all.length),(64,.I k)]) (fun k => all.length - k) k
    (M ++ [.row true 1 0 [.os (M.length + 2) all.length 0 all.length],.row true 2 o.length (o.map Qb),.row true 2 all.length (all.map Qb)]) (mk 84 [(2,.I n),(10,.os (M.length + 1) o.length 0 o.length),(62,.os (M.length + 2) all.length 0 all.length),(63,.I all.length),(64,.I (k + 1))]):=by
    rintro o rfl
    exact again' (k + 1) (by omega) (by omega) rfl rfl
   rw [hsn2] at again
   generalize longK n (all.take k) = o at hkk again ⊢
   simp -implicitDefEqProofs (disch:=first|omega|(simp only [go_sem,seval,hlt,hz,Qj,Qe];first|done|omega)) only [go_sem,seval,hlt,hz,Qj,Qe]
   by_cases hc:n ≤ z.to_ - z.fr
   ·rw [if_pos hc] at again
    simp -implicitDefEqProofs (disch:=first|omega|(simp only [go_sem,seval,hc,Qj,Qe];first|done|omega)) only [go_sem,seval,hc,Qj,Qe]
    refine Qr hM rfl 3 (by simp) (by first|done|(simp only [go_sem,seval,Qf] <;> first|done|(refine ⟨?_,?_⟩ <;> omega)|omega)) (Qv (by first|done|(simp only [go_sem,seval,Qf] <;> first|done|(refine ⟨?_,?_⟩ <;> omega)|omega))) ?_
    simp -implicitDefEqProofs (disch:=first|omega|(simp only [go_sem,seval];first|done|omega)) only [go_sem,seval]
    have:=again _ rfl
    simpa [Qb] using this
   ·rw [if_neg hc,List.append_nil] at again
    simp -implicitDefEqProofs (disch:=first|omega|(simp only [go_sem,seval,hc,Qj,Qe];first|done|omega)) only [go_sem,seval,hc,Qj,Qe]
    refine Qr hM rfl 3 (by simp) (by first|done|(simp only [go_sem,seval,Qf] <;> first|done|(refine ⟨?_,?_⟩ <;> omega)|omega)) (Qv (by first|done|(simp only [go_sem,seval,Qf] <;> first|done|(refine ⟨?_,?_⟩ <;> omega)|omega))) ?_
    simp -implicitDefEqProofs (disch:=first|omega|(simp only [go_sem,seval];first|done|omega)) only [go_sem,seval]
    exact again _ rfl
  have hkk2:k = all.length:=by omega
  subst hkk2
  rw [List.take_length]
  have hll:=QfF n all
  generalize longK n all = out at hll
  by_cases hbig:1024 < out.length
  ·have f1:((1024:Int) < out.length) = True:=eq_true (by omega)
   rw [if_pos hbig]
   simp -implicitDefEqProofs (disch:=first|omega|(simp only [go_sem,seval,hlt,f1];first|done|omega)) only [go_sem,seval,hlt,f1]
   (all_goals (first|refine pfN hM ?_ ?_|refine pf0 hM ?_ ?_);all_goals first|(simp only [go_sem,seval]<;>omega)|skip;all_goals (try simp -implicitDefEqProofs (disch:=first|omega|(simp only [go_sem,seval];first|done|omega)) only [go_sem,seval]))
  ·have f1:((1024:Int) < out.length) = False:=eq_false (by omega)
   rw [if_neg hbig]
   simp -implicitDefEqProofs (disch:=first|omega|(simp only [go_sem,seval,hlt,f1];first|done|omega)) only [go_sem,seval,hlt,f1]
   (all_goals (first|refine pfN hM ?_ ?_|refine pf0 hM ?_ ?_);all_goals first|(simp only [go_sem,seval,Qf]<;>omega)|skip;all_goals (try simp -implicitDefEqProofs (disch:=first|omega|(simp only [go_sem,seval];first|done|omega)) only [go_sem,seval]))
theorem Qhh (a b:Ser) (ha:a.samples.length ≤ 1048576) (hag:a.gaps.length ≤ 1048576) (hb:b.samples.length ≤ 1048576) (hbg:b.gaps.length ≤ 1048576) :
  Q X 81 [Qt a,Qt b] (.tup [encRs (JC a b).1,.I (JC a b).2]):=by
 intro M
 have ea:=Qg a
 have eb:=Qg b
 have hzI:=Qep
 have hzl:(List.map PV.I z408).length = 408:=by rw [List.length_map];exact List.length_replicate
 have hzv:=fun M => ZN M z408
 have hzx:=fun n M => JR n M z408
 have hzo:=Yj z408
 have hzw:=fun m:Nat => VL (n:=m) z408
 have hzd:(List.map PV.I z408).drop 408 = []:=List.drop_of_length_le (by omega)
 have hzt:(List.map PV.I z408).take 408 = List.map PV.I z408:=List.take_of_length_le (by omega)
 have hze:encRs z408 = .agg (List.map PV.I z408):=rfl
 generalize hZ:List.map PV.I z408 = Z at hzI hzl hzv hzo hzw hzd hzt hzx hze
 (refine Qd (cf:=L4.c81) rfl rfl fun hM hA => ?_;simp only [L4.c81,zO,zF,zT,zM,CX.i];rw [mk2 _ (by decide)];simp -implicitDefEqProofs (disch:=first|omega|(simp only [go_sem,seval,-List.reduceReplicate,ea,eb,hzI];first|done|omega)) only [go_sem,seval,-List.reduceReplicate,ea,eb,hzI])
 refine Qa (Vc a ha hag _) ?_
 simp -implicitDefEqProofs (disch:=first|omega|(simp only [go_sem,seval,-List.reduceReplicate,eb];first|done|omega)) only [go_sem,seval,-List.reduceReplicate,eb]
 refine Qa (Vc b hb hbg _) ?_
 simp -implicitDefEqProofs (disch:=first|omega|(simp only [go_sem,seval,-List.reduceReplicate];first|done|omega)) only [go_sem,seval,-List.reduceReplicate]
 by_cases hst:a.start = b.start
 case neg =>
  have fs:(a.start = b.start) = False:=eq_false hst
  simp -implicitDefEqProofs (disch:=first|omega|(simp only [go_sem,seval,-List.reduceReplicate,fs];first|done|omega)) only [go_sem,seval,-List.reduceReplicate,fs]
  refine Qa (QA _ _ _) ?_
  simp -implicitDefEqProofs (disch:=first|omega|(simp only [go_sem,seval,-List.reduceReplicate];first|done|omega)) only [go_sem,seval,-List.reduceReplicate]
  refine Qa (QJ [Ql a,Ql b,2] (by simp) _) ?_
  have e0:Yd a b = fst0 [Ql a,Ql b,2]:=by unfold Yd;rw [if_pos (Or.inl hst)]
  have h0:¬ fst0 [Ql a,Ql b,2] = 0:=fun h => by have:=YC h 2 (by simp);cases this
  unfold JC
  rw [e0,if_neg h0,hze]
  generalize fst0 [Ql a,Ql b,2] = ee at h0
  simp -implicitDefEqProofs (disch:=first|omega|(simp only [go_sem,seval,-List.reduceReplicate,h0,hzI,hzl,Qs,hzo,hzd,hzv,List.append_nil,hzt];first|done|omega)) only [go_sem,seval,-List.reduceReplicate,h0,hzI,hzl,Qs,hzo,hzd,hzv,List.append_nil,hzt]
  (first|refine pfN hM ?_ ?_|refine pf0 hM ?_ ?_)
  ·simp -implicitDefEqProofs (disch:=first|omega|(simp only [go_sem,seval,-List.reduceReplicate,hzt,hzx];first|done|omega)) only [go_sem,seval,-List.reduceReplicate,hzt,hzx]
  ·(simp only [go_sem,seval,-List.reduceReplicate,hzw,hzt,hzx]<;>omega)
 have fs:(a.start = b.start) = True:=eq_true hst
 simp -implicitDefEqProofs (disch:=first|omega|(simp only [go_sem,seval,-List.reduceReplicate,fs,eb];first|done|omega)) only [go_sem,seval,-List.reduceReplicate,fs,eb]
 by_cases hln:a.samples.length = b.samples.length
 case neg =>
  have fl:decide (¬ a.samples.length = b.samples.length) = true:=by simp [hln]
  rw [fl]
  refine Qa (QA _ _ _) ?_
  simp -implicitDefEqProofs (disch:=first|omega|(simp only [go_sem,seval,-List.reduceReplicate];first|done|omega)) only [go_sem,seval,-List.reduceReplicate]
  refine Qa (QJ [Ql a,Ql b,2] (by simp) _) ?_
  have e0:Yd a b = fst0 [Ql a,Ql b,2]:=by unfold Yd;rw [if_pos (Or.inr hln)]
  have h0:¬ fst0 [Ql a,Ql b,2] = 0:=fun h => by have:=YC h 2 (by simp);cases this
  unfold JC
  rw [e0,if_neg h0,hze]
  generalize fst0 [Ql a,Ql b,2] = ee at h0
  simp -implicitDefEqProofs (disch:=first|omega|(simp only [go_sem,seval,-List.reduceReplicate,h0,hzI,hzl,Qs,hzo,hzd,hzv,List.append_nil,hzt];first|done|omega)) only [go_sem,seval,-List.reduceReplicate,h0,hzI,hzl,Qs,hzo,hzd,hzv,List.append_nil,hzt]
  (first|refine pfN hM ?_ ?_|refine pf0 hM ?_ ?_)
  ·simp -implicitDefEqProofs (disch:=first|omega|(simp only [go_sem,seval,-List.reduceReplicate,hzt,hzx];first|done|omega)) only [go_sem,seval,-List.reduceReplicate,hzt,hzx]
  ·(simp only [go_sem,seval,-List.reduceReplicate,hzw,hzt,hzx]<;>omega)
 have fl:decide (¬ a.samples.length = b.samples.length) = false:=by simp [hln]
 rw [fl]
 refine Qa (QA _ _ _) ?_
 simp -implicitDefEqProofs (disch:=first|omega|(simp only [go_sem,seval,-List.reduceReplicate];first|done|omega)) only [go_sem,seval,-List.reduceReplicate]
 refine Qa (QJ [Ql a,Ql b,0] (by simp) _) ?_
 have e0:Yd a b = fst0 [Ql a,Ql b,0]:=by unfold Yd;rw [if_neg (fun h => h.elim (fun h => h hst) (fun h => h hln))]
 by_cases h0:fst0 [Ql a,Ql b,0] = 0
 case neg =>
  unfold JC
  rw [e0,if_neg h0,hze]
  generalize fst0 [Ql a,Ql b,0] = ee at h0
  simp -implicitDefEqProofs (disch:=first|omega|(simp only [go_sem,seval,-List.reduceReplicate,h0,hzI,hzl,Qs,hzo,hzd,hzv,List.append_nil,hzt];first|done|omega)) only [go_sem,seval,-List.reduceReplicate,h0,hzI,hzl,Qs,hzo,hzd,hzv,List.append_nil,hzt]
  (first|refine pfN hM ?_ ?_|refine pf0 hM ?_ ?_)
  ·simp -implicitDefEqProofs (disch:=first|omega|(simp only [go_sem,seval,-List.reduceReplicate,hzt,hzx];first|done|omega)) only [go_sem,seval,-List.reduceReplicate,hzt,hzx]
  ·(simp only [go_sem,seval,-List.reduceReplicate,hzw,hzt,hzx]<;>omega)
 have g0:=YC h0
 have ga:=g0 (Ql a) (by simp)
 have gb:=g0 (Ql b) (by simp)
 obtain ⟨hina,hsa⟩:=Zt ga
 obtain ⟨hinb,hsb⟩:=Zt gb
 unfold JC
 rw [e0,h0,if_pos rfl]
 simp -implicitDefEqProofs (disch:=first|omega|(simp only [go_sem,seval,-List.reduceReplicate,eb];first|done|omega)) only [go_sem,seval,-List.reduceReplicate,eb]
 refine Qa (Yx b hinb.1 hinb.2.1 hinb.2.2 _) ?_
 simp -implicitDefEqProofs (disch:=first|omega|(simp only [go_sem,seval,-List.reduceReplicate,ea,hzI];first|done|omega)) only [go_sem,seval,-List.reduceReplicate,ea,hzI]
 refine Qa (Yf a _) ?_
 have hrec:∀ p ∈ recOf a.samples a.gaps,smpE p.2 = 0 ∧ p.1 < b.samples.length:=fun p hp => ⟨hsa _ (Qat hp).1,by rw [← hln];exact (Qat hp).2⟩
 have hrl:(recOf a.samples a.gaps).length ≤ 40000:=Nat.le_trans (Qex _ _ _) hina.1
 have hlen:=QaX a.samples a.gaps
 have hy:=QaI (X:=X) a hina
 have hsn:=fun (k:Nat) (p:Nat × Nat) (hp:(recOf a.samples a.gaps)[k]? = some p) => QfE (b:=b) hp
 have hbin:=fun (k:Nat) (r:Rse) (hk:k ≤ (recOf a.samples a.gaps).length) (h:blTo b ((recOf a.samples a.gaps).take k) = some r) => QpY hk h
 have hcs:=Qkx b (recOf a.samples a.gaps) (recOf a.samples a.gaps).length (Nat.le_refl _)
 have hg:=fun (i:Nat) (hi:i < b.samples.length) => QaK (n:=b.samples.length) (g:=b.gaps) (k:=b.gaps.length) hi
 have hgl:(QQ b.samples.length b.gaps b.gaps.length).length = b.samples.length:=by simp [QQ]
 have hgw:=fun m:Nat => Vy (m:=m) b.samples.length b.gaps b.gaps.length
 rw [List.take_length] at hg
 generalize QQ b.samples.length b.gaps b.gaps.length = gone at hg hgl hgw ⊢
 simp -implicitDefEqProofs (disch:=first|omega|(simp only [go_sem,seval,-List.reduceReplicate];first|done|omega)) only [go_sem,seval,-List.reduceReplicate]
 have hR0:(M ++ [Blk.row true 408 0 [PV.agg Z],Blk.row true 1 0 [PV.I 0],Blk.row true 1 0 [PV.fs gone],Blk.row true 408 0 [PV.agg Z]]) = M ++ (fun k => [.row true 408 0 [.agg Z],.row true 1 0 [.I 0],.row true 1 0 [.fs gone],.row true 408 0 [.agg (((blTo b ((recOf a.samples a.gaps).take k)).getD z408).map PV.I)]]) 0:=by
  rw [← hZ];rfl
 refine hR0 ▸ ?_
 rcases hcs with hall|⟨m,hm,hall,hnone⟩
 ·refine YL hy (fun k => [.row true 408 0 [.agg Z],.row true 1 0 [.I 0],.row true 1 0 [.fs gone],.row true 408 0 [.agg (((blTo b ((recOf a.samples a.gaps).take k)).getD z408).map PV.I)]]) (recP a.samples a.gaps).length (Nat.le_refl _) hM (by simp -implicitDefEqProofs (disch:=first|omega|(simp only [go_sem,seval,-List.reduceReplicate];first|done|omega)) only [go_sem,seval,-List.reduceReplicate]) (fun k => rfl) ?_ ?_ ?_ ?_
  ·intro k _
   have hcw:∀ m:Nat,lowL m (((blTo b ((recOf a.samples a.gaps).take k)).getD z408).map PV.I) = True:=fun m => VL _
   simp only [go_sem,seval,-List.reduceReplicate,hzw,hgw,hcw]
   try simp
  ·refine (?_:lowL (M.length + (0 + 1 + 1 + 1 + 1)) _)
   simp only [go_sem,seval,-List.reduceReplicate,ea,eb,Qg,Q3,Qf]
   try simp
  ·intro k x E L LB hk hx hE
   obtain ⟨p,hp,rfl⟩:∃ p,(recOf a.samples a.gaps)[k]? = some p ∧ (PV.I p.1,encF p.2) = x:=by
    unfold recP at hx;rw [List.getElem?_map] at hx;exact Option.map_eq_some_iff.1 hx
   have hk':k < (recOf a.samples a.gaps).length:=by omega
   obtain ⟨hxs,hxi⟩:=hrec p (List.mem_of_getElem? hp)
   have hxs1:=hxs
   have hss:=hsn k p hp
   obtain ⟨r,hr⟩:=hall k (by omega)
   obtain ⟨r',hr'⟩:=hall (k + 1) (by omega)
   have hri:=hbin k r (by omega) hr
   simp only [hr,hr',Option.getD_some]
   rw [hss,hr] at hr'
   obtain ⟨j,y⟩:=p
   simp only at hxs hxi hr' ⊢
   clear hss hx hsn hbin hall hy hrec hE
   obtain ⟨w,hw⟩:∃ w,b.samples[j]? = some w:=⟨_,List.getElem?_eq_getElem hxi⟩
   have hws:=hsb w (List.mem_of_getElem? hw)
   have hgj:=hg j hxi
   have hjl:j < gone.length:=by omega
   simp -implicitDefEqProofs (disch:=first|omega|(simp only [go_sem,seval,-List.reduceReplicate,eb];first|done|omega)) only [go_sem,seval,-List.reduceReplicate,eb]
   refine QbY (by rw [getMj];rfl) ?_
   simp only [JB,List.getD_eq_getElem?_getD,hw,Option.getD_some] at hr'
   by_cases hgp:gapAt b.gaps j = true
   ·rw [if_pos hgp] at hr'
    cases hr'
    rw [hgp] at hgj
    simp -implicitDefEqProofs (disch:=first|omega|(simp only [go_sem,seval,-List.reduceReplicate,hgj,hjl,hgl,hxi];first|done|omega)) only [go_sem,seval,-List.reduceReplicate,hgj,hjl,hgl,hxi]
    exact VF [] (by simp)
   have hgp':gapAt b.gaps j = false:=by simpa using hgp
   rw [hgp'] at hgj
   rw [if_neg hgp] at hr'
   by_cases hbad:YH y w = true
   ·rw [if_pos hbad] at hr';cases hr'
   rw [if_neg hbad] at hr'
   cases hr'
   obtain ⟨⟨b1,b2⟩,⟨b3,b4⟩,b5⟩:=Qi6 (by simpa using hbad)
   have F1:=f_lss (QP hxs) num_0
   rw [decide_eq_false (by rw [f_lt0 hxs];omega)] at F1
   have F2:=f_geq (QP hxs) Qgq
   rw [decide_eq_false (by rw [QdN hxs];omega)] at F2
   have F3:=f_lss (QP hws) num_0
   rw [decide_eq_false (by rw [f_lt0 hws];omega)] at F3
   have F4:=f_gtr (QP hws) num_7
   rw [decide_eq_false (by rw [f_gt7 hws];omega)] at F4
   have G1:=f_fi hws b3
   have G2:=f_fi hxs b1
   obtain ⟨n,hn⟩:∃ n:Nat,six w / 16 = n:=⟨(six w / 16).toNat,by omega⟩
   obtain ⟨v,hv⟩:∃ v:Nat,six y / 16 = v:=⟨(six y / 16).toNat,by omega⟩
   have hn7:n ≤ 7:=by omega
   have F5:=f_neq (Qax n hn7).1 (QP hws)
   rw [decide_eq_false (by rw [f_ne hws hn7];omega)] at F5
   rw [hn] at G1
   rw [hv] at G2
   have hat:Qcb y w = n * 51 + v:=by unfold Qcb;rw [hn,hv];rfl
   rw [hat]
   have hv51:v < 51:=by omega
   have hn8:n < 8:=by omega
   have hil:n * 51 + v < 408:=by omega
   obtain ⟨u,hu⟩:∃ u,r[n * 51 + v]? = some u:=⟨_,List.getElem?_eq_getElem (by rw [hri.1];exact hil)⟩
   have hub:=hri.2 u (List.mem_of_getElem? hu)
   have hinc:=Qls hu
   have hcl:(List.map PV.I r).length = 408:=by rw [List.length_map,hri.1]
   have hco:=Yj r
   have hcg:(List.map PV.I r)[n * 51 + v]? = some (PV.I u):=by rw [List.getElem?_map,hu];rfl
   have hdt:((List.map PV.I r).drop (n * 51 + v)).take 1 = [PV.I u]:=by
    obtain ⟨q1,q2⟩:=List.getElem?_eq_some_iff.1 hcg
    rw [List.drop_eq_getElem_cons q1,q2];rfl
   generalize (incR r (n * 51 + v)).map PV.I = cs' at hinc ⊢
   generalize List.map PV.I r = cs at hinc hcl hco hcg hdt ⊢
   have T8:(n < 8) = True:=eq_true hn8
   have T51:(v < 51) = True:=eq_true hv51
   simp -implicitDefEqProofs (disch:=first|omega|(simp only [go_sem,seval,-List.reduceReplicate,hgj,hjl,hgl,hxi,hw,F1,F2,F3,F4,F5,G1,G2,r_sop,Va,eb,T8,T51,Nat.mul_one,hdt,hcl,hco,hinc,hub,Qs];first|done|omega)) only [go_sem,seval,-List.reduceReplicate,hgj,hjl,hgl,hxi,hw,F1,F2,F3,F4,F5,G1,G2,r_sop,Va,eb,T8,T51,Nat.mul_one,hdt,hcl,hco,hinc,hub,Qs]
   refine VF [] ?_
   simp
   exact hinc
  ·refine .inl ⟨rfl,?_⟩
   have hall2:(recOf a.samples a.gaps).take (recP a.samples a.gaps).length = recOf a.samples a.gaps:=List.take_of_length_le (by omega)
   rw [hall2]
   obtain ⟨r,hr⟩:=hall _ (Nat.le_refl _)
   have hri:=hbin _ r (Nat.le_refl _) hr
   rw [List.take_length] at hr
   rw [hr]
   simp only [Option.getD_some]
   have hre:encRs r = .agg (List.map PV.I r):=rfl
   have hrl2:(List.map PV.I r).length = 408:=by rw [List.length_map,hri.1]
   have hrv:=fun M => ZN M r
   have hrx:=fun n M => JR n M r
   have hro:=Yj r
   have hrw:=fun m:Nat => VL (n:=m) r
   have hrt:(List.map PV.I r).take 408 = List.map PV.I r:=List.take_of_length_le (by omega)
   rw [hre]
   generalize List.map PV.I r = C at hrl2 hrv hrx hro hrw hrt ⊢
   simp -implicitDefEqProofs (disch:=first|omega|(simp only [go_sem,seval,-List.reduceReplicate,hrl2,hrv,hro,hrt,Qs,hzl,hzd,hzt,List.append_nil];first|done|omega)) only [go_sem,seval,-List.reduceReplicate,hrl2,hrv,hro,hrt,Qs,hzl,hzd,hzt,List.append_nil]
   (first|refine pfN hM ?_ ?_|refine pf0 hM ?_ ?_)
   ·simp -implicitDefEqProofs (disch:=first|omega|(simp only [go_sem,seval,-List.reduceReplicate,hrt,hrx];first|done|omega)) only [go_sem,seval,-List.reduceReplicate,hrt,hrx]
   ·(simp only [go_sem,seval,-List.reduceReplicate,hrw,hrt,hrx]<;>omega)
 ·obtain ⟨p,hp⟩:∃ p,(recOf a.samples a.gaps)[m]? = some p:=⟨_,List.getElem?_eq_getElem hm⟩
  have hxp:(recP a.samples a.gaps)[m]? = some (PV.I p.1,encF p.2):=by unfold recP;rw [List.getElem?_map,hp];rfl
  have hbl:blTo b (recOf a.samples a.gaps) = none:=Qk7 hnone
  rw [hbl]
  refine YL hy (fun k => [.row true 408 0 [.agg Z],.row true 1 0 [.I 0],.row true 1 0 [.fs gone],.row true 408 0 [.agg (((blTo b ((recOf a.samples a.gaps).take k)).getD z408).map PV.I)]]) m (by omega) hM (by simp -implicitDefEqProofs (disch:=first|omega|(simp only [go_sem,seval,-List.reduceReplicate];first|done|omega)) only [go_sem,seval,-List.reduceReplicate]) (fun k => rfl) ?_ ?_ ?_ ?_
  ·intro k _
   have hcw:∀ m:Nat,lowL m (((blTo b ((recOf a.samples a.gaps).take k)).getD z408).map PV.I) = True:=fun m => VL _
   simp only [go_sem,seval,-List.reduceReplicate,hzw,hgw,hcw]
   try simp
  ·refine (?_:lowL (M.length + (0 + 1 + 1 + 1 + 1)) _)
   simp only [go_sem,seval,-List.reduceReplicate,ea,eb,Qg,Q3,Qf]
   try simp
  ·intro k x E L LB hk hx hE
   obtain ⟨p,hp,rfl⟩:∃ p,(recOf a.samples a.gaps)[k]? = some p ∧ (PV.I p.1,encF p.2) = x:=by
    unfold recP at hx;rw [List.getElem?_map] at hx;exact Option.map_eq_some_iff.1 hx
   have hk':k < (recOf a.samples a.gaps).length:=by omega
   obtain ⟨hxs,hxi⟩:=hrec p (List.mem_of_getElem? hp)
   have hxs1:=hxs
   have hss:=hsn k p hp
   obtain ⟨r,hr⟩:=hall k (by omega)
   obtain ⟨r',hr'⟩:=hall (k + 1) (by omega)
   have hri:=hbin k r (by omega) hr
   simp only [hr,hr',Option.getD_some]
   rw [hss,hr] at hr'
   obtain ⟨j,y⟩:=p
   simp only at hxs hxi hr' ⊢
   clear hss hx hsn hbin hall hy hrec hE
   obtain ⟨w,hw⟩:∃ w,b.samples[j]? = some w:=⟨_,List.getElem?_eq_getElem hxi⟩
   have hws:=hsb w (List.mem_of_getElem? hw)
   have hgj:=hg j hxi
   have hjl:j < gone.length:=by omega
   simp -implicitDefEqProofs (disch:=first|omega|(simp only [go_sem,seval,-List.reduceReplicate,eb];first|done|omega)) only [go_sem,seval,-List.reduceReplicate,eb]
   refine QbY (by rw [getMj];rfl) ?_
   simp only [JB,List.getD_eq_getElem?_getD,hw,Option.getD_some] at hr'
   by_cases hgp:gapAt b.gaps j = true
   ·rw [if_pos hgp] at hr'
    cases hr'
    rw [hgp] at hgj
    simp -implicitDefEqProofs (disch:=first|omega|(simp only [go_sem,seval,-List.reduceReplicate,hgj,hjl,hgl,hxi];first|done|omega)) only [go_sem,seval,-List.reduceReplicate,hgj,hjl,hgl,hxi]
    exact VF [] (by simp)
   have hgp':gapAt b.gaps j = false:=by simpa using hgp
   rw [hgp'] at hgj
   rw [if_neg hgp] at hr'
   by_cases hbad:YH y w = true
   ·rw [if_pos hbad] at hr';cases hr'
   rw [if_neg hbad] at hr'
   cases hr'
   obtain ⟨⟨b1,b2⟩,⟨b3,b4⟩,b5⟩:=Qi6 (by simpa using hbad)
   have F1:=f_lss (QP hxs) num_0
   rw [decide_eq_false (by rw [f_lt0 hxs];omega)] at F1
   have F2:=f_geq (QP hxs) Qgq
   rw [decide_eq_false (by rw [QdN hxs];omega)] at F2
   have F3:=f_lss (QP hws) num_0
   rw [decide_eq_false (by rw [f_lt0 hws];omega)] at F3
   have F4:=f_gtr (QP hws) num_7
   rw [decide_eq_false (by rw [f_gt7 hws];omega)] at F4
   have G1:=f_fi hws b3
   have G2:=f_fi hxs b1
   obtain ⟨n,hn⟩:∃ n:Nat,six w / 16 = n:=⟨(six w / 16).toNat,by omega⟩
   obtain ⟨v,hv⟩:∃ v:Nat,six y / 16 = v:=⟨(six y / 16).toNat,by omega⟩
   have hn7:n ≤ 7:=by omega
   have F5:=f_neq (Qax n hn7).1 (QP hws)
   rw [decide_eq_false (by rw [f_ne hws hn7];omega)] at F5
   rw [hn] at G1
   rw [hv] at G2
   have hat:Qcb y w = n * 51 + v:=by unfold Qcb;rw [hn,hv];rfl
   rw [hat]
   have hv51:v < 51:=by omega
   have hn8:n < 8:=by omega
   have hil:n * 51 + v < 408:=by omega
   obtain ⟨u,hu⟩:∃ u,r[n * 51 + v]? = some u:=⟨_,List.getElem?_eq_getElem (by rw [hri.1];exact hil)⟩
   have hub:=hri.2 u (List.mem_of_getElem? hu)
   have hinc:=Qls hu
   have hcl:(List.map PV.I r).length = 408:=by rw [List.length_map,hri.1]
   have hco:=Yj r
   have hcg:(List.map PV.I r)[n * 51 + v]? = some (PV.I u):=by rw [List.getElem?_map,hu];rfl
   have hdt:((List.map PV.I r).drop (n * 51 + v)).take 1 = [PV.I u]:=by
    obtain ⟨q1,q2⟩:=List.getElem?_eq_some_iff.1 hcg
    rw [List.drop_eq_getElem_cons q1,q2];rfl
   generalize (incR r (n * 51 + v)).map PV.I = cs' at hinc ⊢
   generalize List.map PV.I r = cs at hinc hcl hco hcg hdt ⊢
   have T8:(n < 8) = True:=eq_true hn8
   have T51:(v < 51) = True:=eq_true hv51
   simp -implicitDefEqProofs (disch:=first|omega|(simp only [go_sem,seval,-List.reduceReplicate,hgj,hjl,hgl,hxi,hw,F1,F2,F3,F4,F5,G1,G2,r_sop,Va,eb,T8,T51,Nat.mul_one,hdt,hcl,hco,hinc,hub,Qs];first|done|omega)) only [go_sem,seval,-List.reduceReplicate,hgj,hjl,hgl,hxi,hw,F1,F2,F3,F4,F5,G1,G2,r_sop,Va,eb,T8,T51,Nat.mul_one,hdt,hcl,hco,hinc,hub,Qs]
   refine VF [] ?_
   simp
   exact hinc
  ·refine .inr ⟨_,.ret,[.row true 408 0 [.agg Z],.row true 1 0 [.I 3],.row true 1 0 [.fs gone],.row true 408 0 [.agg (((blTo b ((recOf a.samples a.gaps).take m)).getD z408).map PV.I)]],hxp,(by simp),rfl,?_,?_,?_⟩
   ·have hcw:∀ i:Nat,lowL i (((blTo b ((recOf a.samples a.gaps).take m)).getD z408).map PV.I) = True:=fun i => VL _
    simp only [go_sem,seval,-List.reduceReplicate,hzw,hgw,hcw]
    try simp
   ·intro E L LB hE
    obtain ⟨hxs,hxi⟩:=hrec p (List.mem_of_getElem? hp)
    have hss:=hsn m p hp
    obtain ⟨r,hr⟩:=hall m (Nat.le_refl _)
    rw [hss,hr] at hnone
    simp only [hr,Option.getD_some]
    obtain ⟨j,y⟩:=p
    simp only at hxs hxi hnone ⊢
    clear hss hsn hbin hall hy hrec hE
    obtain ⟨w,hw⟩:∃ w,b.samples[j]? = some w:=⟨_,List.getElem?_eq_getElem hxi⟩
    have hws:=hsb w (List.mem_of_getElem? hw)
    have hgj:=hg j hxi
    have hjl:j < gone.length:=by omega
    simp -implicitDefEqProofs (disch:=first|omega|(simp only [go_sem,seval,-List.reduceReplicate,eb];first|done|omega)) only [go_sem,seval,-List.reduceReplicate,eb]
    refine QbY (by rw [getMj];rfl) ?_
    simp only [JB,List.getD_eq_getElem?_getD,hw,Option.getD_some] at hnone
    by_cases hgp:gapAt b.gaps j = true
    ·rw [if_pos hgp] at hnone;cases hnone
    have hgp':gapAt b.gaps j = false:=by simpa using hgp
    rw [hgp'] at hgj
    rw [if_neg hgp] at hnone
    by_cases hbad:YH y w = true
    case neg => rw [if_neg hbad] at hnone;cases hnone
    unfold YH at hbad
    simp only [Bool.or_eq_true,decide_eq_true_eq] at hbad
    have F1:=f_lss (QP hxs) num_0
    have F2:=f_geq (QP hxs) Qgq
    have F3:=f_lss (QP hws) num_0
    have F4:=f_gtr (QP hws) num_7
    by_cases c1:six y < 0
    ·rw [decide_eq_true (by rw [f_lt0 hxs];exact c1)] at F1
     simp -implicitDefEqProofs (disch:=first|omega|(simp only [go_sem,seval,-List.reduceReplicate,hgj,hjl,hgl,hxi,hw,F1,r_sop,Va,eb,hzI,hzl,Qs,hzo,hzd,hzt,List.append_nil];first|done|omega)) only [go_sem,seval,-List.reduceReplicate,hgj,hjl,hgl,hxi,hw,F1,r_sop,Va,eb,hzI,hzl,Qs,hzo,hzd,hzt,List.append_nil]
     exact VF [] (by simp)
    rw [decide_eq_false (by rw [f_lt0 hxs];exact c1)] at F1
    by_cases c2:816 ≤ six y
    ·rw [decide_eq_true (by rw [QdN hxs];exact c2)] at F2
     simp -implicitDefEqProofs (disch:=first|omega|(simp only [go_sem,seval,-List.reduceReplicate,hgj,hjl,hgl,hxi,hw,F1,F2,r_sop,Va,eb,hzI,hzl,Qs,hzo,hzd,hzt,List.append_nil];first|done|omega)) only [go_sem,seval,-List.reduceReplicate,hgj,hjl,hgl,hxi,hw,F1,F2,r_sop,Va,eb,hzI,hzl,Qs,hzo,hzd,hzt,List.append_nil]
     exact VF [] (by simp)
    rw [decide_eq_false (by rw [QdN hxs];exact c2)] at F2
    by_cases c3:six w < 0
    ·rw [decide_eq_true (by rw [f_lt0 hws];exact c3)] at F3
     simp -implicitDefEqProofs (disch:=first|omega|(simp only [go_sem,seval,-List.reduceReplicate,hgj,hjl,hgl,hxi,hw,F1,F2,F3,r_sop,Va,eb,hzI,hzl,Qs,hzo,hzd,hzt,List.append_nil];first|done|omega)) only [go_sem,seval,-List.reduceReplicate,hgj,hjl,hgl,hxi,hw,F1,F2,F3,r_sop,Va,eb,hzI,hzl,Qs,hzo,hzd,hzt,List.append_nil]
     exact VF [] (by simp)
    rw [decide_eq_false (by rw [f_lt0 hws];exact c3)] at F3
    by_cases c4:112 < six w
    ·rw [decide_eq_true (by rw [f_gt7 hws];exact c4)] at F4
     simp -implicitDefEqProofs (disch:=first|omega|(simp only [go_sem,seval,-List.reduceReplicate,hgj,hjl,hgl,hxi,hw,F1,F2,F3,F4,r_sop,Va,eb,hzI,hzl,Qs,hzo,hzd,hzt,List.append_nil];first|done|omega)) only [go_sem,seval,-List.reduceReplicate,hgj,hjl,hgl,hxi,hw,F1,F2,F3,F4,r_sop,Va,eb,hzI,hzl,Qs,hzo,hzd,hzt,List.append_nil]
     exact VF [] (by simp)
    rw [decide_eq_false (by rw [f_gt7 hws];exact c4)] at F4
    have c5:¬ six w % 16 = 0:=by omega
    have G1:=f_fi hws (by omega)
    obtain ⟨n,hn⟩:∃ n:Nat,six w / 16 = n:=⟨(six w / 16).toNat,by omega⟩
    have hn7:n ≤ 7:=by omega
    have F5:=f_neq (Qax n hn7).1 (QP hws)
    rw [decide_eq_true (by rw [f_ne hws hn7];omega)] at F5
    rw [hn] at G1
    simp -implicitDefEqProofs (disch:=first|omega|(simp only [go_sem,seval,-List.reduceReplicate,hgj,hjl,hgl,hxi,hw,F1,F2,F3,F4,F5,G1,r_sop,Va,eb,hzI,hzl,Qs,hzo,hzd,hzt,List.append_nil];first|done|omega)) only [go_sem,seval,-List.reduceReplicate,hgj,hjl,hgl,hxi,hw,F1,F2,F3,F4,F5,G1,r_sop,Va,eb,hzI,hzl,Qs,hzo,hzd,hzt,List.append_nil]
    exact VF [] (by simp)
   ·simp only [hze]
    generalize ((blTo b ((recOf a.samples a.gaps).take m)).getD z408).map PV.I = C
    simp -implicitDefEqProofs (disch:=first|omega|(simp only [go_sem,seval,-List.reduceReplicate];first|done|omega)) only [go_sem,seval,-List.reduceReplicate]
    (first|refine pfN hM ?_ ?_|refine pf0 hM ?_ ?_)
    ·simp -implicitDefEqProofs (disch:=first|omega|(simp only [go_sem,seval,-List.reduceReplicate,hzt,hzx];first|done|omega)) only [go_sem,seval,-List.reduceReplicate,hzt,hzx]
    ·(simp only [go_sem,seval,-List.reduceReplicate,hzw,hzt,hzx]<;>omega)
def ItoaX (X:XRel):Prop:=∀ (n:Int) (M:List Blk),-9223372036854775808 ≤ n → n ≤ 9223372036854775807 → X 140 [.I n] M (.s (.string (itoaB n))) M
def encStr (s:ByteArray):PV:=.s (.string s)
def JoinX (X:XRel):Prop:=∀ (l:List ByteArray) (M:List Blk),l.length ≤ 64 → (∀ s ∈ l,s.size ≤ 200) → X 141 [.fs (l.map encStr),.s (.string ⟨#[]⟩)] M (.s (.string (joinB l))) M
theorem ZM (n:Int) (h0:-9223372036854775808 ≤ n) (h1:n ≤ 9223372036854775807):(itoaB n).size ≤ 21:=by
 have:=Lib.itoa_length_le n h0 h1
 show (Lib.itoa n).toArray.size ≤ 21
 simpa using this
theorem Zq {s:ByteArray} (h:Qn s = true):s.size ≤ 24:=by
 unfold Qn at h
 simp only [Bool.and_eq_true,decide_eq_true_eq] at h
 exact h.1.2
theorem Zd:(⟨#[116,117,114,98,105,110,101,32]⟩:ByteArray).size = 8:=rfl
theorem sz_sp:(⟨#[32]⟩:ByteArray).size = 1:=rfl
theorem sz_nl:(⟨#[10]⟩:ByteArray).size = 1:=rfl
theorem Yv:(⟨#[115,105,116,101,32]⟩:ByteArray).size = 5:=rfl
theorem Qa2 {t:Tb} (h:Qn t.name = true) (hp:ptIn t.at_):(tbTxt t).size ≤ 200:=by
 have h1:=Zq h
 unfold ptIn at hp
 have hp1:-1000 ≤ t.x ∧ t.x ≤ 1000 ∧ -1000 ≤ t.y ∧ t.y ≤ 1000:=hp
 have h2:=ZM t.x (by omega) (by omega)
 have h3:=ZM t.y (by omega) (by omega)
 unfold tbTxt
 simp only [ByteArray.size_append,Zd,sz_sp,sz_nl]
 omega
theorem QeX (hI:ItoaX X) (t:Tb) (h:Qn t.name = true) (hp:ptIn t.at_):Q X 139 [encTb t] (.s (.string (tbTxt t))):=by
 intro M
 have h1:=Zq h
 unfold ptIn at hp
 have hp1:-1000 ≤ t.x ∧ t.x ≤ 1000 ∧ -1000 ≤ t.y ∧ t.y ≤ 1000:=hp
 have h2:=ZM t.x (by omega) (by omega)
 have h3:=ZM t.y (by omega) (by omega)
 have e:tbTxt t = (((((⟨#[116,117,114,98,105,110,101,32]⟩:ByteArray) ++ t.name) ++ ⟨#[32]⟩) ++ itoaB t.x) ++ ⟨#[32]⟩) ++ itoaB t.y ++ ⟨#[10]⟩:=rfl
 rw [e]
 (refine Qd (cf:=L4.c139) rfl rfl fun hM hA => ?_;simp only [L4.c139,zO,zF,zT,zM,CX.i];rw [mk1 _ (by decide)];simp -implicitDefEqProofs (disch:=first|omega|(simp only [go_sem,seval,Qi,Vv,ByteArray.size_append,Zd,sz_sp,sz_nl];first|done|omega)) only [go_sem,seval,Qi,Vv,ByteArray.size_append,Zd,sz_sp,sz_nl])
 refine Qa (QZ (hI t.x _ (by omega) (by omega))) ?_
 simp -implicitDefEqProofs (disch:=first|omega|(simp only [go_sem,seval,Qi,Vv,ByteArray.size_append,Zd,sz_sp,sz_nl];first|done|omega)) only [go_sem,seval,Qi,Vv,ByteArray.size_append,Zd,sz_sp,sz_nl]
 refine Qa (QZ (hI t.y _ (by omega) (by omega))) ?_
 simp -implicitDefEqProofs (disch:=first|omega|(simp only [go_sem,seval,Vv,ByteArray.size_append,Zd,sz_sp,sz_nl];first|done|omega)) only [go_sem,seval,Vv,ByteArray.size_append,Zd,sz_sp,sz_nl]
 (all_goals (first|refine pfN hM ?_ ?_|refine pf0 hM ?_ ?_);all_goals first|(simp only [go_sem,seval]<;>omega)|skip;all_goals (try simp -implicitDefEqProofs (disch:=first|omega|(simp only [go_sem,seval];first|done|omega)) only [go_sem,seval]))
theorem Qcy {g:FuncId} {f:Tb → ByteArray} (l:List Tb) (hl:l.length ≤ 1000000) (hg:∀ x ∈ l,Q X g [encTb x] (.s (.string (f x)))):Q X 138 [.fs (l.map encTb),.fn (.func g) [] []] (.fs ((l.map f).map encStr)):=by
 intro M
 (refine Qd (cf:=L4.c138) rfl rfl fun hM hA => ?_;simp only [L4.c138,zO,zF,zT,zM,CX.i];rw [mk2 _ (by decide)];simp -implicitDefEqProofs (disch:=first|omega|(simp only [go_sem,seval];first|done|omega)) only [go_sem,seval])
 refine Qm (α:=Nat) 0 (fun k => k ≤ l.length) (fun k => M ++ [.row true 1 k (((l.take k).map f).map encStr)])
  (fun k => [(1,.fn (.func g) [] []),(5,.os M.length k 0 k),(8,.fs (l.map encTb)),(9,.I l.length),(10,.I k)]) (fun k => l.length - k) (Nat.zero_le _) rfl rfl ?_
 have hlw:∀ (n:Nat) (L:List Tb),lowL n (List.map (fun x => encStr (f x)) L) = True:=fun n L => eq_true (Vp _ _ fun r => by simp [encStr,PV.low])
 have hls:∀ (n:Nat) (x:Tb),(encStr (f x)).low n = True:=fun n x => eq_true (by simp [encStr,PV.low])
 intro k hk
 by_cases hlt:k < l.length
 ·obtain ⟨x,h1⟩:∃ x,l[k]? = some x:=⟨_,List.getElem?_eq_getElem hlt⟩
  have h2:k = ((l.take k).map f).length:=by simp;omega
  have h2':(l.take k).length = k:=by simp;omega
  simp -implicitDefEqProofs (disch:=first|omega|(simp only [go_sem,seval,hlt,h1,Qh];first|done|omega)) only [go_sem,seval,hlt,h1,Qh]
  refine QL (hg x (List.mem_of_getElem? h1) _) ?_
  simp -implicitDefEqProofs (disch:=first|omega|(simp only [go_sem,seval,Qh];first|done|omega)) only [go_sem,seval,Qh]
  refine Qr hM rfl 1 (by simp) (by first|done|(simp only [go_sem,seval,hlw,hls,QF] <;> first|done|(refine ⟨?_,?_⟩ <;> omega)|omega)) (Qv (by first|done|(simp only [go_sem,seval,hlw,hls,QF] <;> first|done|(refine ⟨?_,?_⟩ <;> omega)|omega))) ?_
  simp -implicitDefEqProofs (disch:=first|omega|(simp only [go_sem,seval];first|done|omega)) only [go_sem,seval]
  refine again' (k + 1) (by omega) (by omega) ?_ rfl
  have h3:=VP (f:=fun x => encStr (f x)) h1
  rw [h3];rfl
 ·simp -implicitDefEqProofs (disch:=first|omega|(simp only [go_sem,seval,hlt];first|done|omega)) only [go_sem,seval,hlt]
  (first|refine pfN hM ?_ ?_|refine pf0 hM ?_ ?_)
  ·simp -implicitDefEqProofs (disch:=first|omega|(simp only [go_sem,seval];first|done|omega)) only [go_sem,seval]
   rw [List.take_of_length_le (by omega)]
  ·(simp only [go_sem,seval,hlw]<;>omega)
theorem Ju (hI:ItoaX X) (hJ:JoinX X) (s:Ste) (hl:s.tbs.length ≤ 1048576):Q X 92 [Qq s] (.tup [.s (.string (if Qx s = 0 then Yc s else ⟨#[]⟩)),.I (Qx s)]):=by
 intro M
 have es:=QW s
 (refine Qd (cf:=L4.c92) rfl rfl fun hM hA => ?_;simp only [L4.c92,zO,zF,zT,zM,CX.i];rw [mk1 _ (by decide)];simp -implicitDefEqProofs (disch:=first|omega|(simp only [go_sem,seval,es];first|done|omega)) only [go_sem,seval,es])
 refine Qa (Za s hl _) ?_
 by_cases h0:Qx s = 0
 case neg =>
  rw [if_neg h0]
  generalize Qx s = ee at h0
  simp -implicitDefEqProofs (disch:=first|omega|(simp only [go_sem,seval,h0];first|done|omega)) only [go_sem,seval,h0]
  (all_goals (first|refine pfN hM ?_ ?_|refine pf0 hM ?_ ?_);all_goals first|(simp only [go_sem,seval]<;>omega)|skip;all_goals (try simp -implicitDefEqProofs (disch:=first|omega|(simp only [go_sem,seval];first|done|omega)) only [go_sem,seval]))
 rw [if_pos h0,h0]
 obtain ⟨hn,hle,hln,hin⟩:=Yb h0
 have hpt:=QgF h0
 have hnm:∀ t ∈ s.tbs,Qn t.name = true:=by
  intro t ht
  obtain ⟨i,hi,h2⟩:=List.mem_iff_getElem.1 ht
  exact (YV (hin i t hi (List.getElem?_eq_some_iff.2 ⟨hi,h2⟩))).1
 simp -implicitDefEqProofs (disch:=first|omega|(simp only [go_sem,seval,es];first|done|omega)) only [go_sem,seval,es]
 refine Qa (Qcy s.tbs (by omega) (fun x hx => QeX hI x (hnm x hx) (hpt x hx)) _) ?_
 have h1:=Zq hn
 have h2:=ZM s.least (by omega) (by omega)
 simp -implicitDefEqProofs (disch:=first|omega|(simp only [go_sem,seval,Vv,ByteArray.size_append,Yv,sz_sp,sz_nl];first|done|omega)) only [go_sem,seval,Vv,ByteArray.size_append,Yv,sz_sp,sz_nl]
 refine Qa (QZ (hI s.least _ (by omega) (by omega))) ?_
 simp -implicitDefEqProofs (disch:=first|omega|(simp only [go_sem,seval,Vv,ByteArray.size_append,Yv,sz_sp,sz_nl];first|done|omega)) only [go_sem,seval,Vv,ByteArray.size_append,Yv,sz_sp,sz_nl]
 have hj:=hJ (s.tbs.map tbTxt) M (by rw [List.length_map];exact hln) (by
  intro u hu
  obtain ⟨t,ht,rfl⟩:=List.mem_map.1 hu
  exact Qa2 (hnm t ht) (hpt t ht))
 rw [List.map_map] at hj
 have hjs:(joinB (s.tbs.map tbTxt)).size ≤ 100000:=Qdt (by rw [List.length_map];exact hln) (by
  intro u hu
  obtain ⟨t,ht,rfl⟩:=List.mem_map.1 hu
  exact Qa2 (hnm t ht) (hpt t ht))
 refine Qa (QZ hj) ?_
 have e:Yc s = ((((⟨#[115,105,116,101,32]⟩:ByteArray) ++ s.name) ++ ⟨#[32]⟩) ++ itoaB s.least ++ ⟨#[10]⟩) ++ joinB (s.tbs.map tbTxt):=rfl
 rw [e]
 simp -implicitDefEqProofs (disch:=first|omega|(simp only [go_sem,seval,Vv,ByteArray.size_append,Yv,sz_sp,sz_nl];first|done|omega)) only [go_sem,seval,Vv,ByteArray.size_append,Yv,sz_sp,sz_nl]
 (all_goals (first|refine pfN hM ?_ ?_|refine pf0 hM ?_ ?_);all_goals first|(simp only [go_sem,seval]<;>omega)|skip;all_goals (try simp -implicitDefEqProofs (disch:=first|omega|(simp only [go_sem,seval];first|done|omega)) only [go_sem,seval]))
theorem QeG (ns:List Int) (hl:ns.length ≤ 40000) {M0 E:List Blk} {v:Nat} {bs:List PV} (hb:bs.length ≤ 400000) :
  ACall F X (.fn 131) [.fs (ns.map .I),.op (M0.length + 1) 0 0 0] (M0 ++ (.row true 1 v bs :: .row true 1 0 [.os M0.length v 0 bs.length] :: E)) (.tup [])
   (M0 ++ (.row true 1 (v + ns.length) (bs ++ putB ns) :: .row true 1 0 [.os M0.length (v + ns.length) 0 (bs ++ putB ns).length] :: E)):=by
 refine Qd (cf:=c131) rfl rfl fun hM hA => ?_
 simp only [c131,zO,zF,zT,zM,CX.i]
 rw [mk2 _ (by decide)]
 simp -implicitDefEqProofs (disch:=first|omega|(simp only [go_sem,seval];first|done|omega)) only [go_sem,seval]
 refine Qm (α:=Nat) 0 (fun k => k ≤ ns.length) (fun k => M0 ++ (.row true 1 (v + k) (bs ++ putB (ns.take k)) :: .row true 1 0 [.os M0.length (v + k) 0 (bs ++ putB (ns.take k)).length] :: E))
  (fun k => [(1,.op (M0.length + 1) 0 0 0),(5,.fs (ns.map .I)),(6,.I ns.length),(7,.I k)]) (fun k => ns.length - k) (Nat.zero_le _) (by simp [putB]) rfl ?_
 intro k hk
 by_cases hlt:k < ns.length
 ·obtain ⟨n,hn⟩:∃ n,ns[k]? = some n:=⟨_,List.getElem?_eq_getElem hlt⟩
  have hsn:=Qmn hn
  have hpl:=Qgm (ns.take k)
  have htl:(ns.take k).length = k:=by rw [List.length_take];omega
  have hbl:(bs ++ putB (ns.take k)).length ≤ 560000:=by rw [List.length_append,hpl];omega
  have again:∀ c:List PV,bs ++ putB (ns.take (k + 1)) = c → Again 26 (fun k => k ≤ ns.length) (fun k => M0 ++ (.row true 1 (v + k) (bs ++ putB (ns.take k)) :: .row true 1 0 [.os M0.length (v + k) 0 (bs ++ putB (ns.take k)).length] :: E))
   (fun k => [(1,.op (M0.length + 1) 0 0 0),(5,.fs (ns.map .I)),(6,.I ns.length),(7,.I k)]) (fun k => ns.length - k) k
   (M0 ++ (.row true 1 (v + (k + 1)) c :: .row true 1 0 [.os M0.length (v + (k + 1)) 0 c.length] :: E)) (mk 26 [(1,.op (M0.length + 1) 0 0 0),(5,.fs (ns.map .I)),(6,.I ns.length),(7,.I (k + 1))]):=by
   rintro c rfl
   exact again' (k + 1) (by omega) (by omega) rfl rfl
  rw [hsn,← List.append_assoc] at again
  generalize bs ++ putB (ns.take k) = c at hbl again ⊢
  have hsh:∀ (m:Nat),m ≤ 24 → bin .shr (.s (.int .i64 n)) (.s (.int .u64 m)) = some (.s (.int .i64 (n.fdiv (2 ^ m)))):=by
   intro m hm
   rw [Qpu (by omega)]
   have:min (m:Int).toNat IntKind.i64.bits = m:=by
    have:IntKind.i64.bits = 64:=rfl
    omega
   rw [this]
  have s1:bin .shr (.s (.int .i64 n)) (.s (.int .u64 24)) = some (.s (.int .i64 (n.fdiv 16777216))):=hsh 24 (by decide)
  have s2:bin .shr (.s (.int .i64 n)) (.s (.int .u64 16)) = some (.s (.int .i64 (n.fdiv 65536))):=hsh 16 (by decide)
  have s3:bin .shr (.s (.int .i64 n)) (.s (.int .u64 8)) = some (.s (.int .i64 (n.fdiv 256))):=hsh 8 (by decide)
  simp -implicitDefEqProofs (disch:=first|omega|(simp only [go_sem,seval,hlt,hn,s1,s2,s3];first|done|omega)) only [go_sem,seval,hlt,hn,s1,s2,s3]
  have h:=again _ rfl
  simp only [List.length_append,Qgz,List.length_cons,List.length_nil] at h
  exact h
 have hkk:k = ns.length:=by omega
 subst hkk
 rw [List.take_length]
 have hbl:lowL (M0 ++ Blk.row true 1 v bs :: Blk.row true 1 0 [PV.os M0.length v 0 bs.length] :: E).length bs:=hM (Blk.row true 1 v bs) (by simp)
 have hlow:lowM (M0 ++ (Blk.row true 1 (v + ns.length) (bs ++ putB ns) :: Blk.row true 1 0 [.os M0.length (v + ns.length) 0 (bs ++ putB ns).length] :: E)).length (M0 ++ (Blk.row true 1 (v + ns.length) (bs ++ putB ns) :: Blk.row true 1 0 [.os M0.length (v + ns.length) 0 (bs ++ putB ns).length] :: E)):=by
  intro b hb
  have hlen:(M0 ++ (Blk.row true 1 (v + ns.length) (bs ++ putB ns) :: Blk.row true 1 0 [.os M0.length (v + ns.length) 0 (bs ++ putB ns).length] :: E)).length = (M0 ++ Blk.row true 1 v bs :: Blk.row true 1 0 [PV.os M0.length v 0 bs.length] :: E).length:=by simp
  rw [hlen]
  rcases List.mem_append.1 hb with hb|hb
  ·exact hM b (by simp [hb])
  ·rcases List.mem_cons.1 hb with rfl|hb
   ·show lowL _ (bs ++ putB ns)
    rw [QV]
    intro x hx
    rcases List.mem_append.1 hx with hx|hx
    ·exact (QV _).1 hbl x hx
    ·exact (QV _).1 (of_eq_true (YA ns)) x hx
   ·rcases List.mem_cons.1 hb with rfl|hb
    ·show lowL _ [_]
     simp [lowL,PV.low]
    ·exact hM b (by simp [hb])
 simp only [List.length_append] at hlow
 simp -implicitDefEqProofs (disch:=first|omega|(simp only [go_sem,seval,hlt];first|done|omega)) only [go_sem,seval,hlt]
 refine Vj Qb8 (by simpa using hlow) (by simp) ?_ ?_
 ·simp -implicitDefEqProofs (disch:=first|omega|(simp only [go_sem,seval];first|done|omega)) only [go_sem,seval]
  rfl
 ·(simp only [go_sem,seval]<;>omega)
def FbitsX (X:XRel):Prop:=∀ (b:Nat) (M:List Blk),X 132 [.s (.float .f32 b)] M (.s (.int .u32 b)) M
theorem Ja (hF:FbitsX X) (s:Ser) (hl:s.samples.length ≤ 1048576) (hgl:s.gaps.length ≤ 1048576):Q X 88 [Qt s] (.tup [.fs (if Ql s = 0 then encB s else []),.I (Ql s)]):=by
 intro M
 have es:=Qg s
 (refine Qd (cf:=L4.c88) rfl rfl fun hM hA => ?_;simp only [L4.c88,zO,zF,zT,zM,CX.i];rw [mk1 _ (by decide)];simp -implicitDefEqProofs (disch:=first|omega|(simp only [go_sem,seval,es];first|done|omega)) only [go_sem,seval,es])
 refine Qa (Vc s hl hgl _) ?_
 by_cases h0:Ql s = 0
 case neg =>
  rw [if_neg h0]
  generalize Ql s = ee at h0
  simp -implicitDefEqProofs (disch:=first|omega|(simp only [go_sem,seval,h0];first|done|omega)) only [go_sem,seval,h0]
  (all_goals (first|refine pfN hM ?_ ?_|refine pf0 hM ?_ ?_);all_goals first|(simp only [go_sem,seval]<;>omega)|skip;all_goals (try simp -implicitDefEqProofs (disch:=first|omega|(simp only [go_sem,seval];first|done|omega)) only [go_sem,seval]))
 rw [if_pos h0,h0]
 obtain ⟨hin,hsm⟩:=Zt h0
 have hnm:s.name.size ≤ 24:=by
  unfold Ql at h0
  split at h0
  ·cases h0
  ·rename_i hn;exact Zq (by simpa using hn)
 have hbo:=QjI s.name
 have hbl:=QiC s.name
 have hhs:∀ M:List Blk,held M (.s (.string s.name)) = some (QI s.name):=fun _ => QhH
 simp -implicitDefEqProofs (disch:=first|omega|(simp only [go_sem,seval,es,hhs,hbo,hbl];first|done|omega)) only [go_sem,seval,es,hhs,hbo,hbl]
 have hh:(hdrB s).length = 5 + s.name.size:=by
  unfold hdrB
  rw [List.length_append,List.length_append,hbl];rfl
 have hls:=hin.1
 have hgs:s.gaps.length ≤ 1024:=by
  unfold Ql at h0
  split at h0
  ·cases h0
  ·split at h0
   ·cases h0
   ·split at h0
    ·cases h0
    ·split at h0
     ·rename_i h4;exact absurd h0 h4
     ·split at h0
      ·rename_i h5;exact absurd h0 h5
      ·rename_i h5;exact (V9 (Decidable.of_not_not h5)).2
 have hP:=QeG (X:=X) [s.start,(s.samples.length:Int),(s.gaps.length:Int)] (by simp) (M0:=M) (E:=[]) (v:=2) (bs:=hdrB s) (by omega)
 have hlow:∀ n:Nat,lowL n (hdrB s) = True:=fun n => eq_true (by
  unfold hdrB
  rw [QV]
  intro x hx
  rcases List.mem_append.1 hx with hx|hx
  ·simp only [List.cons_append,List.nil_append,List.mem_cons,List.not_mem_nil,or_false] at hx
   rcases hx with rfl|rfl|rfl|rfl|rfl <;> simp [PV.low]
  ·exact (QV _).1 (of_eq_true (QcM s.name)) x hx)
 rw [hh] at hP
 refine QL hP ?_
 have hcl:∀ (L:List Int) (m:Nat),lowL m (hdrB s ++ putB L) = True:=fun L m => eq_true (by
  rw [QV]
  intro x hx
  rcases List.mem_append.1 hx with hx|hx
  ·exact (QV _).1 (of_eq_true (hlow m)) x hx
  ·exact (QV _).1 (of_eq_true (YA L)) x hx)
 have hC:∀ L:List Int,(hdrB s ++ putB L).length = 5 + s.name.size + 4 * L.length:=fun L => by rw [List.length_append,hh,Qgm]
 have hstep:∀ L N:List Int,hdrB s ++ putB L ++ putB N = hdrB s ++ putB (L ++ N):=fun L N => by rw [List.append_assoc,QnO]
 have hE:encB s = hdrB s ++ putB ([s.start,(s.samples.length:Int),(s.gaps.length:Int)] ++ gapNs s.gaps ++ bitNs s.samples):=rfl
 generalize encB s = R at hE ⊢
 simp -implicitDefEqProofs (disch:=first|omega|(simp only [go_sem,seval];first|done|omega)) only [go_sem,seval]
 have hb3:([s.start,(s.samples.length:Int),(s.gaps.length:Int)]:List Int).length = 3:=rfl
 generalize [s.start,(s.samples.length:Int),(s.gaps.length:Int)] = base at hb3 hE ⊢
 refine Qm (α:=Nat) 0 (fun k => k ≤ s.gaps.length) (fun k => M ++ [.row true 1 (5 + 2 * k) (hdrB s ++ putB (base ++ gapNs (s.gaps.take k))),.row true 1 0 [.os M.length (5 + 2 * k) 0 (hdrB s ++ putB (base ++ gapNs (s.gaps.take k))).length]])
  (fun k => [(1,.fp (Qt s).cells),(5,.op (M.length + 1) 0 0 0),(6,.fn (.func 131) [] [.op (M.length + 1) 0 0 0]),(41,.fs (s.gaps.map Qb)),(42,.I s.gaps.length),(43,.I k)]) (fun k => s.gaps.length - k) (Nat.zero_le _) ?_ rfl ?_
 ·simp [gapNs]
 intro k hk
 by_cases hlt:k < s.gaps.length
 ·obtain ⟨g,hg⟩:∃ g,s.gaps[k]? = some g:=⟨_,List.getElem?_eq_getElem hlt⟩
  have hsn:=QjD hg
  have hgl2:=Qfs (s.gaps.take k)
  have htl:(s.gaps.take k).length = k:=by rw [List.length_take];omega
  have hcl2:(hdrB s ++ putB (base ++ gapNs (s.gaps.take k))).length = 5 + s.name.size + 4 * (3 + 2 * k):=by rw [hC,List.length_append,hb3,hgl2,htl]
  have hP2:=QeG (X:=X) [g.fr,g.to_] (by simp) (M0:=M) (E:=[.row true 2 0 [Qb g]]) (v:=5 + 2 * k) (bs:=hdrB s ++ putB (base ++ gapNs (s.gaps.take k))) (by omega)
  rw [hstep,List.append_assoc,← hsn] at hP2
  have hlw:=hcl (base ++ gapNs (s.gaps.take (k + 1)))
  generalize hdrB s ++ putB (base ++ gapNs (s.gaps.take k)) = c at hP2 hcl2 ⊢
  simp -implicitDefEqProofs (disch:=first|omega|(simp only [go_sem,seval,hlt,hg,Qj,Qe];first|done|omega)) only [go_sem,seval,hlt,hg,Qj,Qe]
  refine QL hP2 ?_
  simp -implicitDefEqProofs (disch:=first|omega|(simp only [go_sem,seval,hlt,hg,Qj,Qe];first|done|omega)) only [go_sem,seval,hlt,hg,Qj,Qe]
  have hes:lowL (M.length + 2) (Qt s).cells = True:=by rw [VH];exact eq_true (by simp [lowL,PV.low,Q3,Qf])
  refine Qr hM rfl 2 (by simp) (by first|done|(simp only [go_sem,seval,hlw,hlow,YA,hes,Qf] <;> first|done|(refine ⟨?_,?_⟩ <;> omega)|omega)) (Qv (by first|done|(simp only [go_sem,seval,hlw,hlow,YA,hes,Qf] <;> first|done|(refine ⟨?_,?_⟩ <;> omega)|omega))) ?_
  simp -implicitDefEqProofs (disch:=first|omega|(simp only [go_sem,seval];first|done|omega)) only [go_sem,seval]
  exact again' (k + 1) (by omega) (by omega) rfl rfl
 have hkk:k = s.gaps.length:=by omega
 subst hkk
 rw [List.take_length]
 simp -implicitDefEqProofs (disch:=first|omega|(simp only [go_sem,seval,hlt,VH];first|done|omega)) only [go_sem,seval,hlt,VH]
 refine Qm (α:=Nat) 0 (fun j => j ≤ s.samples.length) (fun j => M ++ [.row true 1 (5 + (2 * s.gaps.length + j)) (hdrB s ++ putB (base ++ gapNs s.gaps ++ bitNs (s.samples.take j))),.row true 1 0 [.os M.length (5 + (2 * s.gaps.length + j)) 0 (hdrB s ++ putB (base ++ gapNs s.gaps ++ bitNs (s.samples.take j))).length]])
  (fun j => [(5,.op (M.length + 1) 0 0 0),(6,.fn (.func 131) [] [.op (M.length + 1) 0 0 0]),(56,.fs (s.samples.map encF)),(57,.I s.samples.length),(58,.I j)]) (fun j => s.samples.length - j) (Nat.zero_le _) ?_ rfl ?_
 ·simp [bitNs]
 intro j hj
 by_cases hlt2:j < s.samples.length
 ·obtain ⟨x,hx⟩:∃ x,s.samples[j]? = some x:=⟨_,List.getElem?_eq_getElem hlt2⟩
  have hxs:=hsm x (List.mem_of_getElem? hx)
  have hpl:=Qro hxs
  have hbs:bitNs (s.samples.take (j + 1)) = bitNs (s.samples.take j) ++ [IntKind.i64.wrap (plus0 x)]:=by
   unfold bitNs
   exact VP (f:=fun x => IntKind.i64.wrap (plus0 x:Int)) hx
  have hbl2:(bitNs (s.samples.take j)).length = j:=by unfold bitNs;rw [List.length_map,List.length_take];omega
  have hcl2:(hdrB s ++ putB (base ++ gapNs s.gaps ++ bitNs (s.samples.take j))).length = 5 + s.name.size + 4 * (3 + 2 * s.gaps.length + j):=by rw [hC,List.length_append,List.length_append,hb3,Qfs,hbl2]
  have hP2:=QeG (X:=X) [IntKind.i64.wrap (plus0 x)] (by simp) (M0:=M) (E:=[]) (v:=5 + (2 * s.gaps.length + j)) (bs:=hdrB s ++ putB (base ++ gapNs s.gaps ++ bitNs (s.samples.take j))) (by omega)
  have hb':base ++ gapNs s.gaps ++ bitNs (s.samples.take j) ++ [IntKind.i64.wrap (plus0 x)] = base ++ gapNs s.gaps ++ bitNs (s.samples.take (j + 1)):=by rw [hbs,List.append_assoc (base ++ gapNs s.gaps)]
  rw [hstep,hb'] at hP2
  have hlw:=hcl (base ++ gapNs s.gaps ++ bitNs (s.samples.take (j + 1)))
  generalize hdrB s ++ putB (base ++ gapNs s.gaps ++ bitNs (s.samples.take j)) = c at hP2 hcl2 ⊢
  simp -implicitDefEqProofs (disch:=first|omega|(simp only [go_sem,seval,hlt2,hx,r_sop,hpl];first|done|omega)) only [go_sem,seval,hlt2,hx,r_sop,hpl]
  refine Qa (QZ (hF (plus0 x) _)) ?_
  simp -implicitDefEqProofs (disch:=first|omega|(simp only [go_sem,seval];first|done|omega)) only [go_sem,seval]
  refine QL hP2 ?_
  simp -implicitDefEqProofs (disch:=first|omega|(simp only [go_sem,seval];first|done|omega)) only [go_sem,seval]
  refine Qr hM rfl 2 (by simp) (by first|done|(simp only [go_sem,seval,hlw,hlow,YA,Q3] <;> first|done|(refine ⟨?_,?_⟩ <;> omega)|omega)) (Qv (by first|done|(simp only [go_sem,seval,hlw,hlow,YA,Q3] <;> first|done|(refine ⟨?_,?_⟩ <;> omega)|omega))) ?_
  simp -implicitDefEqProofs (disch:=first|omega|(simp only [go_sem,seval];first|done|omega)) only [go_sem,seval]
  exact again' (j + 1) (by omega) (by omega) rfl rfl
 have hjj:j = s.samples.length:=by omega
 subst hjj
 rw [List.take_length]
 have hlw:=hcl (base ++ gapNs s.gaps ++ bitNs s.samples)
 rw [← hE] at hlw ⊢
 have hRt:R.take R.length = R:=List.take_length
 simp -implicitDefEqProofs (disch:=first|omega|(simp only [go_sem,seval,hlt2];first|done|omega)) only [go_sem,seval,hlt2]
 (first|refine pfN hM ?_ ?_|refine pf0 hM ?_ ?_)
 ·simp -implicitDefEqProofs (disch:=first|omega|(simp only [go_sem,seval,hRt];first|done|omega)) only [go_sem,seval,hRt]
 ·(simp only [go_sem,seval,hlw,hRt]<;>omega)
theorem Jz:Q X 97 [] (Qq farmS):=by
 intro M
 (refine Qd (cf:=L4.c97) rfl rfl fun hM hA => ?_;simp only [L4.c97,zO,zF,zT,zM,CX.i];rw [mk0];simp -implicitDefEqProofs (disch:=first|omega|(simp only [go_sem,seval,-List.reduceReplicate];first|done|omega)) only [go_sem,seval,-List.reduceReplicate])
 (first|refine pfN hM ?_ ?_|refine pf0 hM ?_ ?_)
 ·simp -implicitDefEqProofs (disch:=first|omega|(simp only [go_sem,seval,-List.reduceReplicate];first|done|omega)) only [go_sem,seval,-List.reduceReplicate]
  rfl
 ·exact of_eq_true (ZP farmS)
theorem Yi:Q X 98 [] (Qt waveS):=by
 intro M
 (refine Qd (cf:=L4.c98) rfl rfl fun hM hA => ?_;simp only [L4.c98,zO,zF,zT,zM,CX.i];rw [mk0];simp -implicitDefEqProofs (disch:=first|omega|(simp only [go_sem,seval,-List.reduceReplicate];first|done|omega)) only [go_sem,seval,-List.reduceReplicate])
 (first|refine pfN hM ?_ ?_|refine pf0 hM ?_ ?_)
 ·simp -implicitDefEqProofs (disch:=first|omega|(simp only [go_sem,seval,-List.reduceReplicate];first|done|omega)) only [go_sem,seval,-List.reduceReplicate]
  rfl
 ·exact of_eq_true (Qie waveS)
theorem aw1 (hS:SortX X):Q X 19 [.fs (([⟨0,5⟩,⟨3,8⟩,⟨9,10⟩]:List Spn).map Qb)] (.tup [.fs (([⟨0,8⟩,⟨9,10⟩]:List Spn).map Qb),.I 0]):=by
 have h:=Qgu (X:=X) hS [⟨0,5⟩,⟨3,8⟩,⟨9,10⟩] (by decide)
 rw [show QbV [⟨0,5⟩,⟨3,8⟩,⟨9,10⟩] = 0 from by decide,if_pos rfl,Qn7] at h
 exact h
theorem aw2:Q X 21 [.fs (([⟨0,8⟩,⟨9,10⟩]:List Spn).map Qb)] (.tup [.I 9,.I 0]):=by
 have h:=QgC (X:=X) [⟨0,8⟩,⟨9,10⟩] (by decide)
 rw [show Qp [⟨0,8⟩,⟨9,10⟩] = 0 from by decide,if_pos rfl,show totOf [⟨0,8⟩,⟨9,10⟩] = 9 from by decide] at h
 exact h
theorem aw3 (hS:SortX X):Q X 31 [.fs (([⟨0,8⟩,⟨9,10⟩]:List Spn).map Qb),.fs (([⟨8,9⟩]:List Spn).map Qb)] (.tup [.fs (([⟨0,10⟩]:List Spn).map Qb),.I 0]):=by
 have h:=Qir (X:=X) hS [⟨0,8⟩,⟨9,10⟩] [⟨8,9⟩] (by decide) (by decide)
 rw [Qp8] at h
 exact h
theorem aw4:Q X 33 [.fs (([⟨0,10⟩]:List Spn).map Qb),.fs (([⟨3,5⟩]:List Spn).map Qb)] (.tup [.fs (([⟨0,3⟩,⟨5,10⟩]:List Spn).map Qb),.I 0]):=by
 have h:=Qhr (X:=X) [⟨0,10⟩] [⟨3,5⟩] (by decide) (by decide)
 rw [Qol] at h
 exact h
theorem aw5:Q X 42 [Qq farmS] (.tup [.I 25,.I 0]):=by
 have h:=QeL (X:=X) farmS (by decide)
 rw [show spcE farmS = 0 from by decide,if_pos rfl,QoW] at h
 exact h
theorem aw6:Q X 44 [Qq farmS,.I 1] (.tup [Qq (mvS (trnN 1) farmS),.I 0]):=by
 have h:=QdK (X:=X) farmS 1 (by decide)
 rw [show turnE farmS 1 = 0 from by decide,if_pos rfl] at h
 exact h
theorem aw9:Q X 64 [Qt waveS] (.tup [encSt ⟨6,144,1056964608,1077936128⟩,.I 0]):=by
 have h:=QeH (X:=X) waveS (by decide) (by decide)
 unfold sumOf sumE at h
 rw [if_pos QeK,if_pos QeK,QnQ] at h
 exact h
theorem aw7 (hS:SortX X):Q X 57 [.I 2] (.tup [encPt ⟨-1,0⟩,.I 0]):=by
 have h:=QcV (X:=X) 2
 rw [show QE 2 = ⟨-1,0⟩ from by decide,show rng 2 0 7 = 0 from by decide] at h
 exact h
theorem aw8 (hS:SortX X):Q X 57 [.I 0] (.tup [encPt ⟨0,-1⟩,.I 0]):=by
 have h:=QcV (X:=X) 0
 rw [show QE 0 = ⟨0,-1⟩ from by decide,show rng 0 0 7 = 0 from by decide] at h
 exact h
theorem aw10:Q X 66 [Qt waveS,encF 1065353216,.I 1] (.tup [.fs (([⟨0,1⟩,⟨3,4⟩,⟨5,7⟩]:List Spn).map Qb),.I 0]):=by
 have h:=Qbb (X:=X) waveS 1065353216 1 (by decide) (by decide)
 unfold QbM Qce at h
 rw [show Jt waveS 1065353216 1 = 0 from by decide +kernel,if_pos rfl,Qpk,if_neg (by decide)] at h
 exact h
theorem aw11:Q X 66 [Qt waveS,encF 1065353216,.I 2] (.tup [.fs (([⟨5,7⟩]:List Spn).map Qb),.I 0]):=by
 have h:=Qbb (X:=X) waveS 1065353216 2 (by decide) (by decide)
 unfold QbM Qce at h
 rw [show Jt waveS 1065353216 2 = 0 from by decide +kernel,if_pos rfl,Qo1,if_neg (by decide)] at h
 exact h
def awRo:Rse:=incR (incR z408 7) (2 * 51 + 8)
theorem aw12:Q X 81 [Qt awA,Qt awB] (.tup [encRs awRo,.I 0]):=by
 have h:=Qhh (X:=X) awA awB (by decide) (by decide) (by decide) (by decide)
 unfold JC at h
 rw [QlZ,if_pos rfl,Qns] at h
 exact h
theorem aw14 (hI:ItoaX X) (hJ:JoinX X):Q X 92 [Qq farmS] (.tup [.s (.string (Yc farmS)),.I 0]):=by
 have h:=Ju (X:=X) hI hJ farmS (by decide)
 rw [Qrz,if_pos rfl] at h
 exact h
theorem aw15 (hF:FbitsX X):Q X 88 [Qt waveS] (.tup [.fs (encB waveS),.I 0]):=by
 have h:=Ja (X:=X) hF waveS (by decide) (by decide)
 rw [QeK,if_pos rfl] at h
 exact h
theorem Qa1:List.length awRo = 408:=by decide +kernel
theorem Qra:VK awRo = 0:=by decide +kernel
theorem aw13:Q X 58 [encRs awRo,.I 1] (.tup [encRs (trnR awRo 1 8),.I 0]):=by
 have h:=Qeo (X:=X) awRo 1 Qa1
 rw [show trnE awRo 1 = 0 from by decide +kernel,if_pos rfl] at h
 exact h
theorem aw16:Q X 61 [encRs awRo] (.I 2):=by
 have h:=Qdi (X:=X) awRo Qa1 Qra
 rw [show sumR awRo 408 = 2 from by decide +kernel] at h
 exact h
theorem Qcr {r:Rse} {i:Nat} {v:Int} (h:(r.drop i).take 1 = [v]):((r.map PV.I).drop i).take 1 = [PV.I v]:=by
 rw [← List.map_drop,← List.map_take,h];rfl
theorem r_7:(awRo.drop 7).take 1 = [1]:=by decide +kernel
theorem r_110:(awRo.drop 110).take 1 = [1]:=by decide +kernel
theorem u_109:((trnR awRo 1 8).drop 109).take 1 = [1]:=by decide +kernel
theorem u_212:((trnR awRo 1 8).drop 212).take 1 = [1]:=by decide +kernel
theorem YW (l:List Spn) (h:l.length ≤ 1048576):Q X 39 [.fs (l.map Qb),.fs (l.map Qb)] (.B true):=by
 have:=Jd (X:=X) l l h
 simpa using this
theorem QU:Qq (mvS (trnN 1) farmS) = .agg [.s (.string ⟨#[110,111,114,116,104]⟩),.I 5,.fs [.agg [.s (.string ⟨#[97]⟩),.I 0,.I 0],.agg [.s (.string ⟨#[98]⟩),.I 0,.I (-6)],.agg [.s (.string ⟨#[99]⟩),.I 4,.I (-3)]]]:=rfl
theorem aw_e0:(encB waveS).length = 57:=by decide +kernel
theorem aw_e4:(encB waveS).take 4 = QI ⟨#[87,73,78,68]⟩:=by rfl
theorem aw_es:sized 1 (encB waveS) = true:=by decide +kernel
theorem Qtb:(encB waveS)[29]? = some (u8 63):=by rfl
theorem QrN:(encB waveS)[30]? = some (u8 128):=by rfl
theorem aw_fl:QC [SK.flt,SK.flt] [encF 1056964608,encF 1077936128] [PV.s (Value.float FloatKind.f32 1056964608),PV.s (Value.float FloatKind.f32 1077936128)] = some true:=by
 have o1:(FloatKind.f32.format.order 1056964608 1056964608 == some .eq) = true:=by decide
 have o2:(FloatKind.f32.format.order 1077936128 1077936128 == some .eq) = true:=by decide
 rw [QcD,QcD,Qc4]
 simp [o1,o2]
set_option maxHeartbeats 2000000 in
theorem q_law01_awake (hS:SortX X) (hI:ItoaX X) (hJ:JoinX X) (hF:FbitsX X):Q X 17 [] (.B true):=by
 intro M
 (refine Qd (cf:=L4.c17) rfl rfl fun hM hA => ?_;simp only [L4.c17,zO,zF,zT,zM,CX.i];rw [mk0];simp -implicitDefEqProofs (disch:=first|omega|(simp only [go_sem,seval,-List.reduceReplicate];first|done|omega)) only [go_sem,seval,-List.reduceReplicate])
 refine Qa (aw1 hS _) ?_
 simp -implicitDefEqProofs (disch:=first|omega|(simp only [go_sem,seval,-List.reduceReplicate];first|done|omega)) only [go_sem,seval,-List.reduceReplicate]
 refine Qa (aw2 _) ?_
 simp -implicitDefEqProofs (disch:=first|omega|(simp only [go_sem,seval,-List.reduceReplicate];first|done|omega)) only [go_sem,seval,-List.reduceReplicate]
 refine Qa (aw3 hS _) ?_
 simp -implicitDefEqProofs (disch:=first|omega|(simp only [go_sem,seval,-List.reduceReplicate];first|done|omega)) only [go_sem,seval,-List.reduceReplicate]
 refine Qa (aw4 _) ?_
 simp -implicitDefEqProofs (disch:=first|omega|(simp only [go_sem,seval,-List.reduceReplicate];first|done|omega)) only [go_sem,seval,-List.reduceReplicate]
 refine Qa (Jz _) ?_
 simp -implicitDefEqProofs (disch:=first|omega|(simp only [go_sem,seval,-List.reduceReplicate];first|done|omega)) only [go_sem,seval,-List.reduceReplicate]
 refine Qa (aw5 _) ?_
 simp -implicitDefEqProofs (disch:=first|omega|(simp only [go_sem,seval,-List.reduceReplicate];first|done|omega)) only [go_sem,seval,-List.reduceReplicate]
 refine Qa (Jz _) ?_
 simp -implicitDefEqProofs (disch:=first|omega|(simp only [go_sem,seval,-List.reduceReplicate];first|done|omega)) only [go_sem,seval,-List.reduceReplicate]
 refine Qa (aw6 _) ?_
 simp -implicitDefEqProofs (disch:=first|omega|(simp only [go_sem,seval,-List.reduceReplicate,QU];first|done|omega)) only [go_sem,seval,-List.reduceReplicate,QU]
 refine Qa (aw7 hS _) ?_
 simp -implicitDefEqProofs (disch:=first|omega|(simp only [go_sem,seval,-List.reduceReplicate,Qo];first|done|omega)) only [go_sem,seval,-List.reduceReplicate,Qo]
 refine Qa (aw8 hS _) ?_
 simp -implicitDefEqProofs (disch:=first|omega|(simp only [go_sem,seval,-List.reduceReplicate,Qo];first|done|omega)) only [go_sem,seval,-List.reduceReplicate,Qo]
 refine Qa (Yi _) ?_
 simp -implicitDefEqProofs (disch:=first|omega|(simp only [go_sem,seval,-List.reduceReplicate];first|done|omega)) only [go_sem,seval,-List.reduceReplicate]
 refine Qa (aw9 _) ?_
 simp -implicitDefEqProofs (disch:=first|omega|(simp only [go_sem,seval,-List.reduceReplicate,QR];first|done|omega)) only [go_sem,seval,-List.reduceReplicate,QR]
 refine Qa (Yi _) ?_
 simp -implicitDefEqProofs (disch:=first|omega|(simp only [go_sem,seval,-List.reduceReplicate];first|done|omega)) only [go_sem,seval,-List.reduceReplicate]
 refine Qa (aw10 _) ?_
 simp -implicitDefEqProofs (disch:=first|omega|(simp only [go_sem,seval,-List.reduceReplicate];first|done|omega)) only [go_sem,seval,-List.reduceReplicate]
 refine Qa (Yi _) ?_
 simp -implicitDefEqProofs (disch:=first|omega|(simp only [go_sem,seval,-List.reduceReplicate];first|done|omega)) only [go_sem,seval,-List.reduceReplicate]
 refine Qa (aw11 _) ?_
 have hzI:=Qep
 have hzl:(List.map PV.I z408).length = 408:=by rw [List.length_map];exact List.length_replicate
 have hzo:=Yj z408
 have hzd:(List.map PV.I z408).drop 408 = []:=List.drop_of_length_le (by omega)
 generalize hZ:List.map PV.I z408 = Z at hzI hzl hzo hzd
 simp -implicitDefEqProofs (disch:=first|omega|(simp only [go_sem,seval,-List.reduceReplicate,hzI];first|done|omega)) only [go_sem,seval,-List.reduceReplicate,hzI]
 refine Qa (aw12 _) ?_
 have hc:=Jw Qa1
 have e12:encRs awRo = .agg (awRo.map PV.I):=rfl
 have h13:=aw13 (X:=X)
 rw [e12] at h13 ⊢
 have hcl:=hc.len
 have hct:=hc.tk
 have hco:=hc.one
 have k7:=Qcr r_7
 have k110:=Qcr r_110
 have h16:=aw16 (X:=X)
 rw [e12] at h16
 generalize awRo.map PV.I = cs at k7 k110 h16 hc hcl hct hco h13 ⊢
 have hcv:=hc.vw
 simp -implicitDefEqProofs (disch:=first|omega|(simp only [go_sem,seval,-List.reduceReplicate,hzI,hzl,hcl,hco,hct,hcv,hzd,Qs,List.append_nil];first|done|omega)) only [go_sem,seval,-List.reduceReplicate,hzI,hzl,hcl,hco,hct,hcv,hzd,Qs,List.append_nil]
 refine Qa (h13 _) ?_
 have hc2:=Jw (r:=trnR awRo 1 8) (QgO Qa1 (Nat.le_refl _))
 have e13:encRs (trnR awRo 1 8) = .agg ((trnR awRo 1 8).map PV.I):=rfl
 rw [e13]
 have hcl2:=hc2.len
 have hct2:=hc2.tk
 have hco2:=hc2.one
 have hcv2:=hc2.vw
 have k109:=Qcr u_109
 have k212:=Qcr u_212
 generalize (trnR awRo 1 8).map PV.I = ds at k109 k212 hc2 hcl2 hct2 hco2 hcv2 ⊢
 simp -implicitDefEqProofs (disch:=first|omega|(simp only [go_sem,seval,-List.reduceReplicate,hzI,hzl,hcl2,hco2,hct2,hcv2,hzd,Qs,List.append_nil];first|done|omega)) only [go_sem,seval,-List.reduceReplicate,hzI,hzl,hcl2,hco2,hct2,hcv2,hzd,Qs,List.append_nil]
 refine Qa (Jz _) ?_
 simp -implicitDefEqProofs (disch:=first|omega|(simp only [go_sem,seval,-List.reduceReplicate];first|done|omega)) only [go_sem,seval,-List.reduceReplicate]
 refine Qa (aw14 hI hJ _) ?_
 simp -implicitDefEqProofs (disch:=first|omega|(simp only [go_sem,seval,-List.reduceReplicate];first|done|omega)) only [go_sem,seval,-List.reduceReplicate]
 refine Qa (Yi _) ?_
 simp -implicitDefEqProofs (disch:=first|omega|(simp only [go_sem,seval,-List.reduceReplicate];first|done|omega)) only [go_sem,seval,-List.reduceReplicate]
 refine Qa (aw15 hF _) ?_
 have hEl:=aw_e0
 have hE4:=aw_e4
 have hEs:=aw_es
 have hE29:=Qtb
 have hE30:=QrN
 generalize encB waveS = eb at hEl hE4 hEs hE29 hE30 ⊢
 simp -implicitDefEqProofs (disch:=first|omega|(simp only [go_sem,seval,-List.reduceReplicate,QU,hEl];first|done|omega)) only [go_sem,seval,-List.reduceReplicate,QU,hEl]
 refine Qa (YW [⟨0,8⟩,⟨9,10⟩] (by decide) _) ?_
 simp -implicitDefEqProofs (disch:=first|omega|(simp only [go_sem,seval,-List.reduceReplicate,QU,hEl];first|done|omega)) only [go_sem,seval,-List.reduceReplicate,QU,hEl]
 refine Qa (YW [⟨0,10⟩] (by decide) _) ?_
 simp -implicitDefEqProofs (disch:=first|omega|(simp only [go_sem,seval,-List.reduceReplicate,QU,hEl];first|done|omega)) only [go_sem,seval,-List.reduceReplicate,QU,hEl]
 refine Qa (YW [⟨0,3⟩,⟨5,10⟩] (by decide) _) ?_
 have hfl:=aw_fl
 simp -implicitDefEqProofs (disch:=first|omega|(simp only [go_sem,seval,-List.reduceReplicate,QU,hEl,hfl];first|done|omega)) only [go_sem,seval,-List.reduceReplicate,QU,hEl,hfl]
 refine Qa (YW [⟨0,1⟩,⟨3,4⟩,⟨5,7⟩] (by decide) _) ?_
 simp -implicitDefEqProofs (disch:=first|omega|(simp only [go_sem,seval,-List.reduceReplicate,QU,hEl,hfl];first|done|omega)) only [go_sem,seval,-List.reduceReplicate,QU,hEl,hfl]
 refine Qa (YW [⟨5,7⟩] (by decide) _) ?_
 simp -implicitDefEqProofs (disch:=first|omega|(simp only [go_sem,seval,-List.reduceReplicate,QU,hEl,hfl,k7,k110,k109,k212,hcl,hct,hcv,hcl2];first|done|omega)) only [go_sem,seval,-List.reduceReplicate,QU,hEl,hfl,k7,k110,k109,k212,hcl,hct,hcv,hcl2]
 refine Qa (h16 _) ?_
 simp -implicitDefEqProofs (disch:=first|omega|(simp only [go_sem,seval,-List.reduceReplicate,QU,Qgf,hEl,hE4,hEs,hE29,hE30,hfl,k7,k110,k109,k212,hcl,hct,hcv,hcl2,hct2,QO];first|done|omega)) only [go_sem,seval,-List.reduceReplicate,QU,Qgf,hEl,hE4,hEs,hE29,hE30,hfl,k7,k110,k109,k212,hcl,hct,hcv,hcl2,hct2,QO]
 (all_goals (first|refine pfN hM ?_ ?_|refine pf0 hM ?_ ?_);all_goals first|(simp only [go_sem,seval,-List.reduceReplicate]<;>omega)|skip;all_goals (try simp -implicitDefEqProofs (disch:=first|omega|(simp only [go_sem,seval,-List.reduceReplicate];first|done|omega)) only [go_sem,seval,-List.reduceReplicate]))
def Fc:Prog
 | 148 => some c148
 | 149 => some c149
 | 168 => some c168
 | _ => none
abbrev Qc (f:FuncId) (args:List PV) (r:PV):Prop:=∀ M,ACall Fc (fun _ _ _ _ _ => False) (.fn f) args M r M
theorem Qhx (x:Int):Qc 168 [.I x] (.B false):=by
 intro M
 (refine Qd (cf:=L4.c168) rfl rfl fun hM hA => ?_;simp only [L4.c168,zO,zF,zT,zM,CX.i];rw [mk1 _ (by decide)];simp -implicitDefEqProofs (disch:=first|omega|(simp only [go_sem,seval];first|done|omega)) only [go_sem,seval])
 (all_goals (first|refine pfN hM ?_ ?_|refine pf0 hM ?_ ?_);all_goals first|(simp only [go_sem,seval]<;>omega)|skip;all_goals (try simp -implicitDefEqProofs (disch:=first|omega|(simp only [go_sem,seval];first|done|omega)) only [go_sem,seval]))
 all_goals simp
theorem Qjt (x y:Int):Qc 149 [.I x,.I y] (.I (if x < y then -1 else if y < x then 1 else 0)):=by
 intro M
 (refine Qd (cf:=L4.c149) rfl rfl fun hM hA => ?_;simp only [L4.c149,zO,zF,zT,zM,CX.i];rw [mk2 _ (by decide)];simp -implicitDefEqProofs (disch:=first|omega|(simp only [go_sem,seval];first|done|omega)) only [go_sem,seval])
 refine Qa (Qhx x _) ?_
 simp -implicitDefEqProofs (disch:=first|omega|(simp only [go_sem,seval];first|done|omega)) only [go_sem,seval]
 refine Qa (Qhx y _) ?_
 simp -implicitDefEqProofs (disch:=first|omega|(simp only [go_sem,seval];first|done|omega)) only [go_sem,seval]
 by_cases h1:x < y
 ·simp -implicitDefEqProofs (disch:=first|omega|(simp only [go_sem,seval,h1];first|done|omega)) only [go_sem,seval,h1]
  (all_goals (first|refine pfN hM ?_ ?_|refine pf0 hM ?_ ?_);all_goals first|(simp only [go_sem,seval]<;>omega)|skip;all_goals (try simp -implicitDefEqProofs (disch:=first|omega|(simp only [go_sem,seval];first|done|omega)) only [go_sem,seval]))
 ·by_cases h2:y < x
  ·simp -implicitDefEqProofs (disch:=first|omega|(simp only [go_sem,seval,h1,h2];first|done|omega)) only [go_sem,seval,h1,h2]
   (all_goals (first|refine pfN hM ?_ ?_|refine pf0 hM ?_ ?_);all_goals first|(simp only [go_sem,seval]<;>omega)|skip;all_goals (try simp -implicitDefEqProofs (disch:=first|omega|(simp only [go_sem,seval];first|done|omega)) only [go_sem,seval]))
  ·simp -implicitDefEqProofs (disch:=first|omega|(simp only [go_sem,seval,h1,h2];first|done|omega)) only [go_sem,seval,h1,h2]
   (all_goals (first|refine pfN hM ?_ ?_|refine pf0 hM ?_ ?_);all_goals first|(simp only [go_sem,seval]<;>omega)|skip;all_goals (try simp -implicitDefEqProofs (disch:=first|omega|(simp only [go_sem,seval];first|done|omega)) only [go_sem,seval]))
theorem qc_canon (x y:Spn):Qc 148 [Qb x,Qb y] (.I (Vr x y)):=by
 intro M
 (refine Qd (cf:=L4.c148) rfl rfl fun hM hA => ?_;simp only [L4.c148,zO,zF,zT,zM,CX.i];rw [mk2 _ (by decide)];simp -implicitDefEqProofs (disch:=first|omega|(simp only [go_sem,seval,Qe];first|done|omega)) only [go_sem,seval,Qe])
 refine Qa (Qjt x.fr y.fr _) ?_
 have e:Vr x y = if x.fr < y.fr then -1 else if y.fr < x.fr then 1 else 0:=rfl
 rw [e]
 simp -implicitDefEqProofs (disch:=first|omega|(simp only [go_sem,seval];first|done|omega)) only [go_sem,seval]
 (all_goals (first|refine pfN hM ?_ ?_|refine pf0 hM ?_ ?_);all_goals first|(simp only [go_sem,seval]<;>omega)|skip;all_goals (try simp -implicitDefEqProofs (disch:=first|omega|(simp only [go_sem,seval];first|done|omega)) only [go_sem,seval]))
end
end Go.Nac.L4
