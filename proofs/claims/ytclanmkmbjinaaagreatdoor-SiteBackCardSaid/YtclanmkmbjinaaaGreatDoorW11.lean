import Derived.Test.YtclanmkmbjinaaaGreatDoorW10
set_option linter.unusedSimpArgs false
set_option linter.unusedVariables false
set_option linter.unnecessarySimpa false
set_option maxRecDepth 10000
namespace Go.Nac.L4
attribute [local congr] Zx VT ZC Vz VA Vt Zs ZD
section
variable {X:XRel}
theorem QfU (s:Ste) (hl:s.tbs.length ≤ 1048576):Q X 43 [Qq s] (Qq s):=by
 obtain ⟨nm,least,l⟩:=s
 simp only at hl ⊢
 have e:Qq ⟨nm,least,l⟩ = .agg [.s (.string nm),.I least,.fs (l.map encTb)]:=rfl
 rw [e]
 clear e
 intro M
 have hz:zSte = .agg [.s (.string ⟨#[]⟩),.I 0,.s (.slice none 0 0)]:=rfl
 (refine Qd (cf:=L4.c43) rfl rfl fun hM hA => ?_;simp only [L4.c43,zO,zF,zT,zM,CX.i];rw [mk1 _ (by decide)];simp -implicitDefEqProofs (disch:=first|omega|(simp only [go_sem,seval,Zv];first|done|omega)) only [go_sem,seval,Zv])
 refine Qm (α:=Nat) 0 (fun k => k ≤ l.length) (fun k => M ++ [.row true 3 0 [zSte],.row true 3 0 [.agg [.s (.string nm),.I least,.os (M.length + 2) (l.take k).length 0 (l.take k).length]],.row true 3 (l.take k).length ((l.take k).map encTb)])
  (fun k => [(2,.op M.length 0 0 0),(3,.op (M.length + 1) 0 0 0),(12,.fs (l.map encTb)),(13,.I l.length),(14,.I k)]) (fun k => l.length - k) (Nat.zero_le _) rfl rfl ?_
 intro k hk
 by_cases hlt:k < l.length
 ·obtain ⟨x,hx⟩:∃ x,l[k]? = some x:=⟨_,List.getElem?_eq_getElem hlt⟩
  have htl:(l.take k).length = k:=by rw [List.length_take];omega
  have hs:l.take (k + 1) = l.take k ++ [x]:=by
   obtain ⟨h3,h4⟩:=List.getElem?_eq_some_iff.1 hx
   rw [List.take_succ_eq_append_getElem h3,h4]
  have again:∀ o:List Tb,l.take (k + 1) = o → Again 26 (fun k => k ≤ l.length) (fun k => M ++ [.row true 3 0 [zSte],.row true 3 0 [.agg [.s (.string nm),.I least,.os (M.length + 2) (l.take k).length 0 (l.take k).length]],.row true 3 (l.take k).length ((l.take k).map encTb)])
   (fun k => [(2,.op M.length 0 0 0),(3,.op (M.length + 1) 0 0 0),(12,.fs (l.map encTb)),(13,.I l.length),(14,.I k)]) (fun k => l.length - k) k
   (M ++ [.row true 3 0 [zSte],.row true 3 0 [.agg [.s (.string nm),.I least,.os (M.length + 2) o.length 0 o.length]],.row true 3 o.length (o.map encTb)]) (mk 26 [(2,.op M.length 0 0 0),(3,.op (M.length + 1) 0 0 0),(12,.fs (l.map encTb)),(13,.I l.length),(14,.I (k + 1))]):=by
   rintro o rfl
   exact again' (k + 1) (by omega) (by omega) rfl rfl
  rw [hs] at again
  clear hs
  generalize l.take k = o at htl again ⊢
  have f0:((k:Int) < l.length) = True:=eq_true (by omega)
  simp -implicitDefEqProofs (disch:=first|omega|(simp only [go_sem,seval,hlt,f0,hx,Qh,Qi];first|done|omega)) only [go_sem,seval,hlt,f0,hx,Qh,Qi]
  refine Qr hM rfl 3 (by simp) (by first|done|(simp only [go_sem,seval,QF,Yy] <;> first|done|(refine ⟨?_,?_⟩ <;> omega)|omega)) (Qv (by first|done|(simp only [go_sem,seval,QF,Yy] <;> first|done|(refine ⟨?_,?_⟩ <;> omega)|omega))) ?_
  simp -implicitDefEqProofs (disch:=first|omega|(simp only [go_sem,seval];first|done|omega)) only [go_sem,seval]
  simpa [encTb] using again _ rfl
 ·simp -implicitDefEqProofs (disch:=first|omega|(simp only [go_sem,seval,hlt];first|done|omega)) only [go_sem,seval,hlt]
  rw [List.take_of_length_le (by omega)]
  simp -implicitDefEqProofs (disch:=first|omega|(simp only [go_sem,seval,hz];first|done|omega)) only [go_sem,seval,hz]
  (first|refine pfN hM ?_ ?_|refine pf0 hM ?_ ?_)
  ·simp -implicitDefEqProofs (disch:=first|omega|(simp only [go_sem,seval];first|done|omega)) only [go_sem,seval]
   rw [List.take_of_length_le (by rw [List.length_map];omega)]
  ·(simp only [go_sem,seval,QF]<;>omega)
theorem QiG (s:Ste) (hl:s.tbs.length ≤ 1048576):Q X 55 [Qq s] (Qq s):=by
 obtain ⟨nm,least,l⟩:=s
 simp only at hl ⊢
 have e:Qq ⟨nm,least,l⟩ = .agg [.s (.string nm),.I least,.fs (l.map encTb)]:=rfl
 rw [e]
 clear e
 intro M
 have hz:zSte = .agg [.s (.string ⟨#[]⟩),.I 0,.s (.slice none 0 0)]:=rfl
 (refine Qd (cf:=L4.c55) rfl rfl fun hM hA => ?_;simp only [L4.c55,zO,zF,zT,zM,CX.i];rw [mk1 _ (by decide)];simp -implicitDefEqProofs (disch:=first|omega|(simp only [go_sem,seval,Zv];first|done|omega)) only [go_sem,seval,Zv])
 refine Qm (α:=Nat) 0 (fun k => k ≤ l.length) (fun k => M ++ [.row true 3 0 [zSte],.row true 3 0 [.agg [.s (.string nm),.I least,.os (M.length + 2) (l.take k).length 0 (l.take k).length]],.row true 3 (l.take k).length ((l.take k).map encTb)])
  (fun k => [(2,.op M.length 0 0 0),(3,.op (M.length + 1) 0 0 0),(12,.fs (l.map encTb)),(13,.I l.length),(14,.I k)]) (fun k => l.length - k) (Nat.zero_le _) rfl rfl ?_
 intro k hk
 by_cases hlt:k < l.length
 ·obtain ⟨x,hx⟩:∃ x,l[k]? = some x:=⟨_,List.getElem?_eq_getElem hlt⟩
  have htl:(l.take k).length = k:=by rw [List.length_take];omega
  have hs:l.take (k + 1) = l.take k ++ [x]:=by
   obtain ⟨h3,h4⟩:=List.getElem?_eq_some_iff.1 hx
   rw [List.take_succ_eq_append_getElem h3,h4]
  have again:∀ o:List Tb,l.take (k + 1) = o → Again 26 (fun k => k ≤ l.length) (fun k => M ++ [.row true 3 0 [zSte],.row true 3 0 [.agg [.s (.string nm),.I least,.os (M.length + 2) (l.take k).length 0 (l.take k).length]],.row true 3 (l.take k).length ((l.take k).map encTb)])
   (fun k => [(2,.op M.length 0 0 0),(3,.op (M.length + 1) 0 0 0),(12,.fs (l.map encTb)),(13,.I l.length),(14,.I k)]) (fun k => l.length - k) k
   (M ++ [.row true 3 0 [zSte],.row true 3 0 [.agg [.s (.string nm),.I least,.os (M.length + 2) o.length 0 o.length]],.row true 3 o.length (o.map encTb)]) (mk 26 [(2,.op M.length 0 0 0),(3,.op (M.length + 1) 0 0 0),(12,.fs (l.map encTb)),(13,.I l.length),(14,.I (k + 1))]):=by
   rintro o rfl
   exact again' (k + 1) (by omega) (by omega) rfl rfl
  rw [hs] at again
  clear hs
  generalize l.take k = o at htl again ⊢
  have f0:((k:Int) < l.length) = True:=eq_true (by omega)
  simp -implicitDefEqProofs (disch:=first|omega|(simp only [go_sem,seval,hlt,f0,hx,Qh,Qi];first|done|omega)) only [go_sem,seval,hlt,f0,hx,Qh,Qi]
  refine Qr hM rfl 3 (by simp) (by first|done|(simp only [go_sem,seval,QF,Yy] <;> first|done|(refine ⟨?_,?_⟩ <;> omega)|omega)) (Qv (by first|done|(simp only [go_sem,seval,QF,Yy] <;> first|done|(refine ⟨?_,?_⟩ <;> omega)|omega))) ?_
  simp -implicitDefEqProofs (disch:=first|omega|(simp only [go_sem,seval];first|done|omega)) only [go_sem,seval]
  simpa [encTb] using again _ rfl
 ·simp -implicitDefEqProofs (disch:=first|omega|(simp only [go_sem,seval,hlt];first|done|omega)) only [go_sem,seval,hlt]
  rw [List.take_of_length_le (by omega)]
  simp -implicitDefEqProofs (disch:=first|omega|(simp only [go_sem,seval,hz];first|done|omega)) only [go_sem,seval,hz]
  (first|refine pfN hM ?_ ?_|refine pf0 hM ?_ ?_)
  ·simp -implicitDefEqProofs (disch:=first|omega|(simp only [go_sem,seval];first|done|omega)) only [go_sem,seval]
   rw [List.take_of_length_le (by rw [List.length_map];omega)]
  ·(simp only [go_sem,seval,QF]<;>omega)
def Qb0 (s:Ste):Bool:=decide (s.name.size ≤ 60) && (decide (s.tbs.length ≤ 10) || decide (s.tbs.length = 65)) && s.tbs.all fun t => decide (t.name.size ≤ 60)
theorem Qcw (s:Ste):Q X 41 [Qq s,.I 10] (.B (Qb0 s)):=by
 obtain ⟨nm,least,l⟩:=s
 have e:Qq ⟨nm,least,l⟩ = .agg [.s (.string nm),.I least,.fs (l.map encTb)]:=rfl
 rw [e]
 clear e
 unfold Qb0
 simp only
 intro M
 by_cases h1:nm.size ≤ 60
 case neg =>
  have f1:((60:Int) < nm.size) = True:=eq_true (by omega)
  (refine Qd (cf:=L4.c41) rfl rfl fun hM hA => ?_;simp only [L4.c41,zO,zF,zT,zM,CX.i];rw [mk2 _ (by decide)];simp -implicitDefEqProofs (disch:=first|omega|(simp only [go_sem,seval,f1];first|done|omega)) only [go_sem,seval,f1])
  (first|refine pfN hM ?_ ?_|refine pf0 hM ?_ ?_)
  ·simp -implicitDefEqProofs (disch:=first|omega|(simp only [go_sem,seval];first|done|omega)) only [go_sem,seval]
   rw [decide_eq_false h1];rfl
  ·(simp only [go_sem,seval]<;>omega)
 have f1:((60:Int) < nm.size) = False:=eq_false (by omega)
 rw [decide_eq_true h1,Bool.true_and]
 by_cases h2:l.length ≤ 10 ∨ l.length = 65
 case neg =>
  have f2:((10:Int) < l.length) = True:=eq_true (by omega)
  have f3:((l.length:Int) = 65) = False:=eq_false (by omega)
  (refine Qd (cf:=L4.c41) rfl rfl fun hM hA => ?_;simp only [L4.c41,zO,zF,zT,zM,CX.i];rw [mk2 _ (by decide)];simp -implicitDefEqProofs (disch:=first|omega|(simp only [go_sem,seval,f1,f2,f3];first|done|omega)) only [go_sem,seval,f1,f2,f3])
  (first|refine pfN hM ?_ ?_|refine pf0 hM ?_ ?_)
  ·simp -implicitDefEqProofs (disch:=first|omega|(simp only [go_sem,seval];first|done|omega)) only [go_sem,seval]
   rw [decide_eq_false (show ¬ l.length ≤ 10 from by omega),decide_eq_false (show ¬ l.length = 65 from by omega)];rfl
  ·(simp only [go_sem,seval]<;>omega)
 have h3:(decide (l.length ≤ 10) || decide (l.length = 65)) = true:=by rcases h2 with h|h <;> simp [h]
 rw [h3,Bool.true_and]
 (refine Qd (cf:=L4.c41) rfl rfl fun hM hA => ?_;simp only [L4.c41,zO,zF,zT,zM,CX.i];rw [mk2 _ (by decide)];simp -implicitDefEqProofs (disch:=first|omega|(simp only [go_sem,seval,f1];first|done|omega)) only [go_sem,seval,f1])
 have hc:((10:Int) < l.length ∧ ¬ (l.length:Int) = 65) = False:=eq_false (by omega)
 by_cases h4:(10:Int) < l.length
 ·have f3:((l.length:Int) = 65) = True:=eq_true (by omega)
  simp -implicitDefEqProofs (disch:=first|omega|(simp only [go_sem,seval,h4,f3];first|done|omega)) only [go_sem,seval,h4,f3]
  refine Qm (α:=Nat) 0 (fun k => k ≤ l.length ∧ (l.take k).all (fun t => decide (t.name.size ≤ 60)) = true) (fun _ => M) (fun k => [(2,.fp [.s (.string nm),.I least,.fs (l.map encTb)]),(5,.I k)]) (fun k => l.length - k) ⟨Nat.zero_le _,rfl⟩ rfl rfl ?_
  rintro k ⟨hk,hs⟩
  by_cases hlt:k < l.length
  ·obtain ⟨x,hx⟩:∃ x,l[k]? = some x:=⟨_,List.getElem?_eq_getElem hlt⟩
   simp -implicitDefEqProofs (disch:=first|omega|(simp only [go_sem,seval,hlt,hx,Qh,Qi];first|done|omega)) only [go_sem,seval,hlt,hx,Qh,Qi]
   by_cases hn:x.name.size ≤ 60
   ·have fn:((60:Int) < x.name.size) = False:=eq_false (by omega)
    simp -implicitDefEqProofs (disch:=first|omega|(simp only [go_sem,seval,fn];first|done|omega)) only [go_sem,seval,fn]
    refine again' (k + 1) ⟨by omega,?_⟩ (by omega) rfl rfl
    obtain ⟨g3,g4⟩:=List.getElem?_eq_some_iff.1 hx
    rw [List.take_succ_eq_append_getElem g3,g4,List.all_append,hs];simp [hn]
   ·have fn:((60:Int) < x.name.size) = True:=eq_true (by omega)
    simp -implicitDefEqProofs (disch:=first|omega|(simp only [go_sem,seval,fn];first|done|omega)) only [go_sem,seval,fn]
    (first|refine pfN hM ?_ ?_|refine pf0 hM ?_ ?_)
    ·simp -implicitDefEqProofs (disch:=first|omega|(simp only [go_sem,seval];first|done|omega)) only [go_sem,seval]
     congr 1;symm
     rw [List.all_eq_false]
     exact ⟨x,List.mem_of_getElem? hx,by simpa using hn⟩
    ·(simp only [go_sem,seval]<;>omega)
  ·simp -implicitDefEqProofs (disch:=first|omega|(simp only [go_sem,seval,hlt];first|done|omega)) only [go_sem,seval,hlt]
   (first|refine pfN hM ?_ ?_|refine pf0 hM ?_ ?_)
   ·simp -implicitDefEqProofs (disch:=first|omega|(simp only [go_sem,seval];first|done|omega)) only [go_sem,seval]
    rw [List.take_of_length_le (by omega)] at hs
    rw [hs]
   ·(simp only [go_sem,seval]<;>omega)
 ·simp -implicitDefEqProofs (disch:=first|omega|(simp only [go_sem,seval,h4];first|done|omega)) only [go_sem,seval,h4]
  refine Qm (α:=Nat) 0 (fun k => k ≤ l.length ∧ (l.take k).all (fun t => decide (t.name.size ≤ 60)) = true) (fun _ => M) (fun k => [(2,.fp [.s (.string nm),.I least,.fs (l.map encTb)]),(5,.I k)]) (fun k => l.length - k) ⟨Nat.zero_le _,rfl⟩ rfl rfl ?_
  rintro k ⟨hk,hs⟩
  by_cases hlt:k < l.length
  ·obtain ⟨x,hx⟩:∃ x,l[k]? = some x:=⟨_,List.getElem?_eq_getElem hlt⟩
   simp -implicitDefEqProofs (disch:=first|omega|(simp only [go_sem,seval,hlt,hx,Qh,Qi];first|done|omega)) only [go_sem,seval,hlt,hx,Qh,Qi]
   by_cases hn:x.name.size ≤ 60
   ·have fn:((60:Int) < x.name.size) = False:=eq_false (by omega)
    simp -implicitDefEqProofs (disch:=first|omega|(simp only [go_sem,seval,fn];first|done|omega)) only [go_sem,seval,fn]
    refine again' (k + 1) ⟨by omega,?_⟩ (by omega) rfl rfl
    obtain ⟨g3,g4⟩:=List.getElem?_eq_some_iff.1 hx
    rw [List.take_succ_eq_append_getElem g3,g4,List.all_append,hs];simp [hn]
   ·have fn:((60:Int) < x.name.size) = True:=eq_true (by omega)
    simp -implicitDefEqProofs (disch:=first|omega|(simp only [go_sem,seval,fn];first|done|omega)) only [go_sem,seval,fn]
    (first|refine pfN hM ?_ ?_|refine pf0 hM ?_ ?_)
    ·simp -implicitDefEqProofs (disch:=first|omega|(simp only [go_sem,seval];first|done|omega)) only [go_sem,seval]
     congr 1;symm
     rw [List.all_eq_false]
     exact ⟨x,List.mem_of_getElem? hx,by simpa using hn⟩
    ·(simp only [go_sem,seval]<;>omega)
  ·simp -implicitDefEqProofs (disch:=first|omega|(simp only [go_sem,seval,hlt];first|done|omega)) only [go_sem,seval,hlt]
   (first|refine pfN hM ?_ ?_|refine pf0 hM ?_ ?_)
   ·simp -implicitDefEqProofs (disch:=first|omega|(simp only [go_sem,seval];first|done|omega)) only [go_sem,seval]
    rw [List.take_of_length_le (by omega)] at hs
    rw [hs]
   ·(simp only [go_sem,seval]<;>omega)
theorem Qde (a b:Ste) (hl:a.tbs.length ≤ 1048576):Q X 54 [Qq a,Qq b] (.B (decide (a.name = b.name ∧ a.least = b.least ∧ a.tbs = b.tbs))):=by
 obtain ⟨na,la,ta⟩:=a
 obtain ⟨nb,lb,tb⟩:=b
 have e1:Qq ⟨na,la,ta⟩ = .agg [.s (.string na),.I la,.fs (ta.map encTb)]:=rfl
 have e2:Qq ⟨nb,lb,tb⟩ = .agg [.s (.string nb),.I lb,.fs (tb.map encTb)]:=rfl
 rw [e1,e2]
 clear e1 e2
 simp only at hl ⊢
 intro M
 by_cases h1:na = nb
 case neg =>
  (refine Qd (cf:=L4.c54) rfl rfl fun hM hA => ?_;simp only [L4.c54,zO,zF,zT,zM,CX.i];rw [mk2 _ (by decide)];simp -implicitDefEqProofs (disch:=first|omega|(simp only [go_sem,seval,Vd,h1];first|done|omega)) only [go_sem,seval,Vd,h1])
  (first|refine pfN hM ?_ ?_|refine pf0 hM ?_ ?_)
  ·simp -implicitDefEqProofs (disch:=first|omega|(simp only [go_sem,seval];first|done|omega)) only [go_sem,seval]
   simp [h1]
  ·(simp only [go_sem,seval]<;>omega)
 by_cases h2:la = lb
 case neg =>
  (refine Qd (cf:=L4.c54) rfl rfl fun hM hA => ?_;simp only [L4.c54,zO,zF,zT,zM,CX.i];rw [mk2 _ (by decide)];simp -implicitDefEqProofs (disch:=first|omega|(simp only [go_sem,seval,Vd,h1,h2];first|done|omega)) only [go_sem,seval,Vd,h1,h2])
  (first|refine pfN hM ?_ ?_|refine pf0 hM ?_ ?_)
  ·simp -implicitDefEqProofs (disch:=first|omega|(simp only [go_sem,seval];first|done|omega)) only [go_sem,seval]
   simp [h2]
  ·(simp only [go_sem,seval]<;>omega)
 by_cases h3:ta.length = tb.length
 case neg =>
  have f3:((ta.length:Int) = tb.length) = False:=eq_false (by omega)
  (refine Qd (cf:=L4.c54) rfl rfl fun hM hA => ?_;simp only [L4.c54,zO,zF,zT,zM,CX.i];rw [mk2 _ (by decide)];simp -implicitDefEqProofs (disch:=first|omega|(simp only [go_sem,seval,Vd,h1,h2,f3];first|done|omega)) only [go_sem,seval,Vd,h1,h2,f3])
  (first|refine pfN hM ?_ ?_|refine pf0 hM ?_ ?_)
  ·simp -implicitDefEqProofs (disch:=first|omega|(simp only [go_sem,seval];first|done|omega)) only [go_sem,seval]
   have h4:¬ ta = tb:=fun h => h3 (by rw [h])
   simp [h4]
  ·(simp only [go_sem,seval]<;>omega)
 have f3:((ta.length:Int) = tb.length) = True:=eq_true (by omega)
 (refine Qd (cf:=L4.c54) rfl rfl fun hM hA => ?_;simp only [L4.c54,zO,zF,zT,zM,CX.i];rw [mk2 _ (by decide)];simp -implicitDefEqProofs (disch:=first|omega|(simp only [go_sem,seval,Vd,h1,h2,f3];first|done|omega)) only [go_sem,seval,Vd,h1,h2,f3])
 refine Qm (α:=Nat) 0 (fun k => k ≤ ta.length ∧ ta.take k = tb.take k) (fun k => M) (fun k => [(2,.fp [.s (.string na),.I la,.fs (ta.map encTb)]),(3,.fp [.s (.string nb),.I lb,.fs (tb.map encTb)]),(5,.I k)]) (fun k => ta.length - k) ⟨Nat.zero_le _,rfl⟩ rfl (by simp only [h1,h2];rfl) ?_
 rintro k ⟨hk,hs⟩
 by_cases hlt:k < ta.length
 ·obtain ⟨x,hx⟩:∃ x,ta[k]? = some x:=⟨_,List.getElem?_eq_getElem hlt⟩
  obtain ⟨y,hy⟩:∃ y,tb[k]? = some y:=⟨_,List.getElem?_eq_getElem (by omega)⟩
  have hlt2:k < tb.length:=by omega
  have heq:QC [.str,.int,.int] [.s (.string x.name),.I x.x,.I x.y] [.s (.string y.name),.I y.x,.I y.y] = some (decide (x = y)):=by
   simp only [QC,eqSK,Option.bind_some,Option.bind_eq_bind,pure,if_true,Qd6]
   obtain ⟨n1,x1,y1⟩:=x
   obtain ⟨n2,x2,y2⟩:=y
   by_cases g1:n1 = n2 <;> by_cases g2:x1 = x2 <;> by_cases g3:y1 = y2 <;> simp [g1,g2,g3]
  simp -implicitDefEqProofs (disch:=first|omega|(simp only [go_sem,seval,hlt,hlt2,hx,hy,Qh,Qi,Jx,heq];first|done|omega)) only [go_sem,seval,hlt,hlt2,hx,hy,Qh,Qi,Jx,heq]
  by_cases hxy:x = y
  ·simp -implicitDefEqProofs (disch:=first|omega|(simp only [go_sem,seval,hxy];first|done|omega)) only [go_sem,seval,hxy]
   refine again' (k + 1) ⟨by omega,?_⟩ (by omega) rfl rfl
   have g1:=VP (f:=id) hx;have g2:=VP (f:=id) hy
   simp only [List.map_id] at g1 g2
   rw [g1,g2,hs,hxy]
  ·simp -implicitDefEqProofs (disch:=first|omega|(simp only [go_sem,seval,hxy];first|done|omega)) only [go_sem,seval,hxy]
   (first|refine pfN hM ?_ ?_|refine pf0 hM ?_ ?_)
   ·simp -implicitDefEqProofs (disch:=first|omega|(simp only [go_sem,seval];first|done|omega)) only [go_sem,seval]
    have h4:¬ ta = tb:=by
     rintro rfl
     rw [hx] at hy;cases hy;exact hxy rfl
    simp [h4]
   ·(simp only [go_sem,seval]<;>omega)
 ·simp -implicitDefEqProofs (disch:=first|omega|(simp only [go_sem,seval,hlt];first|done|omega)) only [go_sem,seval,hlt]
  (first|refine pfN hM ?_ ?_|refine pf0 hM ?_ ?_)
  ·simp -implicitDefEqProofs (disch:=first|omega|(simp only [go_sem,seval];first|done|omega)) only [go_sem,seval]
   rw [List.take_of_length_le (by omega),List.take_of_length_le (by omega)] at hs
   simp [h1,h2,hs]
  ·(simp only [go_sem,seval]<;>omega)
end
end Go.Nac.L4
namespace Go.Nac.L4
attribute [local congr] Zx VT ZC Vz VA Vt Zs ZD
section
variable {X:XRel}
open Ieee
theorem QeJ (s:Ser) (hl:s.samples.length ≤ 1000000) (hgl:s.gaps.length ≤ 1000000):Q X 65 [Qt s] (Qt s):=by
 have es:=Qg s
 have ok1:=Qp2 s.samples
 have ln1:(s.samples.map encF).length = s.samples.length:=by simp
 have hs:=Qhy (X:=X) s.gaps hgl
 have lw1:∀ m,lowL m (s.samples.map encF) = True:=fun m => Q3 _
 have lw2:∀ m,lowL m (s.gaps.map Qb) = True:=fun m => Qf _
 rw [es]
 intro M
 (refine Qd (cf:=L4.c65) rfl rfl fun hM hA => ?_;simp only [L4.c65,zO,zF,zT,zM,CX.i];rw [mk1 _ (by decide)];simp -implicitDefEqProofs (disch:=first|omega|(simp only [go_sem,seval,ok1,ln1];first|done|omega)) only [go_sem,seval,ok1,ln1])
 refine Qa (hs _) ?_
 simp -implicitDefEqProofs (disch:=first|omega|(simp only [go_sem,seval,Qfv,Qmm,fzs_s,QiZ,ln1];first|done|omega)) only [go_sem,seval,Qfv,Qmm,fzs_s,QiZ,ln1]
 refine ⟨by simp [Jp,JA,ZO,refs,refs1],?_⟩
 (first|refine pfN hM ?_ ?_|refine pf0 hM ?_ ?_)
 ·simp -implicitDefEqProofs (disch:=first|omega|(simp only [go_sem,seval,ln1];first|done|omega)) only [go_sem,seval,ln1]
 ·(simp only [go_sem,seval,lw1,lw2]<;>omega)
def recQ (l:List Nat) (g:List Spn) (k:Nat):List (Nat × Nat):=(recK l g k).map p0
def sumQ (s:Ser):Stt:=sttTo (recQ s.samples s.gaps s.samples.length)
end
end Go.Nac.L4
namespace Go.Nac.L4
attribute [local congr] Zx VT ZC Vz VA Vt Zs ZD
section
variable {X:XRel}
theorem QkS {s:Ser} (h:Js s = true):s.samples.length ≤ 40001 ∧ s.gaps.length ≤ 1025:=by
 unfold Js at h
 simp only [Bool.and_eq_true,Bool.or_eq_true,decide_eq_true_eq] at h
 omega
theorem QgM (s:Ser):Q X 86 [Qt s] (Qt s):=by
 have es:=Qg s
 have lw1:∀ m,lowL m (s.samples.map encF) = True:=fun m => Q3 _
 have lw2:∀ m,lowL m (s.gaps.map Qb) = True:=fun m => Qf _
 rw [es]
 intro M
 (refine Qd (cf:=L4.c86) rfl rfl fun hM hA => ?_;simp only [L4.c86,zO,zF,zT,zM,CX.i];rw [mk1 _ (by decide)];simp -implicitDefEqProofs (disch:=first|omega|(simp only [go_sem,seval];first|done|omega)) only [go_sem,seval])
 (first|refine pfN hM ?_ ?_|refine pf0 hM ?_ ?_)
 ·simp -implicitDefEqProofs (disch:=first|omega|(simp only [go_sem,seval];first|done|omega)) only [go_sem,seval]
 ·(simp only [go_sem,seval,lw1,lw2]<;>omega)
theorem Qbf (a b:List Nat) (ha:∀ x ∈ a,smpE x = 0) (hb:∀ x ∈ b,smpE x = 0) (hl:a.length ≤ 1048576):Q X 130 [.fs (a.map encF),.fs (b.map encF)] (.B (decide (a.map fOf = b.map fOf))):=by
 intro M
 by_cases h1:a.length = b.length
 case neg =>
  have f1:((a.length:Int) = b.length) = False:=eq_false (by omega)
  have h2:¬ a.map fOf = b.map fOf:=fun h => h1 (by simpa using congrArg List.length h)
  (refine Qd (cf:=L4.c130) rfl rfl fun hM hA => ?_;simp only [L4.c130,zO,zF,zT,zM,CX.i];rw [mk2 _ (by decide)];simp -implicitDefEqProofs (disch:=first|omega|(simp only [go_sem,seval,f1];first|done|omega)) only [go_sem,seval,f1])
  (first|refine pfN hM ?_ ?_|refine pf0 hM ?_ ?_)
  ·simp -implicitDefEqProofs (disch:=first|omega|(simp only [go_sem,seval];first|done|omega)) only [go_sem,seval]
   rw [decide_eq_false h2]
  ·(simp only [go_sem,seval]<;>omega)
 have f1:((a.length:Int) = b.length) = True:=eq_true (by omega)
 (refine Qd (cf:=L4.c130) rfl rfl fun hM hA => ?_;simp only [L4.c130,zO,zF,zT,zM,CX.i];rw [mk2 _ (by decide)];simp -implicitDefEqProofs (disch:=first|omega|(simp only [go_sem,seval,f1];first|done|omega)) only [go_sem,seval,f1])
 refine Qm (α:=Nat) 0 (fun k => k ≤ a.length ∧ (a.take k).map fOf = (b.take k).map fOf) (fun k => M) (fun k => [(0,.fs (a.map encF)),(1,.fs (b.map encF)),(5,.I k)]) (fun k => a.length - k) ⟨Nat.zero_le _,rfl⟩ rfl rfl ?_
 rintro k ⟨hk,hs⟩
 by_cases hlt:k < a.length
 ·obtain ⟨x,hx⟩:∃ x,a[k]? = some x:=⟨_,List.getElem?_eq_getElem hlt⟩
  obtain ⟨y,hy⟩:∃ y,b[k]? = some y:=⟨_,List.getElem?_eq_getElem (by omega)⟩
  have hlt2:k < b.length:=by omega
  have hne:=f_neq (QP (ha x (List.mem_of_getElem? hx))) (QP (hb y (List.mem_of_getElem? hy)))
  by_cases hxy:fOf x = fOf y
  ·rw [decide_eq_false (by simp [hxy])] at hne
   simp -implicitDefEqProofs (disch:=first|omega|(simp only [go_sem,seval,hlt,hlt2,hx,hy,r_sop,hne];first|done|omega)) only [go_sem,seval,hlt,hlt2,hx,hy,r_sop,hne]
   refine again' (k + 1) ⟨by omega,?_⟩ (by omega) rfl rfl
   rw [VP hx,VP hy,hs,hxy]
  ·rw [decide_eq_true hxy] at hne
   simp -implicitDefEqProofs (disch:=first|omega|(simp only [go_sem,seval,hlt,hlt2,hx,hy,r_sop,hne];first|done|omega)) only [go_sem,seval,hlt,hlt2,hx,hy,r_sop,hne]
   (first|refine pfN hM ?_ ?_|refine pf0 hM ?_ ?_)
   ·simp -implicitDefEqProofs (disch:=first|omega|(simp only [go_sem,seval];first|done|omega)) only [go_sem,seval]
    rw [decide_eq_false]
    intro h
    have:=congrArg (·[k]?) h
    simp only [List.getElem?_map,hx,hy,Option.map_some,Option.some.injEq] at this
    exact hxy this
   ·(simp only [go_sem,seval]<;>omega)
 ·simp -implicitDefEqProofs (disch:=first|omega|(simp only [go_sem,seval,hlt];first|done|omega)) only [go_sem,seval,hlt]
  rw [List.take_of_length_le (by omega),List.take_of_length_le (by omega)] at hs
  (first|refine pfN hM ?_ ?_|refine pf0 hM ?_ ?_)
  ·simp -implicitDefEqProofs (disch:=first|omega|(simp only [go_sem,seval];first|done|omega)) only [go_sem,seval]
   rw [decide_eq_true hs]
  ·(simp only [go_sem,seval]<;>omega)
theorem Qbs (a b:Ser) (ha:∀ x ∈ a.samples,smpE x = 0) (hb:∀ x ∈ b.samples,smpE x = 0) (hl:a.samples.length ≤ 1048576) (hg:a.gaps.length ≤ 1048576) :
  Q X 85 [Qt a,Qt b] (.B (decide (a.name = b.name) && (decide (a.start = b.start) && (decide (a.samples.map fOf = b.samples.map fOf) && decide (a.gaps = b.gaps))))):=by
 have h1:=Qbf (X:=X) a.samples b.samples ha hb hl
 have h2:=Jd (X:=X) a.gaps b.gaps hg
 rw [Qg,Qg]
 generalize decide (a.samples.map fOf = b.samples.map fOf) = u at *
 generalize decide (a.gaps = b.gaps) = v at *
 intro M
 by_cases g1:a.name = b.name
 ·by_cases g2:a.start = b.start
  ·(refine Qd (cf:=L4.c85) rfl rfl fun hM hA => ?_;simp only [L4.c85,zO,zF,zT,zM,CX.i];rw [mk2 _ (by decide)];simp -implicitDefEqProofs (disch:=first|omega|(simp only [go_sem,seval,QO,g1,g2];first|done|omega)) only [go_sem,seval,QO,g1,g2])
   cases u
   ·repeat' (first|(refine Qa (h1 _) ?_;(try simp -implicitDefEqProofs (disch:=first|omega|(simp only [go_sem,seval];first|done|omega)) only [go_sem,seval]))|(refine Qa (h2 _) ?_;(try simp -implicitDefEqProofs (disch:=first|omega|(simp only [go_sem,seval];first|done|omega)) only [go_sem,seval]))|(refine QK ?_ ?_ <;> intro hc <;> (try simp only [decide_eq_true_eq,decide_eq_false_iff_not,Classical.not_not,Bool.not_eq_true,Bool.not_eq_true',Bool.not_eq_false',Bool.false_or,Bool.or_false,Bool.true_or,Bool.or_true,Bool.false_and,Bool.and_false,Bool.true_and,Bool.and_true] at hc) <;> (try simp -implicitDefEqProofs (disch:=first|omega|(simp only [go_sem,seval,hc];first|done|omega)) only [go_sem,seval,hc]))|(refine ZX ?_ ?_ <;> intro hc <;> (try simp only [decide_eq_true_eq,decide_eq_false_iff_not,Classical.not_not,Bool.not_eq_true,Bool.not_eq_true',Bool.not_eq_false',Bool.false_or,Bool.or_false,Bool.true_or,Bool.or_true,Bool.false_and,Bool.and_false,Bool.true_and,Bool.and_true] at hc) <;> (try simp -implicitDefEqProofs (disch:=first|omega|(simp only [go_sem,seval,hc];first|done|omega)) only [go_sem,seval,hc])))
    (all_goals (first|refine pfN hM ?_ ?_|refine pf0 hM ?_ ?_);all_goals first|(simp only [go_sem,seval]<;>omega)|skip;all_goals (try simp -implicitDefEqProofs (disch:=first|omega|(simp only [go_sem,seval];first|done|omega)) only [go_sem,seval]))
    all_goals simp
   ·repeat' (first|(refine Qa (h1 _) ?_;(try simp -implicitDefEqProofs (disch:=first|omega|(simp only [go_sem,seval];first|done|omega)) only [go_sem,seval]))|(refine Qa (h2 _) ?_;(try simp -implicitDefEqProofs (disch:=first|omega|(simp only [go_sem,seval];first|done|omega)) only [go_sem,seval]))|(refine QK ?_ ?_ <;> intro hc <;> (try simp only [decide_eq_true_eq,decide_eq_false_iff_not,Classical.not_not,Bool.not_eq_true,Bool.not_eq_true',Bool.not_eq_false',Bool.false_or,Bool.or_false,Bool.true_or,Bool.or_true,Bool.false_and,Bool.and_false,Bool.true_and,Bool.and_true] at hc) <;> (try simp -implicitDefEqProofs (disch:=first|omega|(simp only [go_sem,seval,hc];first|done|omega)) only [go_sem,seval,hc]))|(refine ZX ?_ ?_ <;> intro hc <;> (try simp only [decide_eq_true_eq,decide_eq_false_iff_not,Classical.not_not,Bool.not_eq_true,Bool.not_eq_true',Bool.not_eq_false',Bool.false_or,Bool.or_false,Bool.true_or,Bool.or_true,Bool.false_and,Bool.and_false,Bool.true_and,Bool.and_true] at hc) <;> (try simp -implicitDefEqProofs (disch:=first|omega|(simp only [go_sem,seval,hc];first|done|omega)) only [go_sem,seval,hc])))
    (all_goals (first|refine pfN hM ?_ ?_|refine pf0 hM ?_ ?_);all_goals first|(simp only [go_sem,seval]<;>omega)|skip;all_goals (try simp -implicitDefEqProofs (disch:=first|omega|(simp only [go_sem,seval];first|done|omega)) only [go_sem,seval]))
    all_goals simp
  ·(refine Qd (cf:=L4.c85) rfl rfl fun hM hA => ?_;simp only [L4.c85,zO,zF,zT,zM,CX.i];rw [mk2 _ (by decide)];simp -implicitDefEqProofs (disch:=first|omega|(simp only [go_sem,seval,QO,g1,g2];first|done|omega)) only [go_sem,seval,QO,g1,g2])
   (all_goals (first|refine pfN hM ?_ ?_|refine pf0 hM ?_ ?_);all_goals first|(simp only [go_sem,seval]<;>omega)|skip;all_goals (try simp -implicitDefEqProofs (disch:=first|omega|(simp only [go_sem,seval];first|done|omega)) only [go_sem,seval]))
   all_goals simp [g2]
 ·(refine Qd (cf:=L4.c85) rfl rfl fun hM hA => ?_;simp only [L4.c85,zO,zF,zT,zM,CX.i];rw [mk2 _ (by decide)];simp -implicitDefEqProofs (disch:=first|omega|(simp only [go_sem,seval,QO,g1];first|done|omega)) only [go_sem,seval,QO,g1])
  (all_goals (first|refine pfN hM ?_ ?_|refine pf0 hM ?_ ?_);all_goals first|(simp only [go_sem,seval]<;>omega)|skip;all_goals (try simp -implicitDefEqProofs (disch:=first|omega|(simp only [go_sem,seval];first|done|omega)) only [go_sem,seval]))
  all_goals simp [g1]
theorem Qpo {a:Ser} (h:Ql a = 0):sumW a = a.start + a.samples.length ∧ (0 ≤ a.start ∧ a.start ≤ 999999999):=by
 have hs:0 ≤ a.start ∧ a.start ≤ 999999999:=by
  unfold Ql at h
  split at h
  ·cases h
  ·split at h
   ·cases h
   ·rename_i h2;exact ZR.1 (Decidable.of_not_not h2)
 have hl:=(Zt h).1.1
 exact ⟨by unfold sumW;exact Qap (by constructor <;> omega),hs⟩
theorem Qpw {a:Ser} (h:Ql a = 0):spOk a.gaps ∧ a.gaps.length ≤ 1024 ∧ Can a.gaps ∧ ∀ x ∈ a.gaps,0 ≤ x.fr ∧ x.fr < x.to_ ∧ x.to_ ≤ a.samples.length:=by
 have h0:=h
 obtain ⟨hin,_⟩:=Zt h
 have hc:Qp a.gaps = 0:=by
  rw [Qfj] at h
  split at h
  ·unfold serB at h
   split at h
   ·rename_i h1;exact absurd h h1
   ·split at h
    ·rename_i h1;exact absurd h h1
    ·rename_i h1;exact Decidable.of_not_not h1
  ·rename_i h1;exact absurd h h1
 obtain ⟨c1,c2⟩:=QcF.1 hc
 exact ⟨c2.ok,c1,c2,hin.2.2⟩
def FrombX (X:XRel):Prop:=∀ (u:Nat) (M:List Blk),X 135 [.s (.int .u32 u)] M (.s (.float .f32 u)) M
theorem QfM (a b:List UInt8):Q X 156 [.fs (a.map bt),.fs (b.map bt)] (.B (decide (a = b))):=by
 intro M
 have h1:=Qa8 a
 have h2:=Qa8 b
 have e:bin .eql (.s (.string ⟨a.toArray⟩)) (.s (.string ⟨b.toArray⟩)) = some (.B (decide (a = b))):=by
  rw [QO,show decide ((⟨a.toArray⟩:ByteArray) = ⟨b.toArray⟩) = decide (a = b) from decide_eq_decide.2 ⟨fun h => by injection h with h;simpa using congrArg Array.toList h,fun h => by rw [h]⟩]
 (refine Qd (cf:=L4.c156) rfl rfl fun hM hA => ?_;simp only [L4.c156,zO,zF,zT,zM,CX.i];rw [mk2 _ (by decide)];simp -implicitDefEqProofs (disch:=first|omega|(simp only [go_sem,seval,h1,h2,e];first|done|omega)) only [go_sem,seval,h1,h2,e])
 (all_goals (first|refine pfN hM ?_ ?_|refine pf0 hM ?_ ?_);all_goals first|(simp only [go_sem,seval]<;>omega)|skip;all_goals (try simp -implicitDefEqProofs (disch:=first|omega|(simp only [go_sem,seval];first|done|omega)) only [go_sem,seval]))
theorem QcA (a b:List UInt8) (ha:a.length ≤ 4000000) (hb:b.length ≤ 4000000):Q X 133 [.fs (a.map bt),.fs (b.map bt)] (.B (decide (a.take b.length = b))):=by
 intro M
 by_cases h:b.length ≤ a.length
 ·have e1:((a.length:Int) ≥ b.length) = True:=eq_true (by omega)
  have e2:(a.map bt).take b.length = (a.take b.length).map bt:=(List.map_take).symm
  have e3:=QaY a
  (refine Qd (cf:=L4.c133) rfl rfl fun hM hA => ?_;simp only [L4.c133,zO,zF,zT,zM,CX.i];rw [mk2 _ (by decide)];simp -implicitDefEqProofs (disch:=first|omega|(simp only [go_sem,seval,e1,h,e2,e3];first|done|omega)) only [go_sem,seval,e1,h,e2,e3])
  refine Qa (QfM _ _ _) ?_
  simp -implicitDefEqProofs (disch:=first|omega|(simp only [go_sem,seval];first|done|omega)) only [go_sem,seval]
  (all_goals (first|refine pfN hM ?_ ?_|refine pf0 hM ?_ ?_);all_goals first|(simp only [go_sem,seval]<;>omega)|skip;all_goals (try simp -implicitDefEqProofs (disch:=first|omega|(simp only [go_sem,seval];first|done|omega)) only [go_sem,seval]))
 ·have e1:((a.length:Int) ≥ b.length) = False:=eq_false (by omega)
  have e2:(a.take b.length = b) = False:=eq_false (fun hh => h (by rw [← hh,List.length_take];omega))
  (refine Qd (cf:=L4.c133) rfl rfl fun hM hA => ?_;simp only [L4.c133,zO,zF,zT,zM,CX.i];rw [mk2 _ (by decide)];simp -implicitDefEqProofs (disch:=first|omega|(simp only [go_sem,seval,e1,e2];first|done|omega)) only [go_sem,seval,e1,e2])
  (all_goals (first|refine pfN hM ?_ ?_|refine pf0 hM ?_ ?_);all_goals first|(simp only [go_sem,seval]<;>omega)|skip;all_goals (try simp -implicitDefEqProofs (disch:=first|omega|(simp only [go_sem,seval];first|done|omega)) only [go_sem,seval]))
def nk (a b c d:UInt8):Nat → Nat
 | 0 => 0
 | 1 => a.toNat
 | 2 => a.toNat * 256 + b.toNat
 | 3 => (a.toNat * 256 + b.toNat) * 256 + c.toNat
 | _ => ((a.toNat * 256 + b.toNat) * 256 + c.toNat) * 256 + d.toNat
theorem Qdy (l:List UInt8) (h:4 ≤ l.length) (hl:l.length ≤ 4000000) {M0:List Blk} :
  ACall F X (.fn 134) [.op M0.length 0 0 0] (M0 ++ [.row true 1 0 [.agg [.fs (l.map bt)]]]) (.I (num4 l)) (M0 ++ [.row true 1 0 [.agg [.fs ((l.drop 4).map bt)]]]):=by
 obtain ⟨a,b,c,d,t,rfl⟩:=QeA h
 have hn:num4 (a :: b :: c :: d :: t) = nk a b c d 4:=rfl
 rw [hn]
 have la:=u8_lt a
 have lb:=u8_lt b
 have lc:=u8_lt c
 have ld:=u8_lt d
 have ht:(t.length:Int) + 1 + 1 + 1 + 1 ≤ 4000000:=by simp at hl;omega
 have lt_:∀ m,lowL m (t.map bt) = True:=fun m => Qas t
 refine Qd (cf:=c134) rfl rfl fun hM hA => ?_
 simp only [c134,zO,zF,zT,zM,CX.i]
 rw [mk1 _ (by decide)]
 have lz:=QaY (a :: b :: c :: d :: t)
 simp only [List.map_cons,bt_eq] at lz
 have htk:(t.map bt).take t.length = t.map bt:=List.take_of_length_le (by simp)
 have hs:∀ k,k < 4 → bin .shl (.s (.int .i64 (nk a b c d k))) (.s (.int .u64 8)) = some (.I ((nk a b c d k * 256:Nat):Int)):=by
  intro k hk
  rw [QqM (by decide)]
  have e1:min (8:Int).toNat IntKind.i64.bits = 8:=rfl
  have e2:nk a b c d k < 4294967296:=by
   unfold nk
   split <;> omega
  have e3:((nk a b c d k:Nat):Int) * 2 ^ 8 = ((nk a b c d k * 256:Nat):Int):=by omega
  rw [e1,e3,Qap ⟨by omega,by omega⟩]
 have ho0:bin .or (.I ((nk a b c d 0 * 256:Nat):Int)) (.I a.toNat) = some (.I (nk a b c d 1)):=(Qcl (by simp [nk]) la).trans (by simp [nk])
 have ho1:bin .or (.I ((nk a b c d 1 * 256:Nat):Int)) (.I b.toNat) = some (.I (nk a b c d 2)):=(Qcl (by simp [nk];omega) lb).trans (by simp [nk])
 have ho2:bin .or (.I ((nk a b c d 2 * 256:Nat):Int)) (.I c.toNat) = some (.I (nk a b c d 3)):=(Qcl (by simp [nk];omega) lc).trans (by simp [nk])
 have ho3:bin .or (.I ((nk a b c d 3 * 256:Nat):Int)) (.I d.toNat) = some (.I (nk a b c d 4)):=(Qcl (by simp [nk];omega) ld).trans (by simp [nk])
 have hs0:=hs 0 (by decide)
 have hs1:=hs 1 (by decide)
 have hs2:=hs 2 (by decide)
 have hs3:=hs 3 (by decide)
 have hi0:∀ x y z u:PV,idxaV 4 1 none (.agg [x,y,z,u]) (some 0) = some x:=fun _ _ _ _ => rfl
 have hi1:∀ x y z u:PV,idxaV 4 1 none (.agg [x,y,z,u]) (some 1) = some y:=fun _ _ _ _ => rfl
 have hi2:∀ x y z u:PV,idxaV 4 1 none (.agg [x,y,z,u]) (some 2) = some z:=fun _ _ _ _ => rfl
 have hi3:∀ x y z u:PV,idxaV 4 1 none (.agg [x,y,z,u]) (some 3) = some u:=fun _ _ _ _ => rfl
 simp -implicitDefEqProofs (disch:=first|omega|(simp only [go_sem,seval,bt_eq,lz,htk];first|done|omega)) only [go_sem,seval,bt_eq,lz,htk]
 refine Qm (α:=Nat) 0 (fun k => k ≤ 4) (fun _ => M0 ++ [.row true 1 0 [.agg [.fs (t.map bt)]],.row true 4 0 [.agg [.s (.int .u8 a.toNat),.s (.int .u8 b.toNat),.s (.int .u8 c.toNat),.s (.int .u8 d.toNat)]]])
  (fun k => [(4,.I (nk a b c d k)),(22,.agg [.s (.int .u8 a.toNat),.s (.int .u8 b.toNat),.s (.int .u8 c.toNat),.s (.int .u8 d.toNat)]),(23,.I k)]) (fun k => 4 - k) (by decide) rfl rfl ?_
 intro k hk
 rcases (by omega:k = 0 ∨ k = 1 ∨ k = 2 ∨ k = 3 ∨ k = 4) with rfl|rfl|rfl|rfl|rfl
 ·simp -implicitDefEqProofs (disch:=first|omega|(simp only [go_sem,seval,hs0,ho0,hi0];first|done|omega)) only [go_sem,seval,hs0,ho0,hi0]
  exact again' 1 (by omega) (by omega) rfl rfl
 ·simp -implicitDefEqProofs (disch:=first|omega|(simp only [go_sem,seval,hs1,ho1,hi1];first|done|omega)) only [go_sem,seval,hs1,ho1,hi1]
  exact again' 2 (by omega) (by omega) rfl rfl
 ·simp -implicitDefEqProofs (disch:=first|omega|(simp only [go_sem,seval,hs2,ho2,hi2];first|done|omega)) only [go_sem,seval,hs2,ho2,hi2]
  exact again' 3 (by omega) (by omega) rfl rfl
 ·simp -implicitDefEqProofs (disch:=first|omega|(simp only [go_sem,seval,hs3,ho3,hi3];first|done|omega)) only [go_sem,seval,hs3,ho3,hi3]
  exact again' 4 (by omega) (by omega) rfl rfl
 ·simp -implicitDefEqProofs (disch:=first|omega|(simp only [go_sem,seval];first|done|omega)) only [go_sem,seval]
  have e:∀ x y:Blk,M0 ++ [x,y] = (M0 ++ [x]) ++ [y]:=fun x y => by simp
  have hlow:lowM (M0 ++ [Blk.row true 1 0 [.agg [.fs (t.map bt)]]]).length (M0 ++ [Blk.row true 1 0 [.agg [.fs (t.map bt)]]]):=by
   intro b hb
   rcases List.mem_append.1 hb with hb|hb
   ·have:=hM b (by simp [hb])
    simpa using this
   ·rw [List.mem_singleton] at hb
    subst hb
    show lowL _ [_]
    simp [lowL,PV.low,lt_]
  rw [e]
  refine VS Q8 hlow (by simp) ?_ ?_
  ·simp -implicitDefEqProofs (disch:=first|omega|(simp only [go_sem,seval];first|done|omega)) only [go_sem,seval]
  ·(simp only [go_sem,seval]<;>omega)
theorem QrR {n:Int} (h:0 ≤ n ∧ n < 4294967296):IntKind.u32.wrap n = n:=by
 have e:IntKind.u32.wrap n = n % 4294967296:=rfl
 rw [e];omega
theorem Qah (l:List UInt8) (h:4 ≤ l.length) (hl:l.length ≤ 4000000) {M:List Blk} {a b c d e:Blk} :
  ACall F X (.fn 134) [.op (M.length + 5) 0 0 0] (M ++ [a,b,c,d,e,.row true 1 0 [.agg [.fs (l.map bt)]]]) (.I (num4 l)) (M ++ [a,b,c,d,e,.row true 1 0 [.agg [.fs ((l.drop 4).map bt)]]]):=by
 have:=Qdy (X:=X) l h hl (M0:=M ++ [a,b,c,d,e])
 have e1:(M ++ [a,b,c,d,e]).length = M.length + 5:=by simp
 have e2:∀ x:Blk,(M ++ [a,b,c,d,e]) ++ [x] = M ++ [a,b,c,d,e,x]:=fun x => by simp
 rw [e1,e2,e2] at this
 exact this
theorem QoV (l:List UInt8) (h:4 ≤ l.length) (hl:l.length ≤ 4000000) {M:List Blk} {a b c d e:Blk} (N:List Blk) (h1:N.length = (M ++ [a,b,c,d,e,.row true 1 0 [.agg [.fs (l.map bt)]]]).length)
  (h2:N[M.length + 5]? = (M ++ [a,b,c,d,e,.row true 1 0 [.agg [.fs (l.map bt)]]])[M.length + 5]?) :
  ACall F X (.fn 134) ([.op (M.length + 5) 0 0 0] ++ [] ++ []) N (.I (num4 l)) (N.set (M.length + 5) (.row true 1 0 [.agg [.fs ((l.drop 4).map bt)]])):=by
 have h3:(M ++ [a,b,c,d,e,.row true 1 0 [.agg [.fs (l.map bt)]]])[M.length + 5]? = some (.row true 1 0 [.agg [.fs (l.map bt)]]):=by rw [getMj];rfl
 rw [h3] at h2
 have h4:N.length = M.length + 6:=by rw [h1];simp
 have h5:(N.take (M.length + 5)).length = M.length + 5:=by rw [List.length_take];omega
 have h6:N = N.take (M.length + 5) ++ [.row true 1 0 [.agg [.fs (l.map bt)]]]:=by
  obtain ⟨g1,g2⟩:=List.getElem?_eq_some_iff.1 h2
  have:=List.take_succ_eq_append_getElem g1
  rw [g2,List.take_of_length_le (by omega)] at this
  exact this
 have:=Qdy (X:=X) l h hl (M0:=N.take (M.length + 5))
 rw [h5,← h6] at this
 have h7:N.set (M.length + 5) (.row true 1 0 [.agg [.fs ((l.drop 4).map bt)]]) = N.take (M.length + 5) ++ [.row true 1 0 [.agg [.fs ((l.drop 4).map bt)]]]:=by
  generalize N.take (M.length + 5) = K at h5 h6
  rw [h6,← h5,setM0]
  rfl
 rw [h7]
 exact this
theorem ZV (hB:FrombX X) (b:List UInt8) (hl:b.length ≤ 100000):Q X 89 [.fs (b.map bt)] (.tup [Qt (decS b),.I (dE b)]):=by
 intro M
 have hp:=fun N => QcA (X:=X) b [87,73,78,68] (by omega) (by decide) N
 have ew:([87,73,78,68]:List UInt8).map bt = [.s (.int .u8 87),.s (.int .u8 73),.s (.int .u8 78),.s (.int .u8 68)]:=rfl
 have e4:([87,73,78,68]:List UInt8).length = 4:=rfl
 rw [ew,e4] at hp
 clear ew e4
 have h1:((4000000:Int) < b.length) = False:=eq_false (by omega)
 have q0:=fun (l:List Int) hl N => QJ (X:=X) l hl N
 by_cases c5:b.length < 5
 ·have f5:((b.length:Int) < 5) = True:=eq_true (by omega)
  have hd:dE b = 29:=by
   have:dE0 b = 29:=by unfold dE0;rw [if_neg (by omega),if_pos c5]
   unfold dE;rw [this];rfl
  have hs:decS b = ⟨⟨#[]⟩,0,[],[]⟩:=by unfold decS;rw [hd];rfl
  rw [hd,hs,Qg]
  (refine Qd (cf:=L4.c89) rfl rfl fun hM hA => ?_;simp only [L4.c89,zO,zF,zT,zM,CX.i];rw [mk1 _ (by decide)];simp -implicitDefEqProofs (disch:=first|omega|(simp only [go_sem,seval,h1];first|done|omega)) only [go_sem,seval,h1])
  refine Qa (QA _ _ _) ?_
  simp -implicitDefEqProofs (disch:=first|omega|(simp only [go_sem,seval];first|done|omega)) only [go_sem,seval]
  refine Qa (QA _ _ _) ?_
  simp -implicitDefEqProofs (disch:=first|omega|(simp only [go_sem,seval,f5];first|done|omega)) only [go_sem,seval,f5]
  refine Qa (hp _) ?_
  simp -implicitDefEqProofs (disch:=first|omega|(simp only [go_sem,seval];first|done|omega)) only [go_sem,seval]
  refine Qa (QA _ _ _) ?_
  simp -implicitDefEqProofs (disch:=first|omega|(simp only [go_sem,seval];first|done|omega)) only [go_sem,seval]
  refine Qa (q0 [_,_,_] (by simp) _) ?_
  simp only [fst0]
  simp -implicitDefEqProofs (disch:=first|omega|(simp only [go_sem,seval,f5];first|done|omega)) only [go_sem,seval,f5]
  (all_goals (first|refine pfN hM ?_ ?_|refine pf0 hM ?_ ?_);all_goals first|(simp only [go_sem,seval]<;>omega)|skip;all_goals (try simp -implicitDefEqProofs (disch:=first|omega|(simp only [go_sem,seval];first|done|omega)) only [go_sem,seval]))
 have f5:((b.length:Int) < 5) = False:=eq_false (by omega)
 by_cases cW:b.take 4 = [87,73,78,68]
 case neg =>
  have hd:dE b = 1:=by
   have:dE0 b = 1:=by unfold dE0;rw [if_neg (by omega),if_neg c5,if_pos cW]
   unfold dE;rw [this];rfl
  have hs:decS b = ⟨⟨#[]⟩,0,[],[]⟩:=by unfold decS;rw [hd];rfl
  rw [hd,hs,Qg]
  (refine Qd (cf:=L4.c89) rfl rfl fun hM hA => ?_;simp only [L4.c89,zO,zF,zT,zM,CX.i];rw [mk1 _ (by decide)];simp -implicitDefEqProofs (disch:=first|omega|(simp only [go_sem,seval,h1];first|done|omega)) only [go_sem,seval,h1])
  refine Qa (QA _ _ _) ?_
  simp -implicitDefEqProofs (disch:=first|omega|(simp only [go_sem,seval];first|done|omega)) only [go_sem,seval]
  refine Qa (QA _ _ _) ?_
  simp -implicitDefEqProofs (disch:=first|omega|(simp only [go_sem,seval,f5];first|done|omega)) only [go_sem,seval,f5]
  refine Qa (hp _) ?_
  simp -implicitDefEqProofs (disch:=first|omega|(simp only [go_sem,seval,cW];first|done|omega)) only [go_sem,seval,cW]
  refine Qa (QA _ _ _) ?_
  simp -implicitDefEqProofs (disch:=first|omega|(simp only [go_sem,seval,cW];first|done|omega)) only [go_sem,seval,cW]
  refine Qa (q0 [_,_,_] (by simp) _) ?_
  simp only [fst0]
  simp -implicitDefEqProofs (disch:=first|omega|(simp only [go_sem,seval,f5];first|done|omega)) only [go_sem,seval,f5]
  (all_goals (first|refine pfN hM ?_ ?_|refine pf0 hM ?_ ?_);all_goals first|(simp only [go_sem,seval]<;>omega)|skip;all_goals (try simp -implicitDefEqProofs (disch:=first|omega|(simp only [go_sem,seval];first|done|omega)) only [go_sem,seval]))
 have hd0:dE0 b = 0:=by unfold dE0;rw [if_neg (by omega),if_neg c5,if_neg (fun h => h cW)]
 obtain ⟨c,hc⟩:∃ c,b[4]? = some c:=⟨_,List.getElem?_eq_getElem (by omega)⟩
 have hn:nmN b = c.toNat:=by unfold nmN;rw [hc];rfl
 have hcl:=u8_lt c
 (refine Qd (cf:=L4.c89) rfl rfl fun hM hA => ?_;simp only [L4.c89,zO,zF,zT,zM,CX.i];rw [mk1 _ (by decide)];simp -implicitDefEqProofs (disch:=first|omega|(simp only [go_sem,seval,h1];first|done|omega)) only [go_sem,seval,h1])
 refine Qa (QA _ _ _) ?_
 simp -implicitDefEqProofs (disch:=first|omega|(simp only [go_sem,seval];first|done|omega)) only [go_sem,seval]
 refine Qa (QA _ _ _) ?_
 simp -implicitDefEqProofs (disch:=first|omega|(simp only [go_sem,seval,f5];first|done|omega)) only [go_sem,seval,f5]
 refine Qa (hp _) ?_
 simp -implicitDefEqProofs (disch:=first|omega|(simp only [go_sem,seval,cW];first|done|omega)) only [go_sem,seval,cW]
 refine Qa (QA _ _ _) ?_
 simp -implicitDefEqProofs (disch:=first|omega|(simp only [go_sem,seval,cW];first|done|omega)) only [go_sem,seval,cW]
 refine Qa (q0 [_,_,_] (by simp) _) ?_
 simp only [fst0]
 simp -implicitDefEqProofs (disch:=first|omega|(simp only [go_sem,seval,f5,hc,bt_eq];first|done|omega)) only [go_sem,seval,f5,hc,bt_eq]
 by_cases cL:b.length < 17 + c.toNat
 ·have fL:((b.length:Int) < 5 + c.toNat + 12) = True:=eq_true (by omega)
  have hd:dE b = 29:=by unfold dE;rw [hd0,if_neg (fun h => h rfl),hn,if_pos cL]
  have hs:decS b = ⟨⟨#[]⟩,0,[],[]⟩:=by unfold decS;rw [hd];rfl
  rw [hd,hs,Qg]
  simp -implicitDefEqProofs (disch:=first|omega|(simp only [go_sem,seval,fL];first|done|omega)) only [go_sem,seval,fL]
  (all_goals (first|refine pfN hM ?_ ?_|refine pf0 hM ?_ ?_);all_goals first|(simp only [go_sem,seval]<;>omega)|skip;all_goals (try simp -implicitDefEqProofs (disch:=first|omega|(simp only [go_sem,seval];first|done|omega)) only [go_sem,seval]))
 have fL:((b.length:Int) < 5 + c.toNat + 12) = False:=eq_false (by omega)
 have lz:=QaY b
 have e1:(b.map bt).drop 5 = (b.drop 5).map bt:=List.map_drop.symm
 have e2:((b.drop 5).map bt).take c.toNat = ((b.drop 5).take c.toNat).map bt:=List.map_take.symm
 have e3:=Qa8 ((b.drop 5).take c.toNat)
 have g1:((0:Int) ≤ 5 + c.toNat) = True:=eq_true (by omega)
 have g2:(5 + (c.toNat:Int)).toNat = 5 + c.toNat:=by omega
 have g3:5 + c.toNat ≤ b.length:=by omega
 have g4:5 + c.toNat - 5 = c.toNat:=by omega
 have hbd:dBody b = b.drop (5 + c.toNat):=by unfold dBody;rw [hn]
 have hbl:(dBody b).length = b.length - (5 + c.toNat):=by rw [hbd,List.length_drop]
 have e5:(b.map bt).drop (5 + c.toNat) = (dBody b).map bt:=by rw [hbd];exact List.map_drop.symm
 have e6:((dBody b).map bt).take (b.length - (5 + c.toNat)) = (dBody b).map bt:=List.take_of_length_le (by rw [List.length_map];omega)
 simp -implicitDefEqProofs (disch:=first|omega|(simp only [go_sem,seval,fL,lz,e1,e2,e3,g1,g2,g3,g4,e5,e6,Zv];first|done|omega)) only [go_sem,seval,fL,lz,e1,e2,e3,g1,g2,g3,g4,e5,e6,Zv]
 obtain ⟨B,hB0⟩:∃ B,B = dBody b:=⟨_,rfl⟩
 obtain ⟨T,hT0⟩:∃ T,T = dTail b:=⟨_,rfl⟩
 have hBT:B.drop 12 = T:=by rw [hB0,hT0];rfl
 obtain ⟨g,hg0⟩:∃ g,g = dG b:=⟨_,rfl⟩
 obtain ⟨m,hm0⟩:∃ m,m = dM b:=⟨_,rfl⟩
 have hg1:num4 (B.drop 8) = g:=by rw [hB0,hg0];rfl
 have hm1:num4 (B.drop 4) = m:=by rw [hB0,hm0];rfl
 have hg2:g < 4294967296:=hg1 ▸ YF _
 have hm2:m < 4294967296:=hm1 ▸ YF _
 have hst:=YF B
 have hBl:12 ≤ B.length:=by rw [hB0,hbl];omega
 have hBl2:B.length ≤ 100000:=by rw [hB0,hbl];omega
 have hTl:T.length = B.length - 12:=by rw [← hBT,List.length_drop]
 rw [← hB0]
 have n1:=@Qah X B (by omega) (by omega)
 have n2:=@Qah X (B.drop 4) (by rw [List.length_drop];omega) (by rw [List.length_drop];omega)
 have n3:=@Qah X (B.drop 8) (by rw [List.length_drop];omega) (by rw [List.length_drop];omega)
 rw [List.drop_drop] at n2 n3
 rw [hm1] at n2
 rw [hg1,hBT] at n3
 refine QL n1 ?_
 simp -implicitDefEqProofs (disch:=first|omega|(simp only [go_sem,seval];first|done|omega)) only [go_sem,seval]
 refine QL n2 ?_
 simp -implicitDefEqProofs (disch:=first|omega|(simp only [go_sem,seval];first|done|omega)) only [go_sem,seval]
 refine QL n3 ?_
 simp -implicitDefEqProofs (disch:=first|omega|(simp only [go_sem,seval];first|done|omega)) only [go_sem,seval]
 have hdr:dSer b = ⟨⟨((b.drop 5).take c.toNat).toArray⟩,num4 B,smpL (T.drop (8 * g)) m,gapL T g⟩:=by unfold dSer;rw [hn,← hB0,← hT0,← hg0,← hm0]
 have hd1:dE b = if T.length < 8 * g + 4 * m then 29 else if T.length ≠ 8 * g + 4 * m then 2 else if 2147483648 ∈ smpL (T.drop (8 * g)) m then 1 else Ql (dSer b):=by
  unfold dE
  rw [hd0,if_neg (fun h => h rfl),hn,if_neg cL,← hT0,← hg0,← hm0,hdr]
 clear n1 n2 n3
 generalize hnm:(⟨((b.drop 5).take c.toNat).toArray⟩:ByteArray) = nm at hdr ⊢
 generalize num4 B = st at hdr hst ⊢
 by_cases cE:T.length = 8 * g + 4 * m
 case neg =>
  have fE:((T.length:Int) = g * 8 + m * 4) = False:=eq_false (by omega)
  by_cases cT:T.length < 8 * g + 4 * m
  ·have fT:((T.length:Int) < g * 8 + m * 4) = True:=eq_true (by omega)
   have hd:dE b = 29:=by rw [hd1,if_pos cT]
   have hs:decS b = ⟨⟨#[]⟩,0,[],[]⟩:=by unfold decS;rw [hd];rfl
   rw [hd,hs,Qg]
   simp -implicitDefEqProofs (disch:=first|omega|(simp only [go_sem,seval,fE];first|done|omega)) only [go_sem,seval,fE]
   refine Qa (QA _ _ _) ?_
   simp -implicitDefEqProofs (disch:=first|omega|(simp only [go_sem,seval,fT];first|done|omega)) only [go_sem,seval,fT]
   refine Qa (q0 [_,_] (by simp) _) ?_
   simp only [fst0]
   simp -implicitDefEqProofs (disch:=first|omega|(simp only [go_sem,seval,fT];first|done|omega)) only [go_sem,seval,fT]
   (all_goals (first|refine pfN hM ?_ ?_|refine pf0 hM ?_ ?_);all_goals first|(simp only [go_sem,seval]<;>omega)|skip;all_goals (try simp -implicitDefEqProofs (disch:=first|omega|(simp only [go_sem,seval];first|done|omega)) only [go_sem,seval]))
  ·have fT:((T.length:Int) < g * 8 + m * 4) = False:=eq_false (by omega)
   have hd:dE b = 2:=by rw [hd1,if_neg cT,if_pos cE]
   have hs:decS b = ⟨⟨#[]⟩,0,[],[]⟩:=by unfold decS;rw [hd];rfl
   rw [hd,hs,Qg]
   simp -implicitDefEqProofs (disch:=first|omega|(simp only [go_sem,seval,fE];first|done|omega)) only [go_sem,seval,fE]
   refine Qa (QA _ _ _) ?_
   simp -implicitDefEqProofs (disch:=first|omega|(simp only [go_sem,seval,fT];first|done|omega)) only [go_sem,seval,fT]
   refine Qa (q0 [_,_] (by simp) _) ?_
   simp only [fst0]
   simp -implicitDefEqProofs (disch:=first|omega|(simp only [go_sem,seval,fT];first|done|omega)) only [go_sem,seval,fT]
   (all_goals (first|refine pfN hM ?_ ?_|refine pf0 hM ?_ ?_);all_goals first|(simp only [go_sem,seval]<;>omega)|skip;all_goals (try simp -implicitDefEqProofs (disch:=first|omega|(simp only [go_sem,seval];first|done|omega)) only [go_sem,seval]))
 have fE:((T.length:Int) = g * 8 + m * 4) = True:=eq_true (by omega)
 simp -implicitDefEqProofs (disch:=first|omega|(simp only [go_sem,seval,fE];first|done|omega)) only [go_sem,seval,fE]
 have lT:∀ n,lowL n (T.map bt) = True:=fun n => Qas T
 have ld:∀ n k,lowL n ((T.drop k).map bt) = True:=fun n k => Qas _
 refine Qm (α:=Nat) 0 (fun k => k ≤ g) (fun k => M ++ [.row true 4 0 [.agg [.s (.string ⟨#[]⟩),.I 0,.s (.slice none 0 0),.s (.slice none 0 0)]],.row false 1 0 [.s (.int .u8 87),.s (.int .u8 73),.s (.int .u8 78),.s (.int .u8 68)],
   .row true 4 0 [.agg [.s (.string nm),.I st,.os (M.length + 3) 0 0 0,.os (M.length + 4) k 0 k]],.row true 1 0 [],.row true 2 k ((gapL T k).map Qb),.row true 1 0 [.agg [.fs ((T.drop (8 * k)).map bt)]]])
  (fun k => [(2,.op M.length 0 0 0),(6,.op (M.length + 2) 0 0 0),(8,.fn (.func 134) [.op (M.length + 5) 0 0 0] []),(9,.I m),(90,.I g),(91,.I k)]) (fun k => g - k) (Nat.zero_le _) rfl rfl ?_
 intro k hk
 by_cases hlt:k < g
 ·have n1:=@Qah X (T.drop (8 * k)) (by rw [List.length_drop];omega) (by rw [List.length_drop];omega)
  have n2:=@QoV X (T.drop (8 * k + 4)) (by rw [List.length_drop];omega) (by rw [List.length_drop];omega)
  rw [List.drop_drop] at n1 n2
  have hsn:=Qfl T k
  have l1:=YF (T.drop (8 * k))
  have l2:=YF (T.drop (8 * k + 4))
  have hgl:=QaZ T k
  simp -implicitDefEqProofs (disch:=first|omega|(simp only [go_sem,seval,hlt];first|done|omega)) only [go_sem,seval,hlt]
  refine QL n1 ?_
  simp -implicitDefEqProofs (disch:=first|omega|(simp only [go_sem,seval];first|done|omega)) only [go_sem,seval]
  refine Qna n2 rfl (by simp [lowL]) ?_
  have e8:8 * k + 4 + 4 = 8 * (k + 1):=by omega
  simp -implicitDefEqProofs (disch:=first|omega|(simp only [go_sem,seval,e8,Qj,Qe];first|done|omega)) only [go_sem,seval,e8,Qj,Qe]
  refine ⟨by simp [Jp,JA,ZO,refs,refs1],?_⟩
  refine Qr hM rfl 6 (by simp) (by first|done|(simp only [go_sem,seval,Qf,ld,Qas] <;> first|done|(refine ⟨?_,?_⟩ <;> omega)|omega)) (Qv (by first|done|(simp only [go_sem,seval,Qf,ld,Qas] <;> first|done|(refine ⟨?_,?_⟩ <;> omega)|omega))) ?_
  simp -implicitDefEqProofs (disch:=first|omega|(simp only [go_sem,seval];first|done|omega)) only [go_sem,seval]
  exact again' (k + 1) (by omega) (by omega) (by rw [hsn];simp;rfl) rfl
 have hkk:k = g:=by omega
 subst hkk
 have hgl:=QaZ T k
 obtain ⟨U,hU⟩:∃ U,U = T.drop (8 * k):=⟨_,rfl⟩
 have hUl:U.length = 4 * m:=by rw [hU,List.length_drop];omega
 rw [← hU] at hd1 hdr ⊢
 have ldU:∀ n j,lowL n ((U.drop j).map bt) = True:=fun n j => Qas _
 have lgs:∀ n,lowL n ((gapL T k).map Qb) = True:=fun n => Qf _
 have lgM:lowM (M.length + 6) [.row true 2 k ((gapL T k).map Qb)]:=by (simp only [go_sem,seval,lgs]<;>omega)
 generalize hG:(gapL T k) = G at hgl lgs ⊢
 simp -implicitDefEqProofs (disch:=first|omega|(simp only [go_sem,seval,hlt];first|done|omega)) only [go_sem,seval,hlt]
 refine Qm (α:=Nat) 0 (fun j => j ≤ m ∧ 2147483648 ∉ smpL U j) (fun j => M ++ [.row true 4 0 [.agg [.s (.string ⟨#[]⟩),.I 0,.s (.slice none 0 0),.s (.slice none 0 0)]],.row false 1 0 [.s (.int .u8 87),.s (.int .u8 73),.s (.int .u8 78),.s (.int .u8 68)],
   .row true 4 0 [.agg [.s (.string nm),.I st,.os (M.length + 3) j 0 j,.os (M.length + 4) k 0 k]],.row true 1 j ((smpL U j).map encF),.row true 2 k (G.map Qb),.row true 1 0 [.agg [.fs ((U.drop (4 * j)).map bt)]]])
  (fun j => [(2,.op M.length 0 0 0),(6,.op (M.length + 2) 0 0 0),(8,.fn (.func 134) [.op (M.length + 5) 0 0 0] []),(105,.I m),(106,.I j)]) (fun j => m - j) ⟨Nat.zero_le _,by simp [smpL]⟩ rfl rfl ?_
 rintro j ⟨hj,hno⟩
 by_cases hlt2:j < m
 ·have n1:=@Qah X (U.drop (4 * j)) (by rw [List.length_drop];omega) (by rw [List.length_drop];omega)
  rw [List.drop_drop] at n1
  have e8:4 * j + 4 = 4 * (j + 1):=by omega
  rw [e8] at n1
  have hsn:=YT U j
  have l1:=YF (U.drop (4 * j))
  have hsl:=Qa3 U j
  obtain ⟨u,hu⟩:∃ u,u = num4 (U.drop (4 * j)):=⟨_,rfl⟩
  rw [← hu] at n1 hsn l1
  have hw:IntKind.u32.wrap (u:Int) = u:=QrR (by omega)
  simp -implicitDefEqProofs (disch:=first|omega|(simp only [go_sem,seval,hlt2];first|done|omega)) only [go_sem,seval,hlt2]
  refine QL n1 ?_
  simp -implicitDefEqProofs (disch:=first|omega|(simp only [go_sem,seval,hw];first|done|omega)) only [go_sem,seval,hw]
  by_cases hz:u = 2147483648
  ·have fz:((u:Int) = 2147483648) = True:=eq_true (by omega)
   have hin:2147483648 ∈ smpL U m:=by
    unfold smpL
    rw [List.mem_map]
    exact ⟨j,List.mem_range.2 hlt2,by rw [← hu];exact hz⟩
   have hd:dE b = 1:=by rw [hd1,if_neg (by omega),if_neg (fun h => h cE),if_pos hin]
   have hs:decS b = ⟨⟨#[]⟩,0,[],[]⟩:=by unfold decS;rw [hd];rfl
   rw [hd,hs,Qg]
   simp -implicitDefEqProofs (disch:=first|omega|(simp only [go_sem,seval,fz];first|done|omega)) only [go_sem,seval,fz]
   (all_goals (first|refine pfN hM ?_ ?_|refine pf0 hM ?_ ?_);all_goals first|(simp only [go_sem,seval]<;>omega)|skip;all_goals (try simp -implicitDefEqProofs (disch:=first|omega|(simp only [go_sem,seval];first|done|omega)) only [go_sem,seval]))
  have fz:((u:Int) = 2147483648) = False:=eq_false (by omega)
  simp -implicitDefEqProofs (disch:=first|omega|(simp only [go_sem,seval,fz];first|done|omega)) only [go_sem,seval,fz]
  refine Qa (QZ (hB u _)) ?_
  simp -implicitDefEqProofs (disch:=first|omega|(simp only [go_sem,seval];first|done|omega)) only [go_sem,seval]
  refine Qr hM rfl 6 (by simp) (by first|done|(simp only [go_sem,seval,Qf,ldU,Q3] <;> first|done|(refine ⟨?_,?_⟩ <;> omega)|omega)) (Qv (by first|done|(simp only [go_sem,seval,Qf,ldU,Q3] <;> first|done|(refine ⟨?_,?_⟩ <;> omega)|omega))) ?_
  simp -implicitDefEqProofs (disch:=first|omega|(simp only [go_sem,seval];first|done|omega)) only [go_sem,seval]
  refine again' (j + 1) ⟨by omega,?_⟩ (by omega) (by rw [hsn];simp) rfl
  rw [hsn]
  simp only [List.mem_append,List.mem_singleton,not_or]
  exact ⟨hno,fun h => hz h.symm⟩
 have hjj:j = m:=by omega
 subst hjj
 have hdr2:dSer b = ⟨nm,st,smpL U j,G⟩:=by rw [hdr,hG]
 have hd:dE b = Ql (dSer b):=by rw [hd1,if_neg (by omega),if_neg (fun h => h cE),if_neg hno]
 have hC:=Vc (X:=X) (dSer b) (by rw [hdr2];show (smpL U j).length ≤ _;rw [Qa3];omega) (by rw [hdr2];show G.length ≤ _;omega)
 rw [← hd] at hC
 unfold decS
 rw [hdr2,Qg] at hC
 rw [hdr2]
 have hsl:=Qa3 U j
 generalize smpL U j = S at hC hsl ⊢
 simp only at hC
 have lS:∀ n,lowL n (S.map encF) = True:=fun n => Q3 _
 simp -implicitDefEqProofs (disch:=first|omega|(simp only [go_sem,seval,hlt2,Qaw,Qeg,Qcs,Qa9];first|done|omega)) only [go_sem,seval,hlt2,Qaw,Qeg,Qcs,Qa9]
 refine Qa (hC _) ?_
 have tS:(S.map encF).take j = S.map encF:=List.take_of_length_le (by rw [List.length_map];omega)
 have tG:(G.map Qb).take k = G.map Qb:=List.take_of_length_le (by rw [List.length_map];omega)
 by_cases hz:dE b = 0
 ·rw [if_pos hz,Qg,hz]
  simp -implicitDefEqProofs (disch:=first|omega|(simp only [go_sem,seval,tS,tG];first|done|omega)) only [go_sem,seval,tS,tG]
  (first|refine pfN hM ?_ ?_|refine pf0 hM ?_ ?_)
  ·simp -implicitDefEqProofs (disch:=first|omega|(simp only [go_sem,seval,tS,tG];first|done|omega)) only [go_sem,seval,tS,tG]
  ·(simp only [go_sem,seval,lS,lgs]<;>omega)
 ·rw [if_neg hz,Qg]
  generalize dE b = ee at hz
  simp -implicitDefEqProofs (disch:=first|omega|(simp only [go_sem,seval,hz];first|done|omega)) only [go_sem,seval,hz]
  (all_goals (first|refine pfN hM ?_ ?_|refine pf0 hM ?_ ?_);all_goals first|(simp only [go_sem,seval]<;>omega)|skip;all_goals (try simp -implicitDefEqProofs (disch:=first|omega|(simp only [go_sem,seval];first|done|omega)) only [go_sem,seval]))
def encW (w:List UInt8):PV:=.s (.string ⟨w.toArray⟩)
theorem QgQ {n:Nat} (l:List (List UInt8)):lowL n (l.map encW) = True:=eq_true (Vp _ _ fun r => by simp [encW,PV.low])
theorem Qew (w:List UInt8):encW w = .s (.string ⟨w.toArray⟩):=rfl
theorem Qkj (l:List (List UInt8)):sized 1 (l.map encW) = true:=by unfold sized;rw [List.all_eq_true];intro x hx;obtain ⟨y,_,rfl⟩:=List.mem_map.1 hx;rfl
theorem Qf1 (c:UInt8) (l:List UInt8) (hl:l.length ≤ 1000000):Q X 96 [.s (.string ⟨l.toArray⟩),.s (.int .u8 c.toNat)] (.fs ((spl c l).map encW)):=by
 intro M
 have hz:=VJ l
 (refine Qd (cf:=L4.c96) rfl rfl fun hM hA => ?_;simp only [L4.c96,zO,zF,zT,zM,CX.i];rw [mk2 _ (by decide)];simp -implicitDefEqProofs (disch:=first|omega|(simp only [go_sem,seval,hz];first|done|omega)) only [go_sem,seval,hz])
 refine Qm (α:=Nat × Nat × List (List UInt8)) (0,0,[]) (fun a => (a.1 ≤ l.length ∧ a.2.1 ≤ a.1 ∧ c ∉ (l.drop a.2.1).take (a.1 - a.2.1) ∧ spl c l = a.2.2 ++ spl c (l.drop a.2.1) ∧ a.2.2.length ≤ a.2.1) ∨ (a.1 = l.length + 1 ∧ spl c l = a.2.2))
  (fun a => M ++ [.row true 1 a.2.2.length (a.2.2.map encW)])
  (fun a => [(0,.s (.string ⟨l.toArray⟩)),(1,.s (.int .u8 c.toNat)),(5,.os M.length a.2.2.length 0 a.2.2.length),(6,.I a.2.1),(7,.I a.1)]) (fun a => l.length + 1 - a.1) (.inl ⟨Nat.zero_le _,Nat.le_refl _,by simp,by simp,Nat.le_refl _⟩) rfl rfl ?_
 rintro ⟨i,f,P⟩ hinv
 simp only at hinv
 rcases hinv with ⟨h1,h2,h3,h4,h5⟩|⟨h1,h2⟩
 case inr =>
  have f1:((i:Int) ≤ l.length) = False:=eq_false (by omega)
  have tk:(P.map encW).take P.length = P.map encW:=List.take_of_length_le (by simp)
  simp -implicitDefEqProofs (disch:=first|omega|(simp only [go_sem,seval,f1,hz];first|done|omega)) only [go_sem,seval,f1,hz]
  (first|refine pfN hM ?_ ?_|refine pf0 hM ?_ ?_)
  ·simp -implicitDefEqProofs (disch:=first|omega|(simp only [go_sem,seval,tk];first|done|omega)) only [go_sem,seval,tk]
   rw [h2]
  ·(simp only [go_sem,seval,QgQ]<;>omega)
 have f1:((i:Int) ≤ l.length) = True:=eq_true (by omega)
 have hss:=@Qfy l (some (.I f)) (some (.I i))
 have b1:(f ≤ i ∧ i ≤ l.length) = True:=eq_true ⟨h2,h1⟩
 have again:∀ (N:List Blk) (T:List (Nat × PV)) (f':Nat) (P':List (List UInt8)),((i + 1 ≤ l.length ∧ f' ≤ i + 1 ∧ c ∉ (l.drop f').take (i + 1 - f') ∧ spl c l = P' ++ spl c (l.drop f') ∧ P'.length ≤ f') ∨ (i + 1 = l.length + 1 ∧ spl c l = P')) →
   M ++ [.row true 1 P'.length (P'.map encW)] = N → [(0,.s (.string ⟨l.toArray⟩)),(1,.s (.int .u8 c.toNat)),(5,.os M.length P'.length 0 P'.length),(6,.I f'),(7,.I (i + 1))] = T → Again 35 (fun a:Nat × Nat × List (List UInt8) => (a.1 ≤ l.length ∧ a.2.1 ≤ a.1 ∧ c ∉ (l.drop a.2.1).take (a.1 - a.2.1) ∧ spl c l = a.2.2 ++ spl c (l.drop a.2.1) ∧ a.2.2.length ≤ a.2.1) ∨ (a.1 = l.length + 1 ∧ spl c l = a.2.2))
   (fun a => M ++ [.row true 1 a.2.2.length (a.2.2.map encW)]) (fun a => [(0,.s (.string ⟨l.toArray⟩)),(1,.s (.int .u8 c.toNat)),(5,.os M.length a.2.2.length 0 a.2.2.length),(6,.I a.2.1),(7,.I a.1)]) (fun a => l.length + 1 - a.1) (i,f,P) N (mk 35 T):=by
  rintro N T f' P' hi rfl rfl
  exact again' (i + 1,f',P') hi (by simp only;omega) rfl rfl
 by_cases he:i = l.length
 ·have f2:((i:Int) = l.length) = True:=eq_true (by omega)
  have hd:(l.drop f).take (i - f) = l.drop f:=List.take_of_length_le (by rw [List.length_drop];omega)
  rw [hd] at h3
  rw [JM h3] at h4
  simp -implicitDefEqProofs (disch:=first|omega|(simp only [go_sem,seval,f1,f2,hz,hss,b1,hd];first|done|omega)) only [go_sem,seval,f1,f2,hz,hss,b1,hd]
  refine again _ _ (i + 1) (P ++ [l.drop f]) (.inr ⟨by omega,h4⟩) ?_ ?_ <;> simp [encW]
 ·have f2:((i:Int) = l.length) = False:=eq_false (by omega)
  obtain ⟨x,hx⟩:∃ x,l[i]? = some x:=⟨_,List.getElem?_eq_getElem (by omega)⟩
  have hix:=Qos hx
  have hdi:l.drop f = (l.drop f).take (i - f) ++ x :: l.drop (i + 1):=by
   have e1:(l.drop f).drop (i - f) = x :: l.drop (i + 1):=by
    rw [List.drop_drop,show f + (i - f) = i by omega]
    obtain ⟨g1,g2⟩:=List.getElem?_eq_some_iff.1 hx
    rw [List.drop_eq_getElem_cons g1,g2]
   rw [← e1,List.take_append_drop]
  by_cases hc:x = c
  ·have f3:((x.toNat:Int) = c.toNat) = True:=eq_true (by rw [hc])
   subst hc
   rw [hdi,Qar h3] at h4
   simp -implicitDefEqProofs (disch:=first|omega|(simp only [go_sem,seval,f1,f2,f3,hz,hss,b1,hix];first|done|omega)) only [go_sem,seval,f1,f2,f3,hz,hss,b1,hix]
   refine again _ _ (i + 1) (P ++ [(l.drop f).take (i - f)]) (.inl ⟨by omega,Nat.le_refl _,by simp,by rw [h4];simp,by simp;omega⟩) ?_ ?_ <;> simp [encW]
  ·have f3:((x.toNat:Int) = c.toNat) = False:=eq_false (fun h => hc (UInt8.toNat_inj.1 (by omega)))
   simp -implicitDefEqProofs (disch:=first|omega|(simp only [go_sem,seval,f1,f2,f3,hz,hix];first|done|omega)) only [go_sem,seval,f1,f2,f3,hz,hix]
   refine again _ _ f P (.inl ⟨by omega,by omega,?_,h4,h5⟩) rfl rfl
   have e2:i + 1 - f = (i - f) + 1:=by omega
   have hlt:i - f < (l.drop f).length:=by rw [List.length_drop];omega
   rw [e2,List.take_succ_eq_append_getElem hlt]
   simp only [List.mem_append,List.mem_singleton,not_or]
   refine ⟨h3,fun h => hc ?_⟩
   rw [h,List.getElem_drop]
   have e3:f + (i - f) = i:=by omega
   obtain ⟨g1,g2⟩:=List.getElem?_eq_some_iff.1 hx
   simp only [e3]
   exact g2.symm
def CutX (X:XRel):Prop:=∀ (l:List UInt8) (M:List Blk),l.length ≤ 1000000 → X 142 [.s (.string ⟨l.toArray⟩),.s (.string ⟨#[10]⟩)] M (.tup [.s (.string ⟨(Lib.cut l [10]).1.toArray⟩),.s (.string ⟨(Lib.cut l [10]).2.1.toArray⟩),.B (Lib.cut l [10]).2.2]) M
def SplitX (X:XRel):Prop:=∀ (l:List UInt8) (M:List Blk),l.length ≤ 1000000 → X 162 [.s (.string ⟨l.toArray⟩),.s (.string ⟨#[32]⟩)] M (.fs ((spl 32 l).map encW)) M
def AtoiX (X:XRel):Prop:=∀ (l:List UInt8) (M:List Blk),l.length ≤ 1000000 → X 177 [.s (.string ⟨l.toArray⟩)] M (atoiV ⟨l.toArray⟩) M
def TrimX (X:XRel):Prop:=∀ (l:List UInt8) (M:List Blk),X 178 [.s (.string ⟨l.toArray⟩),.s (.string ⟨#[45]⟩)] M (.s (.string ⟨(Lib.trimPrefix l [45]).toArray⟩)) M
def tkR (t:List (List UInt8) × Bool):Blk:=.row true 2 0 [.agg [.fs (t.1.map encW),.B t.2]]
theorem QS (ws:List (List UInt8)) (w:Bool):tkR (ws,w) = .row true 2 0 [.agg [.fs (ws.map encW),.B w]]:=rfl
theorem lowR {M0 E:List Blk} {b b':Blk} (hM:lowM (M0 ++ b :: E).length (M0 ++ b :: E)) (h:b'.low (M0 ++ b :: E).length):lowM (M0 ++ b' :: E).length (M0 ++ b' :: E):=by
 intro x hx
 have e:(M0 ++ b' :: E).length = (M0 ++ b :: E).length:=by simp
 rw [e]
 rcases List.mem_append.1 hx with hx|hx
 ·exact hM x (by simp [hx])
 ·rcases List.mem_cons.1 hx with rfl|hx
  ·exact h
  ·exact hM x (by simp [hx])
theorem Qjh (t:List (List UInt8) × Bool) (n:Nat):(tkR t).low n:=by
 show lowL n [_]
 simp [lowL,PV.low,QgQ]
theorem QgL (t:List (List UInt8) × Bool) (hl:t.1.length ≤ 1000000) {M0 E:List Blk} :
  ACall F X (.fn 163) [.op M0.length 0 0 0] (M0 ++ tkR t :: E) (.s (.string ⟨(wordS t).1.toArray⟩)) (M0 ++ tkR (wordS t).2 :: E):=by
 obtain ⟨ws,w⟩:=t
 simp only at hl
 refine Qd (cf:=c163) rfl rfl fun hM hA => ?_
 simp only [c163,zO,zF,zT,zM,CX.i]
 rw [mk1 _ (by decide)]
 have hlow:=fun t => lowR hM (Qjh t _)
 cases ws with
 | nil =>
  have e:wordS ([],w) = ([],([],true)):=rfl
  have hl2:=hlow ([],true)
  rw [e]
  simp only [QS,List.map_nil] at hl2 ⊢
  simp -implicitDefEqProofs (disch:=first|omega|(simp only [go_sem,seval];first|done|omega)) only [go_sem,seval]
  refine Vj Q8 hl2 (by simp) ?_ ?_
  ·simp -implicitDefEqProofs (disch:=first|omega|(simp only [go_sem,seval];first|done|omega)) only [go_sem,seval]
  ·(simp only [go_sem,seval]<;>omega)
 | cons x r =>
  by_cases hx:x = []
  ·subst hx
   have e:wordS ([] :: r,w) = ([],([] :: r,true)):=rfl
   have hl2:=hlow ([] :: r,true)
   rw [e]
   simp only [QS,List.map_cons,Qew] at hl2 ⊢
   have f0:(((r.length + 1:Nat):Int) = 0) = False:=eq_false (by omega)
   have be:bin .eql (.s (.string ⟨([]:List UInt8).toArray⟩)) (.s (.string ⟨#[]⟩)) = some (.B true):=by rw [QO];rfl
   simp -implicitDefEqProofs (disch:=first|omega|(simp only [go_sem,seval,f0,be];first|done|omega)) only [go_sem,seval,f0,be]
   refine Vj Q8 hl2 (by simp) ?_ ?_
   ·simp -implicitDefEqProofs (disch:=first|omega|(simp only [go_sem,seval];first|done|omega)) only [go_sem,seval]
   ·(simp only [go_sem,seval]<;>omega)
  ·rw [Ze hx]
   have hl2:=hlow (r,w)
   simp only [QS,List.map_cons,Qew] at hl2 ⊢
   have f0:(((r.length + 1:Nat):Int) = 0) = False:=eq_false (by omega)
   have be:bin .eql (.s (.string ⟨x.toArray⟩)) (.s (.string ⟨#[]⟩)) = some (.B false):=by
    rw [QO]
    have:((⟨x.toArray⟩:ByteArray) = ⟨([]:List UInt8).toArray⟩) = False:=by rw [bs_eq];exact eq_false hx
    show some (PV.B (decide ((⟨x.toArray⟩:ByteArray) = ⟨([]:List UInt8).toArray⟩))) = _
    simp [this]
   have hsz:=Qkj (x :: r)
   simp only [List.map_cons,Qew] at hsz
   have htk:(r.map encW).take r.length = r.map encW:=List.take_of_length_le (by simp)
   simp -implicitDefEqProofs (disch:=first|omega|(simp only [go_sem,seval,f0,be,hsz,htk];first|done|omega)) only [go_sem,seval,f0,be,hsz,htk]
   refine Vj Q8 hl2 (by simp) ?_ ?_
   ·simp -implicitDefEqProofs (disch:=first|omega|(simp only [go_sem,seval];first|done|omega)) only [go_sem,seval]
   ·(simp only [go_sem,seval]<;>omega)
theorem QbZ (t:List (List UInt8) × Bool):(wordS t).2.1.length ≤ t.1.length:=by
 obtain ⟨ws,w⟩:=t
 cases ws with
 | nil => simp [wordS]
 | cons x r => unfold wordS;simp only;split <;> simp
theorem JD {t:List (List UInt8) × Bool} {n:Nat} (h:∀ x ∈ t.1,x.length ≤ n):(wordS t).1.length ≤ n ∧ ∀ x ∈ (wordS t).2.1,x.length ≤ n:=by
 obtain ⟨ws,w⟩:=t
 cases ws with
 | nil => simp [wordS]
 | cons x r =>
  unfold wordS
  simp only
  split
  ·exact ⟨Nat.zero_le _,h⟩
  ·exact ⟨h x (by simp),fun y hy => h y (by simp [hy])⟩
theorem Qqa (hI:ItoaX X) (hA0:AtoiX X) (hT:TrimX X) (t:List (List UInt8) × Bool) (hl:t.1.length ≤ 1000000) (hw:∀ x ∈ t.1,x.length ≤ 1000000) {M0 E:List Blk} :
  ACall F X (.fn 164) [.op M0.length 0 0 0] (M0 ++ tkR t :: E) (.I (intS t).1) (M0 ++ tkR (intS t).2 :: E):=by
 refine Qd (cf:=c164) rfl rfl fun hM hA => ?_
 simp only [c164,zO,zF,zT,zM,CX.i]
 rw [mk1 _ (by decide)]
 have hlow:=fun t => lowR hM (Qjh t _)
 have e:intS t = (atoiI (wordS t).1,((wordS t).2.1,if okW (wordS t).1 = true then (wordS t).2.2 else true)):=rfl
 have hwl:=(JD hw).1
 have hwr:=QgL (X:=X) t hl (M0:=M0) (E:=E)
 rw [e]
 clear e
 simp -implicitDefEqProofs (disch:=first|omega|(simp only [go_sem,seval];first|done|omega)) only [go_sem,seval]
 refine QL hwr ?_
 generalize (wordS t).1 = v at hwl ⊢
 obtain ⟨ws,w⟩:=(wordS t).2
 simp only
 have a1:=hA0 v
 unfold atoiV at a1
 have hT2:=hT v
 have z0:=VJ (Lib.trimPrefix v [45])
 simp -implicitDefEqProofs (disch:=first|omega|(simp only [go_sem,seval];first|done|omega)) only [go_sem,seval]
 have hd:(⟨v.toArray⟩:ByteArray).data.toList = v:=by simp
 rw [hd] at a1
 cases ha:Lib.atoiAll v
 ·rename_i n
  obtain ⟨i1,i2⟩:=QrG ha
  rw [ha] at a1
  have hv:atoiI v = n:=by unfold atoiI;rw [ha]
  have hk0:okW v = (decide (Lib.itoa n = v) && decide ((Lib.trimPrefix v [45]).length ≤ 9)):=by unfold okW;rw [ha]
  simp only at a1
  rw [hv]
  refine Qa (QZ (a1 _ hwl)) ?_
  simp -implicitDefEqProofs (disch:=first|omega|(simp only [go_sem,seval];first|done|omega)) only [go_sem,seval]
  refine Qa (QZ (hI n _ i1 i2)) ?_
  by_cases c1:Lib.itoa n = v
  ·have f1:bin .neq (.s (.string (itoaB n))) (.s (.string ⟨v.toArray⟩)) = some (.B false):=by
    rw [Vd]
    have:(itoaB n = ⟨v.toArray⟩) = True:=by unfold itoaB;rw [bs_eq];exact eq_true c1
    simp [this]
   simp -implicitDefEqProofs (disch:=first|omega|(simp only [go_sem,seval,f1];first|done|omega)) only [go_sem,seval,f1]
   refine Qa (QZ (hT2 _)) ?_
   by_cases c2:(Lib.trimPrefix v [45]).length ≤ 9
   ·have f2:((9:Int) < (Lib.trimPrefix v [45]).length) = False:=eq_false (by omega)
    have hl2:=hlow (ws,w)
    rw [decide_eq_true c1,decide_eq_true c2,Bool.and_self] at hk0
    simp only [hk0,QS,if_true] at hl2 ⊢
    simp -implicitDefEqProofs (disch:=first|omega|(simp only [go_sem,seval,z0,f2];first|done|omega)) only [go_sem,seval,z0,f2]
    refine Vj Q8 hl2 (by simp) ?_ ?_
    ·simp -implicitDefEqProofs (disch:=first|omega|(simp only [go_sem,seval];first|done|omega)) only [go_sem,seval]
    ·(simp only [go_sem,seval]<;>omega)
   ·have f2:((9:Int) < (Lib.trimPrefix v [45]).length) = True:=eq_true (by omega)
    have hl2:=hlow (ws,true)
    rw [decide_eq_true c1,decide_eq_false c2,Bool.and_false] at hk0
    simp only [hk0,QS,Bool.false_eq_true,if_false] at hl2 ⊢
    simp -implicitDefEqProofs (disch:=first|omega|(simp only [go_sem,seval,z0,f2];first|done|omega)) only [go_sem,seval,z0,f2]
    refine Vj Q8 hl2 (by simp) ?_ ?_
    ·simp -implicitDefEqProofs (disch:=first|omega|(simp only [go_sem,seval];first|done|omega)) only [go_sem,seval]
    ·(simp only [go_sem,seval]<;>omega)
  ·have f1:bin .neq (.s (.string (itoaB n))) (.s (.string ⟨v.toArray⟩)) = some (.B true):=by
    rw [Vd]
    have:(itoaB n = ⟨v.toArray⟩) = False:=by unfold itoaB;rw [bs_eq];exact eq_false c1
    simp [this]
   have hl2:=hlow (ws,true)
   rw [decide_eq_false c1,Bool.false_and] at hk0
   simp only [hk0,QS,Bool.false_eq_true,if_false] at hl2 ⊢
   simp -implicitDefEqProofs (disch:=first|omega|(simp only [go_sem,seval,f1];first|done|omega)) only [go_sem,seval,f1]
   refine Vj Q8 hl2 (by simp) ?_ ?_
   ·simp -implicitDefEqProofs (disch:=first|omega|(simp only [go_sem,seval];first|done|omega)) only [go_sem,seval]
   ·(simp only [go_sem,seval]<;>omega)
 all_goals
  have hl2:=hlow (ws,true)
  rw [ha] at a1
  have hk0:okW v = false:=by unfold okW;rw [ha]
  unfold atoiI
  simp only [ha,hk0,QS,Bool.false_eq_true,if_false] at a1 hl2 ⊢
  refine Qa (QZ (a1 _ hwl)) ?_
  simp -implicitDefEqProofs (disch:=first|omega|(simp only [go_sem,seval];first|done|omega)) only [go_sem,seval]
  refine Vj Q8 hl2 (by simp) ?_ ?_
  ·simp -implicitDefEqProofs (disch:=first|omega|(simp only [go_sem,seval];first|done|omega)) only [go_sem,seval]
  ·(simp only [go_sem,seval]<;>omega)
def outA (i:Nat) (s:Ste):Blk:=.row true 3 0 [.agg [.s (.string s.name),.I s.least,.os (i + 1) s.tbs.length 0 s.tbs.length]]
def outT (s:Ste):Blk:=.row true 3 s.tbs.length (s.tbs.map encTb)
theorem VB (i:Nat) (nm:ByteArray) (le:Int) (tb:List Tb):outA i ⟨nm,le,tb⟩ = .row true 3 0 [.agg [.s (.string nm),.I le,.os (i + 1) tb.length 0 tb.length]]:=rfl
theorem VC (nm:ByteArray) (le:Int) (tb:List Tb):outT ⟨nm,le,tb⟩ = .row true 3 tb.length (tb.map encTb):=rfl
theorem word2 (t:List (List UInt8) × Bool) (hl:t.1.length ≤ 1000000) {M E:List Blk} {a b:Blk} :
  ACall F X (.fn 163) [.op (M.length + 2) 0 0 0] (M ++ a :: b :: tkR t :: E) (.s (.string ⟨(wordS t).1.toArray⟩)) (M ++ a :: b :: tkR (wordS t).2 :: E):=by
 have:=QgL (X:=X) t hl (M0:=M ++ [a,b]) (E:=E)
 simpa using this
theorem int2 (hI:ItoaX X) (hA0:AtoiX X) (hT:TrimX X) (t:List (List UInt8) × Bool) (hl:t.1.length ≤ 1000000) (hw:∀ x ∈ t.1,x.length ≤ 1000000) {M E:List Blk} {a b:Blk} :
  ACall F X (.fn 164) [.op (M.length + 2) 0 0 0] (M ++ a :: b :: tkR t :: E) (.I (intS t).1) (M ++ a :: b :: tkR (intS t).2 :: E):=by
 have:=Qqa (X:=X) hI hA0 hT t hl hw (M0:=M ++ [a,b]) (E:=E)
 simpa using this
theorem QmA (c:UInt8):∀ (l:List UInt8),(spl c l).length ≤ l.length + 1 ∧ ∀ x ∈ spl c l,x.length ≤ l.length
 | [] => by simp [spl]
 | y :: r => by
  obtain ⟨h1,h2⟩:=QmA c r
  unfold spl
  split
  ·refine ⟨by simp;omega,fun x hx => ?_⟩
   rcases List.mem_cons.1 hx with rfl|hx
   ·simp
   ·have:=h2 x hx;simp;omega
  ·cases hs:spl c r with
   | nil => exact absurd hs (Qbj c r)
   | cons h t =>
    rw [hs] at h1 h2
    refine ⟨by simp at h1 ⊢;omega,fun x hx => ?_⟩
    rcases List.mem_cons.1 hx with rfl|hx
    ·have:=h2 h (by simp);simp;omega
    ·have:=h2 x (by simp [hx]);simp;omega
theorem Qox (hS:SplitX X) (hI:ItoaX X) (hA0:AtoiX X) (hT:TrimX X) (k:Nat) (hk:k ≤ 1000000) (s:Ste) (l:List UInt8) (hl:l.length ≤ 900000) (hn:s.tbs.length ≤ 1000000) {M0:List Blk} :
  ACall F X (.fn 143) [.op M0.length 0 0 0,.s (.string ⟨l.toArray⟩),.I k] (M0 ++ [outA M0.length s,outT s]) (.B (takeS k s l).1) (M0 ++ [outA M0.length (takeS k s l).2,outT (takeS k s l).2]):=by
 obtain ⟨w1,w2⟩:=QmA 32 l
 have e:takeS k s l = if k = 0 then (decide ((wordS (spl 32 l,false)).1 = siteW) && !(intS (wordS (wordS (spl 32 l,false)).2).2).2.2 && decide ((intS (wordS (wordS (spl 32 l,false)).2).2).2.1 = []),{ s with name:=bs (wordS (wordS (spl 32 l,false)).2).1,least:=(intS (wordS (wordS (spl 32 l,false)).2).2).1 })
  else (decide ((wordS (spl 32 l,false)).1 = turbW) && !(intS (intS (wordS (wordS (spl 32 l,false)).2).2).2).2.2 && decide ((intS (intS (wordS (wordS (spl 32 l,false)).2).2).2).2.1 = []),{ s with tbs:=s.tbs ++ [⟨bs (wordS (wordS (spl 32 l,false)).2).1,(intS (wordS (wordS (spl 32 l,false)).2).2).1,(intS (intS (wordS (wordS (spl 32 l,false)).2).2).2).1⟩] }):=rfl
 rw [e]
 clear e
 have hsp:=fun M => hS l M (by omega)
 generalize spl 32 l = ws at w1 w2 hsp ⊢
 have r1:=fun (M E:List Blk) (a b:Blk) => @word2 X (ws,false) (by simp only;omega) M E a b
 have p1:=QbZ (ws,false)
 have p2:=(JD (t:=(ws,false)) (n:=1000000) (fun x hx => by have:=w2 x hx;omega)).2
 have p3:=(JD (t:=(ws,false)) (n:=1000000) (fun x hx => by have:=w2 x hx;omega)).1
 simp only at p1
 generalize wordS (ws,false) = T1 at r1 p1 p2 p3 ⊢
 have r2:=fun (M E:List Blk) (a b:Blk) => @word2 X T1.2 (by omega) M E a b
 have p4:=QbZ T1.2
 have p5:=(JD (t:=T1.2) p2).2
 generalize wordS T1.2 = T2 at r2 p4 p5 ⊢
 have r3:=fun (M E:List Blk) (a b:Blk) => @int2 X hI hA0 hT T2.2 (by omega) p5 M E a b
 have p6:(intS T2.2).2.1.length ≤ T2.2.1.length:=QbZ T2.2
 have p7:∀ x ∈ (intS T2.2).2.1,x.length ≤ 1000000:=(JD (t:=T2.2) p5).2
 generalize intS T2.2 = T3 at r3 p6 p7 ⊢
 have r4:=fun (M E:List Blk) (a b:Blk) => @int2 X hI hA0 hT T3.2 (by omega) p7 M E a b
 generalize intS T3.2 = T4 at r4 ⊢
 obtain ⟨nm,le,tb⟩:=s
 simp only at hn ⊢
 refine Qd (cf:=c143) rfl rfl fun hM hA => ?_
 simp only [c143,zO,zF,zT,zM,CX.i]
 rw [mk3 _ (by decide)]
 have hM0:lowM (M0.length + 2) M0:=by
  intro x hx
  have:=hM x (by simp [hx])
  simpa using this
 have hlow:∀ s:Ste,lowM (M0 ++ [outA M0.length s,outT s]).length (M0 ++ [outA M0.length s,outT s]):=by
  intro s x hx
  have e:(M0 ++ [outA M0.length s,outT s]).length = M0.length + 2:=by simp
  rw [e]
  rcases List.mem_append.1 hx with hx|hx
  ·exact hM0 x hx
  ·rcases List.mem_cons.1 hx with rfl|hx
   ·show lowL _ [_]
    simp [lowL,PV.low]
   ·rw [List.mem_singleton] at hx
    subst hx
    exact of_eq_true (QF _)
 clear hM
 have k1:∀ z:List UInt8,bin .eql (.s (.string ⟨z.toArray⟩)) (.s (.string ⟨#[115,105,116,101]⟩)) = some (.B (decide (z = siteW))):=by
  intro z
  rw [QO]
  have:=@bs_eq z siteW
  show some (PV.B (decide ((⟨z.toArray⟩:ByteArray) = ⟨siteW.toArray⟩))) = _
  simp only [this]
 have k2:∀ z:List UInt8,bin .eql (.s (.string ⟨z.toArray⟩)) (.s (.string ⟨#[116,117,114,98,105,110,101]⟩)) = some (.B (decide (z = turbW))):=by
  intro z
  rw [QO]
  have:=@bs_eq z turbW
  show some (PV.B (decide ((⟨z.toArray⟩:ByteArray) = ⟨turbW.toArray⟩))) = _
  simp only [this]
 simp -implicitDefEqProofs (disch:=first|omega|(simp only [go_sem,seval];first|done|omega)) only [go_sem,seval]
 refine Qa (QZ (hsp _)) ?_
 simp -implicitDefEqProofs (disch:=first|omega|(simp only [go_sem,seval,QS];first|done|omega)) only [go_sem,seval,QS]
 refine QL (r1 M0 [] _ _) ?_
 by_cases hk0:k = 0
 ·have f0:((k:Int) = 0) = True:=eq_true (by omega)
  rw [if_pos hk0]
  simp -implicitDefEqProofs (disch:=first|omega|(simp only [go_sem,seval,f0];first|done|omega)) only [go_sem,seval,f0]
  refine QL (r2 M0 [] _ _) ?_
  simp -implicitDefEqProofs (disch:=first|omega|(simp only [go_sem,seval,VB,VC];first|done|omega)) only [go_sem,seval,VB,VC]
  refine QL (r3 M0 [] _ _) ?_
  obtain ⟨v3,ws3,w3⟩:=T3
  simp only
  have hl2:=hlow ⟨bs T2.1,v3,tb⟩
  have e2:∀ a b c:Blk,M0 ++ [a,b,c] = (M0 ++ [a,b]) ++ [c]:=fun a b c => by simp
  have hk1:=k1 T1.1
  by_cases hs:T1.1 = siteW
  ·rw [decide_eq_true hs] at hk1 ⊢
   cases w3
   ·by_cases hw:ws3 = []
    ·subst hw
     simp -implicitDefEqProofs (disch:=first|omega|(simp only [go_sem,seval,hk1,QS];first|done|omega)) only [go_sem,seval,hk1,QS]
     rw [e2]
     refine VS Q8 hl2 (by simp) ?_ ?_
     ·simp -implicitDefEqProofs (disch:=first|omega|(simp only [go_sem,seval];first|done|omega)) only [go_sem,seval]
     ·(simp only [go_sem,seval]<;>omega)
    ·have fw:((ws3.length:Int) = 0) = False:=eq_false (fun h => hw (List.eq_nil_of_length_eq_zero (by omega)))
     simp -implicitDefEqProofs (disch:=first|omega|(simp only [go_sem,seval,hk1,QS,fw];first|done|omega)) only [go_sem,seval,hk1,QS,fw]
     rw [e2]
     refine VS Q8 hl2 (by simp) ?_ ?_
     ·simp -implicitDefEqProofs (disch:=first|omega|(simp only [go_sem,seval,hw];first|done|omega)) only [go_sem,seval,hw]
     ·(simp only [go_sem,seval]<;>omega)
   ·simp -implicitDefEqProofs (disch:=first|omega|(simp only [go_sem,seval,hk1,QS];first|done|omega)) only [go_sem,seval,hk1,QS]
    rw [e2]
    refine VS Q8 hl2 (by simp) ?_ ?_
    ·simp -implicitDefEqProofs (disch:=first|omega|(simp only [go_sem,seval];first|done|omega)) only [go_sem,seval]
    ·(simp only [go_sem,seval]<;>omega)
  ·rw [decide_eq_false hs] at hk1 ⊢
   simp -implicitDefEqProofs (disch:=first|omega|(simp only [go_sem,seval,hk1,QS];first|done|omega)) only [go_sem,seval,hk1,QS]
   rw [e2]
   refine VS Q8 hl2 (by simp) ?_ ?_
   ·simp -implicitDefEqProofs (disch:=first|omega|(simp only [go_sem,seval];first|done|omega)) only [go_sem,seval]
   ·(simp only [go_sem,seval]<;>omega)
 ·have f0:((k:Int) = 0) = False:=eq_false (by omega)
  rw [if_neg hk0]
  simp -implicitDefEqProofs (disch:=first|omega|(simp only [go_sem,seval,f0];first|done|omega)) only [go_sem,seval,f0]
  refine QL (r2 M0 [] _ _) ?_
  simp -implicitDefEqProofs (disch:=first|omega|(simp only [go_sem,seval];first|done|omega)) only [go_sem,seval]
  refine QL (r3 M0 [_] _ _) ?_
  simp -implicitDefEqProofs (disch:=first|omega|(simp only [go_sem,seval];first|done|omega)) only [go_sem,seval]
  refine QL (r4 M0 [_] _ _) ?_
  obtain ⟨v3,t3⟩:=T3
  obtain ⟨v4,ws4,w4⟩:=T4
  have htb:(tb ++ [(⟨bs T2.1,v3,v4⟩:Tb)]).map encTb = tb.map encTb ++ [.agg [.s (.string (bs T2.1)),.I v3,.I v4]]:=by simp [Qi]
  have htl:(tb ++ [(⟨bs T2.1,v3,v4⟩:Tb)]).length = tb.length + 1:=by simp
  simp only
  have hl2:=hlow ⟨nm,le,tb ++ [⟨bs T2.1,v3,v4⟩]⟩
  have e2:∀ a b c d:Blk,M0 ++ [a,b,c,d] = (M0 ++ [a,b]) ++ [c,d]:=fun a b c d => by simp
  have hk1:=k2 T1.1
  simp only [VB,VC,htl,htb] at hl2 ⊢
  clear htb htl hlow
  by_cases hs:T1.1 = turbW
  ·rw [decide_eq_true hs] at hk1 ⊢
   cases w4
   ·by_cases hw:ws4 = []
    ·subst hw
     simp -implicitDefEqProofs (disch:=first|omega|(simp only [go_sem,seval,hk1,QS,VB,VC];first|done|omega)) only [go_sem,seval,hk1,QS,VB,VC]
     rw [e2]
     refine VS Q8 hl2 (by simp) ?_ ?_
     ·simp -implicitDefEqProofs (disch:=first|omega|(simp only [go_sem,seval];first|done|omega)) only [go_sem,seval]
     ·(simp only [go_sem,seval]<;>omega)
    ·have fw:((ws4.length:Int) = 0) = False:=eq_false (fun h => hw (List.eq_nil_of_length_eq_zero (by omega)))
     simp -implicitDefEqProofs (disch:=first|omega|(simp only [go_sem,seval,hk1,QS,VB,VC,fw];first|done|omega)) only [go_sem,seval,hk1,QS,VB,VC,fw]
     rw [e2]
     refine VS Q8 hl2 (by simp) ?_ ?_
     ·simp -implicitDefEqProofs (disch:=first|omega|(simp only [go_sem,seval,hw];first|done|omega)) only [go_sem,seval,hw]
     ·(simp only [go_sem,seval]<;>omega)
   ·simp -implicitDefEqProofs (disch:=first|omega|(simp only [go_sem,seval,hk1,QS,VB,VC];first|done|omega)) only [go_sem,seval,hk1,QS,VB,VC]
    rw [e2]
    refine VS Q8 hl2 (by simp) ?_ ?_
    ·simp -implicitDefEqProofs (disch:=first|omega|(simp only [go_sem,seval];first|done|omega)) only [go_sem,seval]
    ·(simp only [go_sem,seval]<;>omega)
  ·rw [decide_eq_false hs] at hk1 ⊢
   simp -implicitDefEqProofs (disch:=first|omega|(simp only [go_sem,seval,hk1,QS,VB,VC];first|done|omega)) only [go_sem,seval,hk1,QS,VB,VC]
   rw [e2]
   refine VS Q8 hl2 (by simp) ?_ ?_
   ·simp -implicitDefEqProofs (disch:=first|omega|(simp only [go_sem,seval];first|done|omega)) only [go_sem,seval]
   ·(simp only [go_sem,seval]<;>omega)
theorem take2 (hS:SplitX X) (hI:ItoaX X) (hA0:AtoiX X) (hT:TrimX X) (k:Nat) (hk:k ≤ 1000000) (s:Ste) (l:List UInt8) (hl:l.length ≤ 900000) (hn:s.tbs.length ≤ 1000000) {M:List Blk} {a:Blk} :
  ACall F X (.fn 143) [.op (M.length + 1) 0 0 0,.s (.string ⟨l.toArray⟩),.I k] (M ++ [a,outA (M.length + 1) s,outT s]) (.B (takeS k s l).1) (M ++ [a,outA (M.length + 1) (takeS k s l).2,outT (takeS k s l).2]):=by
 have:=Qox (X:=X) hS hI hA0 hT k hk s l hl hn (M0:=M ++ [a])
 simpa using this
theorem QiX {l:List UInt8} (h:l ≠ []):bin .eql (.s (.string ⟨l.toArray⟩)) (.s (.string ⟨#[]⟩)) = some (.B false) ∧ bin .neq (.s (.string ⟨l.toArray⟩)) (.s (.string ⟨#[]⟩)) = some (.B true):=by
 have:((⟨l.toArray⟩:ByteArray) = ⟨([]:List UInt8).toArray⟩) = False:=by rw [bs_eq];exact eq_false h
 rw [QO,Vd]
 refine ⟨?_,?_⟩
 ·show some (PV.B (decide ((⟨l.toArray⟩:ByteArray) = ⟨([]:List UInt8).toArray⟩))) = _
  simp [this]
 ·show some (PV.B (decide ¬((⟨l.toArray⟩:ByteArray) = ⟨([]:List UInt8).toArray⟩))) = _
  simp [this]
theorem JJ (hC:CutX X) (hS:SplitX X) (hI:ItoaX X) (hA0:AtoiX X) (hT:TrimX X) (t:List UInt8) (hl:t.length ≤ 100000):Q X 93 [.s (.string ⟨t.toArray⟩)] (.tup [Qq (parS t),.I (parN t),.I (parE t)]):=by
 intro M
 have hz:=VJ t
 have f1:((1000000:Int) < t.length) = False:=eq_false (by omega)
 by_cases h0:t = []
 ·subst h0
  have e:Qq (parS []) = .agg [.s (.string ⟨#[]⟩),.I 0,.fs []]:=rfl
  have be:bin .eql (.s (.string ⟨([]:List UInt8).toArray⟩)) (.s (.string ⟨#[]⟩)) = some (.B true):=by rw [QO];rfl
  have e1:parN [] = 0:=rfl
  have e2:parE [] = 26:=rfl
  rw [e,e1,e2]
  (refine Qd (cf:=L4.c93) rfl rfl fun hM hA => ?_;simp only [L4.c93,zO,zF,zT,zM,CX.i];rw [mk1 _ (by decide)];simp -implicitDefEqProofs (disch:=first|omega|(simp only [go_sem,seval,hz,f1,be];first|done|omega)) only [go_sem,seval,hz,f1,be])
  (all_goals (first|refine pfN hM ?_ ?_|refine pf0 hM ?_ ?_);all_goals first|(simp only [go_sem,seval]<;>omega)|skip;all_goals (try simp -implicitDefEqProofs (disch:=first|omega|(simp only [go_sem,seval];first|done|omega)) only [go_sem,seval]))
 have hb0:=(QiX h0).1
 have hE:parE t = endE (parL 0 ste0 (spl 10 t)):=by unfold parE;rw [if_neg (by omega),if_neg h0]
 have hN:parN t = endN (parL 0 ste0 (spl 10 t)):=by unfold parN;rw [if_neg (by omega),if_neg h0]
 have hP:parS t = endS (parL 0 ste0 (spl 10 t)):=by unfold parS;rw [if_neg (by omega),if_neg h0]
 have hz0:Qq ste0 = .agg [.s (.string ⟨#[]⟩),.I 0,.fs []]:=rfl
 rw [hE,hN,hP]
 clear hE hN hP
 (refine Qd (cf:=L4.c93) rfl rfl fun hM hA => ?_;simp only [L4.c93,zO,zF,zT,zM,CX.i];rw [mk1 _ (by decide)];simp -implicitDefEqProofs (disch:=first|omega|(simp only [go_sem,seval,hz,f1,hb0,Zv];first|done|omega)) only [go_sem,seval,hz,f1,hb0,Zv])
 refine Qm (α:=List UInt8 × Nat × Ste) (t,0,ste0) (fun a => parL 0 ste0 (spl 10 t) = parL a.2.1 a.2.2 (spl 10 a.1) ∧ a.2.1 + a.1.length ≤ t.length ∧ a.2.2.tbs.length ≤ a.2.1)
  (fun a => M ++ [.row true 3 0 [.agg [.s (.string ⟨#[]⟩),.I 0,.s (.slice none 0 0)]],outA (M.length + 1) a.2.2,outT a.2.2])
  (fun a => [(0,.s (.string ⟨a.1.toArray⟩)),(2,.op M.length 0 0 0),(5,.op (M.length + 1) 0 0 0),(6,.I a.2.1)]) (fun a => a.1.length) ⟨rfl,by simp,Nat.le_refl _⟩ rfl rfl ?_
 rintro ⟨rest,k,s⟩ ⟨i1,i2,i3⟩
 simp only at i1 i2 i3
 rw [i1]
 have hlo:∀ (m:Nat) (s:Ste),lowM (m + 3) [outA (m + 1) s,outT s]:=by
  intro m s x hx
  rcases List.mem_cons.1 hx with rfl|hx
  ·show lowL _ [_]
   simp [lowL,PV.low]
  ·rw [List.mem_singleton] at hx
   subst hx
   exact of_eq_true (QF _)
 by_cases hr:rest = []
 ·subst hr
  have be:bin .neq (.s (.string ⟨([]:List UInt8).toArray⟩)) (.s (.string ⟨#[]⟩)) = some (.B false):=by rw [Vd];simp
  have e:parL k s (spl 10 []) = (some s,k):=by simp [spl,parL]
  rw [e,show endE (some s,k) = Qx s from rfl,show endN (some s,k) = if Qx s = 0 then 0 else k from rfl,show endS (some s,k) = if Qx s = 0 then s else ste0 from rfl]
  have hC2:=Za (X:=X) s (by omega)
  obtain ⟨nm,le,tb⟩:=s
  rw [QW] at hC2
  simp only at hC2 i3
  simp -implicitDefEqProofs (disch:=first|omega|(simp only [go_sem,seval,be,VB,VC,Qaw,Qeg,Qcs,Qa9];first|done|omega)) only [go_sem,seval,be,VB,VC,Qaw,Qeg,Qcs,Qa9]
  refine Qa (hC2 _) ?_
  have tT:(tb.map encTb).take tb.length = tb.map encTb:=List.take_of_length_le (by simp)
  have lT:∀ n,lowL n (tb.map encTb) = True:=fun n => QF _
  generalize Qx ⟨nm,le,tb⟩ = ee
  by_cases hz:ee = 0
  ·subst hz
   rw [if_pos rfl,if_pos rfl,QW]
   simp -implicitDefEqProofs (disch:=first|omega|(simp only [go_sem,seval];first|done|omega)) only [go_sem,seval]
   (first|refine pfN hM ?_ ?_|refine pf0 hM ?_ ?_)
   ·simp -implicitDefEqProofs (disch:=first|omega|(simp only [go_sem,seval,tT];first|done|omega)) only [go_sem,seval,tT]
   ·(simp only [go_sem,seval,lT]<;>omega)
  ·rw [if_neg hz,if_neg hz,hz0]
   simp -implicitDefEqProofs (disch:=first|omega|(simp only [go_sem,seval,hz];first|done|omega)) only [go_sem,seval,hz]
   (all_goals (first|refine pfN hM ?_ ?_|refine pf0 hM ?_ ?_);all_goals first|(simp only [go_sem,seval]<;>omega)|skip;all_goals (try simp -implicitDefEqProofs (disch:=first|omega|(simp only [go_sem,seval];first|done|omega)) only [go_sem,seval]))
 have hb1:=(QiX hr).2
 have hcut:=hC rest
 by_cases hnl:(10:UInt8) ∈ rest
 case neg =>
  have e:parL k s (spl 10 rest) = (none,k):=by rw [JM hnl];simp [parL,hr]
  rw [e,show endE (none,k) = 26 from rfl,show endN (none,k) = k from rfl,show endS (none,k) = ste0 from rfl,hz0]
  rw [QoH hnl] at hcut
  simp -implicitDefEqProofs (disch:=first|omega|(simp only [go_sem,seval,hb1];first|done|omega)) only [go_sem,seval,hb1]
  refine Qa (QZ (hcut _ (by omega))) ?_
  simp -implicitDefEqProofs (disch:=first|omega|(simp only [go_sem,seval];first|done|omega)) only [go_sem,seval]
  (all_goals (first|refine pfN hM ?_ ?_|refine pf0 hM ?_ ?_);all_goals first|(simp only [go_sem,seval]<;>omega)|skip;all_goals (try simp -implicitDefEqProofs (disch:=first|omega|(simp only [go_sem,seval];first|done|omega)) only [go_sem,seval]))
 obtain ⟨w,r,hw,rfl⟩:=Qby hnl
 rw [Qq5 hw] at hcut
 rw [Qar hw] at i1 ⊢
 simp only [List.length_append,List.length_cons] at i2
 obtain ⟨t1,t2⟩:=Qm0 k s w
 have htk:=@take2 X hS hI hA0 hT k (by omega) s w (by omega) (by omega)
 have hlen:(takeS k s w).2.tbs.length ≤ k + 1:=by
  unfold takeS
  simp only
  split
  ·show s.tbs.length ≤ k + 1;omega
  ·simp;omega
 simp -implicitDefEqProofs (disch:=first|omega|(simp only [go_sem,seval,hb1];first|done|omega)) only [go_sem,seval,hb1]
 refine Qa (QZ (hcut _ (by simp;omega))) ?_
 simp -implicitDefEqProofs (disch:=first|omega|(simp only [go_sem,seval];first|done|omega)) only [go_sem,seval]
 refine QL htk ?_
 cases hL:lineS k s w with
 | none =>
  rw [hL] at t1
  simp only [Option.isSome_none] at t1
  rw [t1]
  have e:=Qbq hL (Qbj 10 r)
  rw [e,show endE (none,k) = 26 from rfl,show endN (none,k) = k from rfl,show endS (none,k) = ste0 from rfl,hz0]
  simp -implicitDefEqProofs (disch:=first|omega|(simp only [go_sem,seval];first|done|omega)) only [go_sem,seval]
  (all_goals (first|refine pfN hM ?_ ?_|refine pf0 hM ?_ ?_);all_goals first|(simp only [go_sem,seval]<;>omega)|skip;all_goals (try simp -implicitDefEqProofs (disch:=first|omega|(simp only [go_sem,seval];first|done|omega)) only [go_sem,seval]))
 | some s' =>
  rw [hL] at t1
  simp only [Option.isSome_some] at t1
  have t3:=t2 s' hL
  rw [t1,t3]
  rw [t3] at hlen
  simp -implicitDefEqProofs (disch:=first|omega|(simp only [go_sem,seval];first|done|omega)) only [go_sem,seval]
  have hlM:=hlo M.length s'
  refine Qr hM rfl 3 (by simp) (by first|done|(simp only [go_sem,seval,hlM] <;> first|done|(refine ⟨?_,?_⟩ <;> omega)|omega)) (Qv (by first|done|(simp only [go_sem,seval,hlM] <;> first|done|(refine ⟨?_,?_⟩ <;> omega)|omega))) ?_
  simp -implicitDefEqProofs (disch:=first|omega|(simp only [go_sem,seval];first|done|omega)) only [go_sem,seval]
  exact again' (r,k + 1,s') ⟨Z0 hL (Qbj 10 r),by simp only;omega,by simp only;omega⟩ (by simp;omega) rfl rfl
theorem QoK (t:List UInt8):(parS t).tbs.length ≤ 64:=by
 unfold parS
 split
 ·exact Nat.zero_le _
 ·split
  ·exact Nat.zero_le _
  ·cases parL 0 ste0 (spl 10 t) with
   | mk o k =>
    cases o with
    | none => exact Nat.zero_le _
    | some s =>
     show (if Qx s = 0 then s else ste0).tbs.length ≤ 64
     split
     ·rename_i h;exact (Yb h).2.2.1
     ·exact Nat.zero_le _
theorem Qhp {x:Ser} (h:Ql x = 0):SerOk x:=by
 obtain ⟨hin,hsm⟩:=Zt h
 obtain ⟨g1,g2,_,g3⟩:=Qpw h
 refine ⟨h,?_,(Qpo h).2,hin.1,by omega,hsm,g3⟩
 unfold Ql at h
 split at h
 ·cases h
 ·rename_i hn;exact Zq (by simpa using hn)
set_option maxHeartbeats 1000000 in
theorem Qip (s P Z:Ste) (x D E Y1 Y2:Ser) (pl t c:List UInt8) (L:List (List UInt8)) (n u v z:Int) (hW:Q X 17 [] (.B true)) (hl:t.length ≤ 400) (hpl:0 < pl.length ∧ pl.length ≤ 100000) (hcl:0 < c.length ∧ c.length ≤ 300000)
  (s1:Q X 41 [Qq s,.I 10] (.B true)) (k1:Q X 46 [Qq s] (.I 0)) (s2:Q X 63 [Qt x] (.B true)) (k2:Q X 67 [Qt x] (.I 0))
  (c1:Q X 43 [Qq s] (Qq s)) (gP:Q X 92 [Qq s] (.tup [.s (.string ⟨pl.toArray⟩),.I 0])) (gR:Q X 93 [.s (.string ⟨pl.toArray⟩)] (.tup [Qq s,.I 0,.I 0]))
  (c2:Q X 65 [Qt x] (Qt x)) (gE:Q X 88 [Qt x] (.tup [.fs (c.map bt),.I 0])) (gD:Q X 89 [.fs (c.map bt)] (.tup [Qt D,.I 0]))
  (hO:Q X 55 [Qq s] (Qq s)) (hS:Q X 54 [Qq s,Qq s] (.B true)) (hS2:Q X 85 [Qt D,Qt x] (.B true))
  (hSp:Q X 96 [.s (.string ⟨pl.toArray⟩),.s (.int .u8 10)] (.fs (L.map encW))) (hL:L.length = s.tbs.length + 2) (htl:s.tbs.length ≤ 1000)
  (r1:Q X 93 [.s (.string ⟨t.toArray⟩)] (.tup [Qq P,.I n,.I u])) (r2:u = 0 → Q X 92 [Qq P] (.tup [.s (.string ⟨t.toArray⟩),.I 0]))
  (r3:Q X 89 [.fs (t.map bt)] (.tup [Qt E,.I v])) (r4:v = 0 → Q X 88 [Qt E] (.tup [.fs (t.map bt),.I 0]))
  (d1:Q X 93 [.s (.string ⟨(pl.take (pl.length - 1)).toArray⟩)] (.tup [Qq Z,.I s.tbs.length,.I 26]))
  (d2:Q X 89 [.fs ((c.take (c.length - 1)).map bt)] (.tup [Qt Y1,.I 29])) (d3:Q X 89 [.fs ((c ++ [0]).map bt)] (.tup [Qt Y2,.I 2])) :
  Q X 16 [Qq s,Qt x,.s (.string ⟨t.toArray⟩)] (.B true):=by
 have hT:=QgM (X:=X) D
 have es:=QW s
 have eP:=QW P
 have eZ:=QW Z
 have ex:=Qg x
 have eD:=Qg D
 have eE:=Qg E
 have eY1:=Qg Y1
 have eY2:=Qg Y2
 have hz:=VJ t
 have hzp:=VJ pl
 have fl:((400:Int) < t.length) = False:=eq_false (by omega)
 have ob:∀ b:List UInt8,(b.map bt).all (Q7 1) = true:=fun b => by rw [List.all_eq_true];intro x hx;obtain ⟨y,_,rfl⟩:=List.mem_map.1 hx;rfl
 have tk:∀ b:List UInt8,(b.map bt).take b.length = b.map bt:=fun b => List.take_of_length_le (by simp)
 have fL:(((L.length:Int) = (s.tbs.length:Int) + 2)) = True:=eq_true (by omega)
 have fc:(((c.length:Int) = 0)) = False:=eq_false (by omega)
 have oc:=ob c
 have tc:=tk c
 rw [es] at s1 k1 c1 gP gR hO hS ⊢
 rw [eP] at r1 r2
 rw [eZ] at d1
 rw [ex] at s2 k2 c2 gE hS2 ⊢
 rw [eD] at gD hT hS2
 rw [eE] at r3 r4
 rw [eY1] at d2
 rw [eY2] at d3
 intro M
 (refine Qd (cf:=L4.c16) rfl rfl fun hM hA => ?_;simp only [L4.c16,zO,zF,zT,zM,CX.i];rw [mk3 _ (by decide)];simp -implicitDefEqProofs (disch:=first|omega|(simp only [go_sem,seval];first|done|omega)) only [go_sem,seval])
 refine Qa (hW _) ?_
 simp -implicitDefEqProofs (disch:=first|omega|(simp only [go_sem,seval];first|done|omega)) only [go_sem,seval]
 refine Qa (s1 _) ?_
 simp -implicitDefEqProofs (disch:=first|omega|(simp only [go_sem,seval];first|done|omega)) only [go_sem,seval]
 refine Qa (k1 _) ?_
 simp -implicitDefEqProofs (disch:=first|omega|(simp only [go_sem,seval];first|done|omega)) only [go_sem,seval]
 refine Qa (s2 _) ?_
 simp -implicitDefEqProofs (disch:=first|omega|(simp only [go_sem,seval];first|done|omega)) only [go_sem,seval]
 refine Qa (k2 _) ?_
 simp -implicitDefEqProofs (disch:=first|omega|(simp only [go_sem,seval,hz,fl];first|done|omega)) only [go_sem,seval,hz,fl]
 refine Qa (c1 _) ?_
 simp -implicitDefEqProofs (disch:=first|omega|(simp only [go_sem,seval];first|done|omega)) only [go_sem,seval]
 refine Qa (gP _) ?_
 simp -implicitDefEqProofs (disch:=first|omega|(simp only [go_sem,seval];first|done|omega)) only [go_sem,seval]
 refine Qa (gR _) ?_
 simp -implicitDefEqProofs (disch:=first|omega|(simp only [go_sem,seval];first|done|omega)) only [go_sem,seval]
 refine Qa (c2 _) ?_
 simp -implicitDefEqProofs (disch:=first|omega|(simp only [go_sem,seval];first|done|omega)) only [go_sem,seval]
 refine Qa (gE _) ?_
 simp -implicitDefEqProofs (disch:=first|omega|(simp only [go_sem,seval,oc,tc];first|done|omega)) only [go_sem,seval,oc,tc]
 refine Qa (gD _) ?_
 simp -implicitDefEqProofs (disch:=first|omega|(simp only [go_sem,seval];first|done|omega)) only [go_sem,seval]
 refine Qa (hO _) ?_
 simp -implicitDefEqProofs (disch:=first|omega|(simp only [go_sem,seval];first|done|omega)) only [go_sem,seval]
 refine Qa (hS _) ?_
 simp -implicitDefEqProofs (disch:=first|omega|(simp only [go_sem,seval];first|done|omega)) only [go_sem,seval]
 refine Qa (hT _) ?_
 simp -implicitDefEqProofs (disch:=first|omega|(simp only [go_sem,seval];first|done|omega)) only [go_sem,seval]
 refine Qa (hS2 _) ?_
 simp -implicitDefEqProofs (disch:=first|omega|(simp only [go_sem,seval];first|done|omega)) only [go_sem,seval]
 refine Qa (hSp _) ?_
 simp -implicitDefEqProofs (disch:=first|omega|(simp only [go_sem,seval,fL,fc];first|done|omega)) only [go_sem,seval,fL,fc]
 refine Qa (r1 _) ?_
 have bT:bin .neq (.s (.string ⟨t.toArray⟩)) (.s (.string ⟨t.toArray⟩)) = some (.B false):=by rw [Vd];simp
 have bB:=Qkf t
 have sT:=Qa8 t
 have g1:((0:Int) ≤ (pl.length:Int) - 1) = True:=eq_true (by omega)
 have g2:((pl.length:Int) - 1).toNat = pl.length - 1:=by omega
 have g3:(pl.length - 1 ≤ pl.length) = True:=eq_true (by omega)
 have hss:=@Qfy pl none (some (.I ((pl.length:Int) - 1)))
 have q1:((0:Int) ≤ (c.length:Int) - 1) = True:=eq_true (by omega)
 have q2:((c.length:Int) - 1).toNat = c.length - 1:=by omega
 have q3:(c.length - 1 ≤ c.length) = True:=eq_true (by omega)
 have sc:=QaY c
 have mt:(c.map bt).take (c.length - 1) = (c.take (c.length - 1)).map bt:=List.map_take.symm
 have oc1:=ob (c.take (c.length - 1))
 have lc1:(c.take (c.length - 1)).length = c.length - 1:=by rw [List.length_take];omega
 have tc1:=tk (c.take (c.length - 1))
 rw [lc1] at tc1
 have ec0:(c ++ [0]).map bt = c.map bt ++ [PV.s (.int .u8 0)]:=by rw [List.map_append];rfl
 rw [ec0] at d3
 have tc2:(c.map bt ++ [PV.s (.int .u8 0)]).take (c.length + 1) = c.map bt ++ [PV.s (.int .u8 0)]:=List.take_of_length_le (by simp)
 by_cases hu:u = 0
 have rr:=r2 hu
 subst hu
 simp -implicitDefEqProofs (disch:=first|omega|(simp only [go_sem,seval];first|done|omega)) only [go_sem,seval]
 refine Qa (rr _) ?_
 simp -implicitDefEqProofs (disch:=first|omega|(simp only [go_sem,seval,bT,bB];first|done|omega)) only [go_sem,seval,bT,bB]
 rotate_left
 simp -implicitDefEqProofs (disch:=first|omega|(simp only [go_sem,seval,hu,bB];first|done|omega)) only [go_sem,seval,hu,bB]
 all_goals
  refine Qa (r3 _) ?_
  by_cases hv:v = 0
  have rw4:=r4 hv
  subst hv
  simp -implicitDefEqProofs (disch:=first|omega|(simp only [go_sem,seval];first|done|omega)) only [go_sem,seval]
  refine Qa (rw4 _) ?_
  simp -implicitDefEqProofs (disch:=first|omega|(simp only [go_sem,seval,sT,bT,hzp,g1,g2,g3,hss];first|done|omega)) only [go_sem,seval,sT,bT,hzp,g1,g2,g3,hss]
  rotate_left
  simp -implicitDefEqProofs (disch:=first|omega|(simp only [go_sem,seval,hv,hzp,g1,g2,g3,hss];first|done|omega)) only [go_sem,seval,hv,hzp,g1,g2,g3,hss]
  all_goals
   refine Qa (d1 _) ?_
   simp -implicitDefEqProofs (disch:=first|omega|(simp only [go_sem,seval,sc,q1,q2,q3,mt,oc1,tc1,lc1];first|done|omega)) only [go_sem,seval,sc,q1,q2,q3,mt,oc1,tc1,lc1]
   refine Qa (d2 _) ?_
   simp -implicitDefEqProofs (disch:=first|omega|(simp only [go_sem,seval,oc,tc,tc2];first|done|omega)) only [go_sem,seval,oc,tc,tc2]
   refine Qa (d3 _) ?_
   simp -implicitDefEqProofs (disch:=first|omega|(simp only [go_sem,seval];first|done|omega)) only [go_sem,seval]
   (all_goals (first|refine pfN hM ?_ ?_|refine pf0 hM ?_ ?_);all_goals first|(simp only [go_sem,seval]<;>omega)|skip;all_goals (try simp -implicitDefEqProofs (disch:=first|omega|(simp only [go_sem,seval];first|done|omega)) only [go_sem,seval]))
theorem Qm3 {s:Ste} (h:Qx s = 0):(steL s).length ≤ 20000:=by
 obtain ⟨hn,hle,hln,hin⟩:=Yb h
 have e:(Yc s).size = (steL s).length:=by rw [QeE,VJ]
 rw [← e]
 have h1:=Zq hn
 have h2:=ZM s.least (by omega) (by omega)
 have hpt:=QgF h
 unfold Yc
 simp only [ByteArray.size_append,Yv,sz_sp,sz_nl]
 have key:∀ l:List ByteArray,(∀ u ∈ l,u.size ≤ 200) → (joinB l).size ≤ 200 * l.length:=by
  intro l hl
  rw [Lib.size_eq,QfD]
  induction l with
  | nil => simp
  | cons a r ih =>
   have ha:=hl a (by simp)
   have hr:=ih fun u hu => hl u (by simp [hu])
   rw [List.map_cons,List.flatten_cons,List.length_append,List.length_cons]
   rw [Lib.size_eq] at ha
   omega
 have:=key (s.tbs.map tbTxt) (by
  intro u hu
  obtain ⟨t,ht,rfl⟩:=List.mem_map.1 hu
  obtain ⟨i,hi,e2⟩:=List.mem_iff_getElem.1 ht
  exact Qa2 (YV (hin i t hi (List.getElem?_eq_some_iff.2 ⟨hi,e2⟩))).1 (hpt t ht))
 rw [List.length_map] at this
 omega
theorem Qqs {b:List UInt8} (h:dE b = 0):Ql (dSer b) = 0:=by
 unfold dE at h
 split at h
 ·rename_i h1;exact absurd h h1
 ·split at h
  ·cases h
  ·split at h
   ·cases h
   ·split at h
    ·cases h
    ·split at h
     ·cases h
     ·exact h
theorem q_law01_SiteBack (hI:ItoaX X) (hJ:JoinX X) (hC:CutX X) (hSp:SplitX X) (hA:AtoiX X) (hT:TrimX X) (hX:FloorX X) (hF:FbitsX X) (hB:FrombX X) (hW:Q X 17 [] (.B true)) (s:Ste) (x:Ser) (y:ByteArray) :
  Q X 16 [Qq s,Qt x,.s (.string y)] (.B true):=by
 obtain ⟨t,rfl⟩:∃ t:List UInt8,y = ⟨t.toArray⟩:=⟨y.data.toList,(bs_of y).symm⟩
 have es:=QW s
 have ex:=Qg x
 have hz:=VJ t
 have s1:=Qcw (X:=X) s
 by_cases hs:Qb0 s = true
 case neg =>
  have hs:Qb0 s = false:=by simpa using hs
  rw [hs] at s1
  rw [es] at s1 ⊢
  rw [ex]
  intro M
  (refine Qd (cf:=L4.c16) rfl rfl fun hM hA => ?_;simp only [L4.c16,zO,zF,zT,zM,CX.i];rw [mk3 _ (by decide)];simp -implicitDefEqProofs (disch:=first|omega|(simp only [go_sem,seval];first|done|omega)) only [go_sem,seval])
  refine Qa (hW _) ?_
  simp -implicitDefEqProofs (disch:=first|omega|(simp only [go_sem,seval];first|done|omega)) only [go_sem,seval]
  refine Qa (s1 _) ?_
  simp -implicitDefEqProofs (disch:=first|omega|(simp only [go_sem,seval];first|done|omega)) only [go_sem,seval]
  refine Qa (hW _) ?_
  simp -implicitDefEqProofs (disch:=first|omega|(simp only [go_sem,seval];first|done|omega)) only [go_sem,seval]
  (all_goals (first|refine pfN hM ?_ ?_|refine pf0 hM ?_ ?_);all_goals first|(simp only [go_sem,seval]<;>omega)|skip;all_goals (try simp -implicitDefEqProofs (disch:=first|omega|(simp only [go_sem,seval];first|done|omega)) only [go_sem,seval]))
 rw [hs] at s1
 have hl:s.tbs.length ≤ 65:=by
  unfold Qb0 at hs
  simp only [Bool.and_eq_true,Bool.or_eq_true,decide_eq_true_eq] at hs
  omega
 clear hs
 have k1:=Qcu (X:=X) s (by omega)
 by_cases h0:Qx s = 0
 case neg =>
  rw [es] at s1 k1 ⊢
  rw [ex]
  generalize Qx s = ee at h0 k1
  intro M
  (refine Qd (cf:=L4.c16) rfl rfl fun hM hA => ?_;simp only [L4.c16,zO,zF,zT,zM,CX.i];rw [mk3 _ (by decide)];simp -implicitDefEqProofs (disch:=first|omega|(simp only [go_sem,seval];first|done|omega)) only [go_sem,seval])
  refine Qa (hW _) ?_
  simp -implicitDefEqProofs (disch:=first|omega|(simp only [go_sem,seval];first|done|omega)) only [go_sem,seval]
  refine Qa (s1 _) ?_
  simp -implicitDefEqProofs (disch:=first|omega|(simp only [go_sem,seval];first|done|omega)) only [go_sem,seval]
  refine Qa (k1 _) ?_
  simp -implicitDefEqProofs (disch:=first|omega|(simp only [go_sem,seval,h0];first|done|omega)) only [go_sem,seval,h0]
  refine Qa (hW _) ?_
  simp -implicitDefEqProofs (disch:=first|omega|(simp only [go_sem,seval];first|done|omega)) only [go_sem,seval]
  (all_goals (first|refine pfN hM ?_ ?_|refine pf0 hM ?_ ?_);all_goals first|(simp only [go_sem,seval]<;>omega)|skip;all_goals (try simp -implicitDefEqProofs (disch:=first|omega|(simp only [go_sem,seval];first|done|omega)) only [go_sem,seval]))
 rw [h0] at k1
 have s2:=QfT (X:=X) x
 by_cases h1:Js x = true
 case neg =>
  have h1:Js x = false:=by simpa using h1
  rw [h1,ex] at s2
  rw [es] at s1 k1 ⊢
  rw [ex]
  intro M
  (refine Qd (cf:=L4.c16) rfl rfl fun hM hA => ?_;simp only [L4.c16,zO,zF,zT,zM,CX.i];rw [mk3 _ (by decide)];simp -implicitDefEqProofs (disch:=first|omega|(simp only [go_sem,seval];first|done|omega)) only [go_sem,seval])
  refine Qa (hW _) ?_
  simp -implicitDefEqProofs (disch:=first|omega|(simp only [go_sem,seval];first|done|omega)) only [go_sem,seval]
  refine Qa (s1 _) ?_
  simp -implicitDefEqProofs (disch:=first|omega|(simp only [go_sem,seval];first|done|omega)) only [go_sem,seval]
  refine Qa (k1 _) ?_
  simp -implicitDefEqProofs (disch:=first|omega|(simp only [go_sem,seval];first|done|omega)) only [go_sem,seval]
  refine Qa (s2 _) ?_
  simp -implicitDefEqProofs (disch:=first|omega|(simp only [go_sem,seval];first|done|omega)) only [go_sem,seval]
  refine Qa (hW _) ?_
  simp -implicitDefEqProofs (disch:=first|omega|(simp only [go_sem,seval];first|done|omega)) only [go_sem,seval]
  (all_goals (first|refine pfN hM ?_ ?_|refine pf0 hM ?_ ?_);all_goals first|(simp only [go_sem,seval]<;>omega)|skip;all_goals (try simp -implicitDefEqProofs (disch:=first|omega|(simp only [go_sem,seval];first|done|omega)) only [go_sem,seval]))
 rw [h1] at s2
 obtain ⟨l1,l2⟩:=QkS h1
 have k2:=Qbh (X:=X) hX x (by omega) (by omega)
 by_cases h2:Ql x = 0
 case neg =>
  rw [es] at s1 k1 ⊢
  rw [ex] at s2 k2 ⊢
  generalize Ql x = ee at h2 k2
  intro M
  (refine Qd (cf:=L4.c16) rfl rfl fun hM hA => ?_;simp only [L4.c16,zO,zF,zT,zM,CX.i];rw [mk3 _ (by decide)];simp -implicitDefEqProofs (disch:=first|omega|(simp only [go_sem,seval];first|done|omega)) only [go_sem,seval])
  refine Qa (hW _) ?_
  simp -implicitDefEqProofs (disch:=first|omega|(simp only [go_sem,seval];first|done|omega)) only [go_sem,seval]
  refine Qa (s1 _) ?_
  simp -implicitDefEqProofs (disch:=first|omega|(simp only [go_sem,seval];first|done|omega)) only [go_sem,seval]
  refine Qa (k1 _) ?_
  simp -implicitDefEqProofs (disch:=first|omega|(simp only [go_sem,seval];first|done|omega)) only [go_sem,seval]
  refine Qa (s2 _) ?_
  simp -implicitDefEqProofs (disch:=first|omega|(simp only [go_sem,seval];first|done|omega)) only [go_sem,seval]
  refine Qa (k2 _) ?_
  simp -implicitDefEqProofs (disch:=first|omega|(simp only [go_sem,seval,h2];first|done|omega)) only [go_sem,seval,h2]
  refine Qa (hW _) ?_
  simp -implicitDefEqProofs (disch:=first|omega|(simp only [go_sem,seval];first|done|omega)) only [go_sem,seval]
  (all_goals (first|refine pfN hM ?_ ?_|refine pf0 hM ?_ ?_);all_goals first|(simp only [go_sem,seval]<;>omega)|skip;all_goals (try simp -implicitDefEqProofs (disch:=first|omega|(simp only [go_sem,seval];first|done|omega)) only [go_sem,seval]))
 rw [h2] at k2
 by_cases h3:t.length ≤ 400
 case neg =>
  have fl:((400:Int) < t.length) = True:=eq_true (by omega)
  rw [es] at s1 k1 ⊢
  rw [ex] at s2 k2 ⊢
  intro M
  (refine Qd (cf:=L4.c16) rfl rfl fun hM hA => ?_;simp only [L4.c16,zO,zF,zT,zM,CX.i];rw [mk3 _ (by decide)];simp -implicitDefEqProofs (disch:=first|omega|(simp only [go_sem,seval];first|done|omega)) only [go_sem,seval])
  refine Qa (hW _) ?_
  simp -implicitDefEqProofs (disch:=first|omega|(simp only [go_sem,seval];first|done|omega)) only [go_sem,seval]
  refine Qa (s1 _) ?_
  simp -implicitDefEqProofs (disch:=first|omega|(simp only [go_sem,seval];first|done|omega)) only [go_sem,seval]
  refine Qa (k1 _) ?_
  simp -implicitDefEqProofs (disch:=first|omega|(simp only [go_sem,seval];first|done|omega)) only [go_sem,seval]
  refine Qa (s2 _) ?_
  simp -implicitDefEqProofs (disch:=first|omega|(simp only [go_sem,seval];first|done|omega)) only [go_sem,seval]
  refine Qa (k2 _) ?_
  simp -implicitDefEqProofs (disch:=first|omega|(simp only [go_sem,seval,hz,fl];first|done|omega)) only [go_sem,seval,hz,fl]
  refine Qa (hW _) ?_
  simp -implicitDefEqProofs (disch:=first|omega|(simp only [go_sem,seval];first|done|omega)) only [go_sem,seval]
  (all_goals (first|refine pfN hM ?_ ?_|refine pf0 hM ?_ ?_);all_goals first|(simp only [go_sem,seval]<;>omega)|skip;all_goals (try simp -implicitDefEqProofs (disch:=first|omega|(simp only [go_sem,seval];first|done|omega)) only [go_sem,seval]))
 have hx:=Qhp h2
 have hll:=hx.len
 have hpl:=Qm3 h0
 obtain ⟨p1,p2,p3⟩:=QhW h0 (by omega)
 obtain ⟨u1,u2,u3⟩:=Qlc h0 (by omega)
 obtain ⟨e1,e2⟩:=QqJ hx
 have gP:=Ju (X:=X) hI hJ s (by omega)
 rw [if_pos h0,h0,QeE] at gP
 have gR:=JJ (X:=X) hC hSp hI hA hT (steL s) (by omega)
 rw [p1,p2,p3] at gR
 have gE:=Ja (X:=X) hF x (by omega) (by omega)
 rw [if_pos h2,h2,QlK hx] at gE
 have sl:(serP x).samples.length ≤ 40000:=by show (x.samples.map plus0).length ≤ _;rw [List.length_map];exact hx.sl
 have hcl:=JE x
 have hsh:x.samples.length ≤ 1000 ∧ x.gaps.length ≤ 1024:=by
  have h5:=hx.sl
  have h6:=hx.gl
  unfold Js at h1
  simp only [Bool.and_eq_true,Bool.or_eq_true,decide_eq_true_eq] at h1
  omega
 have hnm:=hx.nm
 have gD:=ZV (X:=X) hB (encL x) (by omega)
 rw [e1,e2] at gD
 have hS:=Qde (X:=X) s s (by omega)
 rw [decide_eq_true ⟨rfl,rfl,rfl⟩] at hS
 have hsm:∀ y ∈ (serP x).samples,smpE y = 0:=by
  intro y hy
  obtain ⟨z,hz,rfl⟩:=List.mem_map.1 (show y ∈ x.samples.map plus0 from hy)
  exact (Qbo (hx.sm z hz)).1
 have hS2:=Qbs (X:=X) (serP x) x hsm hx.sm (by omega) (by show x.gaps.length ≤ _;omega)
 have hfo:(serP x).samples.map fOf = x.samples.map fOf:=by
  show (x.samples.map plus0).map fOf = _
  rw [List.map_map]
  exact List.map_congr_left fun z hz => (Qbo (hx.sm z hz)).2.2
 have hbool:(decide ((serP x).name = x.name) && (decide ((serP x).start = x.start) && (decide ((serP x).samples.map fOf = x.samples.map fOf) && decide ((serP x).gaps = x.gaps)))) = true:=by
  rw [decide_eq_true (show (serP x).name = x.name from rfl),decide_eq_true (show (serP x).start = x.start from rfl),decide_eq_true hfo,decide_eq_true (show (serP x).gaps = x.gaps from rfl)];rfl
 rw [hbool] at hS2
 have hSpl:Q X 96 [.s (.string ⟨(steL s).toArray⟩),.s (.int .u8 10)] (.fs ((spl 10 (steL s)).map encW)):=Qf1 (X:=X) 10 (steL s) (by omega)
 have hL:(spl 10 (steL s)).length = s.tbs.length + 2:=by rw [Qdm h0];simp [Q2]
 have r1:=JJ (X:=X) hC hSp hI hA hT t (by omega)
 have r3:=ZV (X:=X) hB t (by omega)
 have d1:=JJ (X:=X) hC hSp hI hA hT ((steL s).take ((steL s).length - 1)) (by rw [List.length_take];omega)
 rw [u2,u3] at d1
 have d2:=ZV (X:=X) hB ((encL x).take ((encL x).length - 1)) (by rw [List.length_take];omega)
 rw [QoP hx] at d2
 have d3:=ZV (X:=X) hB (encL x ++ [0]) (by simp;omega)
 rw [Qow hx] at d3
 refine Qip s (parS t) _ x (serP x) (decS t) _ _ (steL s) t (encL x) (spl 10 (steL s)) (parN t) (parE t) (dE t) 0 hW h3 ⟨by omega,by omega⟩ ⟨by omega,by omega⟩ s1 k1 s2 k2 (QfU s (by omega)) gP gR (QeJ x (by omega) (by omega)) gE gD (QiG s (by omega)) hS hS2 hSpl hL (by omega) r1 ?_ r3 ?_ d1 d2 d3
 ·intro hu
  obtain ⟨w1,w2⟩:=Qif hu
  have:=Ju (X:=X) hI hJ (parS t) (by have:=QoK t;omega)
  rw [if_pos w1,w1,w2] at this
  exact this
 ·intro hv
  have w1:=Qqs hv
  have w2:=Qhp w1
  have w3:decS t = dSer t:=by unfold decS;rw [if_pos hv]
  have:=Ja (X:=X) hF (dSer t) (by have:=w2.sl;omega) (by have:=w2.gl;omega)
  rw [if_pos w1,w1,QlK w2,Qqp (by omega) hv w2] at this
  rw [w3]
  exact this
end
end Go.Nac.L4
