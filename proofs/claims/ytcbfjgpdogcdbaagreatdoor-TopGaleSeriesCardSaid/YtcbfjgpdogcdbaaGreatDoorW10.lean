import Derived.Test.YtcbfjgpdogcdbaaGreatDoorW09
set_option linter.unusedSimpArgs false
set_option linter.unusedVariables false
set_option linter.unnecessarySimpa false
set_option maxRecDepth 10000
namespace Go.Nac.L6
attribute [local congr] VQ Vq VS Vd Vb Q2 VT VN
section
variable {X:XRel}
def FrombX (X:XRel):Prop:=∀ (u:Nat) (M:List Blk),X 44 [.s (.int .u32 u)] M (.s (.float .f32 u)) M
theorem QdP (a b:List UInt8):Q X 69 [.fs (a.map bt),.fs (b.map bt)] (.B (decide (a = b))):=by
 intro M
 have h1:=QbF a
 have h2:=QbF b
 have e:bin .eql (.s (.string ⟨a.toArray⟩)) (.s (.string ⟨b.toArray⟩)) = some (.B (decide (a = b))):=by
  rw [Vs,show decide ((⟨a.toArray⟩:ByteArray) = ⟨b.toArray⟩) = decide (a = b) from decide_eq_decide.2 ⟨fun h => by injection h with h;simpa using congrArg Array.toList h,fun h => by rw [h]⟩]
 (refine Qe (cf:=L6.c69) rfl rfl fun hM hA => ?_;simp only [L6.c69,zO,zF,zT,zM,CX.i];rw [mk2 _ (by decide)];simp -implicitDefEqProofs (disch:=first|omega|(simp only [go_sem,seval,h1,h2,e];first|done|omega)) only [go_sem,seval,h1,h2,e])
 (all_goals (first|refine pfN hM ?_ ?_|refine pf0 hM ?_ ?_);all_goals first|(simp only [go_sem,seval]<;>omega)|skip;all_goals (try simp -implicitDefEqProofs (disch:=first|omega|(simp only [go_sem,seval];first|done|omega)) only [go_sem,seval]))
theorem Qa3 (a b:List UInt8) (ha:a.length ≤ 4000000) (hb:b.length ≤ 4000000):Q X 42 [.fs (a.map bt),.fs (b.map bt)] (.B (decide (a.take b.length = b))):=by
 intro M
 by_cases h:b.length ≤ a.length
 ·have e1:((a.length:Int) ≥ b.length) = True:=eq_true (by omega)
  have e2:(a.map bt).take b.length = (a.take b.length).map bt:=(List.map_take).symm
  have e3:=QbI a
  (refine Qe (cf:=L6.c42) rfl rfl fun hM hA => ?_;simp only [L6.c42,zO,zF,zT,zM,CX.i];rw [mk2 _ (by decide)];simp -implicitDefEqProofs (disch:=first|omega|(simp only [go_sem,seval,e1,h,e2,e3];first|done|omega)) only [go_sem,seval,e1,h,e2,e3])
  refine Qb (QdP _ _ _) ?_
  simp -implicitDefEqProofs (disch:=first|omega|(simp only [go_sem,seval];first|done|omega)) only [go_sem,seval]
  (all_goals (first|refine pfN hM ?_ ?_|refine pf0 hM ?_ ?_);all_goals first|(simp only [go_sem,seval]<;>omega)|skip;all_goals (try simp -implicitDefEqProofs (disch:=first|omega|(simp only [go_sem,seval];first|done|omega)) only [go_sem,seval]))
 ·have e1:((a.length:Int) ≥ b.length) = False:=eq_false (by omega)
  have e2:(a.take b.length = b) = False:=eq_false (fun hh => h (by rw [← hh,List.length_take];omega))
  (refine Qe (cf:=L6.c42) rfl rfl fun hM hA => ?_;simp only [L6.c42,zO,zF,zT,zM,CX.i];rw [mk2 _ (by decide)];simp -implicitDefEqProofs (disch:=first|omega|(simp only [go_sem,seval,e1,e2];first|done|omega)) only [go_sem,seval,e1,e2])
  (all_goals (first|refine pfN hM ?_ ?_|refine pf0 hM ?_ ?_);all_goals first|(simp only [go_sem,seval]<;>omega)|skip;all_goals (try simp -implicitDefEqProofs (disch:=first|omega|(simp only [go_sem,seval];first|done|omega)) only [go_sem,seval]))
def nk (a b c d:UInt8):Nat → Nat
 | 0 => 0
 | 1 => a.toNat
 | 2 => a.toNat * 256 + b.toNat
 | 3 => (a.toNat * 256 + b.toNat) * 256 + c.toNat
 | _ => ((a.toNat * 256 + b.toNat) * 256 + c.toNat) * 256 + d.toNat
theorem Qcf (l:List UInt8) (h:4 ≤ l.length) (hl:l.length ≤ 4000000) {M0:List Blk} :
  ACall F X (.fn 43) [.op M0.length 0 0 0] (M0 ++ [.row true 1 0 [.agg [.fs (l.map bt)]]]) (.I (num4 l)) (M0 ++ [.row true 1 0 [.agg [.fs ((l.drop 4).map bt)]]]):=by
 obtain ⟨a,b,c,d,t,rfl⟩:=Qc6 h
 have hn:num4 (a :: b :: c :: d :: t) = nk a b c d 4:=rfl
 rw [hn]
 have la:=u8_lt a
 have lb:=u8_lt b
 have lc:=u8_lt c
 have ld:=u8_lt d
 have ht:(t.length:Int) + 1 + 1 + 1 + 1 ≤ 4000000:=by simp at hl;omega
 have lt_:∀ m,lowL m (t.map bt) = True:=fun m => YX t
 refine Qe (cf:=c43) rfl rfl fun hM hA => ?_
 simp only [c43,zO,zF,zT,zM,CX.i]
 rw [mk1 _ (by decide)]
 have lz:=QbI (a :: b :: c :: d :: t)
 simp only [List.map_cons,bt_eq] at lz
 have htk:(t.map bt).take t.length = t.map bt:=List.take_of_length_le (by simp)
 have hs:∀ k,k < 4 → bin .shl (.s (.int .i64 (nk a b c d k))) (.s (.int .u64 8)) = some (.I ((nk a b c d k * 256:Nat):Int)):=by
  intro k hk
  rw [QoR (by decide)]
  have e1:min (8:Int).toNat IntKind.i64.bits = 8:=rfl
  have e2:nk a b c d k < 4294967296:=by
   unfold nk
   split <;> omega
  have e3:((nk a b c d k:Nat):Int) * 2 ^ 8 = ((nk a b c d k * 256:Nat):Int):=by omega
  rw [e1,e3,YH ⟨by omega,by omega⟩]
 have ho0:bin .or (.I ((nk a b c d 0 * 256:Nat):Int)) (.I a.toNat) = some (.I (nk a b c d 1)):=(QaT (by simp [nk]) la).trans (by simp [nk])
 have ho1:bin .or (.I ((nk a b c d 1 * 256:Nat):Int)) (.I b.toNat) = some (.I (nk a b c d 2)):=(QaT (by simp [nk];omega) lb).trans (by simp [nk])
 have ho2:bin .or (.I ((nk a b c d 2 * 256:Nat):Int)) (.I c.toNat) = some (.I (nk a b c d 3)):=(QaT (by simp [nk];omega) lc).trans (by simp [nk])
 have ho3:bin .or (.I ((nk a b c d 3 * 256:Nat):Int)) (.I d.toNat) = some (.I (nk a b c d 4)):=(QaT (by simp [nk];omega) ld).trans (by simp [nk])
 have hs0:=hs 0 (by decide)
 have hs1:=hs 1 (by decide)
 have hs2:=hs 2 (by decide)
 have hs3:=hs 3 (by decide)
 have hi0:∀ x y z u:PV,idxaV 4 1 none (.agg [x,y,z,u]) (some 0) = some x:=fun _ _ _ _ => rfl
 have hi1:∀ x y z u:PV,idxaV 4 1 none (.agg [x,y,z,u]) (some 1) = some y:=fun _ _ _ _ => rfl
 have hi2:∀ x y z u:PV,idxaV 4 1 none (.agg [x,y,z,u]) (some 2) = some z:=fun _ _ _ _ => rfl
 have hi3:∀ x y z u:PV,idxaV 4 1 none (.agg [x,y,z,u]) (some 3) = some u:=fun _ _ _ _ => rfl
 simp -implicitDefEqProofs (disch:=first|omega|(simp only [go_sem,seval,bt_eq,lz,htk];first|done|omega)) only [go_sem,seval,bt_eq,lz,htk]
 refine Qo (α:=Nat) 0 (fun k => k ≤ 4) (fun _ => M0 ++ [.row true 1 0 [.agg [.fs (t.map bt)]],.row true 4 0 [.agg [.s (.int .u8 a.toNat),.s (.int .u8 b.toNat),.s (.int .u8 c.toNat),.s (.int .u8 d.toNat)]]])
  (fun k => [(4,.I (nk a b c d k)),(22,.agg [.s (.int .u8 a.toNat),.s (.int .u8 b.toNat),.s (.int .u8 c.toNat),.s (.int .u8 d.toNat)]),(23,.I k)]) (fun k => 4 - k) (by decide) rfl rfl ?_
 intro k hk
 rcases (by omega:k = 0 ∨ k = 1 ∨ k = 2 ∨ k = 3 ∨ k = 4) with rfl|rfl|rfl|rfl|rfl
 ·simp -implicitDefEqProofs (disch:=first|omega|(simp only [go_sem,seval,hs0,ho0,hi0];first|done|omega)) only [go_sem,seval,hs0,ho0,hi0]
  exact again' 1 (by omega) (by omega) rfl rfl
 ·simp -implicitDefEqProofs (disch:=first|omega|(simp only [go_sem,seval,hs1,ho1,hi1];first|done|omega)) only [go_sem,seval,hs1,ho1,hi1]
  exact again' 2 (by omega) (by omega) rfl rfl
 ·simp -implicitDefEqProofs (disch:=first|omega|(simp only [go_sem,seval,hs2,ho2,hi2];first|done|omega)) only [go_sem,seval,hs2,ho2,hi2]
  exact again' 3 (by omega) (by omega) rfl rfl
 ·simp -implicitDefEqProofs (disch:=first|omega|(simp only [go_sem,seval,hs3,ho3,hi3];first|done|omega)) only [go_sem,seval,hs3,ho3,hi3]
  exact again' 4 (by omega) (by omega) rfl rfl
 ·simp -implicitDefEqProofs (disch:=first|omega|(simp only [go_sem,seval];first|done|omega)) only [go_sem,seval]
  have e:∀ x y:Blk,M0 ++ [x,y] = (M0 ++ [x]) ++ [y]:=fun x y => by simp
  have hlow:lowM (M0 ++ [Blk.row true 1 0 [.agg [.fs (t.map bt)]]]).length (M0 ++ [Blk.row true 1 0 [.agg [.fs (t.map bt)]]]):=by
   intro b hb
   rcases List.mem_append.1 hb with hb|hb
   ·have:=hM b (by simp [hb])
    simpa using this
   ·rw [List.mem_singleton] at hb
    subst hb
    show lowL _ [_]
    simp [lowL,PV.low,lt_]
  rw [e]
  refine Qfo JD hlow (by simp) ?_ ?_
  ·simp -implicitDefEqProofs (disch:=first|omega|(simp only [go_sem,seval];first|done|omega)) only [go_sem,seval]
  ·(simp only [go_sem,seval]<;>omega)
theorem QpV {n:Int} (h:0 ≤ n ∧ n < 4294967296):IntKind.u32.wrap n = n:=by
 have e:IntKind.u32.wrap n = n % 4294967296:=rfl
 rw [e];omega
theorem Jx (l:List UInt8) (h:4 ≤ l.length) (hl:l.length ≤ 4000000) {M:List Blk} {a b c d e:Blk} :
  ACall F X (.fn 43) [.op (M.length + 5) 0 0 0] (M ++ [a,b,c,d,e,.row true 1 0 [.agg [.fs (l.map bt)]]]) (.I (num4 l)) (M ++ [a,b,c,d,e,.row true 1 0 [.agg [.fs ((l.drop 4).map bt)]]]):=by
 have:=Qcf (X:=X) l h hl (M0:=M ++ [a,b,c,d,e])
 have e1:(M ++ [a,b,c,d,e]).length = M.length + 5:=by simp
 have e2:∀ x:Blk,(M ++ [a,b,c,d,e]) ++ [x] = M ++ [a,b,c,d,e,x]:=fun x => by simp
 rw [e1,e2,e2] at this
 exact this
theorem Qmw (l:List UInt8) (h:4 ≤ l.length) (hl:l.length ≤ 4000000) {M:List Blk} {a b c d e:Blk} (N:List Blk) (h1:N.length = (M ++ [a,b,c,d,e,.row true 1 0 [.agg [.fs (l.map bt)]]]).length)
  (h2:N[M.length + 5]? = (M ++ [a,b,c,d,e,.row true 1 0 [.agg [.fs (l.map bt)]]])[M.length + 5]?) :
  ACall F X (.fn 43) ([.op (M.length + 5) 0 0 0] ++ [] ++ []) N (.I (num4 l)) (N.set (M.length + 5) (.row true 1 0 [.agg [.fs ((l.drop 4).map bt)]])):=by
 have h3:(M ++ [a,b,c,d,e,.row true 1 0 [.agg [.fs (l.map bt)]]])[M.length + 5]? = some (.row true 1 0 [.agg [.fs (l.map bt)]]):=by rw [getMj];rfl
 rw [h3] at h2
 have h4:N.length = M.length + 6:=by rw [h1];simp
 have h5:(N.take (M.length + 5)).length = M.length + 5:=by rw [List.length_take];omega
 have h6:N = N.take (M.length + 5) ++ [.row true 1 0 [.agg [.fs (l.map bt)]]]:=by
  obtain ⟨g1,g2⟩:=List.getElem?_eq_some_iff.1 h2
  have:=List.take_succ_eq_append_getElem g1
  rw [g2,List.take_of_length_le (by omega)] at this
  exact this
 have:=Qcf (X:=X) l h hl (M0:=N.take (M.length + 5))
 rw [h5,← h6] at this
 have h7:N.set (M.length + 5) (.row true 1 0 [.agg [.fs ((l.drop 4).map bt)]]) = N.take (M.length + 5) ++ [.row true 1 0 [.agg [.fs ((l.drop 4).map bt)]]]:=by
  generalize N.take (M.length + 5) = K at h5 h6
  rw [h6,← h5,setM0]
  rfl
 rw [h7]
 exact this
theorem Yx (hB:FrombX X) (b:List UInt8) (hl:b.length ≤ 100000):Q X 9 [.fs (b.map bt)] (.tup [Qj (decS b),.I (dE b)]):=by
 intro M
 have hp:=fun N => Qa3 (X:=X) b [87,73,78,68] (by omega) (by decide) N
 have ew:([87,73,78,68]:List UInt8).map bt = [.s (.int .u8 87),.s (.int .u8 73),.s (.int .u8 78),.s (.int .u8 68)]:=rfl
 have e4:([87,73,78,68]:List UInt8).length = 4:=rfl
 rw [ew,e4] at hp
 clear ew e4
 have h1:((4000000:Int) < b.length) = False:=eq_false (by omega)
 have q0:=fun (l:List Int) hl N => QW (X:=X) l hl N
 by_cases c5:b.length < 5
 ·have f5:((b.length:Int) < 5) = True:=eq_true (by omega)
  have hd:dE b = 29:=by
   have:dE0 b = 29:=by unfold dE0;rw [if_neg (by omega),if_pos c5]
   unfold dE;rw [this];rfl
  have hs:decS b = ⟨⟨#[]⟩,0,[],[]⟩:=by unfold decS;rw [hd];rfl
  rw [hd,hs,Qf]
  (refine Qe (cf:=L6.c9) rfl rfl fun hM hA => ?_;simp only [L6.c9,zO,zF,zT,zM,CX.i];rw [mk1 _ (by decide)];simp -implicitDefEqProofs (disch:=first|omega|(simp only [go_sem,seval,h1];first|done|omega)) only [go_sem,seval,h1])
  refine Qb (Qu _ _ _) ?_
  simp -implicitDefEqProofs (disch:=first|omega|(simp only [go_sem,seval];first|done|omega)) only [go_sem,seval]
  refine Qb (Qu _ _ _) ?_
  simp -implicitDefEqProofs (disch:=first|omega|(simp only [go_sem,seval,f5];first|done|omega)) only [go_sem,seval,f5]
  refine Qb (hp _) ?_
  simp -implicitDefEqProofs (disch:=first|omega|(simp only [go_sem,seval];first|done|omega)) only [go_sem,seval]
  refine Qb (Qu _ _ _) ?_
  simp -implicitDefEqProofs (disch:=first|omega|(simp only [go_sem,seval];first|done|omega)) only [go_sem,seval]
  refine Qb (q0 [_,_,_] (by simp) _) ?_
  simp only [fst0]
  simp -implicitDefEqProofs (disch:=first|omega|(simp only [go_sem,seval,f5];first|done|omega)) only [go_sem,seval,f5]
  (all_goals (first|refine pfN hM ?_ ?_|refine pf0 hM ?_ ?_);all_goals first|(simp only [go_sem,seval]<;>omega)|skip;all_goals (try simp -implicitDefEqProofs (disch:=first|omega|(simp only [go_sem,seval];first|done|omega)) only [go_sem,seval]))
 have f5:((b.length:Int) < 5) = False:=eq_false (by omega)
 by_cases cW:b.take 4 = [87,73,78,68]
 case neg =>
  have hd:dE b = 1:=by
   have:dE0 b = 1:=by unfold dE0;rw [if_neg (by omega),if_neg c5,if_pos cW]
   unfold dE;rw [this];rfl
  have hs:decS b = ⟨⟨#[]⟩,0,[],[]⟩:=by unfold decS;rw [hd];rfl
  rw [hd,hs,Qf]
  (refine Qe (cf:=L6.c9) rfl rfl fun hM hA => ?_;simp only [L6.c9,zO,zF,zT,zM,CX.i];rw [mk1 _ (by decide)];simp -implicitDefEqProofs (disch:=first|omega|(simp only [go_sem,seval,h1];first|done|omega)) only [go_sem,seval,h1])
  refine Qb (Qu _ _ _) ?_
  simp -implicitDefEqProofs (disch:=first|omega|(simp only [go_sem,seval];first|done|omega)) only [go_sem,seval]
  refine Qb (Qu _ _ _) ?_
  simp -implicitDefEqProofs (disch:=first|omega|(simp only [go_sem,seval,f5];first|done|omega)) only [go_sem,seval,f5]
  refine Qb (hp _) ?_
  simp -implicitDefEqProofs (disch:=first|omega|(simp only [go_sem,seval,cW];first|done|omega)) only [go_sem,seval,cW]
  refine Qb (Qu _ _ _) ?_
  simp -implicitDefEqProofs (disch:=first|omega|(simp only [go_sem,seval,cW];first|done|omega)) only [go_sem,seval,cW]
  refine Qb (q0 [_,_,_] (by simp) _) ?_
  simp only [fst0]
  simp -implicitDefEqProofs (disch:=first|omega|(simp only [go_sem,seval,f5];first|done|omega)) only [go_sem,seval,f5]
  (all_goals (first|refine pfN hM ?_ ?_|refine pf0 hM ?_ ?_);all_goals first|(simp only [go_sem,seval]<;>omega)|skip;all_goals (try simp -implicitDefEqProofs (disch:=first|omega|(simp only [go_sem,seval];first|done|omega)) only [go_sem,seval]))
 have hd0:dE0 b = 0:=by unfold dE0;rw [if_neg (by omega),if_neg c5,if_neg (fun h => h cW)]
 obtain ⟨c,hc⟩:∃ c,b[4]? = some c:=⟨_,List.getElem?_eq_getElem (by omega)⟩
 have hn:nmN b = c.toNat:=by unfold nmN;rw [hc];rfl
 have hcl:=u8_lt c
 (refine Qe (cf:=L6.c9) rfl rfl fun hM hA => ?_;simp only [L6.c9,zO,zF,zT,zM,CX.i];rw [mk1 _ (by decide)];simp -implicitDefEqProofs (disch:=first|omega|(simp only [go_sem,seval,h1];first|done|omega)) only [go_sem,seval,h1])
 refine Qb (Qu _ _ _) ?_
 simp -implicitDefEqProofs (disch:=first|omega|(simp only [go_sem,seval];first|done|omega)) only [go_sem,seval]
 refine Qb (Qu _ _ _) ?_
 simp -implicitDefEqProofs (disch:=first|omega|(simp only [go_sem,seval,f5];first|done|omega)) only [go_sem,seval,f5]
 refine Qb (hp _) ?_
 simp -implicitDefEqProofs (disch:=first|omega|(simp only [go_sem,seval,cW];first|done|omega)) only [go_sem,seval,cW]
 refine Qb (Qu _ _ _) ?_
 simp -implicitDefEqProofs (disch:=first|omega|(simp only [go_sem,seval,cW];first|done|omega)) only [go_sem,seval,cW]
 refine Qb (q0 [_,_,_] (by simp) _) ?_
 simp only [fst0]
 simp -implicitDefEqProofs (disch:=first|omega|(simp only [go_sem,seval,f5,hc,bt_eq];first|done|omega)) only [go_sem,seval,f5,hc,bt_eq]
 by_cases cL:b.length < 17 + c.toNat
 ·have fL:((b.length:Int) < 5 + c.toNat + 12) = True:=eq_true (by omega)
  have hd:dE b = 29:=by unfold dE;rw [hd0,if_neg (fun h => h rfl),hn,if_pos cL]
  have hs:decS b = ⟨⟨#[]⟩,0,[],[]⟩:=by unfold decS;rw [hd];rfl
  rw [hd,hs,Qf]
  simp -implicitDefEqProofs (disch:=first|omega|(simp only [go_sem,seval,fL];first|done|omega)) only [go_sem,seval,fL]
  (all_goals (first|refine pfN hM ?_ ?_|refine pf0 hM ?_ ?_);all_goals first|(simp only [go_sem,seval]<;>omega)|skip;all_goals (try simp -implicitDefEqProofs (disch:=first|omega|(simp only [go_sem,seval];first|done|omega)) only [go_sem,seval]))
 have fL:((b.length:Int) < 5 + c.toNat + 12) = False:=eq_false (by omega)
 have lz:=QbI b
 have e1:(b.map bt).drop 5 = (b.drop 5).map bt:=List.map_drop.symm
 have e2:((b.drop 5).map bt).take c.toNat = ((b.drop 5).take c.toNat).map bt:=List.map_take.symm
 have e3:=QbF ((b.drop 5).take c.toNat)
 have g1:((0:Int) ≤ 5 + c.toNat) = True:=eq_true (by omega)
 have g2:(5 + (c.toNat:Int)).toNat = 5 + c.toNat:=by omega
 have g3:5 + c.toNat ≤ b.length:=by omega
 have g4:5 + c.toNat - 5 = c.toNat:=by omega
 have hbd:dBody b = b.drop (5 + c.toNat):=by unfold dBody;rw [hn]
 have hbl:(dBody b).length = b.length - (5 + c.toNat):=by rw [hbd,List.length_drop]
 have e5:(b.map bt).drop (5 + c.toNat) = (dBody b).map bt:=by rw [hbd];exact List.map_drop.symm
 have e6:((dBody b).map bt).take (b.length - (5 + c.toNat)) = (dBody b).map bt:=List.take_of_length_le (by rw [List.length_map];omega)
 simp -implicitDefEqProofs (disch:=first|omega|(simp only [go_sem,seval,fL,lz,e1,e2,e3,g1,g2,g3,g4,e5,e6,Z2];first|done|omega)) only [go_sem,seval,fL,lz,e1,e2,e3,g1,g2,g3,g4,e5,e6,Z2]
 obtain ⟨B,hB0⟩:∃ B,B = dBody b:=⟨_,rfl⟩
 obtain ⟨T,hT0⟩:∃ T,T = dTail b:=⟨_,rfl⟩
 have hBT:B.drop 12 = T:=by rw [hB0,hT0];rfl
 obtain ⟨g,hg0⟩:∃ g,g = dG b:=⟨_,rfl⟩
 obtain ⟨m,hm0⟩:∃ m,m = dM b:=⟨_,rfl⟩
 have hg1:num4 (B.drop 8) = g:=by rw [hB0,hg0];rfl
 have hm1:num4 (B.drop 4) = m:=by rw [hB0,hm0];rfl
 have hg2:g < 4294967296:=hg1 ▸ Z7 _
 have hm2:m < 4294967296:=hm1 ▸ Z7 _
 have hst:=Z7 B
 have hBl:12 ≤ B.length:=by rw [hB0,hbl];omega
 have hBl2:B.length ≤ 100000:=by rw [hB0,hbl];omega
 have hTl:T.length = B.length - 12:=by rw [← hBT,List.length_drop]
 rw [← hB0]
 have n1:=@Jx X B (by omega) (by omega)
 have n2:=@Jx X (B.drop 4) (by rw [List.length_drop];omega) (by rw [List.length_drop];omega)
 have n3:=@Jx X (B.drop 8) (by rw [List.length_drop];omega) (by rw [List.length_drop];omega)
 rw [List.drop_drop] at n2 n3
 rw [hm1] at n2
 rw [hg1,hBT] at n3
 refine Q6 n1 ?_
 simp -implicitDefEqProofs (disch:=first|omega|(simp only [go_sem,seval];first|done|omega)) only [go_sem,seval]
 refine Q6 n2 ?_
 simp -implicitDefEqProofs (disch:=first|omega|(simp only [go_sem,seval];first|done|omega)) only [go_sem,seval]
 refine Q6 n3 ?_
 simp -implicitDefEqProofs (disch:=first|omega|(simp only [go_sem,seval];first|done|omega)) only [go_sem,seval]
 have hdr:dSer b = ⟨⟨((b.drop 5).take c.toNat).toArray⟩,num4 B,smpL (T.drop (8 * g)) m,gapL T g⟩:=by unfold dSer;rw [hn,← hB0,← hT0,← hg0,← hm0]
 have hd1:dE b = if T.length < 8 * g + 4 * m then 29 else if T.length ≠ 8 * g + 4 * m then 2 else if 2147483648 ∈ smpL (T.drop (8 * g)) m then 1 else Qk (dSer b):=by
  unfold dE
  rw [hd0,if_neg (fun h => h rfl),hn,if_neg cL,← hT0,← hg0,← hm0,hdr]
 clear n1 n2 n3
 generalize hnm:(⟨((b.drop 5).take c.toNat).toArray⟩:ByteArray) = nm at hdr ⊢
 generalize num4 B = st at hdr hst ⊢
 by_cases cE:T.length = 8 * g + 4 * m
 case neg =>
  have fE:((T.length:Int) = g * 8 + m * 4) = False:=eq_false (by omega)
  by_cases cT:T.length < 8 * g + 4 * m
  ·have fT:((T.length:Int) < g * 8 + m * 4) = True:=eq_true (by omega)
   have hd:dE b = 29:=by rw [hd1,if_pos cT]
   have hs:decS b = ⟨⟨#[]⟩,0,[],[]⟩:=by unfold decS;rw [hd];rfl
   rw [hd,hs,Qf]
   simp -implicitDefEqProofs (disch:=first|omega|(simp only [go_sem,seval,fE];first|done|omega)) only [go_sem,seval,fE]
   refine Qb (Qu _ _ _) ?_
   simp -implicitDefEqProofs (disch:=first|omega|(simp only [go_sem,seval,fT];first|done|omega)) only [go_sem,seval,fT]
   refine Qb (q0 [_,_] (by simp) _) ?_
   simp only [fst0]
   simp -implicitDefEqProofs (disch:=first|omega|(simp only [go_sem,seval,fT];first|done|omega)) only [go_sem,seval,fT]
   (all_goals (first|refine pfN hM ?_ ?_|refine pf0 hM ?_ ?_);all_goals first|(simp only [go_sem,seval]<;>omega)|skip;all_goals (try simp -implicitDefEqProofs (disch:=first|omega|(simp only [go_sem,seval];first|done|omega)) only [go_sem,seval]))
  ·have fT:((T.length:Int) < g * 8 + m * 4) = False:=eq_false (by omega)
   have hd:dE b = 2:=by rw [hd1,if_neg cT,if_pos cE]
   have hs:decS b = ⟨⟨#[]⟩,0,[],[]⟩:=by unfold decS;rw [hd];rfl
   rw [hd,hs,Qf]
   simp -implicitDefEqProofs (disch:=first|omega|(simp only [go_sem,seval,fE];first|done|omega)) only [go_sem,seval,fE]
   refine Qb (Qu _ _ _) ?_
   simp -implicitDefEqProofs (disch:=first|omega|(simp only [go_sem,seval,fT];first|done|omega)) only [go_sem,seval,fT]
   refine Qb (q0 [_,_] (by simp) _) ?_
   simp only [fst0]
   simp -implicitDefEqProofs (disch:=first|omega|(simp only [go_sem,seval,fT];first|done|omega)) only [go_sem,seval,fT]
   (all_goals (first|refine pfN hM ?_ ?_|refine pf0 hM ?_ ?_);all_goals first|(simp only [go_sem,seval]<;>omega)|skip;all_goals (try simp -implicitDefEqProofs (disch:=first|omega|(simp only [go_sem,seval];first|done|omega)) only [go_sem,seval]))
 have fE:((T.length:Int) = g * 8 + m * 4) = True:=eq_true (by omega)
 simp -implicitDefEqProofs (disch:=first|omega|(simp only [go_sem,seval,fE];first|done|omega)) only [go_sem,seval,fE]
 have lT:∀ n,lowL n (T.map bt) = True:=fun n => YX T
 have ld:∀ n k,lowL n ((T.drop k).map bt) = True:=fun n k => YX _
 refine Qo (α:=Nat) 0 (fun k => k ≤ g) (fun k => M ++ [.row true 4 0 [.agg [.s (.string ⟨#[]⟩),.I 0,.s (.slice none 0 0),.s (.slice none 0 0)]],.row false 1 0 [.s (.int .u8 87),.s (.int .u8 73),.s (.int .u8 78),.s (.int .u8 68)],
   .row true 4 0 [.agg [.s (.string nm),.I st,.os (M.length + 3) 0 0 0,.os (M.length + 4) k 0 k]],.row true 1 0 [],.row true 2 k ((gapL T k).map Qa),.row true 1 0 [.agg [.fs ((T.drop (8 * k)).map bt)]]])
  (fun k => [(2,.op M.length 0 0 0),(6,.op (M.length + 2) 0 0 0),(8,.fn (.func 43) [.op (M.length + 5) 0 0 0] []),(9,.I m),(90,.I g),(91,.I k)]) (fun k => g - k) (Nat.zero_le _) rfl rfl ?_
 intro k hk
 by_cases hlt:k < g
 ·have n1:=@Jx X (T.drop (8 * k)) (by rw [List.length_drop];omega) (by rw [List.length_drop];omega)
  have n2:=@Qmw X (T.drop (8 * k + 4)) (by rw [List.length_drop];omega) (by rw [List.length_drop];omega)
  rw [List.drop_drop] at n1 n2
  have hsn:=QdD T k
  have l1:=Z7 (T.drop (8 * k))
  have l2:=Z7 (T.drop (8 * k + 4))
  have hgl:=J2 T k
  simp -implicitDefEqProofs (disch:=first|omega|(simp only [go_sem,seval,hlt];first|done|omega)) only [go_sem,seval,hlt]
  refine Q6 n1 ?_
  simp -implicitDefEqProofs (disch:=first|omega|(simp only [go_sem,seval];first|done|omega)) only [go_sem,seval]
  refine QkQ n2 rfl (by simp [lowL]) ?_
  have e8:8 * k + 4 + 4 = 8 * (k + 1):=by omega
  simp -implicitDefEqProofs (disch:=first|omega|(simp only [go_sem,seval,e8,Qh,Qd];first|done|omega)) only [go_sem,seval,e8,Qh,Qd]
  refine ⟨by simp [V3,Za,Vw,refs,refs1],?_⟩
  refine Qy hM rfl 6 (by simp) (by first|done|(simp only [go_sem,seval,Qg,ld,YX] <;> first|done|(refine ⟨?_,?_⟩ <;> omega)|omega)) (QA (by first|done|(simp only [go_sem,seval,Qg,ld,YX] <;> first|done|(refine ⟨?_,?_⟩ <;> omega)|omega))) ?_
  simp -implicitDefEqProofs (disch:=first|omega|(simp only [go_sem,seval];first|done|omega)) only [go_sem,seval]
  exact again' (k + 1) (by omega) (by omega) (by rw [hsn];simp;rfl) rfl
 have hkk:k = g:=by omega
 subst hkk
 have hgl:=J2 T k
 obtain ⟨U,hU⟩:∃ U,U = T.drop (8 * k):=⟨_,rfl⟩
 have hUl:U.length = 4 * m:=by rw [hU,List.length_drop];omega
 rw [← hU] at hd1 hdr ⊢
 have ldU:∀ n j,lowL n ((U.drop j).map bt) = True:=fun n j => YX _
 have lgs:∀ n,lowL n ((gapL T k).map Qa) = True:=fun n => Qg _
 have lgM:lowM (M.length + 6) [.row true 2 k ((gapL T k).map Qa)]:=by (simp only [go_sem,seval,lgs]<;>omega)
 generalize hG:(gapL T k) = G at hgl lgs ⊢
 simp -implicitDefEqProofs (disch:=first|omega|(simp only [go_sem,seval,hlt];first|done|omega)) only [go_sem,seval,hlt]
 refine Qo (α:=Nat) 0 (fun j => j ≤ m ∧ 2147483648 ∉ smpL U j) (fun j => M ++ [.row true 4 0 [.agg [.s (.string ⟨#[]⟩),.I 0,.s (.slice none 0 0),.s (.slice none 0 0)]],.row false 1 0 [.s (.int .u8 87),.s (.int .u8 73),.s (.int .u8 78),.s (.int .u8 68)],
   .row true 4 0 [.agg [.s (.string nm),.I st,.os (M.length + 3) j 0 j,.os (M.length + 4) k 0 k]],.row true 1 j ((smpL U j).map encF),.row true 2 k (G.map Qa),.row true 1 0 [.agg [.fs ((U.drop (4 * j)).map bt)]]])
  (fun j => [(2,.op M.length 0 0 0),(6,.op (M.length + 2) 0 0 0),(8,.fn (.func 43) [.op (M.length + 5) 0 0 0] []),(105,.I m),(106,.I j)]) (fun j => m - j) ⟨Nat.zero_le _,by simp [smpL]⟩ rfl rfl ?_
 rintro j ⟨hj,hno⟩
 by_cases hlt2:j < m
 ·have n1:=@Jx X (U.drop (4 * j)) (by rw [List.length_drop];omega) (by rw [List.length_drop];omega)
  rw [List.drop_drop] at n1
  have e8:4 * j + 4 = 4 * (j + 1):=by omega
  rw [e8] at n1
  have hsn:=Yj U j
  have l1:=Z7 (U.drop (4 * j))
  have hsl:=JN U j
  obtain ⟨u,hu⟩:∃ u,u = num4 (U.drop (4 * j)):=⟨_,rfl⟩
  rw [← hu] at n1 hsn l1
  have hw:IntKind.u32.wrap (u:Int) = u:=QpV (by omega)
  simp -implicitDefEqProofs (disch:=first|omega|(simp only [go_sem,seval,hlt2];first|done|omega)) only [go_sem,seval,hlt2]
  refine Q6 n1 ?_
  simp -implicitDefEqProofs (disch:=first|omega|(simp only [go_sem,seval,hw];first|done|omega)) only [go_sem,seval,hw]
  by_cases hz:u = 2147483648
  ·have fz:((u:Int) = 2147483648) = True:=eq_true (by omega)
   have hin:2147483648 ∈ smpL U m:=by
    unfold smpL
    rw [List.mem_map]
    exact ⟨j,List.mem_range.2 hlt2,by rw [← hu];exact hz⟩
   have hd:dE b = 1:=by rw [hd1,if_neg (by omega),if_neg (fun h => h cE),if_pos hin]
   have hs:decS b = ⟨⟨#[]⟩,0,[],[]⟩:=by unfold decS;rw [hd];rfl
   rw [hd,hs,Qf]
   simp -implicitDefEqProofs (disch:=first|omega|(simp only [go_sem,seval,fz];first|done|omega)) only [go_sem,seval,fz]
   (all_goals (first|refine pfN hM ?_ ?_|refine pf0 hM ?_ ?_);all_goals first|(simp only [go_sem,seval]<;>omega)|skip;all_goals (try simp -implicitDefEqProofs (disch:=first|omega|(simp only [go_sem,seval];first|done|omega)) only [go_sem,seval]))
  have fz:((u:Int) = 2147483648) = False:=eq_false (by omega)
  simp -implicitDefEqProofs (disch:=first|omega|(simp only [go_sem,seval,fz];first|done|omega)) only [go_sem,seval,fz]
  refine Qb (VI (hB u _)) ?_
  simp -implicitDefEqProofs (disch:=first|omega|(simp only [go_sem,seval];first|done|omega)) only [go_sem,seval]
  refine Qy hM rfl 6 (by simp) (by first|done|(simp only [go_sem,seval,Qg,ldU,QG] <;> first|done|(refine ⟨?_,?_⟩ <;> omega)|omega)) (QA (by first|done|(simp only [go_sem,seval,Qg,ldU,QG] <;> first|done|(refine ⟨?_,?_⟩ <;> omega)|omega))) ?_
  simp -implicitDefEqProofs (disch:=first|omega|(simp only [go_sem,seval];first|done|omega)) only [go_sem,seval]
  refine again' (j + 1) ⟨by omega,?_⟩ (by omega) (by rw [hsn];simp) rfl
  rw [hsn]
  simp only [List.mem_append,List.mem_singleton,not_or]
  exact ⟨hno,fun h => hz h.symm⟩
 have hjj:j = m:=by omega
 subst hjj
 have hdr2:dSer b = ⟨nm,st,smpL U j,G⟩:=by rw [hdr,hG]
 have hd:dE b = Qk (dSer b):=by rw [hd1,if_neg (by omega),if_neg (fun h => h cE),if_neg hno]
 have hC:=Vg (X:=X) (dSer b) (by rw [hdr2];show (smpL U j).length ≤ _;rw [JN];omega) (by rw [hdr2];show G.length ≤ _;omega)
 rw [← hd] at hC
 unfold decS
 rw [hdr2,Qf] at hC
 rw [hdr2]
 have hsl:=JN U j
 generalize smpL U j = S at hC hsl ⊢
 simp only at hC
 have lS:∀ n,lowL n (S.map encF) = True:=fun n => QG _
 simp -implicitDefEqProofs (disch:=first|omega|(simp only [go_sem,seval,hlt2,JU,Qca,Qa2,JZ];first|done|omega)) only [go_sem,seval,hlt2,JU,Qca,Qa2,JZ]
 refine Qb (hC _) ?_
 have tS:(S.map encF).take j = S.map encF:=List.take_of_length_le (by rw [List.length_map];omega)
 have tG:(G.map Qa).take k = G.map Qa:=List.take_of_length_le (by rw [List.length_map];omega)
 by_cases hz:dE b = 0
 ·rw [if_pos hz,Qf,hz]
  simp -implicitDefEqProofs (disch:=first|omega|(simp only [go_sem,seval,tS,tG];first|done|omega)) only [go_sem,seval,tS,tG]
  (first|refine pfN hM ?_ ?_|refine pf0 hM ?_ ?_)
  ·simp -implicitDefEqProofs (disch:=first|omega|(simp only [go_sem,seval,tS,tG];first|done|omega)) only [go_sem,seval,tS,tG]
  ·(simp only [go_sem,seval,lS,lgs]<;>omega)
 ·rw [if_neg hz,Qf]
  generalize dE b = ee at hz
  simp -implicitDefEqProofs (disch:=first|omega|(simp only [go_sem,seval,hz];first|done|omega)) only [go_sem,seval,hz]
  (all_goals (first|refine pfN hM ?_ ?_|refine pf0 hM ?_ ?_);all_goals first|(simp only [go_sem,seval]<;>omega)|skip;all_goals (try simp -implicitDefEqProofs (disch:=first|omega|(simp only [go_sem,seval];first|done|omega)) only [go_sem,seval]))
end
end Go.Nac.L6
namespace Go.Nac.L6
attribute [local congr] VQ Vq VS Vd Vb Q2 VT VN
section
variable {X:XRel}
theorem QcV (s:Ser):Q X 11 [Qj s] (Qj s):=by
 have es:=Qf s
 have lw1:∀ m,lowL m (s.samples.map encF) = True:=fun m => QG _
 have lw2:∀ m,lowL m (s.gaps.map Qa) = True:=fun m => Qg _
 rw [es]
 intro M
 (refine Qe (cf:=L6.c11) rfl rfl fun hM hA => ?_;simp only [L6.c11,zO,zF,zT,zM,CX.i];rw [mk1 _ (by decide)];simp -implicitDefEqProofs (disch:=first|omega|(simp only [go_sem,seval];first|done|omega)) only [go_sem,seval])
 (first|refine pfN hM ?_ ?_|refine pf0 hM ?_ ?_)
 ·simp -implicitDefEqProofs (disch:=first|omega|(simp only [go_sem,seval];first|done|omega)) only [go_sem,seval]
 ·(simp only [go_sem,seval,lw1,lw2]<;>omega)
theorem QbJ (s:Ser) (hl:s.samples.length ≤ 1000000) (hgl:s.gaps.length ≤ 1000000):Q X 13 [Qj s] (Qj s):=by
 have es:=Qf s
 have ok1:=Js s.samples
 have ok2:=Zj s.gaps
 have ln1:(s.samples.map encF).length = s.samples.length:=by simp
 have ln2:(s.gaps.map Qa).length = s.gaps.length:=by simp
 have lw1:∀ m,lowL m (s.samples.map encF) = True:=fun m => QG _
 have lw2:∀ m,lowL m (s.gaps.map Qa) = True:=fun m => Qg _
 rw [es]
 intro M
 (refine Qe (cf:=L6.c13) rfl rfl fun hM hA => ?_;simp only [L6.c13,zO,zF,zT,zM,CX.i];rw [mk1 _ (by decide)];simp -implicitDefEqProofs (disch:=first|omega|(simp only [go_sem,seval,ok1,ok2,ln1,ln2,Qde,Qjb,fzs_s,QgY];first|done|omega)) only [go_sem,seval,ok1,ok2,ln1,ln2,Qde,Qjb,fzs_s,QgY])
 refine ⟨by simp [V3,Za,Vw,refs,refs1],?_⟩
 (first|refine pfN hM ?_ ?_|refine pf0 hM ?_ ?_)
 ·simp -implicitDefEqProofs (disch:=first|omega|(simp only [go_sem,seval,ln1,ln2];first|done|omega)) only [go_sem,seval,ln1,ln2]
 ·(simp only [go_sem,seval,lw1,lw2]<;>omega)
theorem Z9 {x:Ser} (h:Qk x = 0):SerOk x:=by
 obtain ⟨hin,hsm⟩:=Z6 h
 obtain ⟨g1,g2,_,g3⟩:=QcZ h
 refine ⟨h,?_,(Qou h).2,hin.1,by omega,hsm,g3⟩
 unfold Qk at h
 split at h
 ·cases h
 ·rename_i hn;exact Zu (by simpa using hn)
theorem Qj6 {s:Ser} (h:JA s = true):s.samples.length ≤ 40001 ∧ s.gaps.length ≤ 1025:=by
 unfold JA at h
 simp only [Bool.and_eq_true,Bool.or_eq_true,decide_eq_true_eq] at h
 omega
theorem QpM {s:Ser} {lv:Nat} {n:Int} (hs:Qk s = 0) (hl:s.samples.length ≤ 1024) (hv:smpE lv = 0) (hn:1 ≤ n ∧ n ≤ 40000):Jq s lv n = (longK n (spL s lv),0):=by
 have e:Yo s lv n = 0:=by unfold Yo;rw [hs,hv,Z0.2 hn];rfl
 unfold Jq
 rw [if_pos e]
 have h1:=Qam n (spTo lv (recOf s.samples s.gaps))
 have h2:=JS lv (recOf s.samples s.gaps)
 have h3:=QcK s.samples s.gaps s.samples.length
 have h4:(recOf s.samples s.gaps).length = (recK s.samples s.gaps s.samples.length).length:=rfl
 rw [if_neg (by unfold QaC;omega)];rfl
theorem Qns (s:Ser) (lv:Nat) (n:Int) (hs:Qk s = 0) (hl:s.samples.length ≤ 1024) (hv:smpE lv = 0) (hn:1 ≤ n ∧ n ≤ 40000):Q X 14 [Qj s,encF lv,.I n] (.tup [.fs ((longK n (spL s lv)).map Qa),.I 0]):=by
 have h:=Qac (X:=X) s lv n (by omega) (Z6 hs).1.2.1
 rwa [QpM hs hl hv hn] at h
theorem JO (s:Ser) (lv:Nat) (hs:Qk s = 0) (hl:s.samples.length ≤ 1024) (hv:smpE lv = 0):Q X 14 [Qj s,encF lv,.I 1] (.tup [.fs ((spL s lv).map Qa),.I 0]):=by
 have h:=Qns (X:=X) s lv 1 hs hl hv (by decide)
 rwa [Qpx (Zo s lv (by omega)).1] at h
open Ieee
end
end Go.Nac.L6
namespace Go.Nac.L6
attribute [local congr] VQ Vq VS Vd Vb Q2 VT VN
section
variable {X:XRel}
theorem ga1 (hF:FbitsX X):Q X 8 [Qj gaA] (.tup [.fs ((encL gaA).map bt),.I 0]):=by
 have h:=Qab (X:=X) hF gaA (by decide) (by decide)
 rw [ga_a,if_pos rfl,QjO (Z9 ga_a)] at h
 exact h
theorem ga2 (hB:FrombX X):Q X 9 [.fs ((encL gaA).map bt)] (.tup [Qj gaA,.I 0]):=by
 have h:=Yx (X:=X) hB (encL gaA) (by rw [QjD];decide)
 obtain ⟨e1,e2⟩:=QgB (Z9 ga_a)
 rw [e1,e2,ga_p] at h
 exact h
theorem ga3 (hS:SortX X):Q X 12 [Qj gaA,Qj gaB] (.tup [Qj gaD,.I 0]):=by
 have h:=Qaa (X:=X) hS gaA gaB (by decide) (by decide) (by decide) (by decide)
 rw [ga_d] at h
 exact h
theorem ga4:Q X 14 [Qj gaD,encF 1082130432,.I 1] (.tup [.fs (([⟨0,2⟩,⟨4,5⟩]:List Spn).map Qa),.I 0]):=by
 have h:=Qac (X:=X) gaD 1082130432 1 (by decide) (by decide)
 unfold Jq QaC at h
 rw [show Yo gaD 1082130432 1 = 0 from by decide +kernel,if_pos rfl,ga_sp,if_neg (by decide)] at h
 exact h
theorem ga5:Q X 21 [Q1 gaF,.I 3] (.tup [Q1 gaG,.I 0]):=by
 have h:=Qb7 (X:=X) gaF 3 (by decide)
 rw [show turnE gaF 3 = 0 from by decide +kernel,if_pos rfl] at h
 exact h
theorem ga6 (hI:ItoaX X) (hJ:JoinX X):Q X 23 [Q1 gaG] (.tup [.s (.string (QcI gaG)),.I 0]):=by
 have h:=QeU (X:=X) hI hJ gaG (by decide)
 rw [Qo9,if_pos rfl] at h
 exact h
theorem ga_cA:Qj gaA = .agg [.s (.string ⟨#[119]⟩),.I 5,.fs [.s (.float .f32 1065353216),.s (.float .f32 1073741824),.s (.float .f32 0)],.fs [.agg [.I 2,.I 3]]]:=rfl
theorem ga_cD:Qj gaD = .agg [.s (.string ⟨#[119]⟩),.I 5,.fs [.s (.float .f32 1065353216),.s (.float .f32 1073741824),.s (.float .f32 0),.s (.float .f32 0),.s (.float .f32 1082130432)],.fs [.agg [.I 2,.I 4]]]:=rfl
theorem ga_cG:Q1 gaG = .agg [.s (.string ⟨#[102]⟩),.I 2,.fs [.agg [.s (.string ⟨#[116,49]⟩),.I 0,.I 0],.agg [.s (.string ⟨#[116,50]⟩),.I (-1),.I 2]]]:=rfl
set_option maxHeartbeats 2000000 in
theorem q_top_galeRecord (hS:SortX X) (hI:ItoaX X) (hJ:JoinX X) (hF:FbitsX X) (hB:FrombX X):Q X 7 [] (.B true):=by
 intro M
 have g1:=ga1 (X:=X) hF
 have g2:=ga2 (X:=X) hB
 have hl:=QjD
 have hl2:((encL gaA).map bt).length = 38:=by rw [List.length_map,hl]
 generalize encL gaA = b at g1 g2 hl hl2
 (refine Qe (cf:=L6.c7) rfl rfl fun hM hA => ?_;simp only [L6.c7,zO,zF,zT,zM,CX.i];rw [mk0];simp -implicitDefEqProofs (disch:=first|omega|(simp only [go_sem,seval];first|done|omega)) only [go_sem,seval])
 refine Qb (g1 _) ?_
 simp -implicitDefEqProofs (disch:=first|omega|(simp only [go_sem,seval];first|done|omega)) only [go_sem,seval]
 refine Qb (g2 _) ?_
 simp -implicitDefEqProofs (disch:=first|omega|(simp only [go_sem,seval,ga_cA];first|done|omega)) only [go_sem,seval,ga_cA]
 refine Qb (ga3 hS _) ?_
 simp -implicitDefEqProofs (disch:=first|omega|(simp only [go_sem,seval,ga_cD];first|done|omega)) only [go_sem,seval,ga_cD]
 refine Qb (ga4 _) ?_
 simp -implicitDefEqProofs (disch:=first|omega|(simp only [go_sem,seval];first|done|omega)) only [go_sem,seval]
 refine Qb (ga5 _) ?_
 simp -implicitDefEqProofs (disch:=first|omega|(simp only [go_sem,seval,ga_cG];first|done|omega)) only [go_sem,seval,ga_cG]
 refine Qb (ga6 hI hJ _) ?_
 simp -implicitDefEqProofs (disch:=first|omega|(simp only [go_sem,seval,hl,hl2];first|done|omega)) only [go_sem,seval,hl,hl2]
 refine Qb (Y4 [⟨2,4⟩] (by decide) _) ?_
 simp -implicitDefEqProofs (disch:=first|omega|(simp only [go_sem,seval];first|done|omega)) only [go_sem,seval]
 refine Qb (Y4 [⟨0,2⟩,⟨4,5⟩] (by decide) _) ?_
 simp -implicitDefEqProofs (disch:=first|omega|(simp only [go_sem,seval,Qfm,Vs];first|done|omega)) only [go_sem,seval,Qfm,Vs]
 (all_goals (first|refine pfN hM ?_ ?_|refine pf0 hM ?_ ?_);all_goals first|(simp only [go_sem,seval]<;>omega)|skip;all_goals (try simp -implicitDefEqProofs (disch:=first|omega|(simp only [go_sem,seval];first|done|omega)) only [go_sem,seval]))
def Z4:List PV:=[.s (.string ⟨#[]⟩),.I 0,.s (.slice none 0 0),.s (.slice none 0 0)]
def serC (x:Ser):List PV:=[.s (.string x.name),.I x.start,.fs (x.samples.map encF),.fs (x.gaps.map Qa)]
def prtC (D:Nat → Ser):Nat → List PV
 | 0 => Z4 ++ Z4
 | 1 => serC (D 0) ++ Z4
 | _ => serC (D 0) ++ serC (D 1)
def frO (k:Nat) (i:Nat):Nat:=if i = 0 then 0 else k
def toO (k n:Nat) (i:Nat):Nat:=if i = 0 then k else n
theorem Qeg (x:Ser) (m:Nat):lowL m (serC x) = True:=by
 have a1:lowL m (x.samples.map encF) = True:=QG _
 have a2:lowL m (x.gaps.map Qa) = True:=Qg _
 simp [serC,lowL,PV.low,a1,a2]
set_option maxHeartbeats 8000000 in
theorem QcQ (hW:Q X 7 [] (.B true)) (s:Ser) (n k:Nat) (at_ kk:Int) (lv:Nat) (D:Nat → Ser) (c:Nat → List UInt8)
  (sh:Q X 5 [Qj s] (.B true)) (k1:Q X 6 [Qj s] (.I 0))
  (hn:s.samples.length = n) (hst:0 ≤ s.start ∧ s.start ≤ 1000000) (hn96:n ≤ 96) (hgl:s.gaps.length ≤ 8) (hin:∀ x ∈ s.gaps,0 ≤ x.fr ∧ x.fr < x.to_ ∧ x.to_ ≤ n)
  (hat:0 ≤ at_ ∧ at_ ≤ 255) (hkk:0 ≤ kk ∧ kk ≤ 65535) (hk:at_ % ((n:Int) + 1) = k) (hkn:k ≤ n) (hD:∀ i,D i = serP (cutS s (frO k i) (toO k n i)))
  (gE:∀ i,Q X 8 [Qj (cutS s (frO k i) (toO k n i))] (.tup [.fs ((c i).map bt),.I 0])) (gD:∀ i,Q X 9 [.fs ((c i).map bt)] (.tup [Qj (D i),.I 0]))
  (gS:∀ i,Q X 10 [Qj (D i),Qj (cutS s (frO k i) (toO k n i))] (.B true))
  (W E:Ser) (b b':List UInt8) (v z:Int) (j e:Nat) (x y w al gp:List Spn)
  (gA:Q X 12 [Qj (D 0),Qj (D 1)] (.tup [Qj W,.I 0])) (gB:Q X 8 [Qj s] (.tup [.fs (b.map bt),.I 0])) (hb:4 * n ≤ b.length ∧ b.length ≤ 4000) (gW:Q X 10 [Qj W,Qj s] (.B true))
  (hj:0 < n → (b.length:Int) - 4 * n + kk % (4 * n) = j) (he:at_ % 8 = e) (hb':0 < n → ∃ c,b[j]? = some c ∧ b' = b.set j (c ^^^ UInt8.ofNat (2 ^ e)))
  (gX:Q X 9 [.fs (b'.map bt)] (.tup [Qj E,.I v])) (gXs:v = 0 → 0 < n → Q X 10 [Qj E,Qj s] (.B false))
  (hz:kk % 640 - 320 = z) (hlv:lv = lvOf z) (gx:Q X 14 [Qj s,encF lv,.I 1] (.tup [.fs (x.map Qa),.I 0])) (gy:Q X 14 [Qj (D 0),encF lv,.I 1] (.tup [.fs (y.map Qa),.I 0])) (gw:Q X 14 [Qj (D 1),encF lv,.I 1] (.tup [.fs (w.map Qa),.I 0]))
  (cy:Q X 15 [.fs (y.map Qa)] (.I 0)) (cw:Q X 15 [.fs (w.map Qa)] (.I 0)) (hy:y.length ≤ 96) (hw:w.length ≤ 96) (hwt:∀ l ∈ w,0 ≤ l.fr ∧ l.fr < l.to_ ∧ l.to_ ≤ (n:Int) - k)
  (gJ:Q X 16 [.fs (y.map Qa),.fs ((mvG k w).map Qa)] (.tup [.fs (x.map Qa),.I 0])) (gM:Q X 14 [Qj s,encF 1157627904,.I 1] (.tup [.fs (al.map Qa),.I 0])) (hal:al.length ≤ 96)
  (gG:Q X 16 [.fs (al.map Qa),.fs (s.gaps.map Qa)] (.tup [.fs (gp.map Qa),.I 0])) (hx:x.length ≤ 1000) (hgp:gp = if n = 0 then [] else [⟨0,n⟩]) :
  Q X 3 [Qj s,.s (.int .u8 at_),.s (.int .u16 kk)] (.B true):=by
 have es:=Qf s
 have hT:=QcV (X:=X)
 rw [es] at sh k1 ⊢
 have ma:at_.tmod ((n:Int) + 1) = k:=by rw [Int.tmod_eq_emod_of_nonneg hat.1];exact hk
 have fst:((1000000:Int) < s.start) = False:=eq_false (by omega)
 have hz8:([Value.string ⟨#[]⟩,.int .i64 0,.slice none 0 0,.slice none 0 0,.string ⟨#[]⟩,.int .i64 0,.slice none 0 0,.slice none 0 0]:List Value).map PV.s = prtC D 0:=rfl
 have fn1:((n:Int) + 1 = 0) = False:=eq_false (by omega)
 have o1:=Js s.samples
 have n1:(s.samples.map encF).length = n:=by rw [List.length_map];exact hn
 have lw1:∀ m,lowL m (s.samples.map encF) = True:=fun m => QG _
 have lw2:∀ m,lowL m (s.gaps.map Qa) = True:=fun m => Qg _
 have hsz:sized 1 (s.samples.map encF) = true:=by unfold sized;rw [List.all_eq_true];intro x hx;obtain ⟨y,_,rfl⟩:=List.mem_map.1 hx;rfl
 have pl:∀ i,(prtC D i).length = 8:=fun i => by rcases i with _|_|i <;> rfl
 have lp:∀ i m,lowL m (prtC D i) = True:=by
  intro i m
  have e:∀ x:Ser,lowL m (serC x) = True:=fun x => Qeg x m
  have z:lowL m Z4 = True:=by simp [Z4,lowL,PV.low]
  have ap:∀ a b:List PV,lowL m a = True → lowL m b = True → lowL m (a ++ b) = True:=fun a b ha hb => eq_true ((Jg _ _).2 ⟨of_eq_true ha,of_eq_true hb⟩)
  rcases i with _|_|i
  ·exact ap _ _ z z
  ·exact ap _ _ (e _) z
  ·exact ap _ _ (e _) (e _)
 intro M
 (refine Qe (cf:=L6.c3) rfl rfl fun hM hA => ?_;simp only [L6.c3,zO,zF,zT,zM,CX.i];rw [mk3 _ (by decide)];simp -implicitDefEqProofs (disch:=first|omega|(simp only [go_sem,seval];first|done|omega)) only [go_sem,seval])
 refine Qb (sh _) ?_
 simp -implicitDefEqProofs (disch:=first|omega|(simp only [go_sem,seval];first|done|omega)) only [go_sem,seval]
 refine Qb (k1 _) ?_
 simp -implicitDefEqProofs (disch:=first|omega|(simp only [go_sem,seval,fst,hn,ma,fn1,n1];first|done|omega)) only [go_sem,seval,fst,hn,ma,fn1,n1]
 refine Qo (α:=Nat) 0 (fun i => i ≤ 2) (fun i => M ++ [.row true 8 0 [.agg (prtC D i)]]) (fun i => [(1,.s (.int .u8 at_)),(2,.s (.int .u16 kk)),(3,.fp [.s (.string s.name),.I s.start,.fs (s.samples.map encF),.fs (s.gaps.map Qa)]),(7,.I n),(8,.I k),(9,.op M.length 0 0 0),(71,.fs [.agg [.I 0,.I k],.agg [.I k,.I n]]),(72,.I 2),(73,.I i)]) (fun i => 2 - i) (by decide) rfl rfl ?_
 intro i hi
 have frzC_fs:∀ {M:List Blk} {xs r:List PV},Ql M (.fs xs :: r) = Ql M r:=fun {_ _ _} => rfl
 by_cases hlt:i < 2
 ·have hL:([PV.agg [.I 0,.I k],.agg [.I k,.I n]])[i]? = some (.agg [.I (frO k i),.I (toO k n i)]):=by
   rcases (by omega:i = 0 ∨ i = 1) with rfl|rfl <;> rfl
  have flt:((i:Int) < 2) = True:=eq_true (by omega)
  have hft:frO k i ≤ toO k n i ∧ toO k n i ≤ n:=by
   rcases (by omega:i = 0 ∨ i = 1) with rfl|rfl
   ·exact ⟨Nat.zero_le _,hkn⟩
   ·exact ⟨hkn,Nat.le_refl _⟩
  have hgE:=gE i
  have hgD:=gD i
  have hgS:=gS i
  have hst1:List.take (i * 4) (prtC D i) ++ (serC (D i) ++ List.drop (i * 4 + 4) (prtC D i)) = prtC D (i + 1):=by
   rcases (by omega:i = 0 ∨ i = 1) with rfl|rfl <;> rfl
  generalize frO k i = f at *
  generalize toO k n i = t at *
  obtain ⟨h1,h2⟩:=hft
  have lw3:∀ m,lowL m (((s.samples.map encF).drop f).take (t - f)) = True:=fun m => by rw [← List.map_drop,← List.map_take];exact QG _
  have n3:(((s.samples.map encF).drop f).take (t - f)).length = t - f:=by rw [← List.map_drop,← List.map_take,List.length_map];exact Zq _ h1 (by omega)
  have o3:(((s.samples.map encF).drop f).take (t - f)).all (QS 1) = true:=by rw [← List.map_drop,← List.map_take];exact Js _
  have hbo:(f ≤ t ∧ t ≤ n) = True:=eq_true ⟨h1,h2⟩
  have hst3:(((s.samples.map encF).drop f).take (t - f)).take (t - f) = ((s.samples.map encF).drop f).take (t - f):=List.take_of_length_le (by omega)
  have ec:Qj (cutS s f t) = .agg [.s (.string s.name),.I (s.start + f),.fs (((s.samples.map encF).drop f).take (t - f)),.fs ((cutG s.gaps f t).map Qa)]:=by
   rw [← List.map_drop,← List.map_take];rfl
  have hTc:=hT (cutS s f t)
  rw [ec] at hgE hgS hTc
  simp -implicitDefEqProofs (disch:=first|omega|(simp only [go_sem,seval,hL,flt,hsz,hbo,n1,n3,o3,hst3,Z2];first|done|omega)) only [go_sem,seval,hL,flt,hsz,hbo,n1,n3,o3,hst3,Z2]
  refine ⟨by simp [V3,Za,Vw,refs,refs1],?_⟩
  generalize ((s.samples.map encF).drop f).take (t - f) = sl at n3 o3 lw3 hst3 hgE hgS hTc ec ⊢
  refine Qo (α:=Nat) 0 (fun q => q ≤ s.gaps.length) (fun q => M ++ [.row true 8 0 [.agg (prtC D i)],.row true 2 0 [.agg [.I f,.I t]],.row false 1 2 sl,.row true 4 1 [.agg [.s (.string s.name),.I (s.start + f),.fs sl,.os (M.length + 4) (cutG (s.gaps.take q) f t).length 0 (cutG (s.gaps.take q) f t).length]],.row true 2 (cutG (s.gaps.take q) f t).length ((cutG (s.gaps.take q) f t).map Qa)])
   (fun q => [(1,.s (.int .u8 at_)),(2,.s (.int .u16 kk)),(3,.fp [.s (.string s.name),.I s.start,.fs (s.samples.map encF),.fs (s.gaps.map Qa)]),(7,.I n),(8,.I k),(9,.op M.length 0 0 0),(10,.I i),(11,.op (M.length + 1) 0 0 0),(12,.op (M.length + 3) 1 0 0),(71,.fs [.agg [.I 0,.I k],.agg [.I k,.I n]]),(72,.I 2),(73,.I i),(96,.fs (s.gaps.map Qa)),(97,.I s.gaps.length),(98,.I q)]) (fun q => s.gaps.length - q) (Nat.zero_le _) rfl rfl ?_
  intro q hq
  by_cases hlq:q < s.gaps.length
  ·obtain ⟨x,hx⟩:∃ x,s.gaps[q]? = some x:=⟨_,List.getElem?_eq_getElem hlq⟩
   have hb:=hin x (List.mem_of_getElem? hx)
   have hsn:=QiB hx f t
   have ho:((cutG (s.gaps.take q) f t).map Qa).length = (cutG (s.gaps.take q) f t).length:=by simp
   have hlo:∀ m,lowL m ((cutG (s.gaps.take q) f t).map Qa) = True:=fun m => Qg _
   have hnq:(cutG (s.gaps.take q) f t).length ≤ 1024:=by
    have:=QeS (s.gaps.take q) f t
    have:=List.length_take_le q s.gaps
    omega
   by_cases h3:max x.fr f < min x.to_ t
   ·have hsn2:cutX x f t = [⟨max x.fr f - f,min x.to_ t - f⟩]:=if_pos h3
    rw [hsn2] at hsn
    have hso:(cutG (s.gaps.take q) f t).map Qa ++ [.agg [.I (max x.fr f - f),.I (min x.to_ t - f)]] = (cutG (s.gaps.take (q + 1)) f t).map Qa:=by rw [hsn,List.map_append];rfl
    have hnn:(cutG (s.gaps.take (q + 1)) f t).length = (cutG (s.gaps.take q) f t).length + 1:=by rw [hsn,List.length_append];rfl
    generalize (cutG (s.gaps.take q) f t).map Qa = o at ho hso hlo ⊢
    generalize (cutG (s.gaps.take q) f t).length = w at ho hnn hnq ⊢
    have hmx:0 ≤ max x.fr f ∧ max x.fr f ≤ 40000:=by omega
    have hmn:0 ≤ min x.to_ t ∧ min x.to_ t ≤ 40000:=by omega
    simp -implicitDefEqProofs (disch:=first|omega|(simp only [go_sem,seval,hlq,hx,ho,Qh,Qd];first|done|omega)) only [go_sem,seval,hlq,hx,ho,Qh,Qd]
    generalize max x.fr f = p1 at *
    generalize min x.to_ t = q1 at *
    simp -implicitDefEqProofs (disch:=first|omega|(simp only [go_sem,seval,h3,ho];first|done|omega)) only [go_sem,seval,h3,ho]
    refine Qy hM rfl 5 (by simp) (by first|done|(simp only [go_sem,seval,lw1,lw2,lw3,hlo,lp] <;> first|done|(refine ⟨?_,?_⟩ <;> omega)|omega)) (QA (by first|done|(simp only [go_sem,seval,lw1,lw2,lw3,hlo,lp] <;> first|done|(refine ⟨?_,?_⟩ <;> omega)|omega))) ?_
    simp -implicitDefEqProofs (disch:=first|omega|(simp only [go_sem,seval];first|done|omega)) only [go_sem,seval]
    exact again' (q + 1) (by omega) (by omega) (by rw [hnn,← hso]) rfl
   ·have hsn2:cutX x f t = []:=if_neg h3
    rw [hsn2,List.append_nil] at hsn
    simp -implicitDefEqProofs (disch:=first|omega|(simp only [go_sem,seval,hlq,hx,ho,Qh,Qd];first|done|omega)) only [go_sem,seval,hlq,hx,ho,Qh,Qd]
    generalize max x.fr f = p1 at *
    generalize min x.to_ t = q1 at *
    simp -implicitDefEqProofs (disch:=first|omega|(simp only [go_sem,seval,h3,ho];first|done|omega)) only [go_sem,seval,h3,ho]
    refine Qy hM rfl 5 (by simp) (by first|done|(simp only [go_sem,seval,lw1,lw2,lw3,hlo,lp] <;> first|done|(refine ⟨?_,?_⟩ <;> omega)|omega)) (QA (by first|done|(simp only [go_sem,seval,lw1,lw2,lw3,hlo,lp] <;> first|done|(refine ⟨?_,?_⟩ <;> omega)|omega))) ?_
    simp -implicitDefEqProofs (disch:=first|omega|(simp only [go_sem,seval];first|done|omega)) only [go_sem,seval]
    exact again' (q + 1) (by omega) (by omega) (by rw [hsn]) rfl
  have hqq:q = s.gaps.length:=by omega
  subst hqq
  rw [List.take_length]
  have ho:((cutG s.gaps f t).map Qa).length = (cutG s.gaps f t).length:=by simp
  have hat2:((cutG s.gaps f t).map Qa).take (cutG s.gaps f t).length = (cutG s.gaps f t).map Qa:=List.take_of_length_le (by omega)
  have hlo:∀ m,lowL m ((cutG s.gaps f t).map Qa) = True:=fun m => Qg _
  generalize (cutG s.gaps f t).map Qa = o at ho hat2 hlo hgE hgS hTc ec ⊢
  generalize (cutG s.gaps f t).length = w at ho hat2 ⊢
  simp -implicitDefEqProofs (disch:=first|omega|(simp only [go_sem,seval,hlq,ho,hat2,JU,Qca,frzC_fs,Qa2,JZ];first|done|omega)) only [go_sem,seval,hlq,ho,hat2,JU,Qca,frzC_fs,Qa2,JZ]
  refine Qb (hgE _) ?_
  simp -implicitDefEqProofs (disch:=first|omega|(simp only [go_sem,seval];first|done|omega)) only [go_sem,seval]
  refine Qb (hgD _) ?_
  have eD:Qj (D i) = .agg (serC (D i)):=Qf (D i)
  have hTd:=hT (D i)
  have l4:(serC (D i)).length = 4:=rfl
  have t4:(serC (D i)).take 4 = serC (D i):=List.take_of_length_le (by omega)
  have v4:∀ M,(serC (D i)).map (view1 M) = serC (D i):=fun M => rfl
  have o4:(serC (D i)).all oneB = true:=rfl
  rw [eD] at hgS hTd
  rw [eD]
  have lw4:∀ m,lowL m (serC (D i)) = True:=Qeg (D i)
  generalize serC (D i) = dc at l4 t4 v4 o4 lw4 hgS hTd hst1 ⊢
  simp -implicitDefEqProofs (disch:=first|omega|(simp only [go_sem,seval,l4,t4,v4,o4];first|done|omega)) only [go_sem,seval,l4,t4,v4,o4]
  refine Qb (hTd _) ?_
  simp -implicitDefEqProofs (disch:=first|omega|(simp only [go_sem,seval,l4,t4,v4,o4,ho,hat2];first|done|omega)) only [go_sem,seval,l4,t4,v4,o4,ho,hat2]
  refine Qb (hTc _) ?_
  simp -implicitDefEqProofs (disch:=first|omega|(simp only [go_sem,seval,l4,t4,v4,o4,ho,hat2];first|done|omega)) only [go_sem,seval,l4,t4,v4,o4,ho,hat2]
  refine Qb (hgS _) ?_
  simp -implicitDefEqProofs (disch:=first|omega|(simp only [go_sem,seval,l4,t4,v4,o4,ho,hat2,hlt,pl,hst1];first|done|omega)) only [go_sem,seval,l4,t4,v4,o4,ho,hat2,hlt,pl,hst1]
  refine Qy hM rfl 1 (by simp) (by first|done|(simp only [go_sem,seval,lw1,lw2,lw3,hlo,lp] <;> first|done|(refine ⟨?_,?_⟩ <;> omega)|omega)) (QA (by first|done|(simp only [go_sem,seval,lw1,lw2,lw3,hlo,lp] <;> first|done|(refine ⟨?_,?_⟩ <;> omega)|omega))) ?_
  simp -implicitDefEqProofs (disch:=first|omega|(simp only [go_sem,seval];first|done|omega)) only [go_sem,seval]
  exact again' (i + 1) (by omega) (by omega) rfl rfl
 have hi2:i = 2:=by omega
 subst hi2
 clear gE gD gS hst lp hD c
 have gs:=QbJ (X:=X) s (by omega) (by omega)
 have hTW:=hT W
 have hTE:=hT E
 have eW:=Qf W
 have eE:=Qf E
 have e0:=Qf (D 0)
 have e1:=Qf (D 1)
 rw [es] at gB gW gXs gx gM gs
 rw [eW] at gA gW hTW
 rw [eE] at gX gXs hTE
 rw [e0] at gA gy
 rw [e1] at gA gw
 have hxx:=Y4 (X:=X) x (by omega)
 have lwy:∀ m,lowL m (y.map Qa) = True:=fun m => Qg _
 have lww:∀ m,lowL m (w.map Qa) = True:=fun m => Qg _
 have lwx:∀ m,lowL m (x.map Qa) = True:=fun m => Qg _
 have p2:prtC D 2 = [.s (.string (D 0).name),.I (D 0).start,.fs ((D 0).samples.map encF),.fs ((D 0).gaps.map Qa),.s (.string (D 1).name),.I (D 1).start,.fs ((D 1).samples.map encF),.fs ((D 1).gaps.map Qa)]:=rfl
 rw [p2]
 generalize D 0 = d0 at *
 generalize D 1 = d1 at *
 have flt2:(((2:Nat):Int) < 2) = False:=eq_false (by omega)
 have fbl:((b.length:Int) < 4 * (n:Int)) = False:=eq_false (by omega)
 simp -implicitDefEqProofs (disch:=first|omega|(simp only [go_sem,seval,hlt,flt2];first|done|omega)) only [go_sem,seval,hlt,flt2]
 refine Qb (gA _) ?_
 simp -implicitDefEqProofs (disch:=first|omega|(simp only [go_sem,seval];first|done|omega)) only [go_sem,seval]
 refine Qb (gs _) ?_
 simp -implicitDefEqProofs (disch:=first|omega|(simp only [go_sem,seval];first|done|omega)) only [go_sem,seval]
 refine Qb (gB _) ?_
 simp -implicitDefEqProofs (disch:=first|omega|(simp only [go_sem,seval];first|done|omega)) only [go_sem,seval]
 refine Qb (hTW _) ?_
 simp -implicitDefEqProofs (disch:=first|omega|(simp only [go_sem,seval];first|done|omega)) only [go_sem,seval]
 refine Qb (gW _) ?_
 simp -implicitDefEqProofs (disch:=first|omega|(simp only [go_sem,seval,fbl];first|done|omega)) only [go_sem,seval,fbl]
 -- END
 have m640:kk.tmod 640 = z + 320:=by rw [Int.tmod_eq_emod_of_nonneg hkk.1];omega
 have zz:z + 320 - 320 = z:=by omega
 have hq16:sopV (.fbin .quo) [.s (.float .f32 (FloatKind.f32.nearest z)),.s (.float .f32 1098907648)] = some (.s (.float .f32 lv)):=by rw [hlv];exact Qnb (by omega)
 have elv:encF lv = .s (.float .f32 lv):=rfl
 have emx:encF 1157627904 = .s (.float .f32 1157627904):=rfl
 rw [elv] at gx gy gw
 rw [emx] at gM
 have fw96:((96:Int) < (w.length:Int)) = False:=eq_false (by omega)
 have oy:=Zj y
 have ny:(y.map Qa).length = y.length:=List.length_map _
 have ty:(y.map Qa).take y.length = y.map Qa:=List.take_of_length_le (by omega)
 have fy20:(y.length ≤ 1048576) = True:=eq_true (by omega)
 have oa:=Zj al
 have na:(al.map Qa).length = al.length:=List.length_map _
 have ta:(al.map Qa).take al.length = al.map Qa:=List.take_of_length_le (by omega)
 have og:=Zj s.gaps
 have tg:(s.gaps.map Qa).take s.gaps.length = s.gaps.map Qa:=List.take_of_length_le (by simp)
 have lwb:∀ m,lowL m (b'.map bt) = True:=fun m => YX _
 have lwd0:∀ m,lowL m (d0.samples.map encF) = True:=fun m => QG _
 have lwd1:∀ m,lowL m (d1.samples.map encF) = True:=fun m => QG _
 have lwW:∀ m,lowL m (W.samples.map encF) = True:=fun m => QG _
 have lwE:∀ m,lowL m (E.samples.map encF) = True:=fun m => QG _
 have lw3:∀ (g:List Spn) m,lowL m (g.map Qa) = True:=fun g m => Qg _
 by_cases hn0:n = 0
 ·have fz0:((n:Int) = 0) = True:=eq_true (by omega)
  have fz1:((0:Int) < n) = False:=eq_false (by omega)
  rw [if_pos hn0] at hgp
  subst hgp
  simp -implicitDefEqProofs (disch:=first|omega|(simp only [go_sem,seval,fz1];first|done|omega)) only [go_sem,seval,fz1]
  simp -implicitDefEqProofs (disch:=first|omega|(simp only [go_sem,seval,fz0,r_sop,Zx,hq16,m640,zz];first|done|omega)) only [go_sem,seval,fz0,r_sop,Zx,hq16,m640,zz]
  refine Qb (gs _) ?_
  simp -implicitDefEqProofs (disch:=first|omega|(simp only [go_sem,seval];first|done|omega)) only [go_sem,seval]
  refine Qb (gx _) ?_
  simp -implicitDefEqProofs (disch:=first|omega|(simp only [go_sem,seval];first|done|omega)) only [go_sem,seval]
  refine Qb (gy _) ?_
  simp -implicitDefEqProofs (disch:=first|omega|(simp only [go_sem,seval];first|done|omega)) only [go_sem,seval]
  refine Qb (gw _) ?_
  simp -implicitDefEqProofs (disch:=first|omega|(simp only [go_sem,seval];first|done|omega)) only [go_sem,seval]
  refine Qb (cy _) ?_
  simp -implicitDefEqProofs (disch:=first|omega|(simp only [go_sem,seval];first|done|omega)) only [go_sem,seval]
  refine Qb (cw _) ?_
  simp -implicitDefEqProofs (disch:=first|omega|(simp only [go_sem,seval,fw96];first|done|omega)) only [go_sem,seval,fw96]
  refine Qo (α:=Nat) 0 (fun q => q ≤ w.length) (fun q => M ++ [Blk.row true 8 0 [.agg [.s (.string d0.name),.I d0.start,.fs (d0.samples.map encF),.fs (d0.gaps.map Qa),.s (.string d1.name),.I d1.start,.fs (d1.samples.map encF),.fs (d1.gaps.map Qa)]],Blk.row true 4 0 [.agg [.s (.string W.name),.I W.start,.fs (W.samples.map encF),.fs (W.gaps.map Qa)]],Blk.row true 2 q ((mvG k (w.take q)).map Qa)]) (fun q => [(3,.fp [.s (.string s.name),.I s.start,.fs (s.samples.map encF),.fs (s.gaps.map Qa)]),(7,.I n),(8,.I k),(29,.fs (x.map Qa)),(31,.fs (y.map Qa)),(35,.os (M.length + 2) q 0 q),(281,.fs (w.map Qa)),(282,.I w.length),(283,.I q)]) (fun q => w.length - q) (Nat.zero_le _) rfl rfl ?_
  intro q hq
  by_cases hlq:q < w.length
  ·obtain ⟨l,hl⟩:∃ l,w[q]? = some l:=⟨_,List.getElem?_eq_getElem hlq⟩
   have hb:=hwt l (List.mem_of_getElem? hl)
   have fl:((n:Int) - k < l.to_) = False:=eq_false (by omega)
   have ho:((mvG k (w.take q)).map Qa).length = q:=by rw [List.length_map,VZ,List.length_take];omega
   have hlo:∀ m,lowL m ((mvG k (w.take q)).map Qa) = True:=fun m => Qg _
   have hso:(mvG k (w.take q)).map Qa ++ [.agg [.I (l.fr + k),.I (l.to_ + k)]] = (mvG k (w.take (q + 1))).map Qa:=by
    obtain ⟨h3,h4⟩:=List.getElem?_eq_some_iff.1 hl
    rw [List.take_succ_eq_append_getElem h3,h4]
    unfold mvG
    rw [List.map_append,List.map_append];rfl
   generalize (mvG k (w.take q)).map Qa = o at ho hso hlo ⊢
   simp -implicitDefEqProofs (disch:=first|omega|(simp only [go_sem,seval,hlq,hl,ho,Qh,Qd,fl];first|done|omega)) only [go_sem,seval,hlq,hl,ho,Qh,Qd,fl]
   refine Qy hM rfl 3 (by simp) (by first|done|(simp only [go_sem,seval,lw1,lw2,lw3,hlo,lwb,lwd0,lwd1,lwW,lwE,lwy,lww,lwx] <;> first|done|(refine ⟨?_,?_⟩ <;> omega)|omega)) (QA (by first|done|(simp only [go_sem,seval,lw1,lw2,lw3,hlo,lwb,lwd0,lwd1,lwW,lwE,lwy,lww,lwx] <;> first|done|(refine ⟨?_,?_⟩ <;> omega)|omega))) ?_
   simp -implicitDefEqProofs (disch:=first|omega|(simp only [go_sem,seval];first|done|omega)) only [go_sem,seval]
   exact again' (q + 1) (by omega) (by omega) (by rw [← hso]) rfl
  have hqq:q = w.length:=by omega
  subst hqq
  rw [List.take_length]
  have ho:((mvG k w).map Qa).length = w.length:=by rw [List.length_map,VZ]
  have hat2:((mvG k w).map Qa).take w.length = (mvG k w).map Qa:=List.take_of_length_le (by omega)
  generalize (mvG k w).map Qa = o at ho hat2 gJ ⊢
  simp -implicitDefEqProofs (disch:=first|omega|(simp only [go_sem,seval,hlq,ho,hat2,oy,ny,ty,fy20];first|done|omega)) only [go_sem,seval,hlq,ho,hat2,oy,ny,ty,fy20]
  refine Qb (gJ _) ?_
  simp -implicitDefEqProofs (disch:=first|omega|(simp only [go_sem,seval];first|done|omega)) only [go_sem,seval]
  refine Qb (gs _) ?_
  simp -implicitDefEqProofs (disch:=first|omega|(simp only [go_sem,seval];first|done|omega)) only [go_sem,seval]
  refine Qb (gM _) ?_
  simp -implicitDefEqProofs (disch:=first|omega|(simp only [go_sem,seval,oa,na,ta,og,tg];first|done|omega)) only [go_sem,seval,oa,na,ta,og,tg]
  refine Qb (gG _) ?_
  simp -implicitDefEqProofs (disch:=first|omega|(simp only [go_sem,seval];first|done|omega)) only [go_sem,seval]
  refine ⟨by simp [V3,Za,Vw,refs,refs1],?_⟩
  refine Qb (hxx _) ?_
  simp -implicitDefEqProofs (disch:=first|omega|(simp only [go_sem,seval,fz0,fz1];first|done|omega)) only [go_sem,seval,fz0,fz1]
  refine Qb (hW _) ?_
  simp -implicitDefEqProofs (disch:=first|omega|(simp only [go_sem,seval];first|done|omega)) only [go_sem,seval]
  (all_goals (first|refine pfN hM ?_ ?_|refine pf0 hM ?_ ?_);all_goals first|(simp only [go_sem,seval]<;>omega)|skip;all_goals (try simp -implicitDefEqProofs (disch:=first|omega|(simp only [go_sem,seval];first|done|omega)) only [go_sem,seval]))
 have fz0:((n:Int) = 0) = False:=eq_false (by omega)
 have fz1:((0:Int) < n) = True:=eq_true (by omega)
 rw [if_neg hn0] at hgp
 subst hgp
 have hgp1:=Y4 (X:=X) [⟨0,n⟩] (show 1 ≤ 1048576 by decide)
 obtain ⟨c,hc,hbs⟩:=hb' (by omega)
 have hjj:=hj (by omega)
 have he8:e < 8:=by omega
 have ob:(b.map bt).all (QS 1) = true:=by rw [List.all_eq_true];intro x hx;obtain ⟨y,_,rfl⟩:=List.mem_map.1 hx;rfl
 have nb:(b.map bt).length = b.length:=List.length_map _
 have tb:(b.map bt).take b.length = b.map bt:=List.take_of_length_le (by omega)
 have nb':(b'.map bt).length = b.length:=by rw [List.length_map,hbs,List.length_set]
 have tb':(b'.map bt).take b.length = b'.map bt:=List.take_of_length_le (by omega)
 have hset:(b.map bt).set j (bt (c ^^^ UInt8.ofNat (2 ^ e))) = b'.map bt:=by rw [Qpp,← hbs]
 rw [bt_eq] at hset
 have t4n:kk.tmod (4 * (n:Int)) = kk % (4 * n):=Int.tmod_eq_emod_of_nonneg hkk.1
 have f4n:((4 * (n:Int)) = 0) = False:=eq_false (by omega)
 have hjl:j < b.length:=(List.getElem?_eq_some_iff.1 hc).1
 have fjl:((j:Int) < b.length) = True:=eq_true (by omega)
 have t8:at_.tmod 8 = e:=by rw [Int.tmod_eq_emod_of_nonneg hat.1];exact he
 have hsh:=Qna he8
 have hxo:=QpC (c:=c) he8
 have fb4:(b.length ≤ 1048576) = True:=eq_true (by omega)
 simp -implicitDefEqProofs (disch:=first|omega|(simp only [go_sem,seval,fz1,ob,nb,tb,t4n,f4n,hjj,hjl,fjl,hc,bt_eq,t8,hsh,hxo,fb4,hset,nb',tb'];first|done|omega)) only [go_sem,seval,fz1,ob,nb,tb,t4n,f4n,hjj,hjl,fjl,hc,bt_eq,t8,hsh,hxo,fb4,hset,nb',tb']
 clear hset hsh hxo hc hbs
 refine Qb (gX _) ?_
 by_cases hv:v = 0
 ·have gXt:=gXs hv (by omega)
  clear gXs
  subst hv
  simp -implicitDefEqProofs (disch:=first|omega|(simp only [go_sem,seval];first|done|omega)) only [go_sem,seval]
  refine Qb (hTE _) ?_
  simp -implicitDefEqProofs (disch:=first|omega|(simp only [go_sem,seval];first|done|omega)) only [go_sem,seval]
  refine Qb (gXt _) ?_
  simp -implicitDefEqProofs (disch:=first|omega|(simp only [go_sem,seval];first|done|omega)) only [go_sem,seval]
  simp -implicitDefEqProofs (disch:=first|omega|(simp only [go_sem,seval,fz0,r_sop,Zx,hq16,m640,zz];first|done|omega)) only [go_sem,seval,fz0,r_sop,Zx,hq16,m640,zz]
  refine Qb (gs _) ?_
  simp -implicitDefEqProofs (disch:=first|omega|(simp only [go_sem,seval];first|done|omega)) only [go_sem,seval]
  refine Qb (gx _) ?_
  simp -implicitDefEqProofs (disch:=first|omega|(simp only [go_sem,seval];first|done|omega)) only [go_sem,seval]
  refine Qb (gy _) ?_
  simp -implicitDefEqProofs (disch:=first|omega|(simp only [go_sem,seval];first|done|omega)) only [go_sem,seval]
  refine Qb (gw _) ?_
  simp -implicitDefEqProofs (disch:=first|omega|(simp only [go_sem,seval];first|done|omega)) only [go_sem,seval]
  refine Qb (cy _) ?_
  simp -implicitDefEqProofs (disch:=first|omega|(simp only [go_sem,seval];first|done|omega)) only [go_sem,seval]
  refine Qb (cw _) ?_
  simp -implicitDefEqProofs (disch:=first|omega|(simp only [go_sem,seval,fw96];first|done|omega)) only [go_sem,seval,fw96]
  refine Qo (α:=Nat) 0 (fun q => q ≤ w.length) (fun q => M ++ [Blk.row true 8 0 [.agg [.s (.string d0.name),.I d0.start,.fs (d0.samples.map encF),.fs (d0.gaps.map Qa),.s (.string d1.name),.I d1.start,.fs (d1.samples.map encF),.fs (d1.gaps.map Qa)]],Blk.row true 4 0 [.agg [.s (.string W.name),.I W.start,.fs (W.samples.map encF),.fs (W.gaps.map Qa)]],Blk.row false 1 1 (b'.map bt),Blk.row true 4 0 [.agg [.s (.string E.name),.I E.start,.fs (E.samples.map encF),.fs (E.gaps.map Qa)]],Blk.row true 2 q ((mvG k (w.take q)).map Qa)]) (fun q => [(3,.fp [.s (.string s.name),.I s.start,.fs (s.samples.map encF),.fs (s.gaps.map Qa)]),(7,.I n),(8,.I k),(29,.fs (x.map Qa)),(31,.fs (y.map Qa)),(35,.os (M.length + 4) q 0 q),(281,.fs (w.map Qa)),(282,.I w.length),(283,.I q)]) (fun q => w.length - q) (Nat.zero_le _) rfl rfl ?_
  intro q hq
  by_cases hlq:q < w.length
  ·obtain ⟨l,hl⟩:∃ l,w[q]? = some l:=⟨_,List.getElem?_eq_getElem hlq⟩
   have hb:=hwt l (List.mem_of_getElem? hl)
   have fl:((n:Int) - k < l.to_) = False:=eq_false (by omega)
   have ho:((mvG k (w.take q)).map Qa).length = q:=by rw [List.length_map,VZ,List.length_take];omega
   have hlo:∀ m,lowL m ((mvG k (w.take q)).map Qa) = True:=fun m => Qg _
   have hso:(mvG k (w.take q)).map Qa ++ [.agg [.I (l.fr + k),.I (l.to_ + k)]] = (mvG k (w.take (q + 1))).map Qa:=by
    obtain ⟨h3,h4⟩:=List.getElem?_eq_some_iff.1 hl
    rw [List.take_succ_eq_append_getElem h3,h4]
    unfold mvG
    rw [List.map_append,List.map_append];rfl
   generalize (mvG k (w.take q)).map Qa = o at ho hso hlo ⊢
   simp -implicitDefEqProofs (disch:=first|omega|(simp only [go_sem,seval,hlq,hl,ho,Qh,Qd,fl];first|done|omega)) only [go_sem,seval,hlq,hl,ho,Qh,Qd,fl]
   refine Qy hM rfl 5 (by simp) (by first|done|(simp only [go_sem,seval,lw1,lw2,lw3,hlo,lwb,lwd0,lwd1,lwW,lwE,lwy,lww,lwx] <;> first|done|(refine ⟨?_,?_⟩ <;> omega)|omega)) (QA (by first|done|(simp only [go_sem,seval,lw1,lw2,lw3,hlo,lwb,lwd0,lwd1,lwW,lwE,lwy,lww,lwx] <;> first|done|(refine ⟨?_,?_⟩ <;> omega)|omega))) ?_
   simp -implicitDefEqProofs (disch:=first|omega|(simp only [go_sem,seval];first|done|omega)) only [go_sem,seval]
   exact again' (q + 1) (by omega) (by omega) (by rw [← hso]) rfl
  have hqq:q = w.length:=by omega
  subst hqq
  rw [List.take_length]
  have ho:((mvG k w).map Qa).length = w.length:=by rw [List.length_map,VZ]
  have hat2:((mvG k w).map Qa).take w.length = (mvG k w).map Qa:=List.take_of_length_le (by omega)
  generalize (mvG k w).map Qa = o at ho hat2 gJ ⊢
  simp -implicitDefEqProofs (disch:=first|omega|(simp only [go_sem,seval,hlq,ho,hat2,oy,ny,ty,fy20];first|done|omega)) only [go_sem,seval,hlq,ho,hat2,oy,ny,ty,fy20]
  refine Qb (gJ _) ?_
  simp -implicitDefEqProofs (disch:=first|omega|(simp only [go_sem,seval];first|done|omega)) only [go_sem,seval]
  refine Qb (gs _) ?_
  simp -implicitDefEqProofs (disch:=first|omega|(simp only [go_sem,seval];first|done|omega)) only [go_sem,seval]
  refine Qb (gM _) ?_
  simp -implicitDefEqProofs (disch:=first|omega|(simp only [go_sem,seval,oa,na,ta,og,tg];first|done|omega)) only [go_sem,seval,oa,na,ta,og,tg]
  refine Qb (gG _) ?_
  simp -implicitDefEqProofs (disch:=first|omega|(simp only [go_sem,seval];first|done|omega)) only [go_sem,seval]
  refine ⟨by simp [V3,Za,Vw,refs,refs1],?_⟩
  refine Qb (hxx _) ?_
  simp -implicitDefEqProofs (disch:=first|omega|(simp only [go_sem,seval,fz0,fz1];first|done|omega)) only [go_sem,seval,fz0,fz1]
  refine Qb (hgp1 _) ?_
  simp -implicitDefEqProofs (disch:=first|omega|(simp only [go_sem,seval];first|done|omega)) only [go_sem,seval]
  refine Qb (hW _) ?_
  simp -implicitDefEqProofs (disch:=first|omega|(simp only [go_sem,seval];first|done|omega)) only [go_sem,seval]
  (all_goals (first|refine pfN hM ?_ ?_|refine pf0 hM ?_ ?_);all_goals first|(simp only [go_sem,seval]<;>omega)|skip;all_goals (try simp -implicitDefEqProofs (disch:=first|omega|(simp only [go_sem,seval];first|done|omega)) only [go_sem,seval]))
 simp -implicitDefEqProofs (disch:=first|omega|(simp only [go_sem,seval,hv];first|done|omega)) only [go_sem,seval,hv]
 simp -implicitDefEqProofs (disch:=first|omega|(simp only [go_sem,seval,fz0,r_sop,Zx,hq16,m640,zz];first|done|omega)) only [go_sem,seval,fz0,r_sop,Zx,hq16,m640,zz]
 refine Qb (gs _) ?_
 simp -implicitDefEqProofs (disch:=first|omega|(simp only [go_sem,seval];first|done|omega)) only [go_sem,seval]
 refine Qb (gx _) ?_
 simp -implicitDefEqProofs (disch:=first|omega|(simp only [go_sem,seval];first|done|omega)) only [go_sem,seval]
 refine Qb (gy _) ?_
 simp -implicitDefEqProofs (disch:=first|omega|(simp only [go_sem,seval];first|done|omega)) only [go_sem,seval]
 refine Qb (gw _) ?_
 simp -implicitDefEqProofs (disch:=first|omega|(simp only [go_sem,seval];first|done|omega)) only [go_sem,seval]
 refine Qb (cy _) ?_
 simp -implicitDefEqProofs (disch:=first|omega|(simp only [go_sem,seval];first|done|omega)) only [go_sem,seval]
 refine Qb (cw _) ?_
 simp -implicitDefEqProofs (disch:=first|omega|(simp only [go_sem,seval,fw96];first|done|omega)) only [go_sem,seval,fw96]
 refine Qo (α:=Nat) 0 (fun q => q ≤ w.length) (fun q => M ++ [Blk.row true 8 0 [.agg [.s (.string d0.name),.I d0.start,.fs (d0.samples.map encF),.fs (d0.gaps.map Qa),.s (.string d1.name),.I d1.start,.fs (d1.samples.map encF),.fs (d1.gaps.map Qa)]],Blk.row true 4 0 [.agg [.s (.string W.name),.I W.start,.fs (W.samples.map encF),.fs (W.gaps.map Qa)]],Blk.row false 1 1 (b'.map bt),Blk.row true 4 0 [.agg [.s (.string E.name),.I E.start,.fs (E.samples.map encF),.fs (E.gaps.map Qa)]],Blk.row true 2 q ((mvG k (w.take q)).map Qa)]) (fun q => [(3,.fp [.s (.string s.name),.I s.start,.fs (s.samples.map encF),.fs (s.gaps.map Qa)]),(7,.I n),(8,.I k),(29,.fs (x.map Qa)),(31,.fs (y.map Qa)),(35,.os (M.length + 4) q 0 q),(281,.fs (w.map Qa)),(282,.I w.length),(283,.I q)]) (fun q => w.length - q) (Nat.zero_le _) rfl rfl ?_
 intro q hq
 by_cases hlq:q < w.length
 ·obtain ⟨l,hl⟩:∃ l,w[q]? = some l:=⟨_,List.getElem?_eq_getElem hlq⟩
  have hb:=hwt l (List.mem_of_getElem? hl)
  have fl:((n:Int) - k < l.to_) = False:=eq_false (by omega)
  have ho:((mvG k (w.take q)).map Qa).length = q:=by rw [List.length_map,VZ,List.length_take];omega
  have hlo:∀ m,lowL m ((mvG k (w.take q)).map Qa) = True:=fun m => Qg _
  have hso:(mvG k (w.take q)).map Qa ++ [.agg [.I (l.fr + k),.I (l.to_ + k)]] = (mvG k (w.take (q + 1))).map Qa:=by
   obtain ⟨h3,h4⟩:=List.getElem?_eq_some_iff.1 hl
   rw [List.take_succ_eq_append_getElem h3,h4]
   unfold mvG
   rw [List.map_append,List.map_append];rfl
  generalize (mvG k (w.take q)).map Qa = o at ho hso hlo ⊢
  simp -implicitDefEqProofs (disch:=first|omega|(simp only [go_sem,seval,hlq,hl,ho,Qh,Qd,fl];first|done|omega)) only [go_sem,seval,hlq,hl,ho,Qh,Qd,fl]
  refine Qy hM rfl 5 (by simp) (by first|done|(simp only [go_sem,seval,lw1,lw2,lw3,hlo,lwb,lwd0,lwd1,lwW,lwE,lwy,lww,lwx] <;> first|done|(refine ⟨?_,?_⟩ <;> omega)|omega)) (QA (by first|done|(simp only [go_sem,seval,lw1,lw2,lw3,hlo,lwb,lwd0,lwd1,lwW,lwE,lwy,lww,lwx] <;> first|done|(refine ⟨?_,?_⟩ <;> omega)|omega))) ?_
  simp -implicitDefEqProofs (disch:=first|omega|(simp only [go_sem,seval];first|done|omega)) only [go_sem,seval]
  exact again' (q + 1) (by omega) (by omega) (by rw [← hso]) rfl
 have hqq:q = w.length:=by omega
 subst hqq
 rw [List.take_length]
 have ho:((mvG k w).map Qa).length = w.length:=by rw [List.length_map,VZ]
 have hat2:((mvG k w).map Qa).take w.length = (mvG k w).map Qa:=List.take_of_length_le (by omega)
 generalize (mvG k w).map Qa = o at ho hat2 gJ ⊢
 simp -implicitDefEqProofs (disch:=first|omega|(simp only [go_sem,seval,hlq,ho,hat2,oy,ny,ty,fy20];first|done|omega)) only [go_sem,seval,hlq,ho,hat2,oy,ny,ty,fy20]
 refine Qb (gJ _) ?_
 simp -implicitDefEqProofs (disch:=first|omega|(simp only [go_sem,seval];first|done|omega)) only [go_sem,seval]
 refine Qb (gs _) ?_
 simp -implicitDefEqProofs (disch:=first|omega|(simp only [go_sem,seval];first|done|omega)) only [go_sem,seval]
 refine Qb (gM _) ?_
 simp -implicitDefEqProofs (disch:=first|omega|(simp only [go_sem,seval,oa,na,ta,og,tg];first|done|omega)) only [go_sem,seval,oa,na,ta,og,tg]
 refine Qb (gG _) ?_
 simp -implicitDefEqProofs (disch:=first|omega|(simp only [go_sem,seval];first|done|omega)) only [go_sem,seval]
 refine ⟨by simp [V3,Za,Vw,refs,refs1],?_⟩
 refine Qb (hxx _) ?_
 simp -implicitDefEqProofs (disch:=first|omega|(simp only [go_sem,seval,fz0,fz1];first|done|omega)) only [go_sem,seval,fz0,fz1]
 refine Qb (hgp1 _) ?_
 simp -implicitDefEqProofs (disch:=first|omega|(simp only [go_sem,seval];first|done|omega)) only [go_sem,seval]
 refine Qb (hW _) ?_
 simp -implicitDefEqProofs (disch:=first|omega|(simp only [go_sem,seval];first|done|omega)) only [go_sem,seval]
 (all_goals (first|refine pfN hM ?_ ?_|refine pf0 hM ?_ ?_);all_goals first|(simp only [go_sem,seval]<;>omega)|skip;all_goals (try simp -implicitDefEqProofs (disch:=first|omega|(simp only [go_sem,seval];first|done|omega)) only [go_sem,seval]))
theorem Qax {n k i:Nat} (hk:k ≤ n):frO k i ≤ toO k n i ∧ toO k n i ≤ n:=by
 unfold frO toO
 split <;> omega
theorem qJ1 (hS:SortX X) {a b r:List Spn} (ha:Qm a = 0) (hb:Qm b = 0) (hr:VH a b = r) (hl:r.length ≤ 1024):Q X 16 [.fs (a.map Qa),.fs (b.map Qa)] (.tup [.fs (r.map Qa),.I 0]):=by
 subst hr
 have:=Qga (X:=X) hS a b (by have:=(QJ.1 ha).1;omega) (by have:=(QJ.1 hb).1;omega)
 rwa [Qnf ha hb hl] at this
theorem QoU {l:List Spn}:∀ {a:Int},-1 ≤ a → canF a l → ∀ x ∈ l,0 ≤ x.fr ∧ x.fr < x.to_:=by
 induction l with
 | nil => intro a _ _ x h;cases h
 | cons y l ih =>
  intro a ha h x hx
  obtain ⟨h1,h2,h3⟩:=h
  rcases List.mem_cons.1 hx with rfl|hx
  ·omega
  ·exact ih (by omega) h3 x hx
theorem Qjo {x:Ser} (hx:SerOk x):Q X 10 [Qj (serP x),Qj x] (.B true):=by
 have hsm:∀ y ∈ (serP x).samples,smpE y = 0:=by
  intro y hy
  obtain ⟨z,hz,rfl⟩:=List.mem_map.1 (show y ∈ x.samples.map plus0 from hy)
  exact (YZ (hx.sm z hz)).1
 have sl:(serP x).samples.length ≤ 40000:=by show (x.samples.map plus0).length ≤ _;rw [List.length_map];exact hx.sl
 have hg:=hx.gl
 have hS2:=Yk (X:=X) (serP x) x hsm hx.sm (by omega) (by show x.gaps.length ≤ _;omega)
 have hfo:(serP x).samples.map fOf = x.samples.map fOf:=by
  show (x.samples.map plus0).map fOf = _
  rw [List.map_map]
  exact List.map_congr_left fun z hz => (YZ (hx.sm z hz)).2.2
 have hbool:(decide ((serP x).name = x.name) && (decide ((serP x).start = x.start) && (decide ((serP x).samples.map fOf = x.samples.map fOf) && decide ((serP x).gaps = x.gaps)))) = true:=by
  rw [decide_eq_true (show (serP x).name = x.name from rfl),decide_eq_true (show (serP x).start = x.start from rfl),decide_eq_true hfo,decide_eq_true (show (serP x).gaps = x.gaps from rfl)];rfl
 rw [hbool] at hS2
 exact hS2
theorem q_enc (hF:FbitsX X) {x:Ser} (hx:SerOk x):Q X 8 [Qj x] (.tup [.fs ((encL x).map bt),.I 0]):=by
 have h1:=hx.sl
 have h2:=hx.gl
 have gE:=Qab (X:=X) hF x (by omega) (by omega)
 rw [if_pos hx.chk,hx.chk,QjO hx] at gE
 exact gE
theorem q_dec (hB:FrombX X) {x:Ser} (hx:SerOk x) (hl:(encL x).length ≤ 100000):Q X 9 [.fs ((encL x).map bt)] (.tup [Qj (serP x),.I 0]):=by
 obtain ⟨e1,e2⟩:=QgB hx
 have gD:=Yx (X:=X) hB (encL x) hl
 rw [e1,e2] at gD
 exact gD
theorem QmF {t:List UInt8} (hv:dE t = 0):SerOk (dSer t):=by
 refine Z9 ?_
 unfold dE at hv
 repeat' split at hv
 all_goals first|exact hv|contradiction|(exfalso;omega)
theorem q_top_TopGaleSeries (hX:FloorX X) (hS:SortX X) (hF:FbitsX X) (hB:FrombX X) (hW:Q X 7 [] (.B true)) (s:Ser) (at_ kk:Int) (hat:0 ≤ at_ ∧ at_ ≤ 255) (hkk:0 ≤ kk ∧ kk ≤ 65535) :
  Q X 3 [Qj s,.s (.int .u8 at_),.s (.int .u16 kk)] (.B true):=by
 have sh:=Qd1 (X:=X) s
 have es:=Qf s
 by_cases h1:JA s = true
 case neg =>
  rw [Bool.eq_false_iff.2 h1,es] at sh
  rw [es]
  intro M
  (refine Qe (cf:=L6.c3) rfl rfl fun hM hA => ?_;simp only [L6.c3,zO,zF,zT,zM,CX.i];rw [mk3 _ (by decide)];simp -implicitDefEqProofs (disch:=first|omega|(simp only [go_sem,seval];first|done|omega)) only [go_sem,seval])
  refine Qb (sh _) ?_
  simp -implicitDefEqProofs (disch:=first|omega|(simp only [go_sem,seval];first|done|omega)) only [go_sem,seval]
  refine Qb (hW _) ?_
  simp -implicitDefEqProofs (disch:=first|omega|(simp only [go_sem,seval];first|done|omega)) only [go_sem,seval]
  (all_goals (first|refine pfN hM ?_ ?_|refine pf0 hM ?_ ?_);all_goals first|(simp only [go_sem,seval]<;>omega)|skip;all_goals (try simp -implicitDefEqProofs (disch:=first|omega|(simp only [go_sem,seval];first|done|omega)) only [go_sem,seval]))
 rw [h1] at sh
 obtain ⟨l1,l2⟩:=Qj6 h1
 have k1:=Qag (X:=X) hX s (by omega) (by omega)
 by_cases h2:Qk s = 0
 case neg =>
  generalize Qk s = z at k1 h2
  rw [es] at sh k1
  rw [es]
  intro M
  (refine Qe (cf:=L6.c3) rfl rfl fun hM hA => ?_;simp only [L6.c3,zO,zF,zT,zM,CX.i];rw [mk3 _ (by decide)];simp -implicitDefEqProofs (disch:=first|omega|(simp only [go_sem,seval];first|done|omega)) only [go_sem,seval])
  refine Qb (sh _) ?_
  simp -implicitDefEqProofs (disch:=first|omega|(simp only [go_sem,seval];first|done|omega)) only [go_sem,seval]
  refine Qb (k1 _) ?_
  simp -implicitDefEqProofs (disch:=first|omega|(simp only [go_sem,seval,h2];first|done|omega)) only [go_sem,seval,h2]
  refine Qb (hW _) ?_
  simp -implicitDefEqProofs (disch:=first|omega|(simp only [go_sem,seval];first|done|omega)) only [go_sem,seval]
  (all_goals (first|refine pfN hM ?_ ?_|refine pf0 hM ?_ ?_);all_goals first|(simp only [go_sem,seval]<;>omega)|skip;all_goals (try simp -implicitDefEqProofs (disch:=first|omega|(simp only [go_sem,seval];first|done|omega)) only [go_sem,seval]))
 rw [h2] at k1
 by_cases h3:1000000 < s.start
 ·have f3:=eq_true h3
  rw [es] at sh k1
  rw [es]
  intro M
  (refine Qe (cf:=L6.c3) rfl rfl fun hM hA => ?_;simp only [L6.c3,zO,zF,zT,zM,CX.i];rw [mk3 _ (by decide)];simp -implicitDefEqProofs (disch:=first|omega|(simp only [go_sem,seval];first|done|omega)) only [go_sem,seval])
  refine Qb (sh _) ?_
  simp -implicitDefEqProofs (disch:=first|omega|(simp only [go_sem,seval];first|done|omega)) only [go_sem,seval]
  refine Qb (k1 _) ?_
  simp -implicitDefEqProofs (disch:=first|omega|(simp only [go_sem,seval,f3];first|done|omega)) only [go_sem,seval,f3]
  refine Qb (hW _) ?_
  simp -implicitDefEqProofs (disch:=first|omega|(simp only [go_sem,seval];first|done|omega)) only [go_sem,seval]
  (all_goals (first|refine pfN hM ?_ ?_|refine pf0 hM ?_ ?_);all_goals first|(simp only [go_sem,seval]<;>omega)|skip;all_goals (try simp -implicitDefEqProofs (disch:=first|omega|(simp only [go_sem,seval];first|done|omega)) only [go_sem,seval]))
 have hk:=Z9 h2
 have hgc:Can s.gaps:=(QJ.1 ((ZT s).1 h2).2.2.2.2.1).2
 have hn96:s.samples.length ≤ 96 ∧ s.gaps.length ≤ 8:=by
  have h5:=hk.sl
  have h6:=hk.gl
  unfold JA at h1
  simp only [Bool.and_eq_true,Bool.or_eq_true,decide_eq_true_eq] at h1
  omega
 have hst:0 ≤ s.start ∧ s.start ≤ 1000000:=⟨hk.st.1,by omega⟩
 obtain ⟨n,hn⟩:∃ n,s.samples.length = n:=⟨_,rfl⟩
 obtain ⟨k,hkk'⟩:∃ k:Nat,at_ % ((n:Int) + 1) = k:=⟨(at_ % ((n:Int) + 1)).toNat,by have:=Int.emod_nonneg at_ (b:=(n:Int) + 1) (by omega);omega⟩
 have hkn:k ≤ n:=by have:=Int.emod_lt_of_pos at_ (b:=(n:Int) + 1) (by omega);omega
 obtain ⟨z,hz⟩:∃ z:Int,kk % 640 - 320 = z:=⟨_,rfl⟩
 have hz2:-320 ≤ z ∧ z ≤ 319:=by omega
 obtain ⟨e,he⟩:∃ e:Nat,at_ % 8 = e:=⟨(at_ % 8).toNat,by omega⟩
 have hlv:=(lv_ok hz2).2
 have ok:∀ i,SerOk (cutS s (frO k i) (toO k n i)):=fun i => Z9 (QcL h2 hst.2 (Qax hkn).1 (by rw [hn];exact (Qax hkn).2))
 have cl:∀ i,(cutS s (frO k i) (toO k n i)).samples.length ≤ n:=by
  intro i
  have:=Zq s.samples (Qax (i:=i) hkn).1 (by rw [hn];exact (Qax hkn).2)
  have h4:(cutS s (frO k i) (toO k n i)).samples.length = toO k n i - frO k i:=this
  have:=(Qax (i:=i) hkn).2
  omega
 have bl:∀ x:Ser,SerOk x → x.samples.length ≤ 96 → (encL x).length ≤ 100000:=by
  intro x hx hl
  have h4:=JK x
  have h5:=hx.nm
  have h6:=hx.gl
  omega
 have cg:∀ i,(cutS s (frO k i) (toO k n i)).gaps.length ≤ 1024:=fun i => (ok i).gl
 have hlen:=JK s
 have hnm:=hk.nm
 have hgl:=hk.gl
 have ag:=QlL (k:=k) hk hst.2 (by omega)
 have gA:=Qaa (X:=X) hS (serP (cutS s 0 k)) (serP (cutS s k s.samples.length)) (by show (List.map _ _).length ≤ _;rw [List.length_map];have:=cl 0;exact Nat.le_trans this (by omega)) (by have:=cg 0;exact Nat.le_trans this (by omega))
  (by show (List.map _ _).length ≤ _;rw [List.length_map];have:=cl 1;rw [hn];exact Nat.le_trans this (by omega)) (by have:=cg 1;rw [hn];exact Nat.le_trans this (by omega))
 rw [ag] at gA
 obtain ⟨j,hj⟩:∃ j:Nat,j = (encL s).length - 4 * n + (kk % (4 * n)).toNat:=⟨_,rfl⟩
 obtain ⟨b',hb'⟩:∃ b',b' = (encL s).set j ((encL s).getD j 0 ^^^ UInt8.ofNat (2 ^ e)):=⟨_,rfl⟩
 have hbl:(encL s).length ≤ 1000:=by omega
 have hbl2:b'.length ≤ 1000:=by rw [hb',List.length_set];exact hbl
 have gX:=Yx (X:=X) hB b' (by omega)
 have hmn:0 < n → 0 ≤ kk % (4 * n) ∧ kk % (4 * n) < 4 * n:=fun h => ⟨Int.emod_nonneg _ (by omega),Int.emod_lt_of_pos _ (by omega)⟩
 have hjb:0 < n → (encL s)[j]? = some ((encL s).getD j 0):=by
  intro h
  have:=hmn h
  have hjl:j < (encL s).length:=by omega
  rw [List.getD_eq_getElem?_getD,List.getElem?_eq_getElem hjl];rfl
 have hP:(serP s).samples.length = n:=by show (List.map _ _).length = _;rw [List.length_map,hn]
 have pc:∀ i,serP (cutS s (frO k i) (toO k n i)) = cutS (serP s) (frO k i) (toO k n i):=fun i => QbM s _ _
 have okP:∀ i,SerOk (serP (cutS s (frO k i) (toO k n i))):=fun i => Z9 (QbD (ok i))
 have lP:∀ i,(serP (cutS s (frO k i) (toO k n i))).samples.length ≤ n:=fun i => by show (List.map _ _).length ≤ _;rw [List.length_map];exact cl i
 obtain ⟨⟨c1,c2⟩,c3⟩:=Qhp (k:=k) hk (by omega) (lvOf z)
 obtain ⟨y1,y2,y3,y4⟩:=Zo (serP (cutS s 0 k)) (lvOf z) (Nat.le_trans (lP 0) (by omega))
 obtain ⟨w1,w2,w3,w4⟩:=Zo (serP (cutS s k n)) (lvOf z) (Nat.le_trans (lP 1) (by omega))
 have y5:(spL (serP (cutS s 0 k)) (lvOf z)).length ≤ 96:=Nat.le_trans y3 (Nat.le_trans (lP 0) (by omega))
 have w5:(spL (serP (cutS s k n)) (lvOf z)).length ≤ 96:=Nat.le_trans w3 (Nat.le_trans (lP 1) (by omega))
 obtain ⟨x1,x2,x3,x4⟩:=Zo s (lvOf z) (by omega)
 obtain ⟨a1,a2,a3,a4⟩:=Zo s 1157627904 (by omega)
 have ay:=QJ.2 ⟨Nat.le_trans y5 (by decide),y1⟩
 have aw:=QJ.2 ⟨Nat.le_trans w5 (by decide),w1⟩
 have cy:=Zf (X:=X) (spL (serP (cutS s 0 k)) (lvOf z)) (by omega)
 have cw:=Zf (X:=X) (spL (serP (cutS s k n)) (lvOf z)) (by omega)
 rw [ay] at cy
 rw [aw] at cw
 rw [hn] at c1 c2 c3
 have p0:=pc 0
 have p1:=pc 1
 have q0:cutS (serP s) 0 k = serP (cutS s 0 k):=p0.symm
 have q1:cutS (serP s) k n = serP (cutS s k n):=p1.symm
 rw [q1] at c1 c2 c3
 rw [q0] at c3
 rw [hn] at gA
 have hgg:=QkX hk hgc (mx:=1157627904) (fun x hx => le_mx (hk.sm x hx))
 rw [hn] at hgg
 have hgS:∀ x ∈ spL (serP (cutS s k n)) (lvOf z),0 ≤ x.fr ∧ x.fr < x.to_ ∧ x.to_ ≤ (n:Int) - k:=fun x hx => by
  have h5:=QoU (Int.le_refl _) w1.1 x hx
  exact ⟨h5.1,h5.2,c2 x hx⟩
 refine QcQ hW s n k at_ kk (lvOf z) (fun i => serP (cutS s (frO k i) (toO k n i))) (fun i => encL (cutS s (frO k i) (toO k n i))) sh k1 hn hst (by omega) (by omega) (fun x hx => by have:=hk.gp x hx;omega)
  hat hkk hkk' hkn (fun _ => rfl) (fun i => q_enc hF (ok i)) (fun i => q_dec hB (ok i) (bl _ (ok i) (Nat.le_trans (cl i) (by omega)))) (fun i => Qjo (ok i))
  (serP s) (decS b') (encL s) b' (dE b') z j e (spL s (lvOf z)) (spL (serP (cutS s 0 k)) (lvOf z)) (spL (serP (cutS s k n)) (lvOf z)) (spL s 1157627904) (if n = 0 then [] else [⟨0,n⟩])
  gA (q_enc hF hk) ⟨by omega,by omega⟩ (Qjo hk) ?_ he ?_ gX ?_ hz rfl (JO s _ h2 (by omega) hlv) (JO _ _ (okP 0).chk (Nat.le_trans (lP 0) (by omega)) hlv) (JO _ _ (okP 1).chk (Nat.le_trans (lP 1) (by omega)) hlv)
  cy cw y5 w5 hgS (qJ1 hS ay (QJ.2 ⟨by rw [VZ];omega,c1⟩) c3 (by omega)) (JO s _ h2 (by omega) mx_ok.1) (by omega)
  (qJ1 hS (QJ.2 ⟨by omega,a1⟩) (QJ.2 ⟨by omega,hgc⟩) hgg (by split <;> simp)) (by omega) rfl
 ·intro h
  have:=hmn h
  omega
 ·intro h
  exact ⟨_,hjb h,hb'⟩
 ·intro hv h
  have hd:=QmF hv
  have e3:decS b' = dSer b':=by unfold decS;rw [if_pos hv]
  rw [e3]
  have h8:=hd.sl
  have h9:=hd.gl
  have hS2:=Yk (X:=X) (dSer b') s hd.sm hk.sm (by omega) (by omega)
  have hne:b' ≠ encL s:=by rw [hb'];exact Qpe (hjb h) (Qn2 _ ⟨e,by omega⟩)
  have hf:(decide ((dSer b').name = s.name) && (decide ((dSer b').start = s.start) && (decide ((dSer b').samples.map fOf = s.samples.map fOf) && decide ((dSer b').gaps = s.gaps)))) = false:=by
   rw [Bool.eq_false_iff]
   intro hh
   simp only [Bool.and_eq_true,decide_eq_true_eq] at hh
   exact hne (QkK hk (by omega) hv hd hh.1 hh.2.1 hh.2.2.1 hh.2.2.2)
  rw [hf] at hS2
  exact hS2
end
end Go.Nac.L6
