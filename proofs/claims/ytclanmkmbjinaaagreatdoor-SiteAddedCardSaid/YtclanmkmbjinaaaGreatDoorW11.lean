import Derived.Test.YtclanmkmbjinaaaGreatDoorW10
set_option linter.unusedSimpArgs false
set_option linter.unusedVariables false
set_option linter.unnecessarySimpa false
set_option maxRecDepth 10000
namespace Go.Nac.L4
attribute [local congr] b1_congr b2_congr Wp_congr wpOps_congr thenK_congr blockK_congr gK_congr cK_congr
section
variable {X:XRel}
def blK (a b:Ser) (k:Nat):Option Rse:=blTo b (recK a.samples a.gaps k)
theorem blK_gap {a b:Ser} {k x:Nat} (h:a.samples[k]? = some x) (hg:gapAt a.gaps k = true):blK a b (k + 1) = blK a b k:=by
  unfold blK;rw [recK_snoc h,if_pos hg,List.append_nil]
theorem blK_rec {a b:Ser} {k x:Nat} (h:a.samples[k]? = some x) (hg:gapAt a.gaps k = false):blK a b (k + 1) = blStep b (blK a b k) (k,x):=by
  unfold blK;rw [recK_snoc h,if_neg (by simp [hg])]
  unfold blTo;rw [List.foldl_append];rfl
theorem blK_none {a b:Ser} {k:Nat} (h:blK a b k = none):∀ d:Nat,k + d ≤ a.samples.length → blK a b (k + d) = none:=by
  intro d
  induction d with
  | zero => intro _;exact h
  | succ d ih =>
    intro hd
    obtain ⟨x,hx⟩:∃ x,a.samples[k + d]? = some x:=⟨_,List.getElem?_eq_getElem (by omega)⟩
    cases hg:gapAt a.gaps (k + d:Nat) with
    | true => rw [← Nat.add_assoc,blK_gap hx hg];exact ih (by omega)
    | false => rw [← Nat.add_assoc,blK_rec hx hg,ih (by omega)];rfl
theorem blK_in {a b:Ser}:∀ {k:Nat} {r:Rse},k ≤ a.samples.length → blK a b k = some r → rseIn k r:=by
  intro k
  induction k with
  | zero => intro r _ h;cases h;exact rseIn_z
  | succ k ih =>
    intro r hk h
    obtain ⟨x,hx⟩:∃ x,a.samples[k]? = some x:=⟨_,List.getElem?_eq_getElem (by omega)⟩
    cases hg:gapAt a.gaps k with
    | true => rw [blK_gap hx hg] at h;exact rseIn_mono (ih (by omega) h)
    | false =>
      rw [blK_rec hx hg] at h
      cases hb:blK a b k with
      | none => rw [hb] at h;cases h
      | some q =>
        rw [hb] at h
        have hq:=ih (by omega) hb
        simp only [blStep] at h
        split at h
        · cases h;exact rseIn_mono hq
        · split at h
          · cases h
          · cases h;exact rseIn_inc hq
theorem q_ref01_Blown (a b:Ser) (ha:chkSer a = 0) (hb:chkSer b = 0):Q X 82 [encSer a,encSer b] (.tup [encRs (blownR a b).1,.I (blownR a b).2]):=by
  obtain ⟨hina,hsa⟩:=serIn_of ha
  obtain ⟨hinb,hsb⟩:=serIn_of hb
  have la:=hina.1
  have lb:=hinb.1
  have lga:=(gaps_40 ha).2.1
  have lgb:=(gaps_40 hb).2.1
  have eE:blownE a b = if a.start ≠ b.start ∨ a.samples.length ≠ b.samples.length then 2 else 0:=by
    unfold blownE;rw [ha,hb];by_cases h:a.start ≠ b.start ∨ a.samples.length ≠ b.samples.length
    · simp only [if_pos h];rfl
    · simp only [if_neg h];rfl
  unfold blownR
  rw [eE]
  clear eE
  have es1:=encSer_eq a
  have es2:=encSer_eq b
  have o1:=encF_ok a.samples
  have o2:=encF_ok b.samples
  have n1:(a.samples.map encF).length = a.samples.length:=by simp
  have n2:(b.samples.map encF).length = b.samples.length:=by simp
  have hzI:=z408_I
  have hzl:(List.map PV.I z408).length = 408:=by rw [List.length_map];exact List.length_replicate
  have hzv:=fun M => view1_ints M z408
  have hzx:=fun n M => out1_ints n M z408
  have hzo:=ones_I z408
  have hzw:=fun m:Nat => encI_lowm (n:=m) z408
  have hzd:(List.map PV.I z408).drop 408 = []:=List.drop_of_length_le (by omega)
  have hzt:(List.map PV.I z408).take 408 = List.map PV.I z408:=List.take_of_length_le (by omega)
  have hze:encRs z408 = .agg (List.map PV.I z408):=rfl
  by_cases hl:a.samples.length = b.samples.length
  case neg =>
    have fl:((a.samples.length:Int) = b.samples.length) = False:=eq_false (by omega)
    rw [if_neg (by rw [if_pos (Or.inr hl)];decide),if_pos (Or.inr hl),hze]
    generalize hZ:List.map PV.I z408 = Z at hzI hzl hzv hzo hzw hzd hzt hzx hze ⊢
    intro M
    (refine ACall_fn (cf:=L4.c82) rfl rfl fun hM hA => ?_;simp only [L4.c82,zO,zF,zT];rw [mk2 _ (by decide)];simp -implicitDefEqProofs (disch:=first|omega|(simp only [go_sem,seval,-List.reduceReplicate,es1,es2,hzI,hzl,fl,hl,putE_agg,hzo,hzd,hzt,hzv,List.append_nil];first|done|omega)) only [go_sem,seval,-List.reduceReplicate,es1,es2,hzI,hzl,fl,hl,putE_agg,hzo,hzd,hzt,hzv,List.append_nil])
    (first|refine post_fin ret_ok hM rfl ?_ ?_|refine post_fin0 ret_ok hM rfl ?_ ?_|refine post_fin normal_ok hM rfl ?_ ?_|refine post_fin0 normal_ok hM rfl ?_ ?_)
    · simp -implicitDefEqProofs (disch:=first|omega|(simp only [go_sem,seval,-List.reduceReplicate,hzt,hzx];first|done|omega)) only [go_sem,seval,-List.reduceReplicate,hzt,hzx]
    · (simp only [go_sem,seval,-List.reduceReplicate,hzw,hzt,hzx] <;> first|done|omega)
  have fl:((a.samples.length:Int) = b.samples.length) = True:=eq_true (by omega)
  by_cases hst:a.start = b.start
  case neg =>
    rw [if_neg (by rw [if_pos (Or.inl hst)];decide),if_pos (Or.inl hst),hze]
    generalize hZ:List.map PV.I z408 = Z at hzI hzl hzv hzo hzw hzd hzt hzx hze ⊢
    intro M
    (refine ACall_fn (cf:=L4.c82) rfl rfl fun hM hA => ?_;simp only [L4.c82,zO,zF,zT];rw [mk2 _ (by decide)];simp -implicitDefEqProofs (disch:=first|omega|(simp only [go_sem,seval,-List.reduceReplicate,es1,es2,hzI,hzl,fl,hl,hst,putE_agg,hzo,hzd,hzt,hzv,List.append_nil];first|done|omega)) only [go_sem,seval,-List.reduceReplicate,es1,es2,hzI,hzl,fl,hl,hst,putE_agg,hzo,hzd,hzt,hzv,List.append_nil])
    (first|refine post_fin ret_ok hM rfl ?_ ?_|refine post_fin0 ret_ok hM rfl ?_ ?_|refine post_fin normal_ok hM rfl ?_ ?_|refine post_fin0 normal_ok hM rfl ?_ ?_)
    · simp -implicitDefEqProofs (disch:=first|omega|(simp only [go_sem,seval,-List.reduceReplicate,hzt,hzx];first|done|omega)) only [go_sem,seval,-List.reduceReplicate,hzt,hzx]
    · (simp only [go_sem,seval,-List.reduceReplicate,hzw,hzt,hzx] <;> first|done|omega)
  have hne:¬ (a.start ≠ b.start ∨ a.samples.length ≠ b.samples.length):=fun h => h.elim (fun h => h hst) (fun h => h hl)
  rw [if_pos (by rw [if_neg hne])]
  have hrec:blTo b (recOf a.samples a.gaps) = blK a b a.samples.length:=rfl
  rw [hrec]
  generalize hZ:List.map PV.I z408 = Z at hzI hzl hzv hzo hzw hzd hzt hzx hze
  have s1:=es1
  have s2:=es2
  intro M
  (refine ACall_fn (cf:=L4.c82) rfl rfl fun hM hA => ?_;simp only [L4.c82,zO,zF,zT];rw [mk2 _ (by decide)];simp -implicitDefEqProofs (disch:=first|omega|(simp only [go_sem,seval,-List.reduceReplicate,es1,es2,hzI,hzl,fl,hl,hst];first|done|omega)) only [go_sem,seval,-List.reduceReplicate,es1,es2,hzI,hzl,fl,hl,hst])
  refine loop_mk (α:=Nat × Rse) (0,z408) (fun p => p.1 ≤ a.samples.length ∧ blK a b p.1 = some p.2) (fun p => M ++ [.row true 408 0 [.agg Z],.row true 408 0 [.agg (p.2.map PV.I)]])
    (fun p => [(2,.fp [.s (.string a.name),.I b.start,.fs (a.samples.map encF),.fs (a.gaps.map encSpn)]),(3,.fp [.s (.string b.name),.I b.start,.fs (b.samples.map encF),.fs (b.gaps.map encSpn)]),(4,.op M.length 0 0 0),(6,.op (M.length + 1) 0 0 0),(7,.I p.1)]) (fun p => a.samples.length - p.1) ⟨Nat.zero_le _,rfl⟩ (by rw [hZ]) rfl ?_
  rintro ⟨k,r⟩ ⟨hk,hr⟩
  simp only at hk hr
  have hri:=blK_in hk hr
  by_cases hlt:k < a.samples.length
  · have hlt2:k < b.samples.length:=by omega
    obtain ⟨x,hx⟩:∃ x,a.samples[k]? = some x:=⟨_,List.getElem?_eq_getElem hlt⟩
    obtain ⟨w,hw⟩:∃ x,b.samples[k]? = some x:=⟨_,List.getElem?_eq_getElem hlt2⟩
    have hxs:=hsa x (List.mem_of_getElem? hx)
    have hws:=hsb w (List.mem_of_getElem? hw)
    have hH1:=q_ref01_Has (X:=X) a.gaps k (by omega)
    have hH2:=q_ref01_Has (X:=X) b.gaps k (by omega)
    have hS1:=q_ref01_Six (X:=X) hxs
    have hS2:=q_ref01_Six (X:=X) hws
    have b1:=six_small hxs
    have b2:=six_small hws
    simp -implicitDefEqProofs (disch:=first|omega|(simp only [go_sem,seval,-List.reduceReplicate,hlt];first|done|omega)) only [go_sem,seval,-List.reduceReplicate,hlt]
    refine callP_q (hH1 _) ?_
    cases hg:gapAt a.gaps k with
    | true =>
      have hn:=blK_gap (b:=b) hx hg
      simp -implicitDefEqProofs (disch:=first|omega|(simp only [go_sem,seval,-List.reduceReplicate];first|done|omega)) only [go_sem,seval,-List.reduceReplicate]
      exact again' (k + 1,r) ⟨by simp only;omega,by simp only;rw [hn];exact hr⟩ (by simp only;omega) rfl rfl
    | false =>
      have hn:=blK_rec (b:=b) hx hg
      rw [hr] at hn
      simp only [blStep,List.getD_eq_getElem?_getD,hw,Option.getD_some] at hn
      simp -implicitDefEqProofs (disch:=first|omega|(simp only [go_sem,seval,-List.reduceReplicate];first|done|omega)) only [go_sem,seval,-List.reduceReplicate]
      refine callP_q (hH2 _) ?_
      cases hg2:gapAt b.gaps k with
      | true =>
        rw [hg2,if_pos rfl] at hn
        simp -implicitDefEqProofs (disch:=first|omega|(simp only [go_sem,seval,-List.reduceReplicate];first|done|omega)) only [go_sem,seval,-List.reduceReplicate]
        exact again' (k + 1,r) ⟨by simp only;omega,hn⟩ (by simp only;omega) rfl rfl
      | false =>
        rw [hg2,if_neg (by decide)] at hn
        simp -implicitDefEqProofs (disch:=first|omega|(simp only [go_sem,seval,-List.reduceReplicate,hx,hw];first|done|omega)) only [go_sem,seval,-List.reduceReplicate,hx,hw]
        refine callP_q (hS1 _) ?_
        simp -implicitDefEqProofs (disch:=first|omega|(simp only [go_sem,seval,-List.reduceReplicate,hx,hw];first|done|omega)) only [go_sem,seval,-List.reduceReplicate,hx,hw]
        refine callP_q (hS2 _) ?_
        have T1:∀ v:Int,0 ≤ v → v.tdiv 16 = v / 16:=fun v h => Int.tdiv_eq_ediv_of_nonneg h
        have T2:∀ v:Int,0 ≤ v → v.tmod 16 = v % 16:=fun v h => Int.tmod_eq_emod_of_nonneg h
        by_cases c1:six x < 0
        · rw [if_pos (by unfold blowBad;simp [c1])] at hn
          have hE:blK a b a.samples.length = none:=by have:=blK_none hn (a.samples.length - (k + 1)) (by omega);rwa [show k + 1 + (a.samples.length - (k + 1)) = a.samples.length from by omega] at this
          rw [hl] at hE
          rw [hE]
          simp only [hze]
          simp -implicitDefEqProofs (disch:=first|omega|(simp only [go_sem,seval,-List.reduceReplicate,c1,T1,T2,hzI,hzl,putE_agg,hzo,hzd,hzt,hzv,List.append_nil];first|done|omega)) only [go_sem,seval,-List.reduceReplicate,c1,T1,T2,hzI,hzl,putE_agg,hzo,hzd,hzt,hzv,List.append_nil]
          (first|refine post_fin ret_ok hM rfl ?_ ?_|refine post_fin0 ret_ok hM rfl ?_ ?_|refine post_fin normal_ok hM rfl ?_ ?_|refine post_fin0 normal_ok hM rfl ?_ ?_)
          · simp -implicitDefEqProofs (disch:=first|omega|(simp only [go_sem,seval,-List.reduceReplicate,hzt,hzx];first|done|omega)) only [go_sem,seval,-List.reduceReplicate,hzt,hzx]
          · (simp only [go_sem,seval,-List.reduceReplicate,hzw,hzt,hzx] <;> first|done|omega)
        by_cases c2:816 ≤ six x
        · have d2:(50 < six x / 16) = True:=eq_true (by omega)
          rw [if_pos (by unfold blowBad;simp [c2])] at hn
          have hE:blK a b a.samples.length = none:=by have:=blK_none hn (a.samples.length - (k + 1)) (by omega);rwa [show k + 1 + (a.samples.length - (k + 1)) = a.samples.length from by omega] at this
          rw [hl] at hE
          rw [hE]
          simp only [hze]
          simp -implicitDefEqProofs (disch:=first|omega|(simp only [go_sem,seval,-List.reduceReplicate,c1,d2,T1,T2,hzI,hzl,putE_agg,hzo,hzd,hzt,hzv,List.append_nil];first|done|omega)) only [go_sem,seval,-List.reduceReplicate,c1,d2,T1,T2,hzI,hzl,putE_agg,hzo,hzd,hzt,hzv,List.append_nil]
          (first|refine post_fin ret_ok hM rfl ?_ ?_|refine post_fin0 ret_ok hM rfl ?_ ?_|refine post_fin normal_ok hM rfl ?_ ?_|refine post_fin0 normal_ok hM rfl ?_ ?_)
          · simp -implicitDefEqProofs (disch:=first|omega|(simp only [go_sem,seval,-List.reduceReplicate,hzt,hzx];first|done|omega)) only [go_sem,seval,-List.reduceReplicate,hzt,hzx]
          · (simp only [go_sem,seval,-List.reduceReplicate,hzw,hzt,hzx] <;> first|done|omega)
        have d2:(50 < six x / 16) = False:=eq_false (by omega)
        by_cases c3:six w < 0
        · rw [if_pos (by unfold blowBad;simp [c3])] at hn
          have hE:blK a b a.samples.length = none:=by have:=blK_none hn (a.samples.length - (k + 1)) (by omega);rwa [show k + 1 + (a.samples.length - (k + 1)) = a.samples.length from by omega] at this
          rw [hl] at hE
          rw [hE]
          simp only [hze]
          simp -implicitDefEqProofs (disch:=first|omega|(simp only [go_sem,seval,-List.reduceReplicate,c1,d2,c3,T1,T2,hzI,hzl,putE_agg,hzo,hzd,hzt,hzv,List.append_nil];first|done|omega)) only [go_sem,seval,-List.reduceReplicate,c1,d2,c3,T1,T2,hzI,hzl,putE_agg,hzo,hzd,hzt,hzv,List.append_nil]
          (first|refine post_fin ret_ok hM rfl ?_ ?_|refine post_fin0 ret_ok hM rfl ?_ ?_|refine post_fin normal_ok hM rfl ?_ ?_|refine post_fin0 normal_ok hM rfl ?_ ?_)
          · simp -implicitDefEqProofs (disch:=first|omega|(simp only [go_sem,seval,-List.reduceReplicate,hzt,hzx];first|done|omega)) only [go_sem,seval,-List.reduceReplicate,hzt,hzx]
          · (simp only [go_sem,seval,-List.reduceReplicate,hzw,hzt,hzx] <;> first|done|omega)
        by_cases c5:six w % 16 = 0
        case neg =>
          rw [if_pos (by unfold blowBad;simp [c5])] at hn
          have hE:blK a b a.samples.length = none:=by have:=blK_none hn (a.samples.length - (k + 1)) (by omega);rwa [show k + 1 + (a.samples.length - (k + 1)) = a.samples.length from by omega] at this
          rw [hl] at hE
          rw [hE]
          simp only [hze]
          simp -implicitDefEqProofs (disch:=first|omega|(simp only [go_sem,seval,-List.reduceReplicate,c1,d2,c3,c5,T1,T2,hzI,hzl,putE_agg,hzo,hzd,hzt,hzv,List.append_nil];first|done|omega)) only [go_sem,seval,-List.reduceReplicate,c1,d2,c3,c5,T1,T2,hzI,hzl,putE_agg,hzo,hzd,hzt,hzv,List.append_nil]
          (first|refine post_fin ret_ok hM rfl ?_ ?_|refine post_fin0 ret_ok hM rfl ?_ ?_|refine post_fin normal_ok hM rfl ?_ ?_|refine post_fin0 normal_ok hM rfl ?_ ?_)
          · simp -implicitDefEqProofs (disch:=first|omega|(simp only [go_sem,seval,-List.reduceReplicate,hzt,hzx];first|done|omega)) only [go_sem,seval,-List.reduceReplicate,hzt,hzx]
          · (simp only [go_sem,seval,-List.reduceReplicate,hzw,hzt,hzx] <;> first|done|omega)
        by_cases c4:112 < six w
        · have d4:(8 ≤ six w / 16) = True:=eq_true (by omega)
          rw [if_pos (by unfold blowBad;simp [c4])] at hn
          have hE:blK a b a.samples.length = none:=by have:=blK_none hn (a.samples.length - (k + 1)) (by omega);rwa [show k + 1 + (a.samples.length - (k + 1)) = a.samples.length from by omega] at this
          rw [hl] at hE
          rw [hE]
          simp only [hze]
          simp -implicitDefEqProofs (disch:=first|omega|(simp only [go_sem,seval,-List.reduceReplicate,c1,d2,c3,c5,d4,T1,T2,hzI,hzl,putE_agg,hzo,hzd,hzt,hzv,List.append_nil];first|done|omega)) only [go_sem,seval,-List.reduceReplicate,c1,d2,c3,c5,d4,T1,T2,hzI,hzl,putE_agg,hzo,hzd,hzt,hzv,List.append_nil]
          (first|refine post_fin ret_ok hM rfl ?_ ?_|refine post_fin0 ret_ok hM rfl ?_ ?_|refine post_fin normal_ok hM rfl ?_ ?_|refine post_fin0 normal_ok hM rfl ?_ ?_)
          · simp -implicitDefEqProofs (disch:=first|omega|(simp only [go_sem,seval,-List.reduceReplicate,hzt,hzx];first|done|omega)) only [go_sem,seval,-List.reduceReplicate,hzt,hzx]
          · (simp only [go_sem,seval,-List.reduceReplicate,hzw,hzt,hzx] <;> first|done|omega)
        have d4:(8 ≤ six w / 16) = False:=eq_false (by omega)
        have hnb:blowBad x w = false:=by unfold blowBad;simp only [Bool.or_eq_false_iff,decide_eq_false_iff_not];exact ⟨⟨⟨⟨c1,c2⟩,c3⟩,c4⟩,fun h => h c5⟩
        rw [hnb,if_neg (by decide)] at hn
        obtain ⟨n,hn1⟩:∃ n:Nat,six w / 16 = n:=⟨(six w / 16).toNat,by omega⟩
        obtain ⟨v,hv⟩:∃ v:Nat,six x / 16 = v:=⟨(six x / 16).toNat,by omega⟩
        have hat:blowAt x w = n * 51 + v:=by unfold blowAt;rw [hn1,hv];rfl
        rw [hat] at hn
        have hv51:v < 51:=by omega
        have hn8:n < 8:=by omega
        have hil:n * 51 + v < 408:=by omega
        obtain ⟨u,hu⟩:∃ u,r[n * 51 + v]? = some u:=⟨_,List.getElem?_eq_getElem (by rw [hri.1];exact hil)⟩
        have hub:=hri.2 u (List.mem_of_getElem? hu)
        have hinc:=incR_I hu
        have hcl:(List.map PV.I r).length = 408:=by rw [List.length_map,hri.1]
        have hco:=ones_I r
        have hdt:((List.map PV.I r).drop (n * 51 + v)).take 1 = [PV.I u]:=by
          have hcg:(List.map PV.I r)[n * 51 + v]? = some (PV.I u):=by rw [List.getElem?_map,hu];rfl
          obtain ⟨q1,q2⟩:=List.getElem?_eq_some_iff.1 hcg
          rw [List.drop_eq_getElem_cons q1,q2];rfl
        rw [hv] at d2
        rw [hn1] at d4
        have T8:(n < 8) = True:=eq_true hn8
        have T51:(v < 51) = True:=eq_true hv51
        generalize hcs:List.map PV.I r = cs at hinc hcl hco hdt ⊢
        simp -implicitDefEqProofs (disch:=first|omega|(simp only [go_sem,seval,-List.reduceReplicate,c1,d2,c3,c5,d4,T1,T2,hn1,hv,T8,T51,Nat.mul_one,hdt,hcl,hco,hub,putE_agg];first|done|omega)) only [go_sem,seval,-List.reduceReplicate,c1,d2,c3,c5,d4,T1,T2,hn1,hv,T8,T51,Nat.mul_one,hdt,hcl,hco,hub,putE_agg]
        exact again' (k + 1,incR r (n * 51 + v)) ⟨by simp only;omega,hn⟩ (by simp only;omega) (by rw [← hinc];rfl) rfl
  · have hkk:k = a.samples.length:=by omega
    rw [hkk] at hri hr
    rw [hl] at hr
    rw [hr]
    have hre:encRs r = .agg (List.map PV.I r):=rfl
    have hrl2:(List.map PV.I r).length = 408:=by rw [List.length_map,hri.1]
    have hrv:=fun M => view1_ints M r
    have hrx:=fun n M => out1_ints n M r
    have hro:=ones_I r
    have hrw:=fun m:Nat => encI_lowm (n:=m) r
    have hrt:(List.map PV.I r).take 408 = List.map PV.I r:=List.take_of_length_le (by omega)
    simp only [hre]
    generalize List.map PV.I r = C at hrl2 hrv hrx hro hrw hrt ⊢
    simp -implicitDefEqProofs (disch:=first|omega|(simp only [go_sem,seval,-List.reduceReplicate,hlt,hrl2,hrv,hro,hrt,putE_agg,hzl,hzd,hzt,List.append_nil];first|done|omega)) only [go_sem,seval,-List.reduceReplicate,hlt,hrl2,hrv,hro,hrt,putE_agg,hzl,hzd,hzt,List.append_nil]
    (first|refine post_fin ret_ok hM rfl ?_ ?_|refine post_fin0 ret_ok hM rfl ?_ ?_|refine post_fin normal_ok hM rfl ?_ ?_|refine post_fin0 normal_ok hM rfl ?_ ?_)
    · simp -implicitDefEqProofs (disch:=first|omega|(simp only [go_sem,seval,-List.reduceReplicate,hrt,hrx];first|done|omega)) only [go_sem,seval,-List.reduceReplicate,hrt,hrx]
    · (simp only [go_sem,seval,-List.reduceReplicate,hrw,hrt,hrx] <;> first|done|omega)
theorem blownR_len (a b:Ser):(blownR a b).1.length = 408:=by
  unfold blownR
  split
  · cases h:blTo b (recOf a.samples a.gaps) with
    | none => exact List.length_replicate
    | some r => exact (blK_in (a:=a) (Nat.le_refl _) h).1
  · exact List.length_replicate
end
end Go.Nac.L4
namespace Go.Nac.L4
attribute [local congr] b1_congr b2_congr Wp_congr wpOps_congr thenK_congr blockK_congr gK_congr cK_congr
section
variable {X:XRel}
open Ieee
end
end Go.Nac.L4
namespace Go.Nac.L4
attribute [local congr] b1_congr b2_congr Wp_congr wpOps_congr thenK_congr blockK_congr gK_congr cK_congr
section
variable {X:XRel}
theorem q_cut (s:Ser) (f t:Nat) (h1:f ≤ t) (h2:t ≤ s.samples.length) (hl:s.samples.length ≤ 40000) (hs:0 ≤ s.start ∧ s.start ≤ 1000000) (hg:s.gaps.length ≤ 1024) (hin:∀ x ∈ s.gaps,0 ≤ x.fr ∧ x.fr < x.to_ ∧ x.to_ ≤ s.samples.length) :
    Q X 87 [encSer s,.I f,.I t] (encSer (cutS s f t)):=by
  have es:=encSer_eq s
  have e2:encSer (cutS s f t) = .agg [.s (.string s.name),.I (s.start + f),.fs (((s.samples.map encF).drop f).take (t - f)),.fs ((cutG s.gaps f t).map encSpn)]:=by
    rw [← List.map_drop,← List.map_take];rfl
  rw [es,e2]
  have o1:=encF_ok s.samples
  have n1:(s.samples.map encF).length = s.samples.length:=by simp
  have lw1:∀ m,lowL m (s.samples.map encF) = True:=fun m => encF_low _
  have lw2:∀ m,lowL m (s.gaps.map encSpn) = True:=fun m => encSpn_low _
  have lw3:∀ m,lowL m (((s.samples.map encF).drop f).take (t - f)) = True:=fun m => by rw [← List.map_drop,← List.map_take];exact encF_low _
  have n3:(((s.samples.map encF).drop f).take (t - f)).length = t - f:=by rw [← List.map_drop,← List.map_take,List.length_map];exact cut_len _ h1 h2
  have o3:(((s.samples.map encF).drop f).take (t - f)).all (okElem 1) = true:=by rw [← List.map_drop,← List.map_take];exact encF_ok _
  have hbo:(f ≤ t ∧ t ≤ s.samples.length) = True:=eq_true ⟨h1,h2⟩
  have hsz:sized 1 (s.samples.map encF) = true:=by unfold sized;rw [List.all_eq_true];intro x hx;obtain ⟨y,_,rfl⟩:=List.mem_map.1 hx;rfl
  have hst3:(((s.samples.map encF).drop f).take (t - f)).take (t - f) = ((s.samples.map encF).drop f).take (t - f):=List.take_of_length_le (by omega)
  intro M
  (refine ACall_fn (cf:=L4.c87) rfl rfl fun hM hA => ?_;simp only [L4.c87,zO,zF,zT];rw [mk3 _ (by decide)];simp -implicitDefEqProofs (disch:=first|omega|(simp only [go_sem,seval,hsz,hbo,n1,n3,o3,ownR_agg];first|done|omega)) only [go_sem,seval,hsz,hbo,n1,n3,o3,ownR_agg])
  refine ⟨by simp [pairsOk,okPair,apartL,refs,refs1],?_⟩
  generalize ((s.samples.map encF).drop f).take (t - f) = sl at n3 o3 lw3 hst3 ⊢
  refine loop_mk (α:=Nat) 0 (fun k => k ≤ s.gaps.length) (fun k => M ++ [.row true 4 0 [.agg [.s (.string ⟨#[]⟩),.I 0,.s (.slice none 0 0),.s (.slice none 0 0)]],.row true 1 2 sl,.row true 4 1 [.agg [.s (.string s.name),.I (s.start + f),.os (M.length + 1) 2 0 (t - f),.os (M.length + 3) (cutG (s.gaps.take k) f t).length 0 (cutG (s.gaps.take k) f t).length]],.row true 2 (cutG (s.gaps.take k) f t).length ((cutG (s.gaps.take k) f t).map encSpn)])
    (fun k => [(1,.I f),(2,.I t),(6,.op M.length 0 0 0),(7,.op (M.length + 2) 1 0 0),(27,.fs (s.gaps.map encSpn)),(28,.I s.gaps.length),(29,.I k)]) (fun k => s.gaps.length - k) (Nat.zero_le _) rfl rfl ?_
  intro k hk
  by_cases hlt:k < s.gaps.length
  · obtain ⟨x,hx⟩:∃ x,s.gaps[k]? = some x:=⟨_,List.getElem?_eq_getElem hlt⟩
    have hb:=hin x (List.mem_of_getElem? hx)
    have hsn:=cutG_snoc hx f t
    have ho:((cutG (s.gaps.take k) f t).map encSpn).length = (cutG (s.gaps.take k) f t).length:=by simp
    have hlo:∀ m,lowL m ((cutG (s.gaps.take k) f t).map encSpn) = True:=fun m => encSpn_low _
    have hn:(cutG (s.gaps.take k) f t).length ≤ 1024:=by
      have:=cutG_len (s.gaps.take k) f t
      have:=List.length_take_le k s.gaps
      omega
    by_cases h3:max x.fr f < min x.to_ t
    · have hsn2:cutX x f t = [⟨max x.fr f - f,min x.to_ t - f⟩]:=if_pos h3
      rw [hsn2] at hsn
      have hst:(cutG (s.gaps.take k) f t).map encSpn ++ [.agg [.I (max x.fr f - f),.I (min x.to_ t - f)]] = (cutG (s.gaps.take (k + 1)) f t).map encSpn:=by rw [hsn,List.map_append];rfl
      have hnn:(cutG (s.gaps.take (k + 1)) f t).length = (cutG (s.gaps.take k) f t).length + 1:=by rw [hsn,List.length_append];rfl
      generalize (cutG (s.gaps.take k) f t).map encSpn = o at ho hst hlo ⊢
      generalize (cutG (s.gaps.take k) f t).length = w at ho hnn hn ⊢
      have hmx:0 ≤ max x.fr f ∧ max x.fr f ≤ 40000:=by omega
      have hmn:0 ≤ min x.to_ t ∧ min x.to_ t ≤ 40000:=by omega
      simp -implicitDefEqProofs (disch:=first|omega|(simp only [go_sem,seval,hlt,hx,ho,encSpn_cells,encSpn_eq];first|done|omega)) only [go_sem,seval,hlt,hx,ho,encSpn_cells,encSpn_eq]
      generalize max x.fr f = p at *
      generalize min x.to_ t = q at *
      simp -implicitDefEqProofs (disch:=first|omega|(simp only [go_sem,seval,h3,ho];first|done|omega)) only [go_sem,seval,h3,ho]
      refine Wp_cut_at hM rfl 4 (by simp) (by first|done|(simp only [go_sem,seval,lw1,lw2,lw3,hlo] <;> first|done|(refine ⟨?_,?_⟩ <;> omega)|omega)) (lowL_mk (by first|done|(simp only [go_sem,seval,lw1,lw2,lw3,hlo] <;> first|done|(refine ⟨?_,?_⟩ <;> omega)|omega))) ?_
      simp -implicitDefEqProofs (disch:=first|omega|(simp only [go_sem,seval];first|done|omega)) only [go_sem,seval]
      exact again' (k + 1) (by omega) (by omega) (by rw [hnn,← hst]) rfl
    · have hsn2:cutX x f t = []:=if_neg h3
      rw [hsn2,List.append_nil] at hsn
      simp -implicitDefEqProofs (disch:=first|omega|(simp only [go_sem,seval,hlt,hx,ho,encSpn_cells,encSpn_eq];first|done|omega)) only [go_sem,seval,hlt,hx,ho,encSpn_cells,encSpn_eq]
      generalize max x.fr f = p at *
      generalize min x.to_ t = q at *
      simp -implicitDefEqProofs (disch:=first|omega|(simp only [go_sem,seval,h3,ho];first|done|omega)) only [go_sem,seval,h3,ho]
      refine Wp_cut_at hM rfl 4 (by simp) (by first|done|(simp only [go_sem,seval,lw1,lw2,lw3,hlo] <;> first|done|(refine ⟨?_,?_⟩ <;> omega)|omega)) (lowL_mk (by first|done|(simp only [go_sem,seval,lw1,lw2,lw3,hlo] <;> first|done|(refine ⟨?_,?_⟩ <;> omega)|omega))) ?_
      simp -implicitDefEqProofs (disch:=first|omega|(simp only [go_sem,seval];first|done|omega)) only [go_sem,seval]
      exact again' (k + 1) (by omega) (by omega) (by rw [hsn]) rfl
  have hkk:k = s.gaps.length:=by omega
  subst hkk
  rw [List.take_length]
  have ho:((cutG s.gaps f t).map encSpn).length = (cutG s.gaps f t).length:=by simp
  have hat:((cutG s.gaps f t).map encSpn).take (cutG s.gaps f t).length = (cutG s.gaps f t).map encSpn:=List.take_of_length_le (by omega)
  have hlo:∀ m,lowL m ((cutG s.gaps f t).map encSpn) = True:=fun m => encSpn_low _
  generalize (cutG s.gaps f t).map encSpn = o at ho hat hlo ⊢
  generalize (cutG s.gaps f t).length = w at *
  simp -implicitDefEqProofs (disch:=first|omega|(simp only [go_sem,seval,hlt,ho,hat,n3,hst3];first|done|omega)) only [go_sem,seval,hlt,ho,hat,n3,hst3]
  (first|refine post_fin ret_ok hM rfl ?_ ?_|refine post_fin0 ret_ok hM rfl ?_ ?_|refine post_fin normal_ok hM rfl ?_ ?_|refine post_fin0 normal_ok hM rfl ?_ ?_)
  · simp -implicitDefEqProofs (disch:=first|omega|(simp only [go_sem,seval,ho,hat,n3,hst3];first|done|omega)) only [go_sem,seval,ho,hat,n3,hst3]
  · (simp only [go_sem,seval,lw3,hlo] <;> first|done|omega)
set_option maxHeartbeats 8000000 in
theorem q_added_core (v d A B C D:Ser) (n k:Nat) (at_:Int) (R P S:Rse) (g:Int) (T1 T2:Stt) (hW:Q X 17 [] (.B true))
    (s1:Q X 63 [encSer v] (.B true)) (s2:Q X 63 [encSer d] (.B true))
    (k1:Q X 67 [encSer v] (.I 0)) (k2:Q X 67 [encSer d] (.I 0))
    (hn:v.samples.length = n) (hn2:d.samples.length = n) (hst:d.start = v.start) (hsm:v.start ≤ 1000000) (hn0:0 < n) (hn96:n ≤ 96)
    (hB0:Q X 82 [encSer v,encSer d] (.tup [encRs R,.I 0]))
    (hat:(at_.tmod ((n:Int) + 1)) = k) (hat2:0 ≤ at_ ∧ at_ ≤ 255) (hk:k ≤ n)
    (cA:Q X 87 [encSer v,.I 0,.I k] (encSer A)) (cB:Q X 87 [encSer v,.I k,.I n] (encSer B))
    (cC:Q X 87 [encSer d,.I 0,.I k] (encSer C)) (cD:Q X 87 [encSer d,.I k,.I n] (encSer D))
    (hAp:Q X 80 [encSer A,encSer B] (.tup [encSer v,.I 0]))
    (hS1:Q X 64 [encSer A] (.tup [encSt T1,.I (if T1.count = 0 then 12 else 0)])) (hS2:Q X 64 [encSer B] (.tup [encSt T2,.I (if T2.count = 0 then 12 else 0)]))
    (le mo:Nat) (hS3:Q X 64 [encSer v] (.tup [encSt ⟨T1.count + T2.count,T1.sum + T2.sum,le,mo⟩,.I (if T1.count + T2.count = 0 then 12 else 0)]))
    (hT1:0 ≤ T1.count ∧ T1.count ≤ 96 ∧ -4000000 ≤ T1.sum ∧ T1.sum ≤ 4000000) (hT2:0 ≤ T2.count ∧ T2.count ≤ 96 ∧ -4000000 ≤ T2.sum ∧ T2.sum ≤ 4000000)
    (c1:Q X 65 [encSer v] (encSer v)) (c2:Q X 65 [encSer d] (encSer d))
    (hSa:Q X 85 [encSer v,encSer v] (.B true))
    (hP:Q X 81 [encSer A,encSer C] (.tup [encRs P,.I 0])) (hQ:Q X 81 [encSer B,encSer D] (.tup [encRs S,.I 0])) (hR:Q X 81 [encSer v,encSer d] (.tup [encRs R,.I 0]))
    (lR:R.length = 408) (lP:P.length = 408) (lS:S.length = 408) (hadd:∀ i,R.getD i 0 = P.getD i 0 + S.getD i 0) (hpos:∀ x ∈ R,0 ≤ x ∧ x ≤ 40000) (hPb:∀ x ∈ P,0 ≤ x ∧ x ≤ 40000) (hSb:∀ x ∈ S,0 ≤ x ∧ x ≤ 40000)
    (hsum:sumR R 408 = (n:Int) - g) (hg:0 ≤ g ∧ g ≤ 40000) (J:List PV)
    (hJ:Q X 35 [.fs (v.gaps.map encSpn),.fs (d.gaps.map encSpn)] (.fs J)) (hTo:Q X 25 [.fs J] (.I g)) :
    Q X 13 [encSer v,encSer d,.s (.int .u8 at_)] (.B true):=by
  have hTd:=q_law01_told (X:=X) v
  have hcR:=cells_mk lR
  have hcP:=cells_mk lP
  have hcS:=cells_mk lS
  have hcz:=cells_mk (r:=z408) List.length_replicate
  have hzI:=z408_I
  have eR:encRs R = .agg (R.map .I):=rfl
  have eP:encRs P = .agg (P.map .I):=rfl
  have eS:encRs S = .agg (S.map .I):=rfl
  rw [eR] at hB0 hR
  rw [eP] at hP
  rw [eS] at hQ
  have gR:∀ i,i < 408 → ((R.map PV.I).drop i).take 1 = [PV.I (R.getD i 0)]:=fun i hi => by
    have hx:(R.map PV.I)[i]? = some (PV.I (R.getD i 0)):=by rw [List.getElem?_map,List.getD_eq_getElem?_getD,List.getElem?_eq_getElem (by omega)];rfl
    obtain ⟨q1,q2⟩:=List.getElem?_eq_some_iff.1 hx
    rw [List.drop_eq_getElem_cons q1,q2];rfl
  have gP:∀ i,i < 408 → ((P.map PV.I).drop i).take 1 = [PV.I (P.getD i 0)]:=fun i hi => by
    have hx:(P.map PV.I)[i]? = some (PV.I (P.getD i 0)):=by rw [List.getElem?_map,List.getD_eq_getElem?_getD,List.getElem?_eq_getElem (by omega)];rfl
    obtain ⟨q1,q2⟩:=List.getElem?_eq_some_iff.1 hx
    rw [List.drop_eq_getElem_cons q1,q2];rfl
  have gS:∀ i,i < 408 → ((S.map PV.I).drop i).take 1 = [PV.I (S.getD i 0)]:=fun i hi => by
    have hx:(S.map PV.I)[i]? = some (PV.I (S.getD i 0)):=by rw [List.getElem?_map,List.getD_eq_getElem?_getD,List.getElem?_eq_getElem (by omega)];rfl
    obtain ⟨q1,q2⟩:=List.getElem?_eq_some_iff.1 hx
    rw [List.drop_eq_getElem_cons q1,q2];rfl
  have bR:∀ i,i < 408 → 0 ≤ R.getD i 0 ∧ R.getD i 0 ≤ 40000:=fun i hi => by
    rw [List.getD_eq_getElem?_getD,List.getElem?_eq_getElem (by omega)];exact hpos _ (List.getElem_mem _)
  have bP:∀ i,i < 408 → 0 ≤ P.getD i 0 ∧ P.getD i 0 ≤ 40000:=fun i hi => by
    rw [List.getD_eq_getElem?_getD,List.getElem?_eq_getElem (by omega)];exact hPb _ (List.getElem_mem _)
  have bS:∀ i,i < 408 → 0 ≤ S.getD i 0 ∧ S.getD i 0 ≤ 40000:=fun i hi => by
    rw [List.getD_eq_getElem?_getD,List.getElem?_eq_getElem (by omega)];exact hSb _ (List.getElem_mem _)
  have hsn:∀ i,i < 408 → sumR R (i + 1) = sumR R i + R.getD i 0:=fun i hi => sumR_get i (by omega)
  have hsb:∀ i,i ≤ 408 → 0 ≤ sumR R i ∧ sumR R i ≤ 40000 * i:=by
    intro i
    induction i with
    | zero => intro _;exact ⟨Int.le_refl _,Int.le_refl _⟩
    | succ i ih =>
      intro hi
      have:=ih (by omega)
      have:=bR i (by omega)
      rw [hsn i (by omega)];omega
  generalize R.map PV.I = Rs at hB0 hR hcR gR
  generalize P.map PV.I = Ps at hP hcP gP
  generalize S.map PV.I = Ss at hQ hcS gS
  generalize z408.map PV.I = Z at hcz hzI
  have rl:=hcR.len
  have rt:=hcR.tk
  have ro:=hcR.one
  have rv:=hcR.vw
  have pl:=hcP.len
  have pt:=hcP.tk
  have po:=hcP.one
  have pv:=hcP.vw
  have sl:=hcS.len
  have st:=hcS.tk
  have so:=hcS.one
  have sv:=hcS.vw
  have zl:=hcz.len
  have zt:=hcz.tk
  have zo:=hcz.one
  have zv:=hcz.vw
  have rd:Rs.drop 408 = []:=List.drop_of_length_le (by omega)
  have pd:Ps.drop 408 = []:=List.drop_of_length_le (by omega)
  have sd:Ss.drop 408 = []:=List.drop_of_length_le (by omega)
  have zd:Z.drop 408 = []:=List.drop_of_length_le (by omega)
  have ev:=encSer_eq v
  have ed:=encSer_eq d
  rw [hst] at ed
  have eA:=encSer_eq A
  have eB:=encSer_eq B
  have eC:=encSer_eq C
  have eD:=encSer_eq D
  have lv1:∀ m,lowL m (v.samples.map encF) = True:=fun m => encF_low _
  have lv2:∀ m,lowL m (v.gaps.map encSpn) = True:=fun m => encSpn_low _
  have ld1:∀ m,lowL m (d.samples.map encF) = True:=fun m => encF_low _
  have ld2:∀ m,lowL m (d.gaps.map encSpn) = True:=fun m => encSpn_low _
  have lA1:∀ m,lowL m (A.samples.map encF) = True:=fun m => encF_low _
  have lA2:∀ m,lowL m (A.gaps.map encSpn) = True:=fun m => encSpn_low _
  have lB1:∀ m,lowL m (B.samples.map encF) = True:=fun m => encF_low _
  have lB2:∀ m,lowL m (B.gaps.map encSpn) = True:=fun m => encSpn_low _
  have lC1:∀ m,lowL m (C.samples.map encF) = True:=fun m => encF_low _
  have lC2:∀ m,lowL m (C.gaps.map encSpn) = True:=fun m => encSpn_low _
  have lD1:∀ m,lowL m (D.samples.map encF) = True:=fun m => encF_low _
  have lD2:∀ m,lowL m (D.gaps.map encSpn) = True:=fun m => encSpn_low _
  rw [ev] at s1 k1 hB0 cA cB hAp hS3 c1 hSa hR hTd ⊢
  rw [ed] at s2 k2 hB0 cC cD c2 hR ⊢
  rw [eA] at cA hAp hS1 hP
  rw [eB] at cB hAp hS2 hQ
  rw [eC] at cC hP
  rw [eD] at cD hQ
  obtain ⟨n1,m1,le1,mo1⟩:=T1
  obtain ⟨n2,m2,le2,mo2⟩:=T2
  simp only at hS1 hS2 hS3 hT1 hT2
  rw [encSt_eq] at hS1 hS2 hS3
  have w1:((n:Int) = 0) = False:=eq_false (by omega)
  have w2:((1000000:Int) < v.start) = False:=eq_false (by omega)
  have w3:((n:Int) + 1 = 0) = False:=eq_false (by omega)
  intro M
  (refine ACall_fn (cf:=L4.c13) rfl rfl fun hM hA => ?_;simp only [L4.c13,zO,zF,zT];rw [mk3 _ (by decide)];simp -implicitDefEqProofs (disch:=first|omega|(simp only [go_sem,seval,-List.reduceReplicate];first|done|omega)) only [go_sem,seval,-List.reduceReplicate])
  refine callP_q (hW _) ?_
  simp -implicitDefEqProofs (disch:=first|omega|(simp only [go_sem,seval,-List.reduceReplicate];first|done|omega)) only [go_sem,seval,-List.reduceReplicate]
  refine callP_q (s1 _) ?_
  simp -implicitDefEqProofs (disch:=first|omega|(simp only [go_sem,seval,-List.reduceReplicate];first|done|omega)) only [go_sem,seval,-List.reduceReplicate]
  refine callP_q (s2 _) ?_
  simp -implicitDefEqProofs (disch:=first|omega|(simp only [go_sem,seval,-List.reduceReplicate];first|done|omega)) only [go_sem,seval,-List.reduceReplicate]
  refine callP_q (k1 _) ?_
  simp -implicitDefEqProofs (disch:=first|omega|(simp only [go_sem,seval,-List.reduceReplicate];first|done|omega)) only [go_sem,seval,-List.reduceReplicate]
  refine callP_q (k2 _) ?_
  simp -implicitDefEqProofs (disch:=first|omega|(simp only [go_sem,seval,-List.reduceReplicate,hn,hn2,hst,w1,w2];first|done|omega)) only [go_sem,seval,-List.reduceReplicate,hn,hn2,hst,w1,w2]
  refine callP_q (hB0 _) ?_
  simp -implicitDefEqProofs (disch:=first|omega|(simp only [go_sem,seval,-List.reduceReplicate,hzI,rl,rt,ro,rv,rd,pl,pt,po,pv,pd,sl,st,so,sv,sd,zl,zt,zo,zv,zd,putE_agg,List.append_nil,hn,hat,w3];first|done|omega)) only [go_sem,seval,-List.reduceReplicate,hzI,rl,rt,ro,rv,rd,pl,pt,po,pv,pd,sl,st,so,sv,sd,zl,zt,zo,zv,zd,putE_agg,List.append_nil,hn,hat,w3]
  refine pcallP_q cA ?_ ?_
  · (simp only [go_sem,seval,-List.reduceReplicate,lv1,lv2] <;> first|done|omega)
  simp -implicitDefEqProofs (disch:=first|omega|(simp only [go_sem,seval,-List.reduceReplicate,hn];first|done|omega)) only [go_sem,seval,-List.reduceReplicate,hn]
  refine pcallP_q cB ?_ ?_
  · (simp only [go_sem,seval,-List.reduceReplicate,lv1,lv2] <;> first|done|omega)
  simp -implicitDefEqProofs (disch:=first|omega|(simp only [go_sem,seval,-List.reduceReplicate];first|done|omega)) only [go_sem,seval,-List.reduceReplicate]
  refine ⟨by simp [pairsOk,okPair,apartL,refs,refs1],?_⟩
  refine callP_q (hAp _) ?_
  simp -implicitDefEqProofs (disch:=first|omega|(simp only [go_sem,seval,-List.reduceReplicate];first|done|omega)) only [go_sem,seval,-List.reduceReplicate]
  refine callP_q (hS1 _) ?_
  simp -implicitDefEqProofs (disch:=first|omega|(simp only [go_sem,seval,-List.reduceReplicate];first|done|omega)) only [go_sem,seval,-List.reduceReplicate]
  refine callP_q (hS2 _) ?_
  simp -implicitDefEqProofs (disch:=first|omega|(simp only [go_sem,seval,-List.reduceReplicate];first|done|omega)) only [go_sem,seval,-List.reduceReplicate]
  refine callP_q (c1 _) ?_
  simp -implicitDefEqProofs (disch:=first|omega|(simp only [go_sem,seval,-List.reduceReplicate];first|done|omega)) only [go_sem,seval,-List.reduceReplicate]
  refine callP_q (hS3 _) ?_
  simp -implicitDefEqProofs (disch:=first|omega|(simp only [go_sem,seval,-List.reduceReplicate];first|done|omega)) only [go_sem,seval,-List.reduceReplicate]
  refine callP_q (hTd _) ?_
  simp -implicitDefEqProofs (disch:=first|omega|(simp only [go_sem,seval,-List.reduceReplicate];first|done|omega)) only [go_sem,seval,-List.reduceReplicate]
  refine callP_q (hSa _) ?_
  simp -implicitDefEqProofs (disch:=first|omega|(simp only [go_sem,seval,-List.reduceReplicate];first|done|omega)) only [go_sem,seval,-List.reduceReplicate]
  have hx:∃ b1 b2 b3:Prop,((n1 = 0) = b1) ∧ ((n2 = 0) = b2) ∧ ((n1 + n2 = 0) = b3) ∧ ((b1 = True ∧ b2 = True ∧ b3 = True) ∨ (b1 = True ∧ b2 = False ∧ b3 = False) ∨ (b1 = False ∧ b2 = True ∧ b3 = False) ∨ (b1 = False ∧ b2 = False ∧ b3 = False)):=by
    refine ⟨_,_,_,rfl,rfl,rfl,?_⟩
    by_cases h1:n1 = 0 <;> by_cases h2:n2 = 0
    · exact .inl ⟨eq_true h1,eq_true h2,eq_true (by omega)⟩
    · exact .inr (.inl ⟨eq_true h1,eq_false h2,eq_false (by omega)⟩)
    · exact .inr (.inr (.inl ⟨eq_false h1,eq_true h2,eq_false (by omega)⟩))
    · exact .inr (.inr (.inr ⟨eq_false h1,eq_false h2,eq_false (by omega)⟩))
  obtain ⟨b1,b2,b3,f1,f2,f3,hb⟩:=hx
  rcases hb with ⟨rfl,rfl,rfl⟩|⟨rfl,rfl,rfl⟩|⟨rfl,rfl,rfl⟩|⟨rfl,rfl,rfl⟩ <;> simp -implicitDefEqProofs (disch:=first|omega|(simp only [go_sem,seval,-List.reduceReplicate,f1,f2,f3];first|done|omega)) only [go_sem,seval,-List.reduceReplicate,f1,f2,f3]
  all_goals
    refine pcallP_q cC ?_ ?_
    · (simp only [go_sem,seval,-List.reduceReplicate,ld1,ld2] <;> first|done|omega)
    simp -implicitDefEqProofs (disch:=first|omega|(simp only [go_sem,seval,-List.reduceReplicate];first|done|omega)) only [go_sem,seval,-List.reduceReplicate]
    refine pcallP_q hP ?_ ?_
    · (simp only [go_sem,seval,-List.reduceReplicate,lA1,lA2,lC1,lC2] <;> first|done|omega)
    simp -implicitDefEqProofs (disch:=first|omega|(simp only [go_sem,seval,-List.reduceReplicate,hzI,rl,rt,ro,rv,rd,pl,pt,po,pv,pd,sl,st,so,sv,sd,zl,zt,zo,zv,zd,putE_agg,List.append_nil];first|done|omega)) only [go_sem,seval,-List.reduceReplicate,hzI,rl,rt,ro,rv,rd,pl,pt,po,pv,pd,sl,st,so,sv,sd,zl,zt,zo,zv,zd,putE_agg,List.append_nil]
    refine ⟨by simp [pairsOk,okPair,apartL,refs,refs1],?_⟩
    refine pcallP_q cD ?_ ?_
    · (simp only [go_sem,seval,-List.reduceReplicate,ld1,ld2] <;> first|done|omega)
    simp -implicitDefEqProofs (disch:=first|omega|(simp only [go_sem,seval,-List.reduceReplicate];first|done|omega)) only [go_sem,seval,-List.reduceReplicate]
    refine pcallP_q hQ ?_ ?_
    · (simp only [go_sem,seval,-List.reduceReplicate,lB1,lB2,lD1,lD2] <;> first|done|omega)
    simp -implicitDefEqProofs (disch:=first|omega|(simp only [go_sem,seval,-List.reduceReplicate,hzI,rl,rt,ro,rv,rd,pl,pt,po,pv,pd,sl,st,so,sv,sd,zl,zt,zo,zv,zd,putE_agg,List.append_nil];first|done|omega)) only [go_sem,seval,-List.reduceReplicate,hzI,rl,rt,ro,rv,rd,pl,pt,po,pv,pd,sl,st,so,sv,sd,zl,zt,zo,zv,zd,putE_agg,List.append_nil]
    refine ⟨by simp [pairsOk,okPair,apartL,refs,refs1],?_⟩
    refine pcallP_q c1 ?_ ?_
    · (simp only [go_sem,seval,-List.reduceReplicate,lv1,lv2] <;> first|done|omega)
    simp -implicitDefEqProofs (disch:=first|omega|(simp only [go_sem,seval,-List.reduceReplicate];first|done|omega)) only [go_sem,seval,-List.reduceReplicate]
    refine pcallP_q c2 ?_ ?_
    · (simp only [go_sem,seval,-List.reduceReplicate,ld1,ld2] <;> first|done|omega)
    simp -implicitDefEqProofs (disch:=first|omega|(simp only [go_sem,seval,-List.reduceReplicate];first|done|omega)) only [go_sem,seval,-List.reduceReplicate]
    refine pcallP_q hR ?_ ?_
    · (simp only [go_sem,seval,-List.reduceReplicate,lv1,lv2,ld1,ld2] <;> first|done|omega)
    simp -implicitDefEqProofs (disch:=first|omega|(simp only [go_sem,seval,-List.reduceReplicate,hzI,rl,rt,ro,rv,rd,pl,pt,po,pv,pd,sl,st,so,sv,sd,zl,zt,zo,zv,zd,putE_agg,List.append_nil];first|done|omega)) only [go_sem,seval,-List.reduceReplicate,hzI,rl,rt,ro,rv,rd,pl,pt,po,pv,pd,sl,st,so,sv,sd,zl,zt,zo,zv,zd,putE_agg,List.append_nil]
    refine ⟨by simp [pairsOk,okPair,apartL,refs,refs1],?_⟩
    refine loop_mk (α:=Nat) 0 (fun z => z ≤ 8) (fun _ => M ++ [.row true 408 0 [.agg Rs],.row true 4 1 [.agg [.s (.string A.name),.I A.start,.fs (A.samples.map encF),.fs (A.gaps.map encSpn)]],.row true 4 1 [.agg [.s (.string B.name),.I B.start,.fs (B.samples.map encF),.fs (B.gaps.map encSpn)]],.row true 4 0 [.agg [.s (.string v.name),.I v.start,.fs (v.samples.map encF),.fs (v.gaps.map encSpn)]],.row true 4 0 [.agg [.I n1,.I m1,encF le1,encF mo1]],.row true 4 0 [.agg [.I n2,.I m2,encF le2,encF mo2]],.row true 4 0 [.agg [.I (n1 + n2),.I (m1 + m2),encF le,encF mo]],.row true 408 1 [.agg Ps],.row true 408 1 [.agg Ss],.row true 408 1 [.agg Rs]]) (fun z => [(3,.fp [.s (.string v.name),.I v.start,.fs (v.samples.map encF),.fs (v.gaps.map encSpn)]),(4,.fp [.s (.string d.name),.I v.start,.fs (d.samples.map encF),.fs (d.gaps.map encSpn)]),(11,.I n),(22,.op (M.length + 7) 1 0 0),(24,.op (M.length + 8) 1 0 0),(26,.op (M.length + 9) 1 0 0),(28,.I (sumR R (z * 51))),(219,.I z)]) (fun z => 8 - z) (by decide) rfl rfl ?_
    intro z hz
    by_cases hlt:z < 8
    case neg =>
      have g1:((z:Int) < 8) = False:=eq_false (by omega)
      have hz8:z = 8:=by omega
      subst hz8
      have hsu:sumR R (8 * 51) = (n:Int) - g:=hsum
      simp -implicitDefEqProofs (disch:=first|omega|(simp only [go_sem,seval,-List.reduceReplicate,g1];first|done|omega)) only [go_sem,seval,-List.reduceReplicate,g1]
      refine callP_q (hJ _) ?_
      simp -implicitDefEqProofs (disch:=first|omega|(simp only [go_sem,seval,-List.reduceReplicate];first|done|omega)) only [go_sem,seval,-List.reduceReplicate]
      refine callP_q (hTo _) ?_
      simp -implicitDefEqProofs (disch:=first|omega|(simp only [go_sem,seval,-List.reduceReplicate,hsu];first|done|omega)) only [go_sem,seval,-List.reduceReplicate,hsu]
      (all_goals (first|refine post_fin ret_ok hM rfl ?_ ?_|refine post_fin0 ret_ok hM rfl ?_ ?_|refine post_fin normal_ok hM rfl ?_ ?_|refine post_fin0 normal_ok hM rfl ?_ ?_);all_goals first|(simp only [go_sem,seval,-List.reduceReplicate] <;> first|done|omega)|skip;all_goals (try simp -implicitDefEqProofs (disch:=first|omega|(simp only [go_sem,seval,-List.reduceReplicate];first|done|omega)) only [go_sem,seval,-List.reduceReplicate]))
    have g1:((z:Int) < 8) = True:=eq_true (by omega)
    have g1':(z < 8) = True:=eq_true hlt
    simp -implicitDefEqProofs (disch:=first|omega|(simp only [go_sem,seval,-List.reduceReplicate,g1];first|done|omega)) only [go_sem,seval,-List.reduceReplicate,g1]
    refine loop_mk (α:=Nat) 0 (fun w => w ≤ 51) (fun _ => M ++ [.row true 408 0 [.agg Rs],.row true 4 1 [.agg [.s (.string A.name),.I A.start,.fs (A.samples.map encF),.fs (A.gaps.map encSpn)]],.row true 4 1 [.agg [.s (.string B.name),.I B.start,.fs (B.samples.map encF),.fs (B.gaps.map encSpn)]],.row true 4 0 [.agg [.s (.string v.name),.I v.start,.fs (v.samples.map encF),.fs (v.gaps.map encSpn)]],.row true 4 0 [.agg [.I n1,.I m1,encF le1,encF mo1]],.row true 4 0 [.agg [.I n2,.I m2,encF le2,encF mo2]],.row true 4 0 [.agg [.I (n1 + n2),.I (m1 + m2),encF le,encF mo]],.row true 408 1 [.agg Ps],.row true 408 1 [.agg Ss],.row true 408 1 [.agg Rs]]) (fun w => [(3,.fp [.s (.string v.name),.I v.start,.fs (v.samples.map encF),.fs (v.gaps.map encSpn)]),(4,.fp [.s (.string d.name),.I v.start,.fs (d.samples.map encF),.fs (d.gaps.map encSpn)]),(11,.I n),(22,.op (M.length + 7) 1 0 0),(24,.op (M.length + 8) 1 0 0),(26,.op (M.length + 9) 1 0 0),(28,.I (sumR R (z * 51 + w))),(29,.I z),(219,.I z),(222,.I w)]) (fun w => 51 - w) (by decide) rfl rfl ?_
    intro w hw
    by_cases hvl:w < 51
    · have g2:((w:Int) < 51) = True:=eq_true (by omega)
      have g2':(w < 51) = True:=eq_true hvl
      have hi:z * 51 + w < 408:=by omega
      have x1:=gR _ hi
      have x2:=gP _ hi
      have x3:=gS _ hi
      have y1:=bR _ hi
      have y2:=bP _ hi
      have y3:=bS _ hi
      have y4:=hadd (z * 51 + w)
      have y5:=hsb (z * 51 + w) (by omega)
      have y6:=hsn _ hi
      generalize R.getD (z * 51 + w) 0 = xr at *
      generalize P.getD (z * 51 + w) 0 = xp at *
      generalize S.getD (z * 51 + w) 0 = xs at *
      have y7:(xr < 0) = False:=eq_false (by omega)
      have y8:(xr = xp + xs) = True:=eq_true y4
      simp -implicitDefEqProofs (disch:=first|omega|(simp only [go_sem,seval,-List.reduceReplicate,g1,g1',g2,g2',rl,pl,sl,x1,x2,x3,y7,y8,Nat.mul_one];first|done|omega)) only [go_sem,seval,-List.reduceReplicate,g1,g1',g2,g2',rl,pl,sl,x1,x2,x3,y7,y8,Nat.mul_one]
      exact again' (w + 1) (by omega) (by omega) rfl (by rw [← Nat.add_assoc,y6];rfl)
    have g2:((w:Int) < 51) = False:=eq_false (by omega)
    have hw51:w = 51:=by omega
    subst hw51
    simp -implicitDefEqProofs (disch:=first|omega|(simp only [go_sem,seval,-List.reduceReplicate,g2];first|done|omega)) only [go_sem,seval,-List.reduceReplicate,g2]
    exact again' (z + 1) (by omega) (by omega) rfl (by rw [Nat.succ_mul];rfl)
theorem blownR_bd {a b:Ser} {r:Rse} (ha:a.samples.length ≤ 40000) (h:blownR a b = (r,0)):∀ x ∈ r,0 ≤ x ∧ x ≤ 40000:=by
  unfold blownR at h
  split at h
  · have e:blTo b (recOf a.samples a.gaps) = runR a b 0 a.samples.length (some z408):=blTo_run a b (Nat.le_refl _)
    rw [e] at h
    cases hh:runR a b 0 a.samples.length (some z408) with
    | none => rw [hh] at h;cases h
    | some q =>
      rw [hh] at h
      cases h
      intro x hx
      have:=(runR_sum hh).2.1 x hx
      omega
  · rename_i h0
    exact absurd (congrArg Prod.snd h) h0
set_option maxHeartbeats 4000000 in
theorem q_law01_SiteAdded (hX:FloorX X) (hS:SortX X) (hW:Q X 17 [] (.B true)) (v d:Ser) (at_:Int) (hat:0 ≤ at_ ∧ at_ ≤ 255):Q X 13 [encSer v,encSer d,.s (.int .u8 at_)] (.B true):=by
  have s1:=q_ref01_Short (X:=X) v
  have s2:=q_ref01_Short (X:=X) d
  have ev:=encSer_eq v
  have ed:=encSer_eq d
  by_cases h1:shortB v = true
  case neg =>
    rw [Bool.eq_false_iff.2 h1] at s1
    rw [ev] at s1
    rw [ed] at s2
    rw [ev,ed]
    intro M
    (refine ACall_fn (cf:=L4.c13) rfl rfl fun hM hA => ?_;simp only [L4.c13,zO,zF,zT];rw [mk3 _ (by decide)];simp -implicitDefEqProofs (disch:=first|omega|(simp only [go_sem,seval,-List.reduceReplicate];first|done|omega)) only [go_sem,seval,-List.reduceReplicate])
    refine callP_q (hW _) ?_
    simp -implicitDefEqProofs (disch:=first|omega|(simp only [go_sem,seval,-List.reduceReplicate];first|done|omega)) only [go_sem,seval,-List.reduceReplicate]
    refine callP_q (s1 _) ?_
    simp -implicitDefEqProofs (disch:=first|omega|(simp only [go_sem,seval,-List.reduceReplicate];first|done|omega)) only [go_sem,seval,-List.reduceReplicate]
    refine callP_q (hW _) ?_
    simp -implicitDefEqProofs (disch:=first|omega|(simp only [go_sem,seval,-List.reduceReplicate];first|done|omega)) only [go_sem,seval,-List.reduceReplicate]
    (all_goals (first|refine post_fin ret_ok hM rfl ?_ ?_|refine post_fin0 ret_ok hM rfl ?_ ?_|refine post_fin normal_ok hM rfl ?_ ?_|refine post_fin0 normal_ok hM rfl ?_ ?_);all_goals first|(simp only [go_sem,seval,-List.reduceReplicate] <;> first|done|omega)|skip;all_goals (try simp -implicitDefEqProofs (disch:=first|omega|(simp only [go_sem,seval,-List.reduceReplicate];first|done|omega)) only [go_sem,seval,-List.reduceReplicate]))
  rw [h1] at s1
  by_cases h2:shortB d = true
  case neg =>
    rw [Bool.eq_false_iff.2 h2] at s2
    rw [ev] at s1
    rw [ed] at s2
    rw [ev,ed]
    intro M
    (refine ACall_fn (cf:=L4.c13) rfl rfl fun hM hA => ?_;simp only [L4.c13,zO,zF,zT];rw [mk3 _ (by decide)];simp -implicitDefEqProofs (disch:=first|omega|(simp only [go_sem,seval,-List.reduceReplicate];first|done|omega)) only [go_sem,seval,-List.reduceReplicate])
    refine callP_q (hW _) ?_
    simp -implicitDefEqProofs (disch:=first|omega|(simp only [go_sem,seval,-List.reduceReplicate];first|done|omega)) only [go_sem,seval,-List.reduceReplicate]
    refine callP_q (s1 _) ?_
    simp -implicitDefEqProofs (disch:=first|omega|(simp only [go_sem,seval,-List.reduceReplicate];first|done|omega)) only [go_sem,seval,-List.reduceReplicate]
    refine callP_q (s2 _) ?_
    simp -implicitDefEqProofs (disch:=first|omega|(simp only [go_sem,seval,-List.reduceReplicate];first|done|omega)) only [go_sem,seval,-List.reduceReplicate]
    refine callP_q (hW _) ?_
    simp -implicitDefEqProofs (disch:=first|omega|(simp only [go_sem,seval,-List.reduceReplicate];first|done|omega)) only [go_sem,seval,-List.reduceReplicate]
    (all_goals (first|refine post_fin ret_ok hM rfl ?_ ?_|refine post_fin0 ret_ok hM rfl ?_ ?_|refine post_fin normal_ok hM rfl ?_ ?_|refine post_fin0 normal_ok hM rfl ?_ ?_);all_goals first|(simp only [go_sem,seval,-List.reduceReplicate] <;> first|done|omega)|skip;all_goals (try simp -implicitDefEqProofs (disch:=first|omega|(simp only [go_sem,seval,-List.reduceReplicate];first|done|omega)) only [go_sem,seval,-List.reduceReplicate]))
  rw [h2] at s2
  obtain ⟨l1,l2⟩:=short_len h1
  obtain ⟨l3,l4⟩:=short_len h2
  have k1:=q_ref01_CheckSeries (X:=X) hX v (by omega) (by omega)
  have k2:=q_ref01_CheckSeries (X:=X) hX d (by omega) (by omega)
  by_cases hv:chkSer v = 0
  case neg =>
    generalize chkSer v = z at k1 hv
    rw [ev] at s1 k1
    rw [ed] at s2 k2
    rw [ev,ed]
    intro M
    (refine ACall_fn (cf:=L4.c13) rfl rfl fun hM hA => ?_;simp only [L4.c13,zO,zF,zT];rw [mk3 _ (by decide)];simp -implicitDefEqProofs (disch:=first|omega|(simp only [go_sem,seval,-List.reduceReplicate];first|done|omega)) only [go_sem,seval,-List.reduceReplicate])
    refine callP_q (hW _) ?_
    simp -implicitDefEqProofs (disch:=first|omega|(simp only [go_sem,seval,-List.reduceReplicate];first|done|omega)) only [go_sem,seval,-List.reduceReplicate]
    refine callP_q (s1 _) ?_
    simp -implicitDefEqProofs (disch:=first|omega|(simp only [go_sem,seval,-List.reduceReplicate];first|done|omega)) only [go_sem,seval,-List.reduceReplicate]
    refine callP_q (s2 _) ?_
    simp -implicitDefEqProofs (disch:=first|omega|(simp only [go_sem,seval,-List.reduceReplicate];first|done|omega)) only [go_sem,seval,-List.reduceReplicate]
    refine callP_q (k1 _) ?_
    simp -implicitDefEqProofs (disch:=first|omega|(simp only [go_sem,seval,-List.reduceReplicate,hv];first|done|omega)) only [go_sem,seval,-List.reduceReplicate,hv]
    refine callP_q (hW _) ?_
    simp -implicitDefEqProofs (disch:=first|omega|(simp only [go_sem,seval,-List.reduceReplicate];first|done|omega)) only [go_sem,seval,-List.reduceReplicate]
    (all_goals (first|refine post_fin ret_ok hM rfl ?_ ?_|refine post_fin0 ret_ok hM rfl ?_ ?_|refine post_fin normal_ok hM rfl ?_ ?_|refine post_fin0 normal_ok hM rfl ?_ ?_);all_goals first|(simp only [go_sem,seval,-List.reduceReplicate] <;> first|done|omega)|skip;all_goals (try simp -implicitDefEqProofs (disch:=first|omega|(simp only [go_sem,seval,-List.reduceReplicate];first|done|omega)) only [go_sem,seval,-List.reduceReplicate]))
  rw [hv] at k1
  by_cases hd:chkSer d = 0
  case neg =>
    generalize chkSer d = z at k2 hd
    rw [ev] at s1 k1
    rw [ed] at s2 k2
    rw [ev,ed]
    intro M
    (refine ACall_fn (cf:=L4.c13) rfl rfl fun hM hA => ?_;simp only [L4.c13,zO,zF,zT];rw [mk3 _ (by decide)];simp -implicitDefEqProofs (disch:=first|omega|(simp only [go_sem,seval,-List.reduceReplicate];first|done|omega)) only [go_sem,seval,-List.reduceReplicate])
    refine callP_q (hW _) ?_
    simp -implicitDefEqProofs (disch:=first|omega|(simp only [go_sem,seval,-List.reduceReplicate];first|done|omega)) only [go_sem,seval,-List.reduceReplicate]
    refine callP_q (s1 _) ?_
    simp -implicitDefEqProofs (disch:=first|omega|(simp only [go_sem,seval,-List.reduceReplicate];first|done|omega)) only [go_sem,seval,-List.reduceReplicate]
    refine callP_q (s2 _) ?_
    simp -implicitDefEqProofs (disch:=first|omega|(simp only [go_sem,seval,-List.reduceReplicate];first|done|omega)) only [go_sem,seval,-List.reduceReplicate]
    refine callP_q (k1 _) ?_
    simp -implicitDefEqProofs (disch:=first|omega|(simp only [go_sem,seval,-List.reduceReplicate];first|done|omega)) only [go_sem,seval,-List.reduceReplicate]
    refine callP_q (k2 _) ?_
    simp -implicitDefEqProofs (disch:=first|omega|(simp only [go_sem,seval,-List.reduceReplicate,hd];first|done|omega)) only [go_sem,seval,-List.reduceReplicate,hd]
    refine callP_q (hW _) ?_
    simp -implicitDefEqProofs (disch:=first|omega|(simp only [go_sem,seval,-List.reduceReplicate];first|done|omega)) only [go_sem,seval,-List.reduceReplicate]
    (all_goals (first|refine post_fin ret_ok hM rfl ?_ ?_|refine post_fin0 ret_ok hM rfl ?_ ?_|refine post_fin normal_ok hM rfl ?_ ?_|refine post_fin0 normal_ok hM rfl ?_ ?_);all_goals first|(simp only [go_sem,seval,-List.reduceReplicate] <;> first|done|omega)|skip;all_goals (try simp -implicitDefEqProofs (disch:=first|omega|(simp only [go_sem,seval,-List.reduceReplicate];first|done|omega)) only [go_sem,seval,-List.reduceReplicate]))
  rw [hd] at k2
  by_cases hn:v.samples.length = d.samples.length
  case neg =>
    have f1:((v.samples.length:Int) = d.samples.length) = False:=eq_false (by omega)
    rw [ev] at s1 k1
    rw [ed] at s2 k2
    rw [ev,ed]
    intro M
    (refine ACall_fn (cf:=L4.c13) rfl rfl fun hM hA => ?_;simp only [L4.c13,zO,zF,zT];rw [mk3 _ (by decide)];simp -implicitDefEqProofs (disch:=first|omega|(simp only [go_sem,seval,-List.reduceReplicate];first|done|omega)) only [go_sem,seval,-List.reduceReplicate])
    refine callP_q (hW _) ?_
    simp -implicitDefEqProofs (disch:=first|omega|(simp only [go_sem,seval,-List.reduceReplicate];first|done|omega)) only [go_sem,seval,-List.reduceReplicate]
    refine callP_q (s1 _) ?_
    simp -implicitDefEqProofs (disch:=first|omega|(simp only [go_sem,seval,-List.reduceReplicate];first|done|omega)) only [go_sem,seval,-List.reduceReplicate]
    refine callP_q (s2 _) ?_
    simp -implicitDefEqProofs (disch:=first|omega|(simp only [go_sem,seval,-List.reduceReplicate];first|done|omega)) only [go_sem,seval,-List.reduceReplicate]
    refine callP_q (k1 _) ?_
    simp -implicitDefEqProofs (disch:=first|omega|(simp only [go_sem,seval,-List.reduceReplicate];first|done|omega)) only [go_sem,seval,-List.reduceReplicate]
    refine callP_q (k2 _) ?_
    simp -implicitDefEqProofs (disch:=first|omega|(simp only [go_sem,seval,-List.reduceReplicate,f1,hn];first|done|omega)) only [go_sem,seval,-List.reduceReplicate,f1,hn]
    refine callP_q (hW _) ?_
    simp -implicitDefEqProofs (disch:=first|omega|(simp only [go_sem,seval,-List.reduceReplicate];first|done|omega)) only [go_sem,seval,-List.reduceReplicate]
    (all_goals (first|refine post_fin ret_ok hM rfl ?_ ?_|refine post_fin0 ret_ok hM rfl ?_ ?_|refine post_fin normal_ok hM rfl ?_ ?_|refine post_fin0 normal_ok hM rfl ?_ ?_);all_goals first|(simp only [go_sem,seval,-List.reduceReplicate] <;> first|done|omega)|skip;all_goals (try simp -implicitDefEqProofs (disch:=first|omega|(simp only [go_sem,seval,-List.reduceReplicate];first|done|omega)) only [go_sem,seval,-List.reduceReplicate]))
  by_cases hst:v.start = d.start
  case neg =>
    have f1:((v.samples.length:Int) = d.samples.length) = True:=eq_true (by omega)
    rw [ev] at s1 k1
    rw [ed] at s2 k2
    rw [ev,ed]
    intro M
    (refine ACall_fn (cf:=L4.c13) rfl rfl fun hM hA => ?_;simp only [L4.c13,zO,zF,zT];rw [mk3 _ (by decide)];simp -implicitDefEqProofs (disch:=first|omega|(simp only [go_sem,seval,-List.reduceReplicate];first|done|omega)) only [go_sem,seval,-List.reduceReplicate])
    refine callP_q (hW _) ?_
    simp -implicitDefEqProofs (disch:=first|omega|(simp only [go_sem,seval,-List.reduceReplicate];first|done|omega)) only [go_sem,seval,-List.reduceReplicate]
    refine callP_q (s1 _) ?_
    simp -implicitDefEqProofs (disch:=first|omega|(simp only [go_sem,seval,-List.reduceReplicate];first|done|omega)) only [go_sem,seval,-List.reduceReplicate]
    refine callP_q (s2 _) ?_
    simp -implicitDefEqProofs (disch:=first|omega|(simp only [go_sem,seval,-List.reduceReplicate];first|done|omega)) only [go_sem,seval,-List.reduceReplicate]
    refine callP_q (k1 _) ?_
    simp -implicitDefEqProofs (disch:=first|omega|(simp only [go_sem,seval,-List.reduceReplicate];first|done|omega)) only [go_sem,seval,-List.reduceReplicate]
    refine callP_q (k2 _) ?_
    simp -implicitDefEqProofs (disch:=first|omega|(simp only [go_sem,seval,-List.reduceReplicate,f1,hn,hst];first|done|omega)) only [go_sem,seval,-List.reduceReplicate,f1,hn,hst]
    refine callP_q (hW _) ?_
    simp -implicitDefEqProofs (disch:=first|omega|(simp only [go_sem,seval,-List.reduceReplicate];first|done|omega)) only [go_sem,seval,-List.reduceReplicate]
    (all_goals (first|refine post_fin ret_ok hM rfl ?_ ?_|refine post_fin0 ret_ok hM rfl ?_ ?_|refine post_fin normal_ok hM rfl ?_ ?_|refine post_fin0 normal_ok hM rfl ?_ ?_);all_goals first|(simp only [go_sem,seval,-List.reduceReplicate] <;> first|done|omega)|skip;all_goals (try simp -implicitDefEqProofs (disch:=first|omega|(simp only [go_sem,seval,-List.reduceReplicate];first|done|omega)) only [go_sem,seval,-List.reduceReplicate]))
  by_cases hsm:1000000 < v.start
  · have f1:((v.samples.length:Int) = d.samples.length) = True:=eq_true (by omega)
    have f2:((1000000:Int) < d.start) = True:=eq_true (by omega)
    rw [ev] at s1 k1
    rw [ed] at s2 k2
    rw [ev,ed]
    intro M
    (refine ACall_fn (cf:=L4.c13) rfl rfl fun hM hA => ?_;simp only [L4.c13,zO,zF,zT];rw [mk3 _ (by decide)];simp -implicitDefEqProofs (disch:=first|omega|(simp only [go_sem,seval,-List.reduceReplicate];first|done|omega)) only [go_sem,seval,-List.reduceReplicate])
    refine callP_q (hW _) ?_
    simp -implicitDefEqProofs (disch:=first|omega|(simp only [go_sem,seval,-List.reduceReplicate];first|done|omega)) only [go_sem,seval,-List.reduceReplicate]
    refine callP_q (s1 _) ?_
    simp -implicitDefEqProofs (disch:=first|omega|(simp only [go_sem,seval,-List.reduceReplicate];first|done|omega)) only [go_sem,seval,-List.reduceReplicate]
    refine callP_q (s2 _) ?_
    simp -implicitDefEqProofs (disch:=first|omega|(simp only [go_sem,seval,-List.reduceReplicate];first|done|omega)) only [go_sem,seval,-List.reduceReplicate]
    refine callP_q (k1 _) ?_
    simp -implicitDefEqProofs (disch:=first|omega|(simp only [go_sem,seval,-List.reduceReplicate];first|done|omega)) only [go_sem,seval,-List.reduceReplicate]
    refine callP_q (k2 _) ?_
    simp -implicitDefEqProofs (disch:=first|omega|(simp only [go_sem,seval,-List.reduceReplicate,f1,hn,hst,f2];first|done|omega)) only [go_sem,seval,-List.reduceReplicate,f1,hn,hst,f2]
    refine callP_q (hW _) ?_
    simp -implicitDefEqProofs (disch:=first|omega|(simp only [go_sem,seval,-List.reduceReplicate];first|done|omega)) only [go_sem,seval,-List.reduceReplicate]
    (all_goals (first|refine post_fin ret_ok hM rfl ?_ ?_|refine post_fin0 ret_ok hM rfl ?_ ?_|refine post_fin normal_ok hM rfl ?_ ?_|refine post_fin0 normal_ok hM rfl ?_ ?_);all_goals first|(simp only [go_sem,seval,-List.reduceReplicate] <;> first|done|omega)|skip;all_goals (try simp -implicitDefEqProofs (disch:=first|omega|(simp only [go_sem,seval,-List.reduceReplicate];first|done|omega)) only [go_sem,seval,-List.reduceReplicate]))
  by_cases hn0:v.samples.length = 0
  · have f1:((v.samples.length:Int) = d.samples.length) = True:=eq_true (by omega)
    have f2:((1000000:Int) < d.start) = False:=eq_false (by omega)
    have f3:((d.samples.length:Int) = 0) = True:=eq_true (by omega)
    rw [ev] at s1 k1
    rw [ed] at s2 k2
    rw [ev,ed]
    intro M
    (refine ACall_fn (cf:=L4.c13) rfl rfl fun hM hA => ?_;simp only [L4.c13,zO,zF,zT];rw [mk3 _ (by decide)];simp -implicitDefEqProofs (disch:=first|omega|(simp only [go_sem,seval,-List.reduceReplicate];first|done|omega)) only [go_sem,seval,-List.reduceReplicate])
    refine callP_q (hW _) ?_
    simp -implicitDefEqProofs (disch:=first|omega|(simp only [go_sem,seval,-List.reduceReplicate];first|done|omega)) only [go_sem,seval,-List.reduceReplicate]
    refine callP_q (s1 _) ?_
    simp -implicitDefEqProofs (disch:=first|omega|(simp only [go_sem,seval,-List.reduceReplicate];first|done|omega)) only [go_sem,seval,-List.reduceReplicate]
    refine callP_q (s2 _) ?_
    simp -implicitDefEqProofs (disch:=first|omega|(simp only [go_sem,seval,-List.reduceReplicate];first|done|omega)) only [go_sem,seval,-List.reduceReplicate]
    refine callP_q (k1 _) ?_
    simp -implicitDefEqProofs (disch:=first|omega|(simp only [go_sem,seval,-List.reduceReplicate];first|done|omega)) only [go_sem,seval,-List.reduceReplicate]
    refine callP_q (k2 _) ?_
    simp -implicitDefEqProofs (disch:=first|omega|(simp only [go_sem,seval,-List.reduceReplicate,f1,hn,hst,f2,f3];first|done|omega)) only [go_sem,seval,-List.reduceReplicate,f1,hn,hst,f2,f3]
    refine callP_q (hW _) ?_
    simp -implicitDefEqProofs (disch:=first|omega|(simp only [go_sem,seval,-List.reduceReplicate];first|done|omega)) only [go_sem,seval,-List.reduceReplicate]
    (all_goals (first|refine post_fin ret_ok hM rfl ?_ ?_|refine post_fin0 ret_ok hM rfl ?_ ?_|refine post_fin normal_ok hM rfl ?_ ?_|refine post_fin0 normal_ok hM rfl ?_ ?_);all_goals first|(simp only [go_sem,seval,-List.reduceReplicate] <;> first|done|omega)|skip;all_goals (try simp -implicitDefEqProofs (disch:=first|omega|(simp only [go_sem,seval,-List.reduceReplicate];first|done|omega)) only [go_sem,seval,-List.reduceReplicate]))
  have kB:=q_ref01_Blown (X:=X) v d hv hd
  have lB:=blownR_len v d
  have f1:((v.samples.length:Int) = d.samples.length) = True:=eq_true (by omega)
  by_cases hb:(blownR v d).2 = 0
  case neg =>
    have f2:((1000000:Int) < d.start) = False:=eq_false (by omega)
    have f3:((d.samples.length:Int) = 0) = False:=eq_false (by omega)
    have hc:=cells_mk lB
    have hzI:=z408_I
    have hcz:=cells_mk (r:=z408) List.length_replicate
    have e1:encRs (blownR v d).1 = .agg ((blownR v d).1.map .I):=rfl
    rw [e1] at kB
    generalize (blownR v d).1.map PV.I = Rs at kB hc
    generalize z408.map PV.I = Z at hcz hzI
    generalize (blownR v d).2 = e at kB hb
    have rl:=hc.len
    have rt:=hc.tk
    have ro:=hc.one
    have rv:=hc.vw
    have zl:=hcz.len
    have zt:=hcz.tk
    have zo:=hcz.one
    have zv:=hcz.vw
    have rd:Rs.drop 408 = []:=List.drop_of_length_le (by omega)
    have zd:Z.drop 408 = []:=List.drop_of_length_le (by omega)
    rw [hst] at ev
    rw [ev] at s1 k1 kB
    rw [ed] at s2 k2 kB
    rw [ev,ed]
    intro M
    (refine ACall_fn (cf:=L4.c13) rfl rfl fun hM hA => ?_;simp only [L4.c13,zO,zF,zT];rw [mk3 _ (by decide)];simp -implicitDefEqProofs (disch:=first|omega|(simp only [go_sem,seval,-List.reduceReplicate];first|done|omega)) only [go_sem,seval,-List.reduceReplicate])
    refine callP_q (hW _) ?_
    simp -implicitDefEqProofs (disch:=first|omega|(simp only [go_sem,seval,-List.reduceReplicate];first|done|omega)) only [go_sem,seval,-List.reduceReplicate]
    refine callP_q (s1 _) ?_
    simp -implicitDefEqProofs (disch:=first|omega|(simp only [go_sem,seval,-List.reduceReplicate];first|done|omega)) only [go_sem,seval,-List.reduceReplicate]
    refine callP_q (s2 _) ?_
    simp -implicitDefEqProofs (disch:=first|omega|(simp only [go_sem,seval,-List.reduceReplicate];first|done|omega)) only [go_sem,seval,-List.reduceReplicate]
    refine callP_q (k1 _) ?_
    simp -implicitDefEqProofs (disch:=first|omega|(simp only [go_sem,seval,-List.reduceReplicate];first|done|omega)) only [go_sem,seval,-List.reduceReplicate]
    refine callP_q (k2 _) ?_
    simp -implicitDefEqProofs (disch:=first|omega|(simp only [go_sem,seval,-List.reduceReplicate,f1,hn,f2,f3];first|done|omega)) only [go_sem,seval,-List.reduceReplicate,f1,hn,f2,f3]
    refine callP_q (kB _) ?_
    simp -implicitDefEqProofs (disch:=first|omega|(simp only [go_sem,seval,-List.reduceReplicate,hzI,rl,rt,ro,rv,rd,zl,zt,zo,zv,zd,putE_agg,List.append_nil,hb];first|done|omega)) only [go_sem,seval,-List.reduceReplicate,hzI,rl,rt,ro,rv,rd,zl,zt,zo,zv,zd,putE_agg,List.append_nil,hb]
    (all_goals (first|refine post_fin ret_ok hM rfl ?_ ?_|refine post_fin0 ret_ok hM rfl ?_ ?_|refine post_fin normal_ok hM rfl ?_ ?_|refine post_fin0 normal_ok hM rfl ?_ ?_);all_goals first|(simp only [go_sem,seval,-List.reduceReplicate] <;> first|done|omega)|skip;all_goals (try simp -implicitDefEqProofs (disch:=first|omega|(simp only [go_sem,seval,-List.reduceReplicate];first|done|omega)) only [go_sem,seval,-List.reduceReplicate]))
  have hbl:blownR v d = ((blownR v d).1,0):=Prod.ext rfl hb
  have iv:=(chkSer_iff v).1 hv
  have id':=(chkSer_iff d).1 hd
  have hl96:v.samples.length ≤ 96:=by
    have h1':=iv.2.2.1
    unfold shortB at h1
    simp only [Bool.and_eq_true,Bool.or_eq_true,decide_eq_true_eq] at h1
    omega
  obtain ⟨k,hk⟩:∃ k:Nat,at_ % ((v.samples.length:Int) + 1) = k:=⟨(at_ % ((v.samples.length:Int) + 1)).toNat,by have:=Int.emod_nonneg at_ (b:=(v.samples.length:Int) + 1) (by omega);omega⟩
  have hkn:k ≤ v.samples.length:=by have:=Int.emod_lt_of_pos at_ (b:=(v.samples.length:Int) + 1) (by omega);omega
  obtain ⟨P,S,b1,b2,b3,b4,b5,b6,b7,b8⟩:=blown_cut (k:=k) hv hd (by omega) (by omega) hst hn hkn hbl
  have gv:=gaps_40 hv
  have gd:=gaps_40 hd
  have va:=cutS_ok (f:=0) (t:=k) hv (by omega) (Nat.zero_le _) hkn
  have vb:=cutS_ok (f:=k) (t:=v.samples.length) hv (by omega) hkn (Nat.le_refl _)
  have vc:=cutS_ok (f:=0) (t:=k) hd (by omega) (Nat.zero_le _) (by omega)
  have vd:=cutS_ok (f:=k) (t:=v.samples.length) hd (by omega) hkn (by omega)
  have ia:=(chkSer_iff _).1 va
  have ib:=(chkSer_iff _).1 vb
  have ic:=(chkSer_iff _).1 vc
  have ie:=(chkSer_iff _).1 vd
  have ga:=(gaps_40 va).2.1
  have gb:=(gaps_40 vb).2.1
  have gc:=(gaps_40 vc).2.1
  have ge:=(gaps_40 vd).2.1
  have cA:=q_cut (X:=X) v 0 k (Nat.zero_le _) hkn iv.2.2.1 (by omega) gv.2.1 iv.2.2.2.2.2.1
  have cB:=q_cut (X:=X) v k v.samples.length hkn (Nat.le_refl _) iv.2.2.1 (by omega) gv.2.1 iv.2.2.2.2.2.1
  have cC:=q_cut (X:=X) d 0 k (Nat.zero_le _) (by omega) id'.2.2.1 (by omega) gd.2.1 id'.2.2.2.2.2.1
  have cD:=q_cut (X:=X) d k v.samples.length hkn (by omega) id'.2.2.1 (by omega) gd.2.1 id'.2.2.2.2.2.1
  have hAp:=q_site_Append (X:=X) hS (cutS v 0 k) (cutS v k v.samples.length) (by omega) (by omega) (by omega) (by omega)
  rw [apd_cut hv (by omega) hkn] at hAp
  have hP:=q_site_Blown (X:=X) (cutS v 0 k) (cutS d 0 k) (by omega) (by omega) (by omega) (by omega)
  rw [b1] at hP
  have hQ:=q_site_Blown (X:=X) (cutS v k v.samples.length) (cutS d k v.samples.length) (by omega) (by omega) (by omega) (by omega)
  rw [b2] at hQ
  have hR:=q_site_Blown (X:=X) v d (by omega) (by omega) (by omega) (by omega)
  rw [hbl] at hR kB
  have hsum:∀ s:Ser,chkSer s = 0 → s.samples.length ≤ 96 → Q X 64 [encSer s] (.tup [encSt (sttS s),.I (if (sttS s).count = 0 then 12 else 0)]) ∧ 0 ≤ (sttS s).count ∧ (sttS s).count ≤ 96 ∧ -4000000 ≤ (sttS s).sum ∧ (sttS s).sum ≤ 4000000:=by
    intro s hs hl
    have h:=q_site_Summary (X:=X) s (by omega) (by have:=(gaps_40 hs).2.1;omega)
    unfold sumOf sumE at h
    rw [if_pos hs,if_pos hs] at h
    have hrs:∀ p ∈ recOf s.samples s.gaps,smpE p.2 = 0:=fun p hp => (serIn_of hs).2 _ (rec_mem hp).1
    obtain ⟨i1,i2,_⟩:=stt_inv hrs (k:=(recOf s.samples s.gaps).length) (Nat.le_refl _)
    rw [List.take_length] at i1 i2
    have hl2:=rec_len s.samples s.gaps s.samples.length
    have hl3:(recOf s.samples s.gaps).length = (recK s.samples s.gaps s.samples.length).length:=rfl
    refine ⟨h,?_⟩
    unfold sttS
    omega
  have l1':(cutS v 0 k).samples.length = k:=by have:=cut_len v.samples (Nat.zero_le k) hkn;exact this
  have l2':(cutS v k v.samples.length).samples.length = v.samples.length - k:=cut_len v.samples hkn (Nat.le_refl _)
  obtain ⟨p1,p2⟩:=hsum _ va (by omega)
  obtain ⟨q1,q2⟩:=hsum _ vb (by omega)
  obtain ⟨r1,r2⟩:=hsum v hv hl96
  obtain ⟨t1,t2,_,_⟩:=stt_cut hkn
  have eS:sttS v = ⟨(sttS (cutS v 0 k)).count + (sttS (cutS v k v.samples.length)).count,(sttS (cutS v 0 k)).sum + (sttS (cutS v k v.samples.length)).sum,(sttS v).least,(sttS v).most⟩:=by rw [t1,t2]
  rw [eS] at r1
  have sm:=iv.2.2.2.1
  have hSa:=q_ref01_SameSeries (X:=X) v v sm sm (by omega) (by omega)
  simp only [decide_true,Bool.and_self] at hSa
  have hj:=joinOf_spec gv.1 gd.1
  have hjl:=joinOf_len v.gaps d.gaps
  have hJ:=q_refJoin (X:=X) v.gaps d.gaps (by omega) (by omega) gv.1 gd.1
  have hTo:=q_ref01_Total (X:=X) (joinOf v.gaps d.gaps) hj.1.ok (by omega)
  have hgb:0 ≤ totOf (joinOf v.gaps d.gaps) ∧ totOf (joinOf v.gaps d.gaps) ≤ 40000:=by
    rw [hj.1.tot]
    have:∀ (g:Nat → Bool) (n:Nat),0 ≤ cntB g n ∧ cntB g n ≤ n:=by
      intro g n
      induction n with
      | zero => exact ⟨Int.le_refl _,Int.le_refl _⟩
      | succ n ih => simp only [cntB];split <;> omega
    have:=this (fun t => gapAt (joinOf v.gaps d.gaps) t) 40000
    omega
  exact q_added_core v d (cutS v 0 k) (cutS v k v.samples.length) (cutS d 0 k) (cutS d k v.samples.length) v.samples.length k at_ (blownR v d).1 P S (totOf (joinOf v.gaps d.gaps)) (sttS (cutS v 0 k)) (sttS (cutS v k v.samples.length)) hW s1 s2 k1 k2
    rfl hn.symm hst.symm (by omega) (by omega) hl96 kB (by rw [Int.tmod_eq_emod_of_nonneg hat.1];exact hk) hat hkn cA cB cC cD hAp p1 q1 (sttS v).least (sttS v).most r1 p2 q2
    (q_law01_series v (by omega) (by omega)) (q_law01_series d (by omega) (by omega)) hSa hP hQ hR b3 b4 b5 b6 b7 (blownR_bd (by omega) b1) (blownR_bd (by omega) b2) b8 hgb ((joinOf v.gaps d.gaps).map encSpn) hJ hTo
end
end Go.Nac.L4
