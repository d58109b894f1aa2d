import Derived.Test.YtclanmkmbjinaaaGreatDoorW09
set_option linter.unusedSimpArgs false
set_option linter.unusedVariables false
set_option linter.unnecessarySimpa false
set_option maxRecDepth 10000
namespace Go.Nac.L4
attribute [local congr] b1_congr b2_congr Wp_congr wpOps_congr thenK_congr blockK_congr gK_congr cK_congr
section
variable {X:XRel}
theorem q_site_Blown (a b:Ser) (ha:a.samples.length ≤ 1048576) (hag:a.gaps.length ≤ 1048576) (hb:b.samples.length ≤ 1048576) (hbg:b.gaps.length ≤ 1048576) :
    Q X 81 [encSer a,encSer b] (.tup [encRs (blownR a b).1,.I (blownR a b).2]):=by
  intro M
  have ea:=encSer_eq a
  have eb:=encSer_eq b
  have hzI:=z408_I
  have hzl:(List.map PV.I z408).length = 408:=by rw [List.length_map];exact List.length_replicate
  have hzv:=fun M => view1_ints M z408
  have hzx:=fun n M => out1_ints n M z408
  have hzo:=ones_I z408
  have hzw:=fun m:Nat => encI_lowm (n:=m) z408
  have hzd:(List.map PV.I z408).drop 408 = []:=List.drop_of_length_le (by omega)
  have hzt:(List.map PV.I z408).take 408 = List.map PV.I z408:=List.take_of_length_le (by omega)
  have hze:encRs z408 = .agg (List.map PV.I z408):=rfl
  generalize hZ:List.map PV.I z408 = Z at hzI hzl hzv hzo hzw hzd hzt hzx hze
  (refine ACall_fn (cf:=L4.c81) rfl rfl fun hM hA => ?_;simp only [L4.c81,zO,zF,zT];rw [mk2 _ (by decide)];simp -implicitDefEqProofs (disch:=first|omega|(simp only [go_sem,seval,-List.reduceReplicate,ea,eb,hzI];first|done|omega)) only [go_sem,seval,-List.reduceReplicate,ea,eb,hzI])
  refine callP_q (q_site_CheckSeries a ha hag _) ?_
  simp -implicitDefEqProofs (disch:=first|omega|(simp only [go_sem,seval,-List.reduceReplicate,eb];first|done|omega)) only [go_sem,seval,-List.reduceReplicate,eb]
  refine callP_q (q_site_CheckSeries b hb hbg _) ?_
  simp -implicitDefEqProofs (disch:=first|omega|(simp only [go_sem,seval,-List.reduceReplicate];first|done|omega)) only [go_sem,seval,-List.reduceReplicate]
  by_cases hst:a.start = b.start
  case neg =>
    have fs:(a.start = b.start) = False:=eq_false hst
    simp -implicitDefEqProofs (disch:=first|omega|(simp only [go_sem,seval,-List.reduceReplicate,fs];first|done|omega)) only [go_sem,seval,-List.reduceReplicate,fs]
    refine callP_q (q_site_when _ _ _) ?_
    simp -implicitDefEqProofs (disch:=first|omega|(simp only [go_sem,seval,-List.reduceReplicate];first|done|omega)) only [go_sem,seval,-List.reduceReplicate]
    refine callP_q (q_site_first [chkSer a,chkSer b,2] (by simp) _) ?_
    have e0:blownE a b = fst0 [chkSer a,chkSer b,2]:=by unfold blownE;rw [if_pos (Or.inl hst)]
    have h0:¬ fst0 [chkSer a,chkSer b,2] = 0:=fun h => by have:=fst0_in0 h 2 (by simp);cases this
    unfold blownR
    rw [e0,if_neg h0,hze]
    generalize fst0 [chkSer a,chkSer b,2] = ee at h0
    simp -implicitDefEqProofs (disch:=first|omega|(simp only [go_sem,seval,-List.reduceReplicate,h0,hzI,hzl,putE_agg,hzo,hzd,hzv,List.append_nil,hzt];first|done|omega)) only [go_sem,seval,-List.reduceReplicate,h0,hzI,hzl,putE_agg,hzo,hzd,hzv,List.append_nil,hzt]
    (first|refine post_fin ret_ok hM rfl ?_ ?_|refine post_fin0 ret_ok hM rfl ?_ ?_|refine post_fin normal_ok hM rfl ?_ ?_|refine post_fin0 normal_ok hM rfl ?_ ?_)
    · simp -implicitDefEqProofs (disch:=first|omega|(simp only [go_sem,seval,-List.reduceReplicate,hzt,hzx];first|done|omega)) only [go_sem,seval,-List.reduceReplicate,hzt,hzx]
    · (simp only [go_sem,seval,-List.reduceReplicate,hzw,hzt,hzx] <;> first|done|omega)
  have fs:(a.start = b.start) = True:=eq_true hst
  simp -implicitDefEqProofs (disch:=first|omega|(simp only [go_sem,seval,-List.reduceReplicate,fs,eb];first|done|omega)) only [go_sem,seval,-List.reduceReplicate,fs,eb]
  by_cases hln:a.samples.length = b.samples.length
  case neg =>
    have fl:decide (¬ a.samples.length = b.samples.length) = true:=by simp [hln]
    rw [fl]
    refine callP_q (q_site_when _ _ _) ?_
    simp -implicitDefEqProofs (disch:=first|omega|(simp only [go_sem,seval,-List.reduceReplicate];first|done|omega)) only [go_sem,seval,-List.reduceReplicate]
    refine callP_q (q_site_first [chkSer a,chkSer b,2] (by simp) _) ?_
    have e0:blownE a b = fst0 [chkSer a,chkSer b,2]:=by unfold blownE;rw [if_pos (Or.inr hln)]
    have h0:¬ fst0 [chkSer a,chkSer b,2] = 0:=fun h => by have:=fst0_in0 h 2 (by simp);cases this
    unfold blownR
    rw [e0,if_neg h0,hze]
    generalize fst0 [chkSer a,chkSer b,2] = ee at h0
    simp -implicitDefEqProofs (disch:=first|omega|(simp only [go_sem,seval,-List.reduceReplicate,h0,hzI,hzl,putE_agg,hzo,hzd,hzv,List.append_nil,hzt];first|done|omega)) only [go_sem,seval,-List.reduceReplicate,h0,hzI,hzl,putE_agg,hzo,hzd,hzv,List.append_nil,hzt]
    (first|refine post_fin ret_ok hM rfl ?_ ?_|refine post_fin0 ret_ok hM rfl ?_ ?_|refine post_fin normal_ok hM rfl ?_ ?_|refine post_fin0 normal_ok hM rfl ?_ ?_)
    · simp -implicitDefEqProofs (disch:=first|omega|(simp only [go_sem,seval,-List.reduceReplicate,hzt,hzx];first|done|omega)) only [go_sem,seval,-List.reduceReplicate,hzt,hzx]
    · (simp only [go_sem,seval,-List.reduceReplicate,hzw,hzt,hzx] <;> first|done|omega)
  have fl:decide (¬ a.samples.length = b.samples.length) = false:=by simp [hln]
  rw [fl]
  refine callP_q (q_site_when _ _ _) ?_
  simp -implicitDefEqProofs (disch:=first|omega|(simp only [go_sem,seval,-List.reduceReplicate];first|done|omega)) only [go_sem,seval,-List.reduceReplicate]
  refine callP_q (q_site_first [chkSer a,chkSer b,0] (by simp) _) ?_
  have e0:blownE a b = fst0 [chkSer a,chkSer b,0]:=by unfold blownE;rw [if_neg (fun h => h.elim (fun h => h hst) (fun h => h hln))]
  by_cases h0:fst0 [chkSer a,chkSer b,0] = 0
  case neg =>
    unfold blownR
    rw [e0,if_neg h0,hze]
    generalize fst0 [chkSer a,chkSer b,0] = ee at h0
    simp -implicitDefEqProofs (disch:=first|omega|(simp only [go_sem,seval,-List.reduceReplicate,h0,hzI,hzl,putE_agg,hzo,hzd,hzv,List.append_nil,hzt];first|done|omega)) only [go_sem,seval,-List.reduceReplicate,h0,hzI,hzl,putE_agg,hzo,hzd,hzv,List.append_nil,hzt]
    (first|refine post_fin ret_ok hM rfl ?_ ?_|refine post_fin0 ret_ok hM rfl ?_ ?_|refine post_fin normal_ok hM rfl ?_ ?_|refine post_fin0 normal_ok hM rfl ?_ ?_)
    · simp -implicitDefEqProofs (disch:=first|omega|(simp only [go_sem,seval,-List.reduceReplicate,hzt,hzx];first|done|omega)) only [go_sem,seval,-List.reduceReplicate,hzt,hzx]
    · (simp only [go_sem,seval,-List.reduceReplicate,hzw,hzt,hzx] <;> first|done|omega)
  have g0:=fst0_in0 h0
  have ga:=g0 (chkSer a) (by simp)
  have gb:=g0 (chkSer b) (by simp)
  obtain ⟨hina,hsa⟩:=serIn_of ga
  obtain ⟨hinb,hsb⟩:=serIn_of gb
  unfold blownR
  rw [e0,h0,if_pos rfl]
  simp -implicitDefEqProofs (disch:=first|omega|(simp only [go_sem,seval,-List.reduceReplicate,eb];first|done|omega)) only [go_sem,seval,-List.reduceReplicate,eb]
  refine callP_q (q_site_missing b hinb.1 hinb.2.1 hinb.2.2 _) ?_
  simp -implicitDefEqProofs (disch:=first|omega|(simp only [go_sem,seval,-List.reduceReplicate,ea,hzI];first|done|omega)) only [go_sem,seval,-List.reduceReplicate,ea,hzI]
  refine callP_q (q_site_recorded a _) ?_
  have hrec:∀ p ∈ recOf a.samples a.gaps,smpE p.2 = 0 ∧ p.1 < b.samples.length:=fun p hp => ⟨hsa _ (rec_mem hp).1,by rw [← hln];exact (rec_mem hp).2⟩
  have hrl:(recOf a.samples a.gaps).length ≤ 40000:=Nat.le_trans (rec_len _ _ _) hina.1
  have hlen:=recP_len a.samples a.gaps
  have hy:=y_recorded (X:=X) a hina
  have hsn:=fun (k:Nat) (p:Nat × Nat) (hp:(recOf a.samples a.gaps)[k]? = some p) => blTo_snoc (b:=b) hp
  have hbin:=fun (k:Nat) (r:Rse) (hk:k ≤ (recOf a.samples a.gaps).length) (h:blTo b ((recOf a.samples a.gaps).take k) = some r) => blTo_in hk h
  have hcs:=blTo_cases b (recOf a.samples a.gaps) (recOf a.samples a.gaps).length (Nat.le_refl _)
  have hg:=fun (i:Nat) (hi:i < b.samples.length) => gone_get (n:=b.samples.length) (g:=b.gaps) (k:=b.gaps.length) hi
  have hgl:(goneRow b.samples.length b.gaps b.gaps.length).length = b.samples.length:=by simp [goneRow]
  have hgw:=fun m:Nat => goneRow_low (m:=m) b.samples.length b.gaps b.gaps.length
  rw [List.take_length] at hg
  generalize goneRow b.samples.length b.gaps b.gaps.length = gone at hg hgl hgw ⊢
  simp -implicitDefEqProofs (disch:=first|omega|(simp only [go_sem,seval,-List.reduceReplicate];first|done|omega)) only [go_sem,seval,-List.reduceReplicate]
  have hR0:(M ++ [Blk.row true 408 0 [PV.agg Z],Blk.row true 1 0 [PV.I 0],Blk.row true 1 0 [PV.fs gone],Blk.row true 408 0 [PV.agg Z]]) = M ++ (fun k => [.row true 408 0 [.agg Z],.row true 1 0 [.I 0],.row true 1 0 [.fs gone],.row true 408 0 [.agg (((blTo b ((recOf a.samples a.gaps).take k)).getD z408).map PV.I)]]) 0:=by
    rw [← hZ];rfl
  refine hR0 ▸ ?_
  rcases hcs with hall|⟨m,hm,hall,hnone⟩
  · refine range_pairs hy (fun k => [.row true 408 0 [.agg Z],.row true 1 0 [.I 0],.row true 1 0 [.fs gone],.row true 408 0 [.agg (((blTo b ((recOf a.samples a.gaps).take k)).getD z408).map PV.I)]]) (recP a.samples a.gaps).length (Nat.le_refl _) hM (by simp -implicitDefEqProofs (disch:=first|omega|(simp only [go_sem,seval,-List.reduceReplicate];first|done|omega)) only [go_sem,seval,-List.reduceReplicate]) (fun k => rfl) ?_ ?_ ?_ ?_
    · intro k _
      have hcw:∀ m:Nat,lowL m (((blTo b ((recOf a.samples a.gaps).take k)).getD z408).map PV.I) = True:=fun m => encI_lowm _
      simp only [go_sem,seval,-List.reduceReplicate,hzw,hgw,hcw]
      try simp
    · refine (?_:lowL (M.length + (0 + 1 + 1 + 1 + 1)) _)
      simp only [go_sem,seval,-List.reduceReplicate,ea,eb,encSer_eq,encF_low,encSpn_low]
      try simp
    · intro k x E L LB hk hx hE
      obtain ⟨p,hp,rfl⟩:∃ p,(recOf a.samples a.gaps)[k]? = some p ∧ (PV.I p.1,encF p.2) = x:=by
        unfold recP at hx;rw [List.getElem?_map] at hx;exact Option.map_eq_some_iff.1 hx
      have hk':k < (recOf a.samples a.gaps).length:=by omega
      obtain ⟨hxs,hxi⟩:=hrec p (List.mem_of_getElem? hp)
      have hxs1:=hxs
      have hss:=hsn k p hp
      obtain ⟨r,hr⟩:=hall k (by omega)
      obtain ⟨r',hr'⟩:=hall (k + 1) (by omega)
      have hri:=hbin k r (by omega) hr
      simp only [hr,hr',Option.getD_some]
      rw [hss,hr] at hr'
      obtain ⟨j,y⟩:=p
      simp only at hxs hxi hr' ⊢
      clear hss hx hsn hbin hall hy hrec hE
      obtain ⟨w,hw⟩:∃ w,b.samples[j]? = some w:=⟨_,List.getElem?_eq_getElem hxi⟩
      have hws:=hsb w (List.mem_of_getElem? hw)
      have hgj:=hg j hxi
      have hjl:j < gone.length:=by omega
      simp -implicitDefEqProofs (disch:=first|omega|(simp only [go_sem,seval,-List.reduceReplicate,eb];first|done|omega)) only [go_sem,seval,-List.reduceReplicate,eb]
      refine roundB (by rw [getMj];rfl) ?_
      simp only [blStep,List.getD_eq_getElem?_getD,hw,Option.getD_some] at hr'
      by_cases hgp:gapAt b.gaps j = true
      · rw [if_pos hgp] at hr'
        cases hr'
        rw [hgp] at hgj
        simp -implicitDefEqProofs (disch:=first|omega|(simp only [go_sem,seval,-List.reduceReplicate,hgj,hjl,hgl,hxi];first|done|omega)) only [go_sem,seval,-List.reduceReplicate,hgj,hjl,hgl,hxi]
        exact roundX [] (by simp)
      have hgp':gapAt b.gaps j = false:=by simpa using hgp
      rw [hgp'] at hgj
      rw [if_neg hgp] at hr'
      by_cases hbad:blowBad y w = true
      · rw [if_pos hbad] at hr';cases hr'
      rw [if_neg hbad] at hr'
      cases hr'
      obtain ⟨⟨b1,b2⟩,⟨b3,b4⟩,b5⟩:=blow_ok (by simpa using hbad)
      have F1:=f_lss (smp_isNum hxs) num_0
      rw [decide_eq_false (by rw [f_lt0 hxs];omega)] at F1
      have F2:=f_geq (smp_isNum hxs) num_51
      rw [decide_eq_false (by rw [f_ge51 hxs];omega)] at F2
      have F3:=f_lss (smp_isNum hws) num_0
      rw [decide_eq_false (by rw [f_lt0 hws];omega)] at F3
      have F4:=f_gtr (smp_isNum hws) num_7
      rw [decide_eq_false (by rw [f_gt7 hws];omega)] at F4
      have G1:=f_fi hws b3
      have G2:=f_fi hxs b1
      obtain ⟨n,hn⟩:∃ n:Nat,six w / 16 = n:=⟨(six w / 16).toNat,by omega⟩
      obtain ⟨v,hv⟩:∃ v:Nat,six y / 16 = v:=⟨(six y / 16).toNat,by omega⟩
      have hn7:n ≤ 7:=by omega
      have F5:=f_neq (near_num n hn7).1 (smp_isNum hws)
      rw [decide_eq_false (by rw [f_ne hws hn7];omega)] at F5
      rw [hn] at G1
      rw [hv] at G2
      have hat:blowAt y w = n * 51 + v:=by unfold blowAt;rw [hn,hv];rfl
      rw [hat]
      have hv51:v < 51:=by omega
      have hn8:n < 8:=by omega
      have hil:n * 51 + v < 408:=by omega
      obtain ⟨u,hu⟩:∃ u,r[n * 51 + v]? = some u:=⟨_,List.getElem?_eq_getElem (by rw [hri.1];exact hil)⟩
      have hub:=hri.2 u (List.mem_of_getElem? hu)
      have hinc:=incR_I hu
      have hcl:(List.map PV.I r).length = 408:=by rw [List.length_map,hri.1]
      have hco:=ones_I r
      have hcg:(List.map PV.I r)[n * 51 + v]? = some (PV.I u):=by rw [List.getElem?_map,hu];rfl
      have hdt:((List.map PV.I r).drop (n * 51 + v)).take 1 = [PV.I u]:=by
        obtain ⟨q1,q2⟩:=List.getElem?_eq_some_iff.1 hcg
        rw [List.drop_eq_getElem_cons q1,q2];rfl
      generalize (incR r (n * 51 + v)).map PV.I = cs' at hinc ⊢
      generalize List.map PV.I r = cs at hinc hcl hco hcg hdt ⊢
      have T8:(n < 8) = True:=eq_true hn8
      have T51:(v < 51) = True:=eq_true hv51
      simp -implicitDefEqProofs (disch:=first|omega|(simp only [go_sem,seval,-List.reduceReplicate,hgj,hjl,hgl,hxi,hw,F1,F2,F3,F4,F5,G1,G2,r_sop,sopV_itf,eb,T8,T51,Nat.mul_one,hdt,hcl,hco,hinc,hub,putE_agg];first|done|omega)) only [go_sem,seval,-List.reduceReplicate,hgj,hjl,hgl,hxi,hw,F1,F2,F3,F4,F5,G1,G2,r_sop,sopV_itf,eb,T8,T51,Nat.mul_one,hdt,hcl,hco,hinc,hub,putE_agg]
      refine roundX [] ?_
      simp
      exact hinc
    · refine .inl ⟨rfl,?_⟩
      have hall2:(recOf a.samples a.gaps).take (recP a.samples a.gaps).length = recOf a.samples a.gaps:=List.take_of_length_le (by omega)
      rw [hall2]
      obtain ⟨r,hr⟩:=hall _ (Nat.le_refl _)
      have hri:=hbin _ r (Nat.le_refl _) hr
      rw [List.take_length] at hr
      rw [hr]
      simp only [Option.getD_some]
      have hre:encRs r = .agg (List.map PV.I r):=rfl
      have hrl2:(List.map PV.I r).length = 408:=by rw [List.length_map,hri.1]
      have hrv:=fun M => view1_ints M r
      have hrx:=fun n M => out1_ints n M r
      have hro:=ones_I r
      have hrw:=fun m:Nat => encI_lowm (n:=m) r
      have hrt:(List.map PV.I r).take 408 = List.map PV.I r:=List.take_of_length_le (by omega)
      rw [hre]
      generalize List.map PV.I r = C at hrl2 hrv hrx hro hrw hrt ⊢
      simp -implicitDefEqProofs (disch:=first|omega|(simp only [go_sem,seval,-List.reduceReplicate,hrl2,hrv,hro,hrt,putE_agg,hzl,hzd,hzt,List.append_nil];first|done|omega)) only [go_sem,seval,-List.reduceReplicate,hrl2,hrv,hro,hrt,putE_agg,hzl,hzd,hzt,List.append_nil]
      (first|refine post_fin ret_ok hM rfl ?_ ?_|refine post_fin0 ret_ok hM rfl ?_ ?_|refine post_fin normal_ok hM rfl ?_ ?_|refine post_fin0 normal_ok hM rfl ?_ ?_)
      · simp -implicitDefEqProofs (disch:=first|omega|(simp only [go_sem,seval,-List.reduceReplicate,hrt,hrx];first|done|omega)) only [go_sem,seval,-List.reduceReplicate,hrt,hrx]
      · (simp only [go_sem,seval,-List.reduceReplicate,hrw,hrt,hrx] <;> first|done|omega)
  · obtain ⟨p,hp⟩:∃ p,(recOf a.samples a.gaps)[m]? = some p:=⟨_,List.getElem?_eq_getElem hm⟩
    have hxp:(recP a.samples a.gaps)[m]? = some (PV.I p.1,encF p.2):=by unfold recP;rw [List.getElem?_map,hp];rfl
    have hbl:blTo b (recOf a.samples a.gaps) = none:=blTo_none hnone
    rw [hbl]
    refine range_pairs hy (fun k => [.row true 408 0 [.agg Z],.row true 1 0 [.I 0],.row true 1 0 [.fs gone],.row true 408 0 [.agg (((blTo b ((recOf a.samples a.gaps).take k)).getD z408).map PV.I)]]) m (by omega) hM (by simp -implicitDefEqProofs (disch:=first|omega|(simp only [go_sem,seval,-List.reduceReplicate];first|done|omega)) only [go_sem,seval,-List.reduceReplicate]) (fun k => rfl) ?_ ?_ ?_ ?_
    · intro k _
      have hcw:∀ m:Nat,lowL m (((blTo b ((recOf a.samples a.gaps).take k)).getD z408).map PV.I) = True:=fun m => encI_lowm _
      simp only [go_sem,seval,-List.reduceReplicate,hzw,hgw,hcw]
      try simp
    · refine (?_:lowL (M.length + (0 + 1 + 1 + 1 + 1)) _)
      simp only [go_sem,seval,-List.reduceReplicate,ea,eb,encSer_eq,encF_low,encSpn_low]
      try simp
    · intro k x E L LB hk hx hE
      obtain ⟨p,hp,rfl⟩:∃ p,(recOf a.samples a.gaps)[k]? = some p ∧ (PV.I p.1,encF p.2) = x:=by
        unfold recP at hx;rw [List.getElem?_map] at hx;exact Option.map_eq_some_iff.1 hx
      have hk':k < (recOf a.samples a.gaps).length:=by omega
      obtain ⟨hxs,hxi⟩:=hrec p (List.mem_of_getElem? hp)
      have hxs1:=hxs
      have hss:=hsn k p hp
      obtain ⟨r,hr⟩:=hall k (by omega)
      obtain ⟨r',hr'⟩:=hall (k + 1) (by omega)
      have hri:=hbin k r (by omega) hr
      simp only [hr,hr',Option.getD_some]
      rw [hss,hr] at hr'
      obtain ⟨j,y⟩:=p
      simp only at hxs hxi hr' ⊢
      clear hss hx hsn hbin hall hy hrec hE
      obtain ⟨w,hw⟩:∃ w,b.samples[j]? = some w:=⟨_,List.getElem?_eq_getElem hxi⟩
      have hws:=hsb w (List.mem_of_getElem? hw)
      have hgj:=hg j hxi
      have hjl:j < gone.length:=by omega
      simp -implicitDefEqProofs (disch:=first|omega|(simp only [go_sem,seval,-List.reduceReplicate,eb];first|done|omega)) only [go_sem,seval,-List.reduceReplicate,eb]
      refine roundB (by rw [getMj];rfl) ?_
      simp only [blStep,List.getD_eq_getElem?_getD,hw,Option.getD_some] at hr'
      by_cases hgp:gapAt b.gaps j = true
      · rw [if_pos hgp] at hr'
        cases hr'
        rw [hgp] at hgj
        simp -implicitDefEqProofs (disch:=first|omega|(simp only [go_sem,seval,-List.reduceReplicate,hgj,hjl,hgl,hxi];first|done|omega)) only [go_sem,seval,-List.reduceReplicate,hgj,hjl,hgl,hxi]
        exact roundX [] (by simp)
      have hgp':gapAt b.gaps j = false:=by simpa using hgp
      rw [hgp'] at hgj
      rw [if_neg hgp] at hr'
      by_cases hbad:blowBad y w = true
      · rw [if_pos hbad] at hr';cases hr'
      rw [if_neg hbad] at hr'
      cases hr'
      obtain ⟨⟨b1,b2⟩,⟨b3,b4⟩,b5⟩:=blow_ok (by simpa using hbad)
      have F1:=f_lss (smp_isNum hxs) num_0
      rw [decide_eq_false (by rw [f_lt0 hxs];omega)] at F1
      have F2:=f_geq (smp_isNum hxs) num_51
      rw [decide_eq_false (by rw [f_ge51 hxs];omega)] at F2
      have F3:=f_lss (smp_isNum hws) num_0
      rw [decide_eq_false (by rw [f_lt0 hws];omega)] at F3
      have F4:=f_gtr (smp_isNum hws) num_7
      rw [decide_eq_false (by rw [f_gt7 hws];omega)] at F4
      have G1:=f_fi hws b3
      have G2:=f_fi hxs b1
      obtain ⟨n,hn⟩:∃ n:Nat,six w / 16 = n:=⟨(six w / 16).toNat,by omega⟩
      obtain ⟨v,hv⟩:∃ v:Nat,six y / 16 = v:=⟨(six y / 16).toNat,by omega⟩
      have hn7:n ≤ 7:=by omega
      have F5:=f_neq (near_num n hn7).1 (smp_isNum hws)
      rw [decide_eq_false (by rw [f_ne hws hn7];omega)] at F5
      rw [hn] at G1
      rw [hv] at G2
      have hat:blowAt y w = n * 51 + v:=by unfold blowAt;rw [hn,hv];rfl
      rw [hat]
      have hv51:v < 51:=by omega
      have hn8:n < 8:=by omega
      have hil:n * 51 + v < 408:=by omega
      obtain ⟨u,hu⟩:∃ u,r[n * 51 + v]? = some u:=⟨_,List.getElem?_eq_getElem (by rw [hri.1];exact hil)⟩
      have hub:=hri.2 u (List.mem_of_getElem? hu)
      have hinc:=incR_I hu
      have hcl:(List.map PV.I r).length = 408:=by rw [List.length_map,hri.1]
      have hco:=ones_I r
      have hcg:(List.map PV.I r)[n * 51 + v]? = some (PV.I u):=by rw [List.getElem?_map,hu];rfl
      have hdt:((List.map PV.I r).drop (n * 51 + v)).take 1 = [PV.I u]:=by
        obtain ⟨q1,q2⟩:=List.getElem?_eq_some_iff.1 hcg
        rw [List.drop_eq_getElem_cons q1,q2];rfl
      generalize (incR r (n * 51 + v)).map PV.I = cs' at hinc ⊢
      generalize List.map PV.I r = cs at hinc hcl hco hcg hdt ⊢
      have T8:(n < 8) = True:=eq_true hn8
      have T51:(v < 51) = True:=eq_true hv51
      simp -implicitDefEqProofs (disch:=first|omega|(simp only [go_sem,seval,-List.reduceReplicate,hgj,hjl,hgl,hxi,hw,F1,F2,F3,F4,F5,G1,G2,r_sop,sopV_itf,eb,T8,T51,Nat.mul_one,hdt,hcl,hco,hinc,hub,putE_agg];first|done|omega)) only [go_sem,seval,-List.reduceReplicate,hgj,hjl,hgl,hxi,hw,F1,F2,F3,F4,F5,G1,G2,r_sop,sopV_itf,eb,T8,T51,Nat.mul_one,hdt,hcl,hco,hinc,hub,putE_agg]
      refine roundX [] ?_
      simp
      exact hinc
    · refine .inr ⟨_,.ret,[.row true 408 0 [.agg Z],.row true 1 0 [.I 3],.row true 1 0 [.fs gone],.row true 408 0 [.agg (((blTo b ((recOf a.samples a.gaps).take m)).getD z408).map PV.I)]],hxp,(by simp),rfl,?_,?_,?_⟩
      · have hcw:∀ i:Nat,lowL i (((blTo b ((recOf a.samples a.gaps).take m)).getD z408).map PV.I) = True:=fun i => encI_lowm _
        simp only [go_sem,seval,-List.reduceReplicate,hzw,hgw,hcw]
        try simp
      · intro E L LB hE
        obtain ⟨hxs,hxi⟩:=hrec p (List.mem_of_getElem? hp)
        have hss:=hsn m p hp
        obtain ⟨r,hr⟩:=hall m (Nat.le_refl _)
        rw [hss,hr] at hnone
        simp only [hr,Option.getD_some]
        obtain ⟨j,y⟩:=p
        simp only at hxs hxi hnone ⊢
        clear hss hsn hbin hall hy hrec hE
        obtain ⟨w,hw⟩:∃ w,b.samples[j]? = some w:=⟨_,List.getElem?_eq_getElem hxi⟩
        have hws:=hsb w (List.mem_of_getElem? hw)
        have hgj:=hg j hxi
        have hjl:j < gone.length:=by omega
        simp -implicitDefEqProofs (disch:=first|omega|(simp only [go_sem,seval,-List.reduceReplicate,eb];first|done|omega)) only [go_sem,seval,-List.reduceReplicate,eb]
        refine roundB (by rw [getMj];rfl) ?_
        simp only [blStep,List.getD_eq_getElem?_getD,hw,Option.getD_some] at hnone
        by_cases hgp:gapAt b.gaps j = true
        · rw [if_pos hgp] at hnone;cases hnone
        have hgp':gapAt b.gaps j = false:=by simpa using hgp
        rw [hgp'] at hgj
        rw [if_neg hgp] at hnone
        by_cases hbad:blowBad y w = true
        case neg => rw [if_neg hbad] at hnone;cases hnone
        unfold blowBad at hbad
        simp only [Bool.or_eq_true,decide_eq_true_eq] at hbad
        have F1:=f_lss (smp_isNum hxs) num_0
        have F2:=f_geq (smp_isNum hxs) num_51
        have F3:=f_lss (smp_isNum hws) num_0
        have F4:=f_gtr (smp_isNum hws) num_7
        by_cases c1:six y < 0
        · rw [decide_eq_true (by rw [f_lt0 hxs];exact c1)] at F1
          simp -implicitDefEqProofs (disch:=first|omega|(simp only [go_sem,seval,-List.reduceReplicate,hgj,hjl,hgl,hxi,hw,F1,r_sop,sopV_itf,eb,hzI,hzl,putE_agg,hzo,hzd,hzt,List.append_nil];first|done|omega)) only [go_sem,seval,-List.reduceReplicate,hgj,hjl,hgl,hxi,hw,F1,r_sop,sopV_itf,eb,hzI,hzl,putE_agg,hzo,hzd,hzt,List.append_nil]
          exact roundX [] (by simp)
        rw [decide_eq_false (by rw [f_lt0 hxs];exact c1)] at F1
        by_cases c2:816 ≤ six y
        · rw [decide_eq_true (by rw [f_ge51 hxs];exact c2)] at F2
          simp -implicitDefEqProofs (disch:=first|omega|(simp only [go_sem,seval,-List.reduceReplicate,hgj,hjl,hgl,hxi,hw,F1,F2,r_sop,sopV_itf,eb,hzI,hzl,putE_agg,hzo,hzd,hzt,List.append_nil];first|done|omega)) only [go_sem,seval,-List.reduceReplicate,hgj,hjl,hgl,hxi,hw,F1,F2,r_sop,sopV_itf,eb,hzI,hzl,putE_agg,hzo,hzd,hzt,List.append_nil]
          exact roundX [] (by simp)
        rw [decide_eq_false (by rw [f_ge51 hxs];exact c2)] at F2
        by_cases c3:six w < 0
        · rw [decide_eq_true (by rw [f_lt0 hws];exact c3)] at F3
          simp -implicitDefEqProofs (disch:=first|omega|(simp only [go_sem,seval,-List.reduceReplicate,hgj,hjl,hgl,hxi,hw,F1,F2,F3,r_sop,sopV_itf,eb,hzI,hzl,putE_agg,hzo,hzd,hzt,List.append_nil];first|done|omega)) only [go_sem,seval,-List.reduceReplicate,hgj,hjl,hgl,hxi,hw,F1,F2,F3,r_sop,sopV_itf,eb,hzI,hzl,putE_agg,hzo,hzd,hzt,List.append_nil]
          exact roundX [] (by simp)
        rw [decide_eq_false (by rw [f_lt0 hws];exact c3)] at F3
        by_cases c4:112 < six w
        · rw [decide_eq_true (by rw [f_gt7 hws];exact c4)] at F4
          simp -implicitDefEqProofs (disch:=first|omega|(simp only [go_sem,seval,-List.reduceReplicate,hgj,hjl,hgl,hxi,hw,F1,F2,F3,F4,r_sop,sopV_itf,eb,hzI,hzl,putE_agg,hzo,hzd,hzt,List.append_nil];first|done|omega)) only [go_sem,seval,-List.reduceReplicate,hgj,hjl,hgl,hxi,hw,F1,F2,F3,F4,r_sop,sopV_itf,eb,hzI,hzl,putE_agg,hzo,hzd,hzt,List.append_nil]
          exact roundX [] (by simp)
        rw [decide_eq_false (by rw [f_gt7 hws];exact c4)] at F4
        have c5:¬ six w % 16 = 0:=by omega
        have G1:=f_fi hws (by omega)
        obtain ⟨n,hn⟩:∃ n:Nat,six w / 16 = n:=⟨(six w / 16).toNat,by omega⟩
        have hn7:n ≤ 7:=by omega
        have F5:=f_neq (near_num n hn7).1 (smp_isNum hws)
        rw [decide_eq_true (by rw [f_ne hws hn7];omega)] at F5
        rw [hn] at G1
        simp -implicitDefEqProofs (disch:=first|omega|(simp only [go_sem,seval,-List.reduceReplicate,hgj,hjl,hgl,hxi,hw,F1,F2,F3,F4,F5,G1,r_sop,sopV_itf,eb,hzI,hzl,putE_agg,hzo,hzd,hzt,List.append_nil];first|done|omega)) only [go_sem,seval,-List.reduceReplicate,hgj,hjl,hgl,hxi,hw,F1,F2,F3,F4,F5,G1,r_sop,sopV_itf,eb,hzI,hzl,putE_agg,hzo,hzd,hzt,List.append_nil]
        exact roundX [] (by simp)
      · simp only [hze]
        generalize ((blTo b ((recOf a.samples a.gaps).take m)).getD z408).map PV.I = C
        simp -implicitDefEqProofs (disch:=first|omega|(simp only [go_sem,seval,-List.reduceReplicate];first|done|omega)) only [go_sem,seval,-List.reduceReplicate]
        (first|refine post_fin ret_ok hM rfl ?_ ?_|refine post_fin0 ret_ok hM rfl ?_ ?_|refine post_fin normal_ok hM rfl ?_ ?_|refine post_fin0 normal_ok hM rfl ?_ ?_)
        · simp -implicitDefEqProofs (disch:=first|omega|(simp only [go_sem,seval,-List.reduceReplicate,hzt,hzx];first|done|omega)) only [go_sem,seval,-List.reduceReplicate,hzt,hzx]
        · (simp only [go_sem,seval,-List.reduceReplicate,hzw,hzt,hzx] <;> first|done|omega)
def ItoaX (X:XRel):Prop:=∀ (n:Int) (M:List Blk),-9223372036854775808 ≤ n → n ≤ 9223372036854775807 → X 140 [.I n] M (.s (.string (itoaB n))) M
def encStr (s:ByteArray):PV:=.s (.string s)
def JoinX (X:XRel):Prop:=∀ (l:List ByteArray) (M:List Blk),l.length ≤ 64 → (∀ s ∈ l,s.size ≤ 200) → X 141 [.fs (l.map encStr),.s (.string ⟨#[]⟩)] M (.s (.string (joinB l))) M
theorem itoaB_size (n:Int) (h0:-9223372036854775808 ≤ n) (h1:n ≤ 9223372036854775807):(itoaB n).size ≤ 21:=by
  have:=Lib.itoa_length_le n h0 h1
  show (Lib.itoa n).toArray.size ≤ 21
  simpa using this
theorem nameOk_size {s:ByteArray} (h:nameOk s = true):s.size ≤ 24:=by
  unfold nameOk at h
  simp only [Bool.and_eq_true,decide_eq_true_eq] at h
  exact h.1.2
theorem sz_turbine:(⟨#[116,117,114,98,105,110,101,32]⟩:ByteArray).size = 8:=rfl
theorem sz_sp:(⟨#[32]⟩:ByteArray).size = 1:=rfl
theorem sz_nl:(⟨#[10]⟩:ByteArray).size = 1:=rfl
theorem sz_site:(⟨#[115,105,116,101,32]⟩:ByteArray).size = 5:=rfl
theorem tbTxt_size {t:Tb} (h:nameOk t.name = true) (hp:ptIn t.at_):(tbTxt t).size ≤ 200:=by
  have h1:=nameOk_size h
  unfold ptIn at hp
  have hp1:-1000 ≤ t.x ∧ t.x ≤ 1000 ∧ -1000 ≤ t.y ∧ t.y ≤ 1000:=hp
  have h2:=itoaB_size t.x (by omega) (by omega)
  have h3:=itoaB_size t.y (by omega) (by omega)
  unfold tbTxt
  simp only [ByteArray.size_append,sz_turbine,sz_sp,sz_nl]
  omega
theorem q_site_Print_1 (hI:ItoaX X) (t:Tb) (h:nameOk t.name = true) (hp:ptIn t.at_):Q X 139 [encTb t] (.s (.string (tbTxt t))):=by
  intro M
  have h1:=nameOk_size h
  unfold ptIn at hp
  have hp1:-1000 ≤ t.x ∧ t.x ≤ 1000 ∧ -1000 ≤ t.y ∧ t.y ≤ 1000:=hp
  have h2:=itoaB_size t.x (by omega) (by omega)
  have h3:=itoaB_size t.y (by omega) (by omega)
  have e:tbTxt t = (((((⟨#[116,117,114,98,105,110,101,32]⟩:ByteArray) ++ t.name) ++ ⟨#[32]⟩) ++ itoaB t.x) ++ ⟨#[32]⟩) ++ itoaB t.y ++ ⟨#[10]⟩:=rfl
  rw [e]
  (refine ACall_fn (cf:=L4.c139) rfl rfl fun hM hA => ?_;simp only [L4.c139,zO,zF,zT];rw [mk1 _ (by decide)];simp -implicitDefEqProofs (disch:=first|omega|(simp only [go_sem,seval,encTb_eq,bin_addS,ByteArray.size_append,sz_turbine,sz_sp,sz_nl];first|done|omega)) only [go_sem,seval,encTb_eq,bin_addS,ByteArray.size_append,sz_turbine,sz_sp,sz_nl])
  refine callP_q (ACall_ext (hI t.x _ (by omega) (by omega))) ?_
  simp -implicitDefEqProofs (disch:=first|omega|(simp only [go_sem,seval,encTb_eq,bin_addS,ByteArray.size_append,sz_turbine,sz_sp,sz_nl];first|done|omega)) only [go_sem,seval,encTb_eq,bin_addS,ByteArray.size_append,sz_turbine,sz_sp,sz_nl]
  refine callP_q (ACall_ext (hI t.y _ (by omega) (by omega))) ?_
  simp -implicitDefEqProofs (disch:=first|omega|(simp only [go_sem,seval,bin_addS,ByteArray.size_append,sz_turbine,sz_sp,sz_nl];first|done|omega)) only [go_sem,seval,bin_addS,ByteArray.size_append,sz_turbine,sz_sp,sz_nl]
  (all_goals (first|refine post_fin ret_ok hM rfl ?_ ?_|refine post_fin0 ret_ok hM rfl ?_ ?_|refine post_fin normal_ok hM rfl ?_ ?_|refine post_fin0 normal_ok hM rfl ?_ ?_);all_goals first|(simp only [go_sem,seval] <;> first|done|omega)|skip;all_goals (try simp -implicitDefEqProofs (disch:=first|omega|(simp only [go_sem,seval];first|done|omega)) only [go_sem,seval]))
theorem q_site_mapped_str {g:FuncId} {f:Tb → ByteArray} (l:List Tb) (hl:l.length ≤ 1000000) (hg:∀ x ∈ l,Q X g [encTb x] (.s (.string (f x)))):Q X 138 [.fs (l.map encTb),.fn (.func g) [] []] (.fs ((l.map f).map encStr)):=by
  intro M
  (refine ACall_fn (cf:=L4.c138) rfl rfl fun hM hA => ?_;simp only [L4.c138,zO,zF,zT];rw [mk2 _ (by decide)];simp -implicitDefEqProofs (disch:=first|omega|(simp only [go_sem,seval];first|done|omega)) only [go_sem,seval])
  refine loop_mk (α:=Nat) 0 (fun k => k ≤ l.length) (fun k => M ++ [.row true 1 k (((l.take k).map f).map encStr)])
    (fun k => [(1,.fn (.func g) [] []),(5,.os M.length k 0 k),(8,.fs (l.map encTb)),(9,.I l.length),(10,.I k)]) (fun k => l.length - k) (Nat.zero_le _) rfl rfl ?_
  have hlw:∀ (n:Nat) (L:List Tb),lowL n (List.map (fun x => encStr (f x)) L) = True:=fun n L => eq_true (lowL_map _ _ fun r => by simp [encStr,PV.low])
  have hls:∀ (n:Nat) (x:Tb),(encStr (f x)).low n = True:=fun n x => eq_true (by simp [encStr,PV.low])
  intro k hk
  by_cases hlt:k < l.length
  · obtain ⟨x,h1⟩:∃ x,l[k]? = some x:=⟨_,List.getElem?_eq_getElem hlt⟩
    have h2:k = ((l.take k).map f).length:=by simp;omega
    have h2':(l.take k).length = k:=by simp;omega
    simp -implicitDefEqProofs (disch:=first|omega|(simp only [go_sem,seval,hlt,h1,encTb_cells];first|done|omega)) only [go_sem,seval,hlt,h1,encTb_cells]
    refine callP_l (hg x (List.mem_of_getElem? h1) _) ?_
    simp -implicitDefEqProofs (disch:=first|omega|(simp only [go_sem,seval,encTb_cells];first|done|omega)) only [go_sem,seval,encTb_cells]
    refine Wp_cut_at hM rfl 1 (by simp) (by first|done|(simp only [go_sem,seval,hlw,hls,encTb_low] <;> first|done|(refine ⟨?_,?_⟩ <;> omega)|omega)) (lowL_mk (by first|done|(simp only [go_sem,seval,hlw,hls,encTb_low] <;> first|done|(refine ⟨?_,?_⟩ <;> omega)|omega))) ?_
    simp -implicitDefEqProofs (disch:=first|omega|(simp only [go_sem,seval];first|done|omega)) only [go_sem,seval]
    refine again' (k + 1) (by omega) (by omega) ?_ rfl
    have h3:=take_snoc (f:=fun x => encStr (f x)) h1
    rw [h3];rfl
  · simp -implicitDefEqProofs (disch:=first|omega|(simp only [go_sem,seval,hlt];first|done|omega)) only [go_sem,seval,hlt]
    (first|refine post_fin ret_ok hM rfl ?_ ?_|refine post_fin0 ret_ok hM rfl ?_ ?_|refine post_fin normal_ok hM rfl ?_ ?_|refine post_fin0 normal_ok hM rfl ?_ ?_)
    · simp -implicitDefEqProofs (disch:=first|omega|(simp only [go_sem,seval];first|done|omega)) only [go_sem,seval]
      rw [List.take_of_length_le (by omega)]
    · (simp only [go_sem,seval,hlw] <;> first|done|omega)
theorem q_site_Print (hI:ItoaX X) (hJ:JoinX X) (s:Ste) (hl:s.tbs.length ≤ 1048576):Q X 92 [encSte s] (.tup [.s (.string (if chkSte s = 0 then steTxt s else ⟨#[]⟩)),.I (chkSte s)]):=by
  intro M
  have es:=encSte_eq s
  (refine ACall_fn (cf:=L4.c92) rfl rfl fun hM hA => ?_;simp only [L4.c92,zO,zF,zT];rw [mk1 _ (by decide)];simp -implicitDefEqProofs (disch:=first|omega|(simp only [go_sem,seval,es];first|done|omega)) only [go_sem,seval,es])
  refine callP_q (q_site_CheckSite s hl _) ?_
  by_cases h0:chkSte s = 0
  case neg =>
    rw [if_neg h0]
    generalize chkSte s = ee at h0
    simp -implicitDefEqProofs (disch:=first|omega|(simp only [go_sem,seval,h0];first|done|omega)) only [go_sem,seval,h0]
    (all_goals (first|refine post_fin ret_ok hM rfl ?_ ?_|refine post_fin0 ret_ok hM rfl ?_ ?_|refine post_fin normal_ok hM rfl ?_ ?_|refine post_fin0 normal_ok hM rfl ?_ ?_);all_goals first|(simp only [go_sem,seval] <;> first|done|omega)|skip;all_goals (try simp -implicitDefEqProofs (disch:=first|omega|(simp only [go_sem,seval];first|done|omega)) only [go_sem,seval]))
  rw [if_pos h0,h0]
  obtain ⟨hn,hle,hln,hin⟩:=chkSte_in h0
  have hpt:=all_pt h0
  have hnm:∀ t ∈ s.tbs,nameOk t.name = true:=by
    intro t ht
    obtain ⟨i,hi,h2⟩:=List.mem_iff_getElem.1 ht
    exact (tbE_parts (hin i t hi (List.getElem?_eq_some_iff.2 ⟨hi,h2⟩))).1
  simp -implicitDefEqProofs (disch:=first|omega|(simp only [go_sem,seval,es];first|done|omega)) only [go_sem,seval,es]
  refine callP_q (q_site_mapped_str s.tbs (by omega) (fun x hx => q_site_Print_1 hI x (hnm x hx) (hpt x hx)) _) ?_
  have h1:=nameOk_size hn
  have h2:=itoaB_size s.least (by omega) (by omega)
  simp -implicitDefEqProofs (disch:=first|omega|(simp only [go_sem,seval,bin_addS,ByteArray.size_append,sz_site,sz_sp,sz_nl];first|done|omega)) only [go_sem,seval,bin_addS,ByteArray.size_append,sz_site,sz_sp,sz_nl]
  refine callP_q (ACall_ext (hI s.least _ (by omega) (by omega))) ?_
  simp -implicitDefEqProofs (disch:=first|omega|(simp only [go_sem,seval,bin_addS,ByteArray.size_append,sz_site,sz_sp,sz_nl];first|done|omega)) only [go_sem,seval,bin_addS,ByteArray.size_append,sz_site,sz_sp,sz_nl]
  have hj:=hJ (s.tbs.map tbTxt) M (by rw [List.length_map];exact hln) (by
    intro u hu
    obtain ⟨t,ht,rfl⟩:=List.mem_map.1 hu
    exact tbTxt_size (hnm t ht) (hpt t ht))
  rw [List.map_map] at hj
  have hjs:(joinB (s.tbs.map tbTxt)).size ≤ 100000:=joinB_size (by rw [List.length_map];exact hln) (by
    intro u hu
    obtain ⟨t,ht,rfl⟩:=List.mem_map.1 hu
    exact tbTxt_size (hnm t ht) (hpt t ht))
  refine callP_q (ACall_ext hj) ?_
  have e:steTxt s = ((((⟨#[115,105,116,101,32]⟩:ByteArray) ++ s.name) ++ ⟨#[32]⟩) ++ itoaB s.least ++ ⟨#[10]⟩) ++ joinB (s.tbs.map tbTxt):=rfl
  rw [e]
  simp -implicitDefEqProofs (disch:=first|omega|(simp only [go_sem,seval,bin_addS,ByteArray.size_append,sz_site,sz_sp,sz_nl];first|done|omega)) only [go_sem,seval,bin_addS,ByteArray.size_append,sz_site,sz_sp,sz_nl]
  (all_goals (first|refine post_fin ret_ok hM rfl ?_ ?_|refine post_fin0 ret_ok hM rfl ?_ ?_|refine post_fin normal_ok hM rfl ?_ ?_|refine post_fin0 normal_ok hM rfl ?_ ?_);all_goals first|(simp only [go_sem,seval] <;> first|done|omega)|skip;all_goals (try simp -implicitDefEqProofs (disch:=first|omega|(simp only [go_sem,seval];first|done|omega)) only [go_sem,seval]))
theorem put_run (ns:List Int) (hl:ns.length ≤ 40000) {M0 E:List Blk} {v:Nat} {bs:List PV} (hb:bs.length ≤ 400000) :
    ACall F X (.fn 131) [.fs (ns.map .I),.op (M0.length + 1) 0 0 0] (M0 ++ (.row true 1 v bs :: .row true 1 0 [.os M0.length v 0 bs.length] :: E)) (.tup [])
      (M0 ++ (.row true 1 (v + ns.length) (bs ++ putB ns) :: .row true 1 0 [.os M0.length (v + ns.length) 0 (bs ++ putB ns).length] :: E)):=by
  refine ACall_fn (cf:=c131) rfl rfl fun hM hA => ?_
  simp only [c131,zO,zF,zT]
  rw [mk2 _ (by decide)]
  simp -implicitDefEqProofs (disch:=first|omega|(simp only [go_sem,seval];first|done|omega)) only [go_sem,seval]
  refine loop_mk (α:=Nat) 0 (fun k => k ≤ ns.length) (fun k => M0 ++ (.row true 1 (v + k) (bs ++ putB (ns.take k)) :: .row true 1 0 [.os M0.length (v + k) 0 (bs ++ putB (ns.take k)).length] :: E))
    (fun k => [(1,.op (M0.length + 1) 0 0 0),(5,.fs (ns.map .I)),(6,.I ns.length),(7,.I k)]) (fun k => ns.length - k) (Nat.zero_le _) (by simp [putB]) rfl ?_
  intro k hk
  by_cases hlt:k < ns.length
  · obtain ⟨n,hn⟩:∃ n,ns[k]? = some n:=⟨_,List.getElem?_eq_getElem hlt⟩
    have hsn:=putB_snoc hn
    have hpl:=putB_len (ns.take k)
    have htl:(ns.take k).length = k:=by rw [List.length_take];omega
    have hbl:(bs ++ putB (ns.take k)).length ≤ 560000:=by rw [List.length_append,hpl];omega
    have again:∀ c:List PV,bs ++ putB (ns.take (k + 1)) = c → Again 26 (fun k => k ≤ ns.length) (fun k => M0 ++ (.row true 1 (v + k) (bs ++ putB (ns.take k)) :: .row true 1 0 [.os M0.length (v + k) 0 (bs ++ putB (ns.take k)).length] :: E))
      (fun k => [(1,.op (M0.length + 1) 0 0 0),(5,.fs (ns.map .I)),(6,.I ns.length),(7,.I k)]) (fun k => ns.length - k) k
      (M0 ++ (.row true 1 (v + (k + 1)) c :: .row true 1 0 [.os M0.length (v + (k + 1)) 0 c.length] :: E)) (mk 26 [(1,.op (M0.length + 1) 0 0 0),(5,.fs (ns.map .I)),(6,.I ns.length),(7,.I (k + 1))]):=by
      rintro c rfl
      exact again' (k + 1) (by omega) (by omega) rfl rfl
    rw [hsn,← List.append_assoc] at again
    generalize bs ++ putB (ns.take k) = c at hbl again ⊢
    have hsh:∀ (m:Nat),m ≤ 24 → bin .shr (.s (.int .i64 n)) (.s (.int .u64 m)) = some (.s (.int .i64 (n.fdiv (2 ^ m)))):=by
      intro m hm
      rw [bin_shr (by omega)]
      have:min (m:Int).toNat IntKind.i64.bits = m:=by
        have:IntKind.i64.bits = 64:=rfl
        omega
      rw [this]
    have s1:bin .shr (.s (.int .i64 n)) (.s (.int .u64 24)) = some (.s (.int .i64 (n.fdiv 16777216))):=hsh 24 (by decide)
    have s2:bin .shr (.s (.int .i64 n)) (.s (.int .u64 16)) = some (.s (.int .i64 (n.fdiv 65536))):=hsh 16 (by decide)
    have s3:bin .shr (.s (.int .i64 n)) (.s (.int .u64 8)) = some (.s (.int .i64 (n.fdiv 256))):=hsh 8 (by decide)
    simp -implicitDefEqProofs (disch:=first|omega|(simp only [go_sem,seval,hlt,hn,s1,s2,s3];first|done|omega)) only [go_sem,seval,hlt,hn,s1,s2,s3]
    have h:=again _ rfl
    simp only [List.length_append,be4_eq,List.length_cons,List.length_nil] at h
    exact h
  have hkk:k = ns.length:=by omega
  subst hkk
  rw [List.take_length]
  have hbl:lowL (M0 ++ Blk.row true 1 v bs :: Blk.row true 1 0 [PV.os M0.length v 0 bs.length] :: E).length bs:=hM (Blk.row true 1 v bs) (by simp)
  have hlow:lowM (M0 ++ (Blk.row true 1 (v + ns.length) (bs ++ putB ns) :: Blk.row true 1 0 [.os M0.length (v + ns.length) 0 (bs ++ putB ns).length] :: E)).length (M0 ++ (Blk.row true 1 (v + ns.length) (bs ++ putB ns) :: Blk.row true 1 0 [.os M0.length (v + ns.length) 0 (bs ++ putB ns).length] :: E)):=by
    intro b hb
    have hlen:(M0 ++ (Blk.row true 1 (v + ns.length) (bs ++ putB ns) :: Blk.row true 1 0 [.os M0.length (v + ns.length) 0 (bs ++ putB ns).length] :: E)).length = (M0 ++ Blk.row true 1 v bs :: Blk.row true 1 0 [PV.os M0.length v 0 bs.length] :: E).length:=by simp
    rw [hlen]
    rcases List.mem_append.1 hb with hb|hb
    · exact hM b (by simp [hb])
    · rcases List.mem_cons.1 hb with rfl|hb
      · show lowL _ (bs ++ putB ns)
        rw [lowL_iff]
        intro x hx
        rcases List.mem_append.1 hx with hx|hx
        · exact (lowL_iff _).1 hbl x hx
        · exact (lowL_iff _).1 (of_eq_true (putB_low ns)) x hx
      · rcases List.mem_cons.1 hb with rfl|hb
        · show lowL _ [_]
          simp [lowL,PV.low]
        · exact hM b (by simp [hb])
  simp only [List.length_append] at hlow
  simp -implicitDefEqProofs (disch:=first|omega|(simp only [go_sem,seval,hlt];first|done|omega)) only [go_sem,seval,hlt]
  refine post_fin0 normal_ok (by simpa using hlow) (by simp) ?_ ?_
  · simp -implicitDefEqProofs (disch:=first|omega|(simp only [go_sem,seval];first|done|omega)) only [go_sem,seval]
    rfl
  · (simp only [go_sem,seval] <;> first|done|omega)
def FbitsX (X:XRel):Prop:=∀ (b:Nat) (M:List Blk),X 132 [.s (.float .f32 b)] M (.s (.int .u32 b)) M
theorem q_site_Encode (hF:FbitsX X) (s:Ser) (hl:s.samples.length ≤ 1048576) (hgl:s.gaps.length ≤ 1048576):Q X 88 [encSer s] (.tup [.fs (if chkSer s = 0 then encB s else []),.I (chkSer s)]):=by
  intro M
  have es:=encSer_eq s
  (refine ACall_fn (cf:=L4.c88) rfl rfl fun hM hA => ?_;simp only [L4.c88,zO,zF,zT];rw [mk1 _ (by decide)];simp -implicitDefEqProofs (disch:=first|omega|(simp only [go_sem,seval,es];first|done|omega)) only [go_sem,seval,es])
  refine callP_q (q_site_CheckSeries s hl hgl _) ?_
  by_cases h0:chkSer s = 0
  case neg =>
    rw [if_neg h0]
    generalize chkSer s = ee at h0
    simp -implicitDefEqProofs (disch:=first|omega|(simp only [go_sem,seval,h0];first|done|omega)) only [go_sem,seval,h0]
    (all_goals (first|refine post_fin ret_ok hM rfl ?_ ?_|refine post_fin0 ret_ok hM rfl ?_ ?_|refine post_fin normal_ok hM rfl ?_ ?_|refine post_fin0 normal_ok hM rfl ?_ ?_);all_goals first|(simp only [go_sem,seval] <;> first|done|omega)|skip;all_goals (try simp -implicitDefEqProofs (disch:=first|omega|(simp only [go_sem,seval];first|done|omega)) only [go_sem,seval]))
  rw [if_pos h0,h0]
  obtain ⟨hin,hsm⟩:=serIn_of h0
  have hnm:s.name.size ≤ 24:=by
    unfold chkSer at h0
    split at h0
    · cases h0
    · rename_i hn;exact nameOk_size (by simpa using hn)
  have hbo:=bytesPV_ok s.name
  have hbl:=bytesPV_len s.name
  have hhs:∀ M:List Blk,held M (.s (.string s.name)) = some (bytesPV s.name):=fun _ => held_str
  simp -implicitDefEqProofs (disch:=first|omega|(simp only [go_sem,seval,es,hhs,hbo,hbl];first|done|omega)) only [go_sem,seval,es,hhs,hbo,hbl]
  have hh:(hdrB s).length = 5 + s.name.size:=by
    unfold hdrB
    rw [List.length_append,List.length_append,hbl];rfl
  have hls:=hin.1
  have hgs:s.gaps.length ≤ 1024:=by
    unfold chkSer at h0
    split at h0
    · cases h0
    · split at h0
      · cases h0
      · split at h0
        · cases h0
        · split at h0
          · rename_i h4;exact absurd h0 h4
          · split at h0
            · rename_i h5;exact absurd h0 h5
            · rename_i h5;exact (chkSpns_in (Decidable.of_not_not h5)).2
  have hP:=put_run (X:=X) [s.start,(s.samples.length:Int),(s.gaps.length:Int)] (by simp) (M0:=M) (E:=[]) (v:=2) (bs:=hdrB s) (by omega)
  have hlow:∀ n:Nat,lowL n (hdrB s) = True:=fun n => eq_true (by
    unfold hdrB
    rw [lowL_iff]
    intro x hx
    rcases List.mem_append.1 hx with hx|hx
    · simp only [List.cons_append,List.nil_append,List.mem_cons,List.not_mem_nil,or_false] at hx
      rcases hx with rfl|rfl|rfl|rfl|rfl <;> simp [PV.low]
    · exact (lowL_iff _).1 (of_eq_true (bytesPV_low s.name)) x hx)
  rw [hh] at hP
  refine callP_l hP ?_
  have hcl:∀ (L:List Int) (m:Nat),lowL m (hdrB s ++ putB L) = True:=fun L m => eq_true (by
    rw [lowL_iff]
    intro x hx
    rcases List.mem_append.1 hx with hx|hx
    · exact (lowL_iff _).1 (of_eq_true (hlow m)) x hx
    · exact (lowL_iff _).1 (of_eq_true (putB_low L)) x hx)
  have hC:∀ L:List Int,(hdrB s ++ putB L).length = 5 + s.name.size + 4 * L.length:=fun L => by rw [List.length_append,hh,putB_len]
  have hstep:∀ L N:List Int,hdrB s ++ putB L ++ putB N = hdrB s ++ putB (L ++ N):=fun L N => by rw [List.append_assoc,putB_app]
  have hE:encB s = hdrB s ++ putB ([s.start,(s.samples.length:Int),(s.gaps.length:Int)] ++ gapNs s.gaps ++ bitNs s.samples):=rfl
  generalize encB s = R at hE ⊢
  simp -implicitDefEqProofs (disch:=first|omega|(simp only [go_sem,seval];first|done|omega)) only [go_sem,seval]
  have hb3:([s.start,(s.samples.length:Int),(s.gaps.length:Int)]:List Int).length = 3:=rfl
  generalize [s.start,(s.samples.length:Int),(s.gaps.length:Int)] = base at hb3 hE ⊢
  refine loop_mk (α:=Nat) 0 (fun k => k ≤ s.gaps.length) (fun k => M ++ [.row true 1 (5 + 2 * k) (hdrB s ++ putB (base ++ gapNs (s.gaps.take k))),.row true 1 0 [.os M.length (5 + 2 * k) 0 (hdrB s ++ putB (base ++ gapNs (s.gaps.take k))).length]])
    (fun k => [(1,.fp (encSer s).cells),(5,.op (M.length + 1) 0 0 0),(6,.fn (.func 131) [] [.op (M.length + 1) 0 0 0]),(41,.fs (s.gaps.map encSpn)),(42,.I s.gaps.length),(43,.I k)]) (fun k => s.gaps.length - k) (Nat.zero_le _) ?_ rfl ?_
  · simp [gapNs]
  intro k hk
  by_cases hlt:k < s.gaps.length
  · obtain ⟨g,hg⟩:∃ g,s.gaps[k]? = some g:=⟨_,List.getElem?_eq_getElem hlt⟩
    have hsn:=gapNs_snoc hg
    have hgl2:=gapNs_len (s.gaps.take k)
    have htl:(s.gaps.take k).length = k:=by rw [List.length_take];omega
    have hcl2:(hdrB s ++ putB (base ++ gapNs (s.gaps.take k))).length = 5 + s.name.size + 4 * (3 + 2 * k):=by rw [hC,List.length_append,hb3,hgl2,htl]
    have hP2:=put_run (X:=X) [g.fr,g.to_] (by simp) (M0:=M) (E:=[.row true 2 0 [encSpn g]]) (v:=5 + 2 * k) (bs:=hdrB s ++ putB (base ++ gapNs (s.gaps.take k))) (by omega)
    rw [hstep,List.append_assoc,← hsn] at hP2
    have hlw:=hcl (base ++ gapNs (s.gaps.take (k + 1)))
    generalize hdrB s ++ putB (base ++ gapNs (s.gaps.take k)) = c at hP2 hcl2 ⊢
    simp -implicitDefEqProofs (disch:=first|omega|(simp only [go_sem,seval,hlt,hg,encSpn_cells,encSpn_eq];first|done|omega)) only [go_sem,seval,hlt,hg,encSpn_cells,encSpn_eq]
    refine callP_l hP2 ?_
    simp -implicitDefEqProofs (disch:=first|omega|(simp only [go_sem,seval,hlt,hg,encSpn_cells,encSpn_eq];first|done|omega)) only [go_sem,seval,hlt,hg,encSpn_cells,encSpn_eq]
    have hes:lowL (M.length + 2) (encSer s).cells = True:=by rw [encSer_cells];exact eq_true (by simp [lowL,PV.low,encF_low,encSpn_low])
    refine Wp_cut_at hM rfl 2 (by simp) (by first|done|(simp only [go_sem,seval,hlw,hlow,putB_low,hes,encSpn_low] <;> first|done|(refine ⟨?_,?_⟩ <;> omega)|omega)) (lowL_mk (by first|done|(simp only [go_sem,seval,hlw,hlow,putB_low,hes,encSpn_low] <;> first|done|(refine ⟨?_,?_⟩ <;> omega)|omega))) ?_
    simp -implicitDefEqProofs (disch:=first|omega|(simp only [go_sem,seval];first|done|omega)) only [go_sem,seval]
    exact again' (k + 1) (by omega) (by omega) rfl rfl
  have hkk:k = s.gaps.length:=by omega
  subst hkk
  rw [List.take_length]
  simp -implicitDefEqProofs (disch:=first|omega|(simp only [go_sem,seval,hlt,encSer_cells];first|done|omega)) only [go_sem,seval,hlt,encSer_cells]
  refine loop_mk (α:=Nat) 0 (fun j => j ≤ s.samples.length) (fun j => M ++ [.row true 1 (5 + (2 * s.gaps.length + j)) (hdrB s ++ putB (base ++ gapNs s.gaps ++ bitNs (s.samples.take j))),.row true 1 0 [.os M.length (5 + (2 * s.gaps.length + j)) 0 (hdrB s ++ putB (base ++ gapNs s.gaps ++ bitNs (s.samples.take j))).length]])
    (fun j => [(5,.op (M.length + 1) 0 0 0),(6,.fn (.func 131) [] [.op (M.length + 1) 0 0 0]),(56,.fs (s.samples.map encF)),(57,.I s.samples.length),(58,.I j)]) (fun j => s.samples.length - j) (Nat.zero_le _) ?_ rfl ?_
  · simp [bitNs]
  intro j hj
  by_cases hlt2:j < s.samples.length
  · obtain ⟨x,hx⟩:∃ x,s.samples[j]? = some x:=⟨_,List.getElem?_eq_getElem hlt2⟩
    have hxs:=hsm x (List.mem_of_getElem? hx)
    have hpl:=f_plus0 hxs
    have hbs:bitNs (s.samples.take (j + 1)) = bitNs (s.samples.take j) ++ [IntKind.i64.wrap (plus0 x)]:=by
      unfold bitNs
      exact take_snoc (f:=fun x => IntKind.i64.wrap (plus0 x:Int)) hx
    have hbl2:(bitNs (s.samples.take j)).length = j:=by unfold bitNs;rw [List.length_map,List.length_take];omega
    have hcl2:(hdrB s ++ putB (base ++ gapNs s.gaps ++ bitNs (s.samples.take j))).length = 5 + s.name.size + 4 * (3 + 2 * s.gaps.length + j):=by rw [hC,List.length_append,List.length_append,hb3,gapNs_len,hbl2]
    have hP2:=put_run (X:=X) [IntKind.i64.wrap (plus0 x)] (by simp) (M0:=M) (E:=[]) (v:=5 + (2 * s.gaps.length + j)) (bs:=hdrB s ++ putB (base ++ gapNs s.gaps ++ bitNs (s.samples.take j))) (by omega)
    have hb':base ++ gapNs s.gaps ++ bitNs (s.samples.take j) ++ [IntKind.i64.wrap (plus0 x)] = base ++ gapNs s.gaps ++ bitNs (s.samples.take (j + 1)):=by rw [hbs,List.append_assoc (base ++ gapNs s.gaps)]
    rw [hstep,hb'] at hP2
    have hlw:=hcl (base ++ gapNs s.gaps ++ bitNs (s.samples.take (j + 1)))
    generalize hdrB s ++ putB (base ++ gapNs s.gaps ++ bitNs (s.samples.take j)) = c at hP2 hcl2 ⊢
    simp -implicitDefEqProofs (disch:=first|omega|(simp only [go_sem,seval,hlt2,hx,r_sop,hpl];first|done|omega)) only [go_sem,seval,hlt2,hx,r_sop,hpl]
    refine callP_q (ACall_ext (hF (plus0 x) _)) ?_
    simp -implicitDefEqProofs (disch:=first|omega|(simp only [go_sem,seval];first|done|omega)) only [go_sem,seval]
    refine callP_l hP2 ?_
    simp -implicitDefEqProofs (disch:=first|omega|(simp only [go_sem,seval];first|done|omega)) only [go_sem,seval]
    refine Wp_cut_at hM rfl 2 (by simp) (by first|done|(simp only [go_sem,seval,hlw,hlow,putB_low,encF_low] <;> first|done|(refine ⟨?_,?_⟩ <;> omega)|omega)) (lowL_mk (by first|done|(simp only [go_sem,seval,hlw,hlow,putB_low,encF_low] <;> first|done|(refine ⟨?_,?_⟩ <;> omega)|omega))) ?_
    simp -implicitDefEqProofs (disch:=first|omega|(simp only [go_sem,seval];first|done|omega)) only [go_sem,seval]
    exact again' (j + 1) (by omega) (by omega) rfl rfl
  have hjj:j = s.samples.length:=by omega
  subst hjj
  rw [List.take_length]
  have hlw:=hcl (base ++ gapNs s.gaps ++ bitNs s.samples)
  rw [← hE] at hlw ⊢
  have hRt:R.take R.length = R:=List.take_length
  simp -implicitDefEqProofs (disch:=first|omega|(simp only [go_sem,seval,hlt2];first|done|omega)) only [go_sem,seval,hlt2]
  (first|refine post_fin ret_ok hM rfl ?_ ?_|refine post_fin0 ret_ok hM rfl ?_ ?_|refine post_fin normal_ok hM rfl ?_ ?_|refine post_fin0 normal_ok hM rfl ?_ ?_)
  · simp -implicitDefEqProofs (disch:=first|omega|(simp only [go_sem,seval,hRt];first|done|omega)) only [go_sem,seval,hRt]
  · (simp only [go_sem,seval,hlw,hRt] <;> first|done|omega)
theorem q_law01_farm:Q X 97 [] (encSte farmS):=by
  intro M
  (refine ACall_fn (cf:=L4.c97) rfl rfl fun hM hA => ?_;simp only [L4.c97,zO,zF,zT];rw [mk0];simp -implicitDefEqProofs (disch:=first|omega|(simp only [go_sem,seval,-List.reduceReplicate];first|done|omega)) only [go_sem,seval,-List.reduceReplicate])
  (first|refine post_fin ret_ok hM rfl ?_ ?_|refine post_fin0 ret_ok hM rfl ?_ ?_|refine post_fin normal_ok hM rfl ?_ ?_|refine post_fin0 normal_ok hM rfl ?_ ?_)
  · simp -implicitDefEqProofs (disch:=first|omega|(simp only [go_sem,seval,-List.reduceReplicate];first|done|omega)) only [go_sem,seval,-List.reduceReplicate]
    rfl
  · exact of_eq_true (encSte_low1 farmS)
theorem q_law01_wave:Q X 98 [] (encSer waveS):=by
  intro M
  (refine ACall_fn (cf:=L4.c98) rfl rfl fun hM hA => ?_;simp only [L4.c98,zO,zF,zT];rw [mk0];simp -implicitDefEqProofs (disch:=first|omega|(simp only [go_sem,seval,-List.reduceReplicate];first|done|omega)) only [go_sem,seval,-List.reduceReplicate])
  (first|refine post_fin ret_ok hM rfl ?_ ?_|refine post_fin0 ret_ok hM rfl ?_ ?_|refine post_fin normal_ok hM rfl ?_ ?_|refine post_fin0 normal_ok hM rfl ?_ ?_)
  · simp -implicitDefEqProofs (disch:=first|omega|(simp only [go_sem,seval,-List.reduceReplicate];first|done|omega)) only [go_sem,seval,-List.reduceReplicate]
    rfl
  · exact of_eq_true (encSer_low1 waveS)
theorem aw1 (hS:SortX X):Q X 19 [.fs (([⟨0,5⟩,⟨3,8⟩,⟨9,10⟩]:List Spn).map encSpn)] (.tup [.fs (([⟨0,8⟩,⟨9,10⟩]:List Spn).map encSpn),.I 0]):=by
  have h:=q_site_Canon (X:=X) hS [⟨0,5⟩,⟨3,8⟩,⟨9,10⟩] (by decide)
  rw [show chkAny [⟨0,5⟩,⟨3,8⟩,⟨9,10⟩] = 0 from by decide,if_pos rfl,aw_canon] at h
  exact h
theorem aw2:Q X 21 [.fs (([⟨0,8⟩,⟨9,10⟩]:List Spn).map encSpn)] (.tup [.I 9,.I 0]):=by
  have h:=q_site_Total (X:=X) [⟨0,8⟩,⟨9,10⟩] (by decide)
  rw [show chkSpns [⟨0,8⟩,⟨9,10⟩] = 0 from by decide,if_pos rfl,show totOf [⟨0,8⟩,⟨9,10⟩] = 9 from by decide] at h
  exact h
theorem aw3 (hS:SortX X):Q X 31 [.fs (([⟨0,8⟩,⟨9,10⟩]:List Spn).map encSpn),.fs (([⟨8,9⟩]:List Spn).map encSpn)] (.tup [.fs (([⟨0,10⟩]:List Spn).map encSpn),.I 0]):=by
  have h:=q_site_Join (X:=X) hS [⟨0,8⟩,⟨9,10⟩] [⟨8,9⟩] (by decide) (by decide)
  rw [aw_join] at h
  exact h
theorem aw4:Q X 33 [.fs (([⟨0,10⟩]:List Spn).map encSpn),.fs (([⟨3,5⟩]:List Spn).map encSpn)] (.tup [.fs (([⟨0,3⟩,⟨5,10⟩]:List Spn).map encSpn),.I 0]):=by
  have h:=q_site_Minus (X:=X) [⟨0,10⟩] [⟨3,5⟩] (by decide) (by decide)
  rw [aw_minus] at h
  exact h
theorem aw5:Q X 42 [encSte farmS] (.tup [.I 25,.I 0]):=by
  have h:=q_site_Spacing (X:=X) farmS (by decide)
  rw [show spcE farmS = 0 from by decide,if_pos rfl,farm_spc] at h
  exact h
theorem aw6:Q X 44 [encSte farmS,.I 1] (.tup [encSte (mvS (trnN 1) farmS),.I 0]):=by
  have h:=q_site_TurnSite (X:=X) farmS 1 (by decide)
  rw [show turnE farmS 1 = 0 from by decide,if_pos rfl] at h
  exact h
theorem aw9:Q X 64 [encSer waveS] (.tup [encSt ⟨6,144,1056964608,1077936128⟩,.I 0]):=by
  have h:=q_site_Summary (X:=X) waveS (by decide) (by decide)
  unfold sumOf sumE at h
  rw [if_pos wave_ok,if_pos wave_ok,wave_sum] at h
  exact h
theorem aw7 (hS:SortX X):Q X 57 [.I 2] (.tup [encPt ⟨-1,0⟩,.I 0]):=by
  have h:=q_site_Step (X:=X) 2
  rw [show stepOf 2 = ⟨-1,0⟩ from by decide,show rng 2 0 7 = 0 from by decide] at h
  exact h
theorem aw8 (hS:SortX X):Q X 57 [.I 0] (.tup [encPt ⟨0,-1⟩,.I 0]):=by
  have h:=q_site_Step (X:=X) 0
  rw [show stepOf 0 = ⟨0,-1⟩ from by decide,show rng 0 0 7 = 0 from by decide] at h
  exact h
theorem aw10:Q X 66 [encSer waveS,encF 1065353216,.I 1] (.tup [.fs (([⟨0,1⟩,⟨3,4⟩,⟨5,7⟩]:List Spn).map encSpn),.I 0]):=by
  have h:=q_site_Spells (X:=X) waveS 1065353216 1 (by decide) (by decide)
  unfold spellR spellL at h
  rw [show spellE waveS 1065353216 1 = 0 from by decide +kernel,if_pos rfl,wave_sp1,if_neg (by decide)] at h
  exact h
theorem aw11:Q X 66 [encSer waveS,encF 1065353216,.I 2] (.tup [.fs (([⟨5,7⟩]:List Spn).map encSpn),.I 0]):=by
  have h:=q_site_Spells (X:=X) waveS 1065353216 2 (by decide) (by decide)
  unfold spellR spellL at h
  rw [show spellE waveS 1065353216 2 = 0 from by decide +kernel,if_pos rfl,wave_sp2,if_neg (by decide)] at h
  exact h
def awRo:Rse:=incR (incR z408 7) (2 * 51 + 8)
theorem aw12:Q X 81 [encSer awA,encSer awB] (.tup [encRs awRo,.I 0]):=by
  have h:=q_site_Blown (X:=X) awA awB (by decide) (by decide) (by decide) (by decide)
  unfold blownR at h
  rw [aw_blownE,if_pos rfl,aw_blown] at h
  exact h
theorem aw14 (hI:ItoaX X) (hJ:JoinX X):Q X 92 [encSte farmS] (.tup [.s (.string (steTxt farmS)),.I 0]):=by
  have h:=q_site_Print (X:=X) hI hJ farmS (by decide)
  rw [farm_ok,if_pos rfl] at h
  exact h
theorem aw15 (hF:FbitsX X):Q X 88 [encSer waveS] (.tup [.fs (encB waveS),.I 0]):=by
  have h:=q_site_Encode (X:=X) hF waveS (by decide) (by decide)
  rw [wave_ok,if_pos rfl] at h
  exact h
theorem awRo_len:List.length awRo = 408:=by decide +kernel
theorem awRo_ok:chkRse awRo = 0:=by decide +kernel
theorem aw13:Q X 58 [encRs awRo,.I 1] (.tup [encRs (trnR awRo 1 8),.I 0]):=by
  have h:=q_site_TurnRose (X:=X) awRo 1 awRo_len
  rw [show trnE awRo 1 = 0 from by decide +kernel,if_pos rfl] at h
  exact h
theorem aw16:Q X 61 [encRs awRo] (.I 2):=by
  have h:=q_ref01_Quarters (X:=X) awRo awRo_len awRo_ok
  rw [show sumR awRo 408 = 2 from by decide +kernel] at h
  exact h
theorem at_cell {r:Rse} {i:Nat} {v:Int} (h:(r.drop i).take 1 = [v]):((r.map PV.I).drop i).take 1 = [PV.I v]:=by
  rw [← List.map_drop,← List.map_take,h];rfl
theorem r_7:(awRo.drop 7).take 1 = [1]:=by decide +kernel
theorem r_110:(awRo.drop 110).take 1 = [1]:=by decide +kernel
theorem u_109:((trnR awRo 1 8).drop 109).take 1 = [1]:=by decide +kernel
theorem u_212:((trnR awRo 1 8).drop 212).take 1 = [1]:=by decide +kernel
theorem same_self (l:List Spn) (h:l.length ≤ 1048576):Q X 39 [.fs (l.map encSpn),.fs (l.map encSpn)] (.B true):=by
  have:=q_ref01_SameSpans (X:=X) l l h
  simpa using this
theorem aw_turned:encSte (mvS (trnN 1) farmS) = .agg [.s (.string ⟨#[110,111,114,116,104]⟩),.I 5,.fs [.agg [.s (.string ⟨#[97]⟩),.I 0,.I 0],.agg [.s (.string ⟨#[98]⟩),.I 0,.I (-6)],.agg [.s (.string ⟨#[99]⟩),.I 4,.I (-3)]]]:=rfl
theorem aw_e0:(encB waveS).length = 57:=by decide +kernel
theorem aw_e4:(encB waveS).take 4 = bytesPV ⟨#[87,73,78,68]⟩:=by rfl
theorem aw_es:sized 1 (encB waveS) = true:=by decide +kernel
theorem aw_e29:(encB waveS)[29]? = some (u8 63):=by rfl
theorem aw_e30:(encB waveS)[30]? = some (u8 128):=by rfl
theorem aw_fl:eqCells [SK.flt,SK.flt] [encF 1056964608,encF 1077936128] [PV.s (Value.float FloatKind.f32 1056964608),PV.s (Value.float FloatKind.f32 1077936128)] = some true:=by
  have o1:(FloatKind.f32.format.order 1056964608 1056964608 == some .eq) = true:=by decide
  have o2:(FloatKind.f32.format.order 1077936128 1077936128 == some .eq) = true:=by decide
  rw [eqCells_flt,eqCells_flt,eqCells_nil]
  simp [o1,o2]
set_option maxHeartbeats 2000000 in
theorem q_law01_awake (hS:SortX X) (hI:ItoaX X) (hJ:JoinX X) (hF:FbitsX X):Q X 17 [] (.B true):=by
  intro M
  (refine ACall_fn (cf:=L4.c17) rfl rfl fun hM hA => ?_;simp only [L4.c17,zO,zF,zT];rw [mk0];simp -implicitDefEqProofs (disch:=first|omega|(simp only [go_sem,seval,-List.reduceReplicate];first|done|omega)) only [go_sem,seval,-List.reduceReplicate])
  refine callP_q (aw1 hS _) ?_
  simp -implicitDefEqProofs (disch:=first|omega|(simp only [go_sem,seval,-List.reduceReplicate];first|done|omega)) only [go_sem,seval,-List.reduceReplicate]
  refine callP_q (aw2 _) ?_
  simp -implicitDefEqProofs (disch:=first|omega|(simp only [go_sem,seval,-List.reduceReplicate];first|done|omega)) only [go_sem,seval,-List.reduceReplicate]
  refine callP_q (aw3 hS _) ?_
  simp -implicitDefEqProofs (disch:=first|omega|(simp only [go_sem,seval,-List.reduceReplicate];first|done|omega)) only [go_sem,seval,-List.reduceReplicate]
  refine callP_q (aw4 _) ?_
  simp -implicitDefEqProofs (disch:=first|omega|(simp only [go_sem,seval,-List.reduceReplicate];first|done|omega)) only [go_sem,seval,-List.reduceReplicate]
  refine callP_q (q_law01_farm _) ?_
  simp -implicitDefEqProofs (disch:=first|omega|(simp only [go_sem,seval,-List.reduceReplicate];first|done|omega)) only [go_sem,seval,-List.reduceReplicate]
  refine callP_q (aw5 _) ?_
  simp -implicitDefEqProofs (disch:=first|omega|(simp only [go_sem,seval,-List.reduceReplicate];first|done|omega)) only [go_sem,seval,-List.reduceReplicate]
  refine callP_q (q_law01_farm _) ?_
  simp -implicitDefEqProofs (disch:=first|omega|(simp only [go_sem,seval,-List.reduceReplicate];first|done|omega)) only [go_sem,seval,-List.reduceReplicate]
  refine callP_q (aw6 _) ?_
  simp -implicitDefEqProofs (disch:=first|omega|(simp only [go_sem,seval,-List.reduceReplicate,aw_turned];first|done|omega)) only [go_sem,seval,-List.reduceReplicate,aw_turned]
  refine callP_q (aw7 hS _) ?_
  simp -implicitDefEqProofs (disch:=first|omega|(simp only [go_sem,seval,-List.reduceReplicate,encPt_eq];first|done|omega)) only [go_sem,seval,-List.reduceReplicate,encPt_eq]
  refine callP_q (aw8 hS _) ?_
  simp -implicitDefEqProofs (disch:=first|omega|(simp only [go_sem,seval,-List.reduceReplicate,encPt_eq];first|done|omega)) only [go_sem,seval,-List.reduceReplicate,encPt_eq]
  refine callP_q (q_law01_wave _) ?_
  simp -implicitDefEqProofs (disch:=first|omega|(simp only [go_sem,seval,-List.reduceReplicate];first|done|omega)) only [go_sem,seval,-List.reduceReplicate]
  refine callP_q (aw9 _) ?_
  simp -implicitDefEqProofs (disch:=first|omega|(simp only [go_sem,seval,-List.reduceReplicate,encSt_eq];first|done|omega)) only [go_sem,seval,-List.reduceReplicate,encSt_eq]
  refine callP_q (q_law01_wave _) ?_
  simp -implicitDefEqProofs (disch:=first|omega|(simp only [go_sem,seval,-List.reduceReplicate];first|done|omega)) only [go_sem,seval,-List.reduceReplicate]
  refine callP_q (aw10 _) ?_
  simp -implicitDefEqProofs (disch:=first|omega|(simp only [go_sem,seval,-List.reduceReplicate];first|done|omega)) only [go_sem,seval,-List.reduceReplicate]
  refine callP_q (q_law01_wave _) ?_
  simp -implicitDefEqProofs (disch:=first|omega|(simp only [go_sem,seval,-List.reduceReplicate];first|done|omega)) only [go_sem,seval,-List.reduceReplicate]
  refine callP_q (aw11 _) ?_
  have hzI:=z408_I
  have hzl:(List.map PV.I z408).length = 408:=by rw [List.length_map];exact List.length_replicate
  have hzo:=ones_I z408
  have hzd:(List.map PV.I z408).drop 408 = []:=List.drop_of_length_le (by omega)
  generalize hZ:List.map PV.I z408 = Z at hzI hzl hzo hzd
  simp -implicitDefEqProofs (disch:=first|omega|(simp only [go_sem,seval,-List.reduceReplicate,hzI];first|done|omega)) only [go_sem,seval,-List.reduceReplicate,hzI]
  refine callP_q (aw12 _) ?_
  have hc:=cells_mk awRo_len
  have e12:encRs awRo = .agg (awRo.map PV.I):=rfl
  have h13:=aw13 (X:=X)
  rw [e12] at h13 ⊢
  have hcl:=hc.len
  have hct:=hc.tk
  have hco:=hc.one
  have k7:=at_cell r_7
  have k110:=at_cell r_110
  have h16:=aw16 (X:=X)
  rw [e12] at h16
  generalize awRo.map PV.I = cs at k7 k110 h16 hc hcl hct hco h13 ⊢
  have hcv:=hc.vw
  simp -implicitDefEqProofs (disch:=first|omega|(simp only [go_sem,seval,-List.reduceReplicate,hzI,hzl,hcl,hco,hct,hcv,hzd,putE_agg,List.append_nil];first|done|omega)) only [go_sem,seval,-List.reduceReplicate,hzI,hzl,hcl,hco,hct,hcv,hzd,putE_agg,List.append_nil]
  refine callP_q (h13 _) ?_
  have hc2:=cells_mk (r:=trnR awRo 1 8) (trnR_len awRo_len (Nat.le_refl _))
  have e13:encRs (trnR awRo 1 8) = .agg ((trnR awRo 1 8).map PV.I):=rfl
  rw [e13]
  have hcl2:=hc2.len
  have hct2:=hc2.tk
  have hco2:=hc2.one
  have hcv2:=hc2.vw
  have k109:=at_cell u_109
  have k212:=at_cell u_212
  generalize (trnR awRo 1 8).map PV.I = ds at k109 k212 hc2 hcl2 hct2 hco2 hcv2 ⊢
  simp -implicitDefEqProofs (disch:=first|omega|(simp only [go_sem,seval,-List.reduceReplicate,hzI,hzl,hcl2,hco2,hct2,hcv2,hzd,putE_agg,List.append_nil];first|done|omega)) only [go_sem,seval,-List.reduceReplicate,hzI,hzl,hcl2,hco2,hct2,hcv2,hzd,putE_agg,List.append_nil]
  refine callP_q (q_law01_farm _) ?_
  simp -implicitDefEqProofs (disch:=first|omega|(simp only [go_sem,seval,-List.reduceReplicate];first|done|omega)) only [go_sem,seval,-List.reduceReplicate]
  refine callP_q (aw14 hI hJ _) ?_
  simp -implicitDefEqProofs (disch:=first|omega|(simp only [go_sem,seval,-List.reduceReplicate];first|done|omega)) only [go_sem,seval,-List.reduceReplicate]
  refine callP_q (q_law01_wave _) ?_
  simp -implicitDefEqProofs (disch:=first|omega|(simp only [go_sem,seval,-List.reduceReplicate];first|done|omega)) only [go_sem,seval,-List.reduceReplicate]
  refine callP_q (aw15 hF _) ?_
  have hEl:=aw_e0
  have hE4:=aw_e4
  have hEs:=aw_es
  have hE29:=aw_e29
  have hE30:=aw_e30
  generalize encB waveS = eb at hEl hE4 hEs hE29 hE30 ⊢
  simp -implicitDefEqProofs (disch:=first|omega|(simp only [go_sem,seval,-List.reduceReplicate,aw_turned,hEl];first|done|omega)) only [go_sem,seval,-List.reduceReplicate,aw_turned,hEl]
  refine callP_q (same_self [⟨0,8⟩,⟨9,10⟩] (by decide) _) ?_
  simp -implicitDefEqProofs (disch:=first|omega|(simp only [go_sem,seval,-List.reduceReplicate,aw_turned,hEl];first|done|omega)) only [go_sem,seval,-List.reduceReplicate,aw_turned,hEl]
  refine callP_q (same_self [⟨0,10⟩] (by decide) _) ?_
  simp -implicitDefEqProofs (disch:=first|omega|(simp only [go_sem,seval,-List.reduceReplicate,aw_turned,hEl];first|done|omega)) only [go_sem,seval,-List.reduceReplicate,aw_turned,hEl]
  refine callP_q (same_self [⟨0,3⟩,⟨5,10⟩] (by decide) _) ?_
  have hfl:=aw_fl
  simp -implicitDefEqProofs (disch:=first|omega|(simp only [go_sem,seval,-List.reduceReplicate,aw_turned,hEl,hfl];first|done|omega)) only [go_sem,seval,-List.reduceReplicate,aw_turned,hEl,hfl]
  refine callP_q (same_self [⟨0,1⟩,⟨3,4⟩,⟨5,7⟩] (by decide) _) ?_
  simp -implicitDefEqProofs (disch:=first|omega|(simp only [go_sem,seval,-List.reduceReplicate,aw_turned,hEl,hfl];first|done|omega)) only [go_sem,seval,-List.reduceReplicate,aw_turned,hEl,hfl]
  refine callP_q (same_self [⟨5,7⟩] (by decide) _) ?_
  simp -implicitDefEqProofs (disch:=first|omega|(simp only [go_sem,seval,-List.reduceReplicate,aw_turned,hEl,hfl,k7,k110,k109,k212,hcl,hct,hcv,hcl2];first|done|omega)) only [go_sem,seval,-List.reduceReplicate,aw_turned,hEl,hfl,k7,k110,k109,k212,hcl,hct,hcv,hcl2]
  refine callP_q (h16 _) ?_
  simp -implicitDefEqProofs (disch:=first|omega|(simp only [go_sem,seval,-List.reduceReplicate,aw_turned,aw_print,hEl,hE4,hEs,hE29,hE30,hfl,k7,k110,k109,k212,hcl,hct,hcv,hcl2,hct2,bin_strEq];first|done|omega)) only [go_sem,seval,-List.reduceReplicate,aw_turned,aw_print,hEl,hE4,hEs,hE29,hE30,hfl,k7,k110,k109,k212,hcl,hct,hcv,hcl2,hct2,bin_strEq]
  (all_goals (first|refine post_fin ret_ok hM rfl ?_ ?_|refine post_fin0 ret_ok hM rfl ?_ ?_|refine post_fin normal_ok hM rfl ?_ ?_|refine post_fin0 normal_ok hM rfl ?_ ?_);all_goals first|(simp only [go_sem,seval,-List.reduceReplicate] <;> first|done|omega)|skip;all_goals (try simp -implicitDefEqProofs (disch:=first|omega|(simp only [go_sem,seval,-List.reduceReplicate];first|done|omega)) only [go_sem,seval,-List.reduceReplicate]))
/-- The comparison of spans, and what it calls. -/
def Fc:Prog
  | 148 => some c148
  | 149 => some c149
  | 168 => some c168
  | _ => none
abbrev Qc (f:FuncId) (args:List PV) (r:PV):Prop:=∀ M,ACall Fc (fun _ _ _ _ _ => False) (.fn f) args M r M
theorem qc_isNaN (x:Int):Qc 168 [.I x] (.B false):=by
  intro M
  (refine ACall_fn (cf:=L4.c168) rfl rfl fun hM hA => ?_;simp only [L4.c168,zO,zF,zT];rw [mk1 _ (by decide)];simp -implicitDefEqProofs (disch:=first|omega|(simp only [go_sem,seval];first|done|omega)) only [go_sem,seval])
  (all_goals (first|refine post_fin ret_ok hM rfl ?_ ?_|refine post_fin0 ret_ok hM rfl ?_ ?_|refine post_fin normal_ok hM rfl ?_ ?_|refine post_fin0 normal_ok hM rfl ?_ ?_);all_goals first|(simp only [go_sem,seval] <;> first|done|omega)|skip;all_goals (try simp -implicitDefEqProofs (disch:=first|omega|(simp only [go_sem,seval];first|done|omega)) only [go_sem,seval]))
  all_goals simp
theorem qc_Compare (x y:Int):Qc 149 [.I x,.I y] (.I (if x < y then -1 else if y < x then 1 else 0)):=by
  intro M
  (refine ACall_fn (cf:=L4.c149) rfl rfl fun hM hA => ?_;simp only [L4.c149,zO,zF,zT];rw [mk2 _ (by decide)];simp -implicitDefEqProofs (disch:=first|omega|(simp only [go_sem,seval];first|done|omega)) only [go_sem,seval])
  refine callP_q (qc_isNaN x _) ?_
  simp -implicitDefEqProofs (disch:=first|omega|(simp only [go_sem,seval];first|done|omega)) only [go_sem,seval]
  refine callP_q (qc_isNaN y _) ?_
  simp -implicitDefEqProofs (disch:=first|omega|(simp only [go_sem,seval];first|done|omega)) only [go_sem,seval]
  by_cases h1:x < y
  · simp -implicitDefEqProofs (disch:=first|omega|(simp only [go_sem,seval,h1];first|done|omega)) only [go_sem,seval,h1]
    (all_goals (first|refine post_fin ret_ok hM rfl ?_ ?_|refine post_fin0 ret_ok hM rfl ?_ ?_|refine post_fin normal_ok hM rfl ?_ ?_|refine post_fin0 normal_ok hM rfl ?_ ?_);all_goals first|(simp only [go_sem,seval] <;> first|done|omega)|skip;all_goals (try simp -implicitDefEqProofs (disch:=first|omega|(simp only [go_sem,seval];first|done|omega)) only [go_sem,seval]))
  · by_cases h2:y < x
    · simp -implicitDefEqProofs (disch:=first|omega|(simp only [go_sem,seval,h1,h2];first|done|omega)) only [go_sem,seval,h1,h2]
      (all_goals (first|refine post_fin ret_ok hM rfl ?_ ?_|refine post_fin0 ret_ok hM rfl ?_ ?_|refine post_fin normal_ok hM rfl ?_ ?_|refine post_fin0 normal_ok hM rfl ?_ ?_);all_goals first|(simp only [go_sem,seval] <;> first|done|omega)|skip;all_goals (try simp -implicitDefEqProofs (disch:=first|omega|(simp only [go_sem,seval];first|done|omega)) only [go_sem,seval]))
    · simp -implicitDefEqProofs (disch:=first|omega|(simp only [go_sem,seval,h1,h2];first|done|omega)) only [go_sem,seval,h1,h2]
      (all_goals (first|refine post_fin ret_ok hM rfl ?_ ?_|refine post_fin0 ret_ok hM rfl ?_ ?_|refine post_fin normal_ok hM rfl ?_ ?_|refine post_fin0 normal_ok hM rfl ?_ ?_);all_goals first|(simp only [go_sem,seval] <;> first|done|omega)|skip;all_goals (try simp -implicitDefEqProofs (disch:=first|omega|(simp only [go_sem,seval];first|done|omega)) only [go_sem,seval]))
theorem qc_canon (x y:Spn):Qc 148 [encSpn x,encSpn y] (.I (spnCmp x y)):=by
  intro M
  (refine ACall_fn (cf:=L4.c148) rfl rfl fun hM hA => ?_;simp only [L4.c148,zO,zF,zT];rw [mk2 _ (by decide)];simp -implicitDefEqProofs (disch:=first|omega|(simp only [go_sem,seval,encSpn_eq];first|done|omega)) only [go_sem,seval,encSpn_eq])
  refine callP_q (qc_Compare x.fr y.fr _) ?_
  have e:spnCmp x y = if x.fr < y.fr then -1 else if y.fr < x.fr then 1 else 0:=rfl
  rw [e]
  simp -implicitDefEqProofs (disch:=first|omega|(simp only [go_sem,seval];first|done|omega)) only [go_sem,seval]
  (all_goals (first|refine post_fin ret_ok hM rfl ?_ ?_|refine post_fin0 ret_ok hM rfl ?_ ?_|refine post_fin normal_ok hM rfl ?_ ?_|refine post_fin0 normal_ok hM rfl ?_ ?_);all_goals first|(simp only [go_sem,seval] <;> first|done|omega)|skip;all_goals (try simp -implicitDefEqProofs (disch:=first|omega|(simp only [go_sem,seval];first|done|omega)) only [go_sem,seval]))
theorem q_ref01_CheckRose (r:Rse) (hl:r.length = 408):Q X 56 [encRs r] (.I (chkRse r)):=by
  have hc:=cells_mk hl
  have e:encRs r = .agg (r.map .I):=rfl
  rw [e]
  clear e
  generalize r.map PV.I = cs at hc ⊢
  generalize (fun k => (blk r k).map PV.I) = bk at hc
  intro M
  have hcl:=hc.len
  have hct:=hc.tk
  have hvw:=hc.vw
  (refine ACall_fn (cf:=L4.c56) rfl rfl fun hM hA => ?_;simp only [L4.c56,zO,zF,zT];rw [mk1 _ (by decide)];simp -implicitDefEqProofs (disch:=first|omega|(simp only [go_sem,seval,-List.reduceReplicate,hcl,hct,hvw];first|done|omega)) only [go_sem,seval,-List.reduceReplicate,hcl,hct,hvw])
  refine loop_mk (α:=Nat) 0 (fun k => k ≤ 8 ∧ chkRse r = fst0 ((r.map fun n => rng n 0 40000).drop (k * 51))) (fun _ => M) (fun k => [(1,.fp cs),(3,.I k)]) (fun k => 8 - k) ⟨by decide,by simp [chkRse]⟩ rfl rfl ?_
  rintro k ⟨hk,hs⟩
  by_cases hlt:k < 8
  case neg =>
    have f1:((k:Int) < 8) = False:=eq_false (by omega)
    simp -implicitDefEqProofs (disch:=first|omega|(simp only [go_sem,seval,-List.reduceReplicate,f1];first|done|omega)) only [go_sem,seval,-List.reduceReplicate,f1]
    (first|refine post_fin ret_ok hM rfl ?_ ?_|refine post_fin0 ret_ok hM rfl ?_ ?_|refine post_fin normal_ok hM rfl ?_ ?_|refine post_fin0 normal_ok hM rfl ?_ ?_)
    · simp -implicitDefEqProofs (disch:=first|omega|(simp only [go_sem,seval,-List.reduceReplicate];first|done|omega)) only [go_sem,seval,-List.reduceReplicate]
      rw [hs,List.drop_of_length_le (by rw [List.length_map,hl];omega)];rfl
    · (simp only [go_sem,seval,-List.reduceReplicate] <;> first|done|omega)
  have f1:((k:Int) < 8) = True:=eq_true (by omega)
  have f1':(k < 8) = True:=eq_true hlt
  have hdr:=hc.drop k hlt
  have hbl:=hc.blen k hlt
  simp -implicitDefEqProofs (disch:=first|omega|(simp only [go_sem,seval,-List.reduceReplicate,f1];first|done|omega)) only [go_sem,seval,-List.reduceReplicate,f1]
  refine loop_mk (α:=Nat) 0 (fun v => v ≤ 51 ∧ chkRse r = fst0 ((r.map fun n => rng n 0 40000).drop (k * 51 + v))) (fun _ => M) (fun v => [(1,.fp cs),(3,.I k),(4,.I v)]) (fun v => 51 - v) ⟨by decide,hs⟩ rfl rfl ?_
  rintro v ⟨hv,hs2⟩
  by_cases hvl:v < 51
  · have f2:((v:Int) ≤ 50) = True:=eq_true (by omega)
    have f2':(v < 51) = True:=eq_true hvl
    obtain ⟨x,hx⟩:∃ x,r[k * 51 + v]? = some x:=⟨_,List.getElem?_eq_getElem (by omega)⟩
    have hd:=fst0_drop (r.map fun n => rng n 0 40000) (k * 51 + v) (rng x 0 40000) (by rw [List.getElem?_map,hx];rfl)
    have hbg:=hc.bget k v x hlt hvl hx
    have hb1:((bk k).drop v).take 1 = [PV.I x]:=by
      obtain ⟨q1,q2⟩:=List.getElem?_eq_some_iff.1 hbg
      rw [List.drop_eq_getElem_cons q1,q2];rfl
    simp -implicitDefEqProofs (disch:=first|omega|(simp only [go_sem,seval,-List.reduceReplicate,f1,f1',f2,f2',hcl,hdr,hbl,hb1,Nat.mul_one];first|done|omega)) only [go_sem,seval,-List.reduceReplicate,f1,f1',f2,f2',hcl,hdr,hbl,hb1,Nat.mul_one]
    refine callP_q (q_ref01_CheckRange _ _ _ _) ?_
    by_cases hg:rng x 0 40000 = 0
    · rw [if_pos hg] at hd
      simp -implicitDefEqProofs (disch:=first|omega|(simp only [go_sem,seval,-List.reduceReplicate,hg];first|done|omega)) only [go_sem,seval,-List.reduceReplicate,hg]
      exact again' (v + 1) ⟨by omega,by rw [hs2,hd];rfl⟩ (by omega) rfl rfl
    · rw [if_neg hg] at hd
      have h3:=(rng_cases x 0 40000).resolve_left hg
      simp -implicitDefEqProofs (disch:=first|omega|(simp only [go_sem,seval,-List.reduceReplicate,hg];first|done|omega)) only [go_sem,seval,-List.reduceReplicate,hg]
      (first|refine post_fin ret_ok hM rfl ?_ ?_|refine post_fin0 ret_ok hM rfl ?_ ?_|refine post_fin normal_ok hM rfl ?_ ?_|refine post_fin0 normal_ok hM rfl ?_ ?_)
      · simp -implicitDefEqProofs (disch:=first|omega|(simp only [go_sem,seval,-List.reduceReplicate];first|done|omega)) only [go_sem,seval,-List.reduceReplicate]
        rw [hs2,hd,h3]
      · (simp only [go_sem,seval,-List.reduceReplicate] <;> first|done|omega)
  have f2:((v:Int) ≤ 50) = False:=eq_false (by omega)
  have hv51:v = 51:=by omega
  subst hv51
  simp -implicitDefEqProofs (disch:=first|omega|(simp only [go_sem,seval,-List.reduceReplicate,f2];first|done|omega)) only [go_sem,seval,-List.reduceReplicate,f2]
  exact again' (k + 1) ⟨by omega,by rw [hs2,Nat.succ_mul]⟩ (by omega) rfl rfl
theorem q_law01_given (s:Ste) (hl:s.tbs.length ≤ 1048576):Q X 43 [encSte s] (encSte s):=by
  obtain ⟨nm,least,l⟩:=s
  simp only at hl ⊢
  have e:encSte ⟨nm,least,l⟩ = .agg [.s (.string nm),.I least,.fs (l.map encTb)]:=rfl
  rw [e]
  clear e
  intro M
  have hz:zSte = .agg [.s (.string ⟨#[]⟩),.I 0,.s (.slice none 0 0)]:=rfl
  (refine ACall_fn (cf:=L4.c43) rfl rfl fun hM hA => ?_;simp only [L4.c43,zO,zF,zT];rw [mk1 _ (by decide)];simp -implicitDefEqProofs (disch:=first|omega|(simp only [go_sem,seval,ownR_agg];first|done|omega)) only [go_sem,seval,ownR_agg])
  refine loop_mk (α:=Nat) 0 (fun k => k ≤ l.length) (fun k => M ++ [.row true 3 0 [zSte],.row true 3 0 [.agg [.s (.string nm),.I least,.os (M.length + 2) (l.take k).length 0 (l.take k).length]],.row true 3 (l.take k).length ((l.take k).map encTb)])
    (fun k => [(2,.op M.length 0 0 0),(3,.op (M.length + 1) 0 0 0),(12,.fs (l.map encTb)),(13,.I l.length),(14,.I k)]) (fun k => l.length - k) (Nat.zero_le _) rfl rfl ?_
  intro k hk
  by_cases hlt:k < l.length
  · obtain ⟨x,hx⟩:∃ x,l[k]? = some x:=⟨_,List.getElem?_eq_getElem hlt⟩
    have htl:(l.take k).length = k:=by rw [List.length_take];omega
    have hs:l.take (k + 1) = l.take k ++ [x]:=by
      obtain ⟨h3,h4⟩:=List.getElem?_eq_some_iff.1 hx
      rw [List.take_succ_eq_append_getElem h3,h4]
    have again:∀ o:List Tb,l.take (k + 1) = o → Again 26 (fun k => k ≤ l.length) (fun k => M ++ [.row true 3 0 [zSte],.row true 3 0 [.agg [.s (.string nm),.I least,.os (M.length + 2) (l.take k).length 0 (l.take k).length]],.row true 3 (l.take k).length ((l.take k).map encTb)])
      (fun k => [(2,.op M.length 0 0 0),(3,.op (M.length + 1) 0 0 0),(12,.fs (l.map encTb)),(13,.I l.length),(14,.I k)]) (fun k => l.length - k) k
      (M ++ [.row true 3 0 [zSte],.row true 3 0 [.agg [.s (.string nm),.I least,.os (M.length + 2) o.length 0 o.length]],.row true 3 o.length (o.map encTb)]) (mk 26 [(2,.op M.length 0 0 0),(3,.op (M.length + 1) 0 0 0),(12,.fs (l.map encTb)),(13,.I l.length),(14,.I (k + 1))]):=by
      rintro o rfl
      exact again' (k + 1) (by omega) (by omega) rfl rfl
    rw [hs] at again
    clear hs
    generalize l.take k = o at htl again ⊢
    have f0:((k:Int) < l.length) = True:=eq_true (by omega)
    simp -implicitDefEqProofs (disch:=first|omega|(simp only [go_sem,seval,hlt,f0,hx,encTb_cells,encTb_eq];first|done|omega)) only [go_sem,seval,hlt,f0,hx,encTb_cells,encTb_eq]
    refine Wp_cut_at hM rfl 3 (by simp) (by first|done|(simp only [go_sem,seval,encTb_low,zSte_low] <;> first|done|(refine ⟨?_,?_⟩ <;> omega)|omega)) (lowL_mk (by first|done|(simp only [go_sem,seval,encTb_low,zSte_low] <;> first|done|(refine ⟨?_,?_⟩ <;> omega)|omega))) ?_
    simp -implicitDefEqProofs (disch:=first|omega|(simp only [go_sem,seval];first|done|omega)) only [go_sem,seval]
    simpa [encTb] using again _ rfl
  · simp -implicitDefEqProofs (disch:=first|omega|(simp only [go_sem,seval,hlt];first|done|omega)) only [go_sem,seval,hlt]
    rw [List.take_of_length_le (by omega)]
    simp -implicitDefEqProofs (disch:=first|omega|(simp only [go_sem,seval,hz];first|done|omega)) only [go_sem,seval,hz]
    (first|refine post_fin ret_ok hM rfl ?_ ?_|refine post_fin0 ret_ok hM rfl ?_ ?_|refine post_fin normal_ok hM rfl ?_ ?_|refine post_fin0 normal_ok hM rfl ?_ ?_)
    · simp -implicitDefEqProofs (disch:=first|omega|(simp only [go_sem,seval];first|done|omega)) only [go_sem,seval]
      rw [List.take_of_length_le (by rw [List.length_map];omega)]
    · (simp only [go_sem,seval,encTb_low] <;> first|done|omega)
theorem q_law01_own (s:Ste) (hl:s.tbs.length ≤ 1048576):Q X 55 [encSte s] (encSte s):=by
  obtain ⟨nm,least,l⟩:=s
  simp only at hl ⊢
  have e:encSte ⟨nm,least,l⟩ = .agg [.s (.string nm),.I least,.fs (l.map encTb)]:=rfl
  rw [e]
  clear e
  intro M
  have hz:zSte = .agg [.s (.string ⟨#[]⟩),.I 0,.s (.slice none 0 0)]:=rfl
  (refine ACall_fn (cf:=L4.c55) rfl rfl fun hM hA => ?_;simp only [L4.c55,zO,zF,zT];rw [mk1 _ (by decide)];simp -implicitDefEqProofs (disch:=first|omega|(simp only [go_sem,seval,ownR_agg];first|done|omega)) only [go_sem,seval,ownR_agg])
  refine loop_mk (α:=Nat) 0 (fun k => k ≤ l.length) (fun k => M ++ [.row true 3 0 [zSte],.row true 3 0 [.agg [.s (.string nm),.I least,.os (M.length + 2) (l.take k).length 0 (l.take k).length]],.row true 3 (l.take k).length ((l.take k).map encTb)])
    (fun k => [(2,.op M.length 0 0 0),(3,.op (M.length + 1) 0 0 0),(12,.fs (l.map encTb)),(13,.I l.length),(14,.I k)]) (fun k => l.length - k) (Nat.zero_le _) rfl rfl ?_
  intro k hk
  by_cases hlt:k < l.length
  · obtain ⟨x,hx⟩:∃ x,l[k]? = some x:=⟨_,List.getElem?_eq_getElem hlt⟩
    have htl:(l.take k).length = k:=by rw [List.length_take];omega
    have hs:l.take (k + 1) = l.take k ++ [x]:=by
      obtain ⟨h3,h4⟩:=List.getElem?_eq_some_iff.1 hx
      rw [List.take_succ_eq_append_getElem h3,h4]
    have again:∀ o:List Tb,l.take (k + 1) = o → Again 26 (fun k => k ≤ l.length) (fun k => M ++ [.row true 3 0 [zSte],.row true 3 0 [.agg [.s (.string nm),.I least,.os (M.length + 2) (l.take k).length 0 (l.take k).length]],.row true 3 (l.take k).length ((l.take k).map encTb)])
      (fun k => [(2,.op M.length 0 0 0),(3,.op (M.length + 1) 0 0 0),(12,.fs (l.map encTb)),(13,.I l.length),(14,.I k)]) (fun k => l.length - k) k
      (M ++ [.row true 3 0 [zSte],.row true 3 0 [.agg [.s (.string nm),.I least,.os (M.length + 2) o.length 0 o.length]],.row true 3 o.length (o.map encTb)]) (mk 26 [(2,.op M.length 0 0 0),(3,.op (M.length + 1) 0 0 0),(12,.fs (l.map encTb)),(13,.I l.length),(14,.I (k + 1))]):=by
      rintro o rfl
      exact again' (k + 1) (by omega) (by omega) rfl rfl
    rw [hs] at again
    clear hs
    generalize l.take k = o at htl again ⊢
    have f0:((k:Int) < l.length) = True:=eq_true (by omega)
    simp -implicitDefEqProofs (disch:=first|omega|(simp only [go_sem,seval,hlt,f0,hx,encTb_cells,encTb_eq];first|done|omega)) only [go_sem,seval,hlt,f0,hx,encTb_cells,encTb_eq]
    refine Wp_cut_at hM rfl 3 (by simp) (by first|done|(simp only [go_sem,seval,encTb_low,zSte_low] <;> first|done|(refine ⟨?_,?_⟩ <;> omega)|omega)) (lowL_mk (by first|done|(simp only [go_sem,seval,encTb_low,zSte_low] <;> first|done|(refine ⟨?_,?_⟩ <;> omega)|omega))) ?_
    simp -implicitDefEqProofs (disch:=first|omega|(simp only [go_sem,seval];first|done|omega)) only [go_sem,seval]
    simpa [encTb] using again _ rfl
  · simp -implicitDefEqProofs (disch:=first|omega|(simp only [go_sem,seval,hlt];first|done|omega)) only [go_sem,seval,hlt]
    rw [List.take_of_length_le (by omega)]
    simp -implicitDefEqProofs (disch:=first|omega|(simp only [go_sem,seval,hz];first|done|omega)) only [go_sem,seval,hz]
    (first|refine post_fin ret_ok hM rfl ?_ ?_|refine post_fin0 ret_ok hM rfl ?_ ?_|refine post_fin normal_ok hM rfl ?_ ?_|refine post_fin0 normal_ok hM rfl ?_ ?_)
    · simp -implicitDefEqProofs (disch:=first|omega|(simp only [go_sem,seval];first|done|omega)) only [go_sem,seval]
      rw [List.take_of_length_le (by rw [List.length_map];omega)]
    · (simp only [go_sem,seval,encTb_low] <;> first|done|omega)
def shortS (s:Ste):Bool:=decide (s.name.size ≤ 60) && (decide (s.tbs.length ≤ 10) || decide (s.tbs.length = 65)) && s.tbs.all fun t => decide (t.name.size ≤ 60)
theorem q_ref01_ShortSite (s:Ste):Q X 41 [encSte s,.I 10] (.B (shortS s)):=by
  obtain ⟨nm,least,l⟩:=s
  have e:encSte ⟨nm,least,l⟩ = .agg [.s (.string nm),.I least,.fs (l.map encTb)]:=rfl
  rw [e]
  clear e
  unfold shortS
  simp only
  intro M
  by_cases h1:nm.size ≤ 60
  case neg =>
    have f1:((60:Int) < nm.size) = True:=eq_true (by omega)
    (refine ACall_fn (cf:=L4.c41) rfl rfl fun hM hA => ?_;simp only [L4.c41,zO,zF,zT];rw [mk2 _ (by decide)];simp -implicitDefEqProofs (disch:=first|omega|(simp only [go_sem,seval,f1];first|done|omega)) only [go_sem,seval,f1])
    (first|refine post_fin ret_ok hM rfl ?_ ?_|refine post_fin0 ret_ok hM rfl ?_ ?_|refine post_fin normal_ok hM rfl ?_ ?_|refine post_fin0 normal_ok hM rfl ?_ ?_)
    · simp -implicitDefEqProofs (disch:=first|omega|(simp only [go_sem,seval];first|done|omega)) only [go_sem,seval]
      rw [decide_eq_false h1];rfl
    · (simp only [go_sem,seval] <;> first|done|omega)
  have f1:((60:Int) < nm.size) = False:=eq_false (by omega)
  rw [decide_eq_true h1,Bool.true_and]
  by_cases h2:l.length ≤ 10 ∨ l.length = 65
  case neg =>
    have f2:((10:Int) < l.length) = True:=eq_true (by omega)
    have f3:((l.length:Int) = 65) = False:=eq_false (by omega)
    (refine ACall_fn (cf:=L4.c41) rfl rfl fun hM hA => ?_;simp only [L4.c41,zO,zF,zT];rw [mk2 _ (by decide)];simp -implicitDefEqProofs (disch:=first|omega|(simp only [go_sem,seval,f1,f2,f3];first|done|omega)) only [go_sem,seval,f1,f2,f3])
    (first|refine post_fin ret_ok hM rfl ?_ ?_|refine post_fin0 ret_ok hM rfl ?_ ?_|refine post_fin normal_ok hM rfl ?_ ?_|refine post_fin0 normal_ok hM rfl ?_ ?_)
    · simp -implicitDefEqProofs (disch:=first|omega|(simp only [go_sem,seval];first|done|omega)) only [go_sem,seval]
      rw [decide_eq_false (show ¬ l.length ≤ 10 from by omega),decide_eq_false (show ¬ l.length = 65 from by omega)];rfl
    · (simp only [go_sem,seval] <;> first|done|omega)
  have h3:(decide (l.length ≤ 10) || decide (l.length = 65)) = true:=by rcases h2 with h|h <;> simp [h]
  rw [h3,Bool.true_and]
  (refine ACall_fn (cf:=L4.c41) rfl rfl fun hM hA => ?_;simp only [L4.c41,zO,zF,zT];rw [mk2 _ (by decide)];simp -implicitDefEqProofs (disch:=first|omega|(simp only [go_sem,seval,f1];first|done|omega)) only [go_sem,seval,f1])
  have hc:((10:Int) < l.length ∧ ¬ (l.length:Int) = 65) = False:=eq_false (by omega)
  by_cases h4:(10:Int) < l.length
  · have f3:((l.length:Int) = 65) = True:=eq_true (by omega)
    simp -implicitDefEqProofs (disch:=first|omega|(simp only [go_sem,seval,h4,f3];first|done|omega)) only [go_sem,seval,h4,f3]
    refine loop_mk (α:=Nat) 0 (fun k => k ≤ l.length ∧ (l.take k).all (fun t => decide (t.name.size ≤ 60)) = true) (fun _ => M) (fun k => [(2,.fp [.s (.string nm),.I least,.fs (l.map encTb)]),(5,.I k)]) (fun k => l.length - k) ⟨Nat.zero_le _,rfl⟩ rfl rfl ?_
    rintro k ⟨hk,hs⟩
    by_cases hlt:k < l.length
    · obtain ⟨x,hx⟩:∃ x,l[k]? = some x:=⟨_,List.getElem?_eq_getElem hlt⟩
      simp -implicitDefEqProofs (disch:=first|omega|(simp only [go_sem,seval,hlt,hx,encTb_cells,encTb_eq];first|done|omega)) only [go_sem,seval,hlt,hx,encTb_cells,encTb_eq]
      by_cases hn:x.name.size ≤ 60
      · have fn:((60:Int) < x.name.size) = False:=eq_false (by omega)
        simp -implicitDefEqProofs (disch:=first|omega|(simp only [go_sem,seval,fn];first|done|omega)) only [go_sem,seval,fn]
        refine again' (k + 1) ⟨by omega,?_⟩ (by omega) rfl rfl
        obtain ⟨g3,g4⟩:=List.getElem?_eq_some_iff.1 hx
        rw [List.take_succ_eq_append_getElem g3,g4,List.all_append,hs];simp [hn]
      · have fn:((60:Int) < x.name.size) = True:=eq_true (by omega)
        simp -implicitDefEqProofs (disch:=first|omega|(simp only [go_sem,seval,fn];first|done|omega)) only [go_sem,seval,fn]
        (first|refine post_fin ret_ok hM rfl ?_ ?_|refine post_fin0 ret_ok hM rfl ?_ ?_|refine post_fin normal_ok hM rfl ?_ ?_|refine post_fin0 normal_ok hM rfl ?_ ?_)
        · simp -implicitDefEqProofs (disch:=first|omega|(simp only [go_sem,seval];first|done|omega)) only [go_sem,seval]
          congr 1;symm
          rw [List.all_eq_false]
          exact ⟨x,List.mem_of_getElem? hx,by simpa using hn⟩
        · (simp only [go_sem,seval] <;> first|done|omega)
    · simp -implicitDefEqProofs (disch:=first|omega|(simp only [go_sem,seval,hlt];first|done|omega)) only [go_sem,seval,hlt]
      (first|refine post_fin ret_ok hM rfl ?_ ?_|refine post_fin0 ret_ok hM rfl ?_ ?_|refine post_fin normal_ok hM rfl ?_ ?_|refine post_fin0 normal_ok hM rfl ?_ ?_)
      · simp -implicitDefEqProofs (disch:=first|omega|(simp only [go_sem,seval];first|done|omega)) only [go_sem,seval]
        rw [List.take_of_length_le (by omega)] at hs
        rw [hs]
      · (simp only [go_sem,seval] <;> first|done|omega)
  · simp -implicitDefEqProofs (disch:=first|omega|(simp only [go_sem,seval,h4];first|done|omega)) only [go_sem,seval,h4]
    refine loop_mk (α:=Nat) 0 (fun k => k ≤ l.length ∧ (l.take k).all (fun t => decide (t.name.size ≤ 60)) = true) (fun _ => M) (fun k => [(2,.fp [.s (.string nm),.I least,.fs (l.map encTb)]),(5,.I k)]) (fun k => l.length - k) ⟨Nat.zero_le _,rfl⟩ rfl rfl ?_
    rintro k ⟨hk,hs⟩
    by_cases hlt:k < l.length
    · obtain ⟨x,hx⟩:∃ x,l[k]? = some x:=⟨_,List.getElem?_eq_getElem hlt⟩
      simp -implicitDefEqProofs (disch:=first|omega|(simp only [go_sem,seval,hlt,hx,encTb_cells,encTb_eq];first|done|omega)) only [go_sem,seval,hlt,hx,encTb_cells,encTb_eq]
      by_cases hn:x.name.size ≤ 60
      · have fn:((60:Int) < x.name.size) = False:=eq_false (by omega)
        simp -implicitDefEqProofs (disch:=first|omega|(simp only [go_sem,seval,fn];first|done|omega)) only [go_sem,seval,fn]
        refine again' (k + 1) ⟨by omega,?_⟩ (by omega) rfl rfl
        obtain ⟨g3,g4⟩:=List.getElem?_eq_some_iff.1 hx
        rw [List.take_succ_eq_append_getElem g3,g4,List.all_append,hs];simp [hn]
      · have fn:((60:Int) < x.name.size) = True:=eq_true (by omega)
        simp -implicitDefEqProofs (disch:=first|omega|(simp only [go_sem,seval,fn];first|done|omega)) only [go_sem,seval,fn]
        (first|refine post_fin ret_ok hM rfl ?_ ?_|refine post_fin0 ret_ok hM rfl ?_ ?_|refine post_fin normal_ok hM rfl ?_ ?_|refine post_fin0 normal_ok hM rfl ?_ ?_)
        · simp -implicitDefEqProofs (disch:=first|omega|(simp only [go_sem,seval];first|done|omega)) only [go_sem,seval]
          congr 1;symm
          rw [List.all_eq_false]
          exact ⟨x,List.mem_of_getElem? hx,by simpa using hn⟩
        · (simp only [go_sem,seval] <;> first|done|omega)
    · simp -implicitDefEqProofs (disch:=first|omega|(simp only [go_sem,seval,hlt];first|done|omega)) only [go_sem,seval,hlt]
      (first|refine post_fin ret_ok hM rfl ?_ ?_|refine post_fin0 ret_ok hM rfl ?_ ?_|refine post_fin normal_ok hM rfl ?_ ?_|refine post_fin0 normal_ok hM rfl ?_ ?_)
      · simp -implicitDefEqProofs (disch:=first|omega|(simp only [go_sem,seval];first|done|omega)) only [go_sem,seval]
        rw [List.take_of_length_le (by omega)] at hs
        rw [hs]
      · (simp only [go_sem,seval] <;> first|done|omega)
theorem q_ref01_SameSite (a b:Ste) (hl:a.tbs.length ≤ 1048576):Q X 54 [encSte a,encSte b] (.B (decide (a.name = b.name ∧ a.least = b.least ∧ a.tbs = b.tbs))):=by
  obtain ⟨na,la,ta⟩:=a
  obtain ⟨nb,lb,tb⟩:=b
  have e1:encSte ⟨na,la,ta⟩ = .agg [.s (.string na),.I la,.fs (ta.map encTb)]:=rfl
  have e2:encSte ⟨nb,lb,tb⟩ = .agg [.s (.string nb),.I lb,.fs (tb.map encTb)]:=rfl
  rw [e1,e2]
  clear e1 e2
  simp only at hl ⊢
  intro M
  by_cases h1:na = nb
  case neg =>
    (refine ACall_fn (cf:=L4.c54) rfl rfl fun hM hA => ?_;simp only [L4.c54,zO,zF,zT];rw [mk2 _ (by decide)];simp -implicitDefEqProofs (disch:=first|omega|(simp only [go_sem,seval,bin_strNe,h1];first|done|omega)) only [go_sem,seval,bin_strNe,h1])
    (first|refine post_fin ret_ok hM rfl ?_ ?_|refine post_fin0 ret_ok hM rfl ?_ ?_|refine post_fin normal_ok hM rfl ?_ ?_|refine post_fin0 normal_ok hM rfl ?_ ?_)
    · simp -implicitDefEqProofs (disch:=first|omega|(simp only [go_sem,seval];first|done|omega)) only [go_sem,seval]
      simp [h1]
    · (simp only [go_sem,seval] <;> first|done|omega)
  by_cases h2:la = lb
  case neg =>
    (refine ACall_fn (cf:=L4.c54) rfl rfl fun hM hA => ?_;simp only [L4.c54,zO,zF,zT];rw [mk2 _ (by decide)];simp -implicitDefEqProofs (disch:=first|omega|(simp only [go_sem,seval,bin_strNe,h1,h2];first|done|omega)) only [go_sem,seval,bin_strNe,h1,h2])
    (first|refine post_fin ret_ok hM rfl ?_ ?_|refine post_fin0 ret_ok hM rfl ?_ ?_|refine post_fin normal_ok hM rfl ?_ ?_|refine post_fin0 normal_ok hM rfl ?_ ?_)
    · simp -implicitDefEqProofs (disch:=first|omega|(simp only [go_sem,seval];first|done|omega)) only [go_sem,seval]
      simp [h2]
    · (simp only [go_sem,seval] <;> first|done|omega)
  by_cases h3:ta.length = tb.length
  case neg =>
    have f3:((ta.length:Int) = tb.length) = False:=eq_false (by omega)
    (refine ACall_fn (cf:=L4.c54) rfl rfl fun hM hA => ?_;simp only [L4.c54,zO,zF,zT];rw [mk2 _ (by decide)];simp -implicitDefEqProofs (disch:=first|omega|(simp only [go_sem,seval,bin_strNe,h1,h2,f3];first|done|omega)) only [go_sem,seval,bin_strNe,h1,h2,f3])
    (first|refine post_fin ret_ok hM rfl ?_ ?_|refine post_fin0 ret_ok hM rfl ?_ ?_|refine post_fin normal_ok hM rfl ?_ ?_|refine post_fin0 normal_ok hM rfl ?_ ?_)
    · simp -implicitDefEqProofs (disch:=first|omega|(simp only [go_sem,seval];first|done|omega)) only [go_sem,seval]
      have h4:¬ ta = tb:=fun h => h3 (by rw [h])
      simp [h4]
    · (simp only [go_sem,seval] <;> first|done|omega)
  have f3:((ta.length:Int) = tb.length) = True:=eq_true (by omega)
  (refine ACall_fn (cf:=L4.c54) rfl rfl fun hM hA => ?_;simp only [L4.c54,zO,zF,zT];rw [mk2 _ (by decide)];simp -implicitDefEqProofs (disch:=first|omega|(simp only [go_sem,seval,bin_strNe,h1,h2,f3];first|done|omega)) only [go_sem,seval,bin_strNe,h1,h2,f3])
  refine loop_mk (α:=Nat) 0 (fun k => k ≤ ta.length ∧ ta.take k = tb.take k) (fun k => M) (fun k => [(2,.fp [.s (.string na),.I la,.fs (ta.map encTb)]),(3,.fp [.s (.string nb),.I lb,.fs (tb.map encTb)]),(5,.I k)]) (fun k => ta.length - k) ⟨Nat.zero_le _,rfl⟩ rfl (by simp only [h1,h2];rfl) ?_
  rintro k ⟨hk,hs⟩
  by_cases hlt:k < ta.length
  · obtain ⟨x,hx⟩:∃ x,ta[k]? = some x:=⟨_,List.getElem?_eq_getElem hlt⟩
    obtain ⟨y,hy⟩:∃ y,tb[k]? = some y:=⟨_,List.getElem?_eq_getElem (by omega)⟩
    have hlt2:k < tb.length:=by omega
    have heq:eqCells [.str,.int,.int] [.s (.string x.name),.I x.x,.I x.y] [.s (.string y.name),.I y.x,.I y.y] = some (decide (x = y)):=by
      simp only [eqCells,eqSK,Option.bind_some,Option.bind_eq_bind,pure,if_true,ba_beq]
      obtain ⟨n1,x1,y1⟩:=x
      obtain ⟨n2,x2,y2⟩:=y
      by_cases g1:n1 = n2 <;> by_cases g2:x1 = x2 <;> by_cases g3:y1 = y2 <;> simp [g1,g2,g3]
    simp -implicitDefEqProofs (disch:=first|omega|(simp only [go_sem,seval,hlt,hlt2,hx,hy,encTb_cells,encTb_eq,eqsV_agg,heq];first|done|omega)) only [go_sem,seval,hlt,hlt2,hx,hy,encTb_cells,encTb_eq,eqsV_agg,heq]
    by_cases hxy:x = y
    · simp -implicitDefEqProofs (disch:=first|omega|(simp only [go_sem,seval,hxy];first|done|omega)) only [go_sem,seval,hxy]
      refine again' (k + 1) ⟨by omega,?_⟩ (by omega) rfl rfl
      have g1:=take_snoc (f:=id) hx;have g2:=take_snoc (f:=id) hy
      simp only [List.map_id] at g1 g2
      rw [g1,g2,hs,hxy]
    · simp -implicitDefEqProofs (disch:=first|omega|(simp only [go_sem,seval,hxy];first|done|omega)) only [go_sem,seval,hxy]
      (first|refine post_fin ret_ok hM rfl ?_ ?_|refine post_fin0 ret_ok hM rfl ?_ ?_|refine post_fin normal_ok hM rfl ?_ ?_|refine post_fin0 normal_ok hM rfl ?_ ?_)
      · simp -implicitDefEqProofs (disch:=first|omega|(simp only [go_sem,seval];first|done|omega)) only [go_sem,seval]
        have h4:¬ ta = tb:=by
          rintro rfl
          rw [hx] at hy;cases hy;exact hxy rfl
        simp [h4]
      · (simp only [go_sem,seval] <;> first|done|omega)
  · simp -implicitDefEqProofs (disch:=first|omega|(simp only [go_sem,seval,hlt];first|done|omega)) only [go_sem,seval,hlt]
    (first|refine post_fin ret_ok hM rfl ?_ ?_|refine post_fin0 ret_ok hM rfl ?_ ?_|refine post_fin normal_ok hM rfl ?_ ?_|refine post_fin0 normal_ok hM rfl ?_ ?_)
    · simp -implicitDefEqProofs (disch:=first|omega|(simp only [go_sem,seval];first|done|omega)) only [go_sem,seval]
      rw [List.take_of_length_le (by omega),List.take_of_length_le (by omega)] at hs
      simp [h1,h2,hs]
    · (simp only [go_sem,seval] <;> first|done|omega)
def tsM (M:List Blk) (nm:ByteArray) (least:Int) (o:List Tb):List Blk:=M ++ [.row true 3 0 [zSte],.row true 3 0 [.agg [.s (.string nm),.I least,.os (M.length + 2) o.length 0 o.length]],.row true 3 o.length (o.map encTb)]
/-- A place that is shifted. -/
def shP (b:Pt) (p:Pt):Pt:=⟨p.x + b.x,p.y + b.y⟩
theorem q_site_ShiftSite_1 (b p:Pt) (hb:ptIn b) (hp:ptIn p) (M:List Blk):ACall F X (.fn 116) [encPt p,.fp [.I b.x,.I b.y]] M (encPt (shP b p)) M:=by
  unfold ptIn at hb hp
  have e:encPt (shP b p) = .agg [.I (p.x + b.x),.I (p.y + b.y)]:=rfl
  rw [e]
  (refine ACall_fn (cf:=L4.c116) rfl rfl fun hM hA => ?_;simp only [L4.c116,zO,zF,zT];rw [mk2 _ (by decide)];simp -implicitDefEqProofs (disch:=first|omega|(simp only [go_sem,seval,encPt_eq];first|done|omega)) only [go_sem,seval,encPt_eq])
  (all_goals (first|refine post_fin ret_ok hM rfl ?_ ?_|refine post_fin0 ret_ok hM rfl ?_ ?_|refine post_fin normal_ok hM rfl ?_ ?_|refine post_fin0 normal_ok hM rfl ?_ ?_);all_goals first|(simp only [go_sem,seval] <;> first|done|omega)|skip;all_goals (try simp -implicitDefEqProofs (disch:=first|omega|(simp only [go_sem,seval];first|done|omega)) only [go_sem,seval]))
theorem q_site_ShiftSite_2 (t:Tb):Q X 118 [encTb t] (.I (ptE t.at_)):=by
  have h:=q_site_checkPlace (X:=X) t.at_
  have e:encPt t.at_ = .agg [.I t.x,.I t.y]:=rfl
  rw [e] at h
  generalize ptE t.at_ = v at h ⊢
  intro M
  (refine ACall_fn (cf:=L4.c118) rfl rfl fun hM hA => ?_;simp only [L4.c118,zO,zF,zT];rw [mk1 _ (by decide)];simp -implicitDefEqProofs (disch:=first|omega|(simp only [go_sem,seval,encTb_eq];first|done|omega)) only [go_sem,seval,encTb_eq])
  refine callP_q (h _) ?_
  simp -implicitDefEqProofs (disch:=first|omega|(simp only [go_sem,seval];first|done|omega)) only [go_sem,seval]
  (all_goals (first|refine post_fin ret_ok hM rfl ?_ ?_|refine post_fin0 ret_ok hM rfl ?_ ?_|refine post_fin normal_ok hM rfl ?_ ?_|refine post_fin0 normal_ok hM rfl ?_ ?_);all_goals first|(simp only [go_sem,seval] <;> first|done|omega)|skip;all_goals (try simp -implicitDefEqProofs (disch:=first|omega|(simp only [go_sem,seval];first|done|omega)) only [go_sem,seval]))
theorem q_site_mapped_Tb {g:FuncId} {f:Tb → Int} (l:List Tb) (hl:l.length ≤ 1000000) (hg:∀ x,Q X g [encTb x] (.I (f x))):Q X 117 [.fs (l.map encTb),.fn (.func g) [] []] (.fs ((l.map f).map .I)):=by
  intro M
  (refine ACall_fn (cf:=L4.c117) rfl rfl fun hM hA => ?_;simp only [L4.c117,zO,zF,zT];rw [mk2 _ (by decide)];simp -implicitDefEqProofs (disch:=first|omega|(simp only [go_sem,seval];first|done|omega)) only [go_sem,seval])
  refine loop_mk (α:=Nat) 0 (fun k => k ≤ l.length) (fun k => M ++ [.row true 1 k (((l.take k).map f).map .I)])
    (fun k => [(1,.fn (.func g) [] []),(5,.os M.length k 0 k),(8,.fs (l.map encTb)),(9,.I l.length),(10,.I k)]) (fun k => l.length - k) (Nat.zero_le _) rfl rfl ?_
  intro k hk
  by_cases hlt:k < l.length
  · obtain ⟨x,h1⟩:∃ x,l[k]? = some x:=⟨_,List.getElem?_eq_getElem hlt⟩
    have h2:k = ((l.take k).map f).length:=by simp;omega
    simp -implicitDefEqProofs (disch:=first|omega|(simp only [go_sem,seval,hlt,h1,encTb_cells];first|done|omega)) only [go_sem,seval,hlt,h1,encTb_cells]
    refine callP_l (hg x _) ?_
    simp -implicitDefEqProofs (disch:=first|omega|(simp only [go_sem,seval,encTb_cells];first|done|omega)) only [go_sem,seval,encTb_cells]
    refine Wp_cut_at hM rfl 1 (by simp) (by first|done|(simp only [go_sem,seval,encI_low,encTb_low] <;> first|done|(refine ⟨?_,?_⟩ <;> omega)|omega)) (lowL_mk (by first|done|(simp only [go_sem,seval,encI_low,encTb_low] <;> first|done|(refine ⟨?_,?_⟩ <;> omega)|omega))) ?_
    simp -implicitDefEqProofs (disch:=first|omega|(simp only [go_sem,seval];first|done|omega)) only [go_sem,seval]
    refine again' (k + 1) (by omega) (by omega) ?_ rfl
    have h3:=take_snoc (f:=fun x => PV.I (f x)) h1
    rw [h3]
  · simp -implicitDefEqProofs (disch:=first|omega|(simp only [go_sem,seval,hlt];first|done|omega)) only [go_sem,seval,hlt]
    (first|refine post_fin ret_ok hM rfl ?_ ?_|refine post_fin0 ret_ok hM rfl ?_ ?_|refine post_fin normal_ok hM rfl ?_ ?_|refine post_fin0 normal_ok hM rfl ?_ ?_)
    · simp -implicitDefEqProofs (disch:=first|omega|(simp only [go_sem,seval];first|done|omega)) only [go_sem,seval]
      rw [List.take_of_length_le (by omega)]
    · (simp only [go_sem,seval,encI_low] <;> first|done|omega)
/-- The error of a site that is shifted. -/
def shE (b:Pt) (s:Ste):Int:=fst0 (s.tbs.map fun t => ptE (shP b t.at_))
def shR (b:Pt) (s:Ste):Ste × Int :=
  if ¬ fst0 [chkSte s,ptE b] = 0 then (s0,fst0 [chkSte s,ptE b]) else if shE b s = 0 then (mvS (shP b) s,0) else (s0,shE b s)
theorem q_site_ShiftSite (s:Ste) (b:Pt) (hl:s.tbs.length ≤ 1000000):Q X 45 [encSte s,encPt b] (.tup [encSte (shR b s).1,.I (shR b s).2]):=by
  have hC:=q_site_CheckSite (X:=X) s (by omega)
  have hP:=q_site_checkPlace (X:=X) b
  have hq:=q_site_first (X:=X) [chkSte s,ptE b] (by simp)
  have hm:fst0 [chkSte s,ptE b] = 0 → Q X 113 [encSte s,.fn (.func 116) [] [.fp [.I b.x,.I b.y]]] (encSte (mvS (shP b) s)):=by
    intro h
    obtain ⟨h1,h2⟩:=fst0_two h
    have hb:=ptE_in h2
    exact q_site_moved s (by omega) (fun t ht M => q_site_ShiftSite_1 b t.at_ hb (all_pt h1 t ht) M)
  have hmap:=q_site_mapped_Tb (X:=X) (f:=fun t => ptE t.at_) (s.tbs.map (mvT (shP b))) (by rw [List.length_map];omega) (fun t => q_site_ShiftSite_2 t)
  have hq2:=q_site_first (X:=X) ((s.tbs.map (mvT (shP b))).map fun t => ptE t.at_) (by rw [List.length_map,List.length_map];omega)
  have e2:fst0 ((s.tbs.map (mvT (shP b))).map fun t => ptE t.at_) = shE b s:=by unfold shE;rw [List.map_map];rfl
  rw [e2] at hq2
  have es:=encSte_eq s
  have eb:=encPt_eq b
  unfold shR
  generalize fst0 [chkSte s,ptE b] = e1 at hq hm
  generalize chkSte s = v1 at hC hq
  generalize ptE b = v2 at hP hq
  generalize shE b s = e3 at hq2
  have em:encSte (mvS (shP b) s) = .agg [.s (.string s.name),.I s.least,.fs ((s.tbs.map (mvT (shP b))).map encTb)]:=rfl
  have hlw:∀ n,(encSte (mvS (shP b) s)).low n = True:=fun n => encSte_low1 (n:=n) _
  have ls:=fun n => encSte_low1 (n:=n) s
  clear e2
  generalize mvS (shP b) s = s' at em hm hlw
  generalize (s.tbs.map (mvT (shP b))).map (fun t => ptE t.at_) = errs at hmap hq2
  generalize s.tbs.map (mvT (shP b)) = l' at em hmap
  rw [eb] at hP ⊢
  rw [em] at hm hlw
  intro M
  have hz:zSte = .agg [.s (.string ⟨#[]⟩),.I 0,.s (.slice none 0 0)]:=rfl
  (refine ACall_fn (cf:=L4.c45) rfl rfl fun hM hA => ?_;simp only [L4.c45,zO,zF,zT];rw [mk2 _ (by decide)];simp -implicitDefEqProofs (disch:=first|omega|(simp only [go_sem,seval,es];first|done|omega)) only [go_sem,seval,es])
  refine callP_q (hC _) ?_
  simp -implicitDefEqProofs (disch:=first|omega|(simp only [go_sem,seval,es];first|done|omega)) only [go_sem,seval,es]
  refine callP_q (hP _) ?_
  simp -implicitDefEqProofs (disch:=first|omega|(simp only [go_sem,seval];first|done|omega)) only [go_sem,seval]
  refine callP_q (hq _) ?_
  by_cases h0:e1 = 0
  case neg =>
    rw [if_pos h0]
    simp -implicitDefEqProofs (disch:=first|omega|(simp only [go_sem,seval,h0,encS0];first|done|omega)) only [go_sem,seval,h0,encS0]
    (all_goals (first|refine post_fin ret_ok hM rfl ?_ ?_|refine post_fin0 ret_ok hM rfl ?_ ?_|refine post_fin normal_ok hM rfl ?_ ?_|refine post_fin0 normal_ok hM rfl ?_ ?_);all_goals first|(simp only [go_sem,seval] <;> first|done|omega)|skip;all_goals (try simp -implicitDefEqProofs (disch:=first|omega|(simp only [go_sem,seval,encS0];first|done|omega)) only [go_sem,seval,encS0]))
  subst h0
  rw [if_neg (by simp)]
  simp -implicitDefEqProofs (disch:=first|omega|(simp only [go_sem,seval,es];first|done|omega)) only [go_sem,seval,es]
  rw [es] at hm
  refine callP_q (hm rfl _) ?_
  simp -implicitDefEqProofs (disch:=first|omega|(simp only [go_sem,seval];first|done|omega)) only [go_sem,seval]
  refine callP_q (hmap _) ?_
  simp -implicitDefEqProofs (disch:=first|omega|(simp only [go_sem,seval];first|done|omega)) only [go_sem,seval]
  refine callP_q (hq2 _) ?_
  by_cases h3:e3 = 0
  · subst h3
    rw [if_pos rfl,em]
    simp -implicitDefEqProofs (disch:=first|omega|(simp only [go_sem,seval];first|done|omega)) only [go_sem,seval]
    (all_goals (first|refine post_fin ret_ok hM rfl ?_ ?_|refine post_fin0 ret_ok hM rfl ?_ ?_|refine post_fin normal_ok hM rfl ?_ ?_|refine post_fin0 normal_ok hM rfl ?_ ?_);all_goals first|(simp only [go_sem,seval,encTb_low] <;> first|done|omega)|skip;all_goals (try simp -implicitDefEqProofs (disch:=first|omega|(simp only [go_sem,seval];first|done|omega)) only [go_sem,seval]))
  · rw [if_neg h3,encS0]
    simp -implicitDefEqProofs (disch:=first|omega|(simp only [go_sem,seval,h3];first|done|omega)) only [go_sem,seval,h3]
    (all_goals (first|refine post_fin ret_ok hM rfl ?_ ?_|refine post_fin0 ret_ok hM rfl ?_ ?_|refine post_fin normal_ok hM rfl ?_ ?_|refine post_fin0 normal_ok hM rfl ?_ ?_);all_goals first|(simp only [go_sem,seval] <;> first|done|omega)|skip;all_goals (try simp -implicitDefEqProofs (disch:=first|omega|(simp only [go_sem,seval];first|done|omega)) only [go_sem,seval]))
/-- What the law asks of sites. -/
structure TurnF (X:XRel) (s a c:Ste) (k:Nat) (b:Pt) (sp e:Int):Prop where
  t1:Q X 44 [encSte s,.I k] (.tup [encSte a,.I 0])
  t2:Q X 44 [encSte a,.I ((4 - (k:Int)) % 4)] (.tup [encSte s,.I 0])
  h1:Q X 45 [encSte s,encPt b] (.tup [encSte c,.I 0])
  h2:Q X 45 [encSte c,encPt ⟨-b.x,-b.y⟩] (.tup [encSte s,.I 0])
  gs:Q X 43 [encSte s] (encSte s)
  ga:Q X 43 [encSte a] (encSte a)
  gc:Q X 43 [encSte c] (encSte c)
  os:Q X 55 [encSte s] (encSte s)
  oa:Q X 55 [encSte a] (encSte a)
  oc:Q X 55 [encSte c] (encSte c)
  sm:Q X 54 [encSte s,encSte s] (.B true)
  ca:Q X 46 [encSte a] (.I 0)
  cc:Q X 46 [encSte c] (.I 0)
  p1:Q X 42 [encSte s] (.tup [.I sp,.I e])
  p2:Q X 42 [encSte a] (.tup [.I sp,.I e])
  p3:Q X 42 [encSte c] (.tup [.I sp,.I e])
  e0:(e = 0) = ((1:Int) < (s.tbs.length:Int))
def allIn (s:Ste) (k:Nat):Prop:=∀ (i:Nat) (t:Tb),i < k → s.tbs[i]? = some t → in900 t.at_
theorem allIn_succ {s:Ste} {k:Nat} {t:Tb} (h:allIn s k) (ht:s.tbs[k]? = some t) (h0:in900 t.at_):allIn s (k + 1):=by
  intro i u hi hu
  by_cases hik:i = k
  · subst hik;rw [ht] at hu;cases hu;exact h0
  · exact h i u (by omega) hu
set_option maxHeartbeats 4000000 in
theorem q_turned_core (hW:Q X 17 [] (.B true)) (s a c:Ste) (R U:Rse) (k sec:Nat) (b p q f:Pt) (sp e n0 n1 n2:Int)
    (sh:Q X 41 [encSte s,.I 10] (.B true)) (k1:Q X 46 [encSte s] (.I 0)) (k2:Q X 56 [encRs R] (.I 0))
    (hl:s.tbs.length ≤ 64) (hn:(0 ≤ n0 ∧ n0 ≤ 255) ∧ (0 ≤ n1 ∧ n1 ≤ 255) ∧ 0 ≤ n2 ∧ n2 ≤ 255) (hk:n0 % 4 = k) (hs:n1 % 8 = sec) (hb:b = ⟨n2 % 100,n0 % 90⟩) (hpt:∀ t ∈ s.tbs,ptIn t.at_)
    (F:allIn s s.tbs.length → TurnF X s a c k b sp e)
    (st1:Q X 57 [.I sec] (.tup [encPt p,.I 0])) (st2:Q X 57 [.I (((sec:Int) + 2 * k) % 8)] (.tup [encPt q,.I 0])) (st3:Q X 57 [.I (((sec:Int) + 4) % 8)] (.tup [encPt ⟨-p.x,-p.y⟩,.I 0]))
    (hp0:¬ (p.x = 0 ∧ p.y = 0)) (hpb:-1 ≤ p.x ∧ p.x ≤ 1 ∧ -1 ≤ p.y ∧ p.y ≤ 1) (hqb:-1 ≤ q.x ∧ q.x ≤ 1 ∧ -1 ≤ q.y ∧ q.y ≤ 1) (hfb:-1000 ≤ f.x ∧ f.x ≤ 1000 ∧ -1000 ≤ f.y ∧ f.y ≤ 1000)
    (tp:Q X 44 [encSte (pairS ⟨#[97]⟩ ⟨#[98]⟩ ⟨#[120]⟩ b p),.I k] (.tup [encSte (pairS ⟨#[97]⟩ ⟨#[98]⟩ ⟨#[120]⟩ f q),.I 0]))
    (lR:R.length = 408) (lU:U.length = 408) (r1:Q X 58 [encRs R,.I k] (.tup [encRs U,.I 0])) (r2:Q X 58 [encRs U,.I ((4 - (k:Int)) % 4)] (.tup [encRs R,.I 0]))
    (hbk:blk U ((sec + 2 * k) % 8) = blk R sec) :
    Q X 7 [encSte s,encRs R,.agg [.s (.int .u8 n0),.s (.int .u8 n1),.s (.int .u8 n2)]] (.B true):=by
  have es:=encSte_eq s
  have ea:=encSte_eq a
  have ec:=encSte_eq c
  have eb:=encPt_eq b
  have hc:=cells_mk lR
  have eR:encRs R = .agg (R.map .I):=rfl
  have eU:encRs U = .agg (U.map .I):=rfl
  have hcU:=cells_mk lU
  have hq1:=hc.eq R lR
  rw [decide_eq_true rfl] at hq1
  have hsec:sec < 8:=by omega
  have T8c:((sec:Int) + 2 * k).tmod 8 = (((sec + 2 * k) % 8:Nat):Int):=by rw [Int.tmod_eq_emod_of_nonneg (by omega)];omega
  have hm8:(sec + 2 * k) % 8 < 8:=Nat.mod_lt _ (by decide)
  have hB1:((U.map PV.I).drop (((sec + 2 * k) % 8) * 51)).take 51 = (blk R sec).map PV.I:=by rw [blk_I,hbk]
  have hB2:((R.map PV.I).drop (sec * 51)).take 51 = (blk R sec).map PV.I:=blk_I _ _
  have heB:=eqCells_ints 51 (blk R sec) (blk R sec) (blk_len lR hsec) (blk_len lR hsec)
  rw [decide_eq_true rfl] at heB
  have hBl:((blk R sec).map PV.I).length = 51:=by rw [List.length_map];exact blk_len lR hsec
  have hBt:((blk R sec).map PV.I).take 51 = (blk R sec).map PV.I:=List.take_of_length_le (by omega)
  have hBo:=ones_I (blk R sec)
  have hBv:=fun M => view1_ints M (blk R sec)
  generalize (sec + 2 * k) % 8 = m at T8c hm8 hB1
  generalize (blk R sec).map PV.I = B at hB1 hB2 heB hBl hBt hBo hBv
  have hwU:=fun m:Nat => encI_lowm (n:=m) U
  have hzI:=z408_I
  have hcz:=cells_mk (r:=z408) List.length_replicate
  rw [eR] at k2 r1 r2 ⊢
  rw [eU] at r1 r2
  generalize U.map PV.I = Us at r1 r2 hcU hwU hB1
  generalize z408.map PV.I = Z at hcz hzI
  have hw:=fun m:Nat => encI_lowm (n:=m) R
  generalize R.map PV.I = Rs at k2 r1 r2 hc hw hq1 hB2 ⊢
  have ul:=hcU.len
  have ut:=hcU.tk
  have uo:=hcU.one
  have uv:=hcU.vw
  have zl:=hcz.len
  have zt:=hcz.tk
  have zo:=hcz.one
  have zv:=hcz.vw
  have rl:=hc.len
  have rt:=hc.tk
  have ro:=hc.one
  have rv:=hc.vw
  have ls:∀ m,lowL m (s.tbs.map encTb) = True:=fun m => encTb_low _
  rw [es] at sh k1 ⊢
  have m0:n0.tmod 4 = k:=by rw [Int.tmod_eq_emod_of_nonneg hn.1.1];exact hk
  have m1:n1.tmod 8 = sec:=by rw [Int.tmod_eq_emod_of_nonneg hn.2.1.1];exact hs
  have m2:n2.tmod 100 = b.x:=by rw [Int.tmod_eq_emod_of_nonneg hn.2.2.1,hb]
  have m3:n0.tmod 90 = b.y:=by rw [Int.tmod_eq_emod_of_nonneg hn.1.1,hb]
  intro M
  (refine ACall_fn (cf:=L4.c7) rfl rfl fun hM hA => ?_;simp only [L4.c7,zO,zF,zT];rw [mk3 _ (by decide)];simp -implicitDefEqProofs (disch:=first|omega|(simp only [go_sem,seval,-List.reduceReplicate,rl,rt,rv];first|done|omega)) only [go_sem,seval,-List.reduceReplicate,rl,rt,rv])
  refine callP_q (hW _) ?_
  simp -implicitDefEqProofs (disch:=first|omega|(simp only [go_sem,seval,-List.reduceReplicate];first|done|omega)) only [go_sem,seval,-List.reduceReplicate]
  refine callP_q (sh _) ?_
  simp -implicitDefEqProofs (disch:=first|omega|(simp only [go_sem,seval,-List.reduceReplicate];first|done|omega)) only [go_sem,seval,-List.reduceReplicate]
  refine callP_q (k1 _) ?_
  simp -implicitDefEqProofs (disch:=first|omega|(simp only [go_sem,seval,-List.reduceReplicate,rl,rt,rv];first|done|omega)) only [go_sem,seval,-List.reduceReplicate,rl,rt,rv]
  refine callP_q (k2 _) ?_
  simp -implicitDefEqProofs (disch:=first|omega|(simp only [go_sem,seval,-List.reduceReplicate];first|done|omega)) only [go_sem,seval,-List.reduceReplicate]
  refine loop_mk (α:=Nat) 0 (fun i => i ≤ s.tbs.length ∧ allIn s i) (fun _ => M) (fun i => [(3,.fp [.s (.string s.name),.I s.least,.fs (s.tbs.map encTb)]),(4,.fp Rs),(5,.fp [.s (.int .u8 n0),.s (.int .u8 n1),.s (.int .u8 n2)]),(60,.fs (s.tbs.map encTb)),(61,.I s.tbs.length),(62,.I i)]) (fun i => s.tbs.length - i) ⟨Nat.zero_le _,fun i t hi _ => absurd hi (by omega)⟩ rfl rfl ?_
  rintro i ⟨hi,hall⟩
  by_cases hlt:i < s.tbs.length
  · obtain ⟨t,ht⟩:∃ t,s.tbs[i]? = some t:=⟨_,List.getElem?_eq_getElem hlt⟩
    have hp:=hpt t (List.mem_of_getElem? ht)
    have et:encTb t = .agg [.s (.string t.name),.I t.x,.I t.y]:=rfl
    have ect:(encTb t).cells = [.s (.string t.name),.I t.x,.I t.y]:=rfl
    by_cases hx:900 < max t.x t.y
    · simp -implicitDefEqProofs (disch:=first|omega|(simp only [go_sem,seval,-List.reduceReplicate,hlt,ht,ect,et,hx];first|done|omega)) only [go_sem,seval,-List.reduceReplicate,hlt,ht,ect,et,hx]
      (all_goals (first|refine post_fin ret_ok hM rfl ?_ ?_|refine post_fin0 ret_ok hM rfl ?_ ?_|refine post_fin normal_ok hM rfl ?_ ?_|refine post_fin0 normal_ok hM rfl ?_ ?_);all_goals first|(simp only [go_sem,seval,-List.reduceReplicate] <;> first|done|omega)|skip;all_goals (try simp -implicitDefEqProofs (disch:=first|omega|(simp only [go_sem,seval,-List.reduceReplicate];first|done|omega)) only [go_sem,seval,-List.reduceReplicate]))
    by_cases hy:min t.x t.y < -900
    · simp -implicitDefEqProofs (disch:=first|omega|(simp only [go_sem,seval,-List.reduceReplicate,hlt,ht,ect,et,hx,hy];first|done|omega)) only [go_sem,seval,-List.reduceReplicate,hlt,ht,ect,et,hx,hy]
      (all_goals (first|refine post_fin ret_ok hM rfl ?_ ?_|refine post_fin0 ret_ok hM rfl ?_ ?_|refine post_fin normal_ok hM rfl ?_ ?_|refine post_fin0 normal_ok hM rfl ?_ ?_);all_goals first|(simp only [go_sem,seval,-List.reduceReplicate] <;> first|done|omega)|skip;all_goals (try simp -implicitDefEqProofs (disch:=first|omega|(simp only [go_sem,seval,-List.reduceReplicate];first|done|omega)) only [go_sem,seval,-List.reduceReplicate]))
    simp -implicitDefEqProofs (disch:=first|omega|(simp only [go_sem,seval,-List.reduceReplicate,hlt,ht,ect,et,hx,hy];first|done|omega)) only [go_sem,seval,-List.reduceReplicate,hlt,ht,ect,et,hx,hy]
    refine Wp_cut_at hM rfl 0 (by simp) (by first|done|(simp only [go_sem,seval,-List.reduceReplicate,ls,hw] <;> first|done|(refine ⟨?_,?_⟩ <;> omega)|omega)) (lowL_mk (by first|done|(simp only [go_sem,seval,-List.reduceReplicate,ls,hw] <;> first|done|(refine ⟨?_,?_⟩ <;> omega)|omega))) ?_
    simp -implicitDefEqProofs (disch:=first|omega|(simp only [go_sem,seval,-List.reduceReplicate];first|done|omega)) only [go_sem,seval,-List.reduceReplicate]
    exact again' (i + 1) ⟨by omega,allIn_succ hall ht ⟨by show max t.x t.y ≤ 900;omega,by show -900 ≤ min t.x t.y;omega⟩⟩ (by omega) rfl rfl
  have hii:i = s.tbs.length:=by omega
  subst hii
  obtain ⟨t1,t2,h1,h2,gs,ga,gc,os,oa,oc,sm,ca,cc,p1,p2,p3,e0⟩:=F hall
  simp -implicitDefEqProofs (disch:=first|omega|(simp only [go_sem,seval,-List.reduceReplicate,hlt,m0,m1,m2,m3];first|done|omega)) only [go_sem,seval,-List.reduceReplicate,hlt,m0,m1,m2,m3]
  refine ⟨by simp [pairsOk,okPair,apartL,refs,refs1],?_⟩
  have T4:(4 - (k:Int)).tmod 4 = (4 - (k:Int)) % 4:=Int.tmod_eq_emod_of_nonneg (by omega)
  rw [es] at t1 t2 h1 h2 gs os sm p1
  rw [ea] at t1 t2 ga oa ca p2
  rw [ec] at h1 h2 gc oc cc p3
  rw [eb] at h1
  have eb2:encPt ⟨-b.x,-b.y⟩ = .agg [.I (-b.x),.I (-b.y)]:=rfl
  rw [eb2] at h2
  have hbb:0 ≤ b.x ∧ b.x ≤ 99 ∧ 0 ≤ b.y ∧ b.y ≤ 89:=by rw [hb];simp only;omega
  have lsa:∀ m,lowL m (a.tbs.map encTb) = True:=fun m => encTb_low _
  have lsc:∀ m,lowL m (c.tbs.map encTb) = True:=fun m => encTb_low _
  refine callP_q (gs _) ?_
  simp -implicitDefEqProofs (disch:=first|omega|(simp only [go_sem,seval,-List.reduceReplicate];first|done|omega)) only [go_sem,seval,-List.reduceReplicate]
  refine callP_q (t1 _) ?_
  simp -implicitDefEqProofs (disch:=first|omega|(simp only [go_sem,seval,-List.reduceReplicate];first|done|omega)) only [go_sem,seval,-List.reduceReplicate]
  refine callP_q (oa _) ?_
  simp -implicitDefEqProofs (disch:=first|omega|(simp only [go_sem,seval,-List.reduceReplicate];first|done|omega)) only [go_sem,seval,-List.reduceReplicate]
  refine callP_q (ga _) ?_
  simp -implicitDefEqProofs (disch:=first|omega|(simp only [go_sem,seval,-List.reduceReplicate,T4];first|done|omega)) only [go_sem,seval,-List.reduceReplicate,T4]
  refine callP_q (t2 _) ?_
  simp -implicitDefEqProofs (disch:=first|omega|(simp only [go_sem,seval,-List.reduceReplicate];first|done|omega)) only [go_sem,seval,-List.reduceReplicate]
  refine pcallP_q gs ?_ ?_
  · (simp only [go_sem,seval,-List.reduceReplicate,ls] <;> first|done|omega)
  simp -implicitDefEqProofs (disch:=first|omega|(simp only [go_sem,seval,-List.reduceReplicate];first|done|omega)) only [go_sem,seval,-List.reduceReplicate]
  refine pcallP_q h1 ?_ ?_
  · (simp only [go_sem,seval,-List.reduceReplicate,ls] <;> first|done|omega)
  simp -implicitDefEqProofs (disch:=first|omega|(simp only [go_sem,seval,-List.reduceReplicate];first|done|omega)) only [go_sem,seval,-List.reduceReplicate]
  refine ⟨by simp [pairsOk,okPair,apartL,refs,refs1],?_⟩
  refine pcallP_q oc ?_ ?_
  · (simp only [go_sem,seval,-List.reduceReplicate,lsc] <;> first|done|omega)
  simp -implicitDefEqProofs (disch:=first|omega|(simp only [go_sem,seval,-List.reduceReplicate];first|done|omega)) only [go_sem,seval,-List.reduceReplicate]
  refine pcallP_q gc ?_ ?_
  · (simp only [go_sem,seval,-List.reduceReplicate,lsc] <;> first|done|omega)
  simp -implicitDefEqProofs (disch:=first|omega|(simp only [go_sem,seval,-List.reduceReplicate];first|done|omega)) only [go_sem,seval,-List.reduceReplicate]
  refine pcallP_q h2 ?_ ?_
  · (simp only [go_sem,seval,-List.reduceReplicate,lsc] <;> first|done|omega)
  simp -implicitDefEqProofs (disch:=first|omega|(simp only [go_sem,seval,-List.reduceReplicate];first|done|omega)) only [go_sem,seval,-List.reduceReplicate]
  refine ⟨by simp [pairsOk,okPair,apartL,refs,refs1],?_⟩
  refine callP_q (os _) ?_
  simp -implicitDefEqProofs (disch:=first|omega|(simp only [go_sem,seval,-List.reduceReplicate];first|done|omega)) only [go_sem,seval,-List.reduceReplicate]
  refine callP_q (sm _) ?_
  simp -implicitDefEqProofs (disch:=first|omega|(simp only [go_sem,seval,-List.reduceReplicate];first|done|omega)) only [go_sem,seval,-List.reduceReplicate]
  refine callP_q (os _) ?_
  simp -implicitDefEqProofs (disch:=first|omega|(simp only [go_sem,seval,-List.reduceReplicate];first|done|omega)) only [go_sem,seval,-List.reduceReplicate]
  refine callP_q (sm _) ?_
  simp -implicitDefEqProofs (disch:=first|omega|(simp only [go_sem,seval,-List.reduceReplicate];first|done|omega)) only [go_sem,seval,-List.reduceReplicate]
  refine callP_q (oa _) ?_
  simp -implicitDefEqProofs (disch:=first|omega|(simp only [go_sem,seval,-List.reduceReplicate];first|done|omega)) only [go_sem,seval,-List.reduceReplicate]
  refine callP_q (ca _) ?_
  simp -implicitDefEqProofs (disch:=first|omega|(simp only [go_sem,seval,-List.reduceReplicate];first|done|omega)) only [go_sem,seval,-List.reduceReplicate]
  refine callP_q (oc _) ?_
  simp -implicitDefEqProofs (disch:=first|omega|(simp only [go_sem,seval,-List.reduceReplicate];first|done|omega)) only [go_sem,seval,-List.reduceReplicate]
  refine callP_q (cc _) ?_
  simp -implicitDefEqProofs (disch:=first|omega|(simp only [go_sem,seval,-List.reduceReplicate];first|done|omega)) only [go_sem,seval,-List.reduceReplicate]
  refine callP_q (gs _) ?_
  simp -implicitDefEqProofs (disch:=first|omega|(simp only [go_sem,seval,-List.reduceReplicate];first|done|omega)) only [go_sem,seval,-List.reduceReplicate]
  refine callP_q (p1 _) ?_
  simp -implicitDefEqProofs (disch:=first|omega|(simp only [go_sem,seval,-List.reduceReplicate];first|done|omega)) only [go_sem,seval,-List.reduceReplicate]
  refine callP_q (oa _) ?_
  simp -implicitDefEqProofs (disch:=first|omega|(simp only [go_sem,seval,-List.reduceReplicate];first|done|omega)) only [go_sem,seval,-List.reduceReplicate]
  refine callP_q (ga _) ?_
  simp -implicitDefEqProofs (disch:=first|omega|(simp only [go_sem,seval,-List.reduceReplicate];first|done|omega)) only [go_sem,seval,-List.reduceReplicate]
  refine callP_q (p2 _) ?_
  simp -implicitDefEqProofs (disch:=first|omega|(simp only [go_sem,seval,-List.reduceReplicate];first|done|omega)) only [go_sem,seval,-List.reduceReplicate]
  refine callP_q (oc _) ?_
  simp -implicitDefEqProofs (disch:=first|omega|(simp only [go_sem,seval,-List.reduceReplicate];first|done|omega)) only [go_sem,seval,-List.reduceReplicate]
  refine callP_q (gc _) ?_
  simp -implicitDefEqProofs (disch:=first|omega|(simp only [go_sem,seval,-List.reduceReplicate];first|done|omega)) only [go_sem,seval,-List.reduceReplicate]
  refine callP_q (p3 _) ?_
  simp -implicitDefEqProofs (disch:=first|omega|(simp only [go_sem,seval,-List.reduceReplicate,e0];first|done|omega)) only [go_sem,seval,-List.reduceReplicate,e0]
  have ep:encPt p = .agg [.I p.x,.I p.y]:=rfl
  have eq':encPt q = .agg [.I q.x,.I q.y]:=rfl
  have ep2:encPt ⟨-p.x,-p.y⟩ = .agg [.I (-p.x),.I (-p.y)]:=rfl
  rw [ep] at st1
  rw [eq'] at st2
  rw [ep2] at st3
  have ePr:encSte (pairS ⟨#[97]⟩ ⟨#[98]⟩ ⟨#[120]⟩ b p) = .agg [.s (.string ⟨#[120]⟩),.I 1,.fs [.agg [.s (.string ⟨#[97]⟩),.I b.x,.I b.y],.agg [.s (.string ⟨#[98]⟩),.I (b.x + p.x),.I (b.y + p.y)]]]:=rfl
  have eTr:encSte (pairS ⟨#[97]⟩ ⟨#[98]⟩ ⟨#[120]⟩ f q) = .agg [.s (.string ⟨#[120]⟩),.I 1,.fs [.agg [.s (.string ⟨#[97]⟩),.I f.x,.I f.y],.agg [.s (.string ⟨#[98]⟩),.I (f.x + q.x),.I (f.y + q.y)]]]:=rfl
  rw [ePr,eTr] at tp
  have T8a:((sec:Int) + 2 * k).tmod 8 = ((sec:Int) + 2 * k) % 8:=Int.tmod_eq_emod_of_nonneg (by omega)
  have T8b:((sec:Int) + 4).tmod 8 = ((sec:Int) + 4) % 8:=Int.tmod_eq_emod_of_nonneg (by omega)
  have hp1:(decide (p.x = 0) && decide (p.y = 0)) = false:=by rw [← Bool.not_eq_true,Bool.and_eq_true,decide_eq_true_eq,decide_eq_true_eq];exact hp0
  refine callP_q (st1 _) ?_
  simp -implicitDefEqProofs (disch:=first|omega|(simp only [go_sem,seval,-List.reduceReplicate,T8a];first|done|omega)) only [go_sem,seval,-List.reduceReplicate,T8a]
  refine callP_q (st2 _) ?_
  simp -implicitDefEqProofs (disch:=first|omega|(simp only [go_sem,seval,-List.reduceReplicate,T8b];first|done|omega)) only [go_sem,seval,-List.reduceReplicate,T8b]
  refine callP_q (st3 _) ?_
  simp -implicitDefEqProofs (disch:=first|omega|(simp only [go_sem,seval,-List.reduceReplicate];first|done|omega)) only [go_sem,seval,-List.reduceReplicate]
  refine callP_q (tp _) ?_
  simp -implicitDefEqProofs (disch:=first|omega|(simp only [go_sem,seval,-List.reduceReplicate,hp1,eqsV_agg];first|done|omega)) only [go_sem,seval,-List.reduceReplicate,hp1,eqsV_agg]
  have rd:Rs.drop 408 = []:=List.drop_of_length_le (by omega)
  have ud:Us.drop 408 = []:=List.drop_of_length_le (by omega)
  have zd:Z.drop 408 = []:=List.drop_of_length_le (by omega)
  refine ⟨by simp [pairsOk,okPair,apartL,refs,refs1],?_⟩
  rw [rt,rv]
  refine callP_q (r1 _) ?_
  simp -implicitDefEqProofs (disch:=first|omega|(simp only [go_sem,seval,-List.reduceReplicate,hzI,rl,rt,ro,rv,rd,ul,ut,uo,uv,ud,zl,zt,zo,zv,zd,putE_agg,List.append_nil,T4];first|done|omega)) only [go_sem,seval,-List.reduceReplicate,hzI,rl,rt,ro,rv,rd,ul,ut,uo,uv,ud,zl,zt,zo,zv,zd,putE_agg,List.append_nil,T4]
  refine callP_q (r2 _) ?_
  have g8:(m < 8) = True:=eq_true hm8
  have g8':(sec < 8) = True:=eq_true hsec
  simp -implicitDefEqProofs (disch:=first|omega|(simp only [go_sem,seval,-List.reduceReplicate,hzI,rl,rt,ro,rv,rd,ul,ut,uo,uv,ud,zl,zt,zo,zv,zd,putE_agg,List.append_nil,eqsV_agg,hq1,T8c,g8,g8',hB1,hB2,hBl,hBt,hBo,hBv,heB];first|done|omega)) only [go_sem,seval,-List.reduceReplicate,hzI,rl,rt,ro,rv,rd,ul,ut,uo,uv,ud,zl,zt,zo,zv,zd,putE_agg,List.append_nil,eqsV_agg,hq1,T8c,g8,g8',hB1,hB2,hBl,hBt,hBo,hBv,heB]
  (all_goals (first|refine post_fin ret_ok hM rfl ?_ ?_|refine post_fin0 ret_ok hM rfl ?_ ?_|refine post_fin normal_ok hM rfl ?_ ?_|refine post_fin0 normal_ok hM rfl ?_ ?_);all_goals first|(simp only [go_sem,seval,-List.reduceReplicate] <;> first|done|omega)|skip;all_goals (try simp -implicitDefEqProofs (disch:=first|omega|(simp only [go_sem,seval,-List.reduceReplicate];first|done|omega)) only [go_sem,seval,-List.reduceReplicate]))
theorem shP_add (b:Pt):shP b = addP b:=rfl
theorem mvS_back {f g:Pt → Pt} (h:∀ p,g (f p) = p) (s:Ste):mvS g (mvS f s) = s:=by
  obtain ⟨nm,least,l⟩:=s
  show (⟨nm,least,(l.map (mvT f)).map (mvT g)⟩:Ste) = _
  rw [List.map_map]
  have:(mvT g ∘ mvT f) = id:=funext fun t => mvT_back h t
  rw [this,List.map_id]
theorem shR_ok {s:Ste} {b:Pt} (h:chkSte s = 0) (hb:ptE b = 0) (hp:∀ t ∈ s.tbs,ptE (addP b t.at_) = 0):shR b s = (mvS (shP b) s,0):=by
  unfold shR
  have e1:fst0 [chkSte s,ptE b] = 0:=by rw [h,hb];rfl
  have e2:shE b s = 0:=by
    unfold shE
    exact fst0_of0 fun x hx => by obtain ⟨t,ht,rfl⟩:=List.mem_map.1 hx;exact hp t ht
  rw [if_neg (fun h => h e1),if_pos e2]
theorem turnF_ok (s:Ste) (k:Nat) (b:Pt) (hs:chkSte s = 0) (hk:k < 4) (hb:0 ≤ b.x ∧ b.x ≤ 99 ∧ 0 ≤ b.y ∧ b.y ≤ 89) (h:allIn s s.tbs.length) :
    TurnF X s (mvS (trnN k) s) (mvS (shP b) s) k b (if spcE s = 0 then spcOf s.tbs else 0) (spcE s):=by
  have hpt:=all_pt hs
  have hin:∀ t ∈ s.tbs,in900 t.at_:=by
    intro t ht
    obtain ⟨i,hi,h2⟩:=List.mem_iff_getElem.1 ht
    exact h i t hi (List.getElem?_eq_some_iff.2 ⟨hi,h2⟩)
  have hl:=(chkSte_in hs).2.2.1
  have ca:chkSte (mvS (trnN k) s) = 0:=chkSte_mv (keeps_trn k) hs fun t ht => ptE_of (trnN_W (hpt t ht) k)
  have hadd:∀ t ∈ s.tbs,ptE (addP b t.at_) = 0:=fun t ht => in900_add (hin t ht) (by omega)
  have cc:chkSte (mvS (shP b) s) = 0:=chkSte_mv (keeps_add b) hs hadd
  have la:(mvS (trnN k) s).tbs.length = s.tbs.length:=List.length_map _
  have lc:(mvS (shP b) s).tbs.length = s.tbs.length:=List.length_map _
  have hbE:ptE b = 0:=ptE_of (by unfold ptIn;omega)
  have hbE2:ptE ⟨-b.x,-b.y⟩ = 0:=ptE_of (by unfold ptIn;simp only;omega)
  have t1:=q_site_TurnSite (X:=X) s k (by omega)
  have e1:turnE s k = 0:=by unfold turnE;rw [hs,rng_ok.2 ⟨by omega,by omega⟩];rfl
  rw [e1,if_pos rfl,Int.toNat_natCast] at t1
  have t2:=q_site_TurnSite (X:=X) (mvS (trnN k) s) ((4 - (k:Int)) % 4) (by omega)
  have e2:turnE (mvS (trnN k) s) ((4 - (k:Int)) % 4) = 0:=by unfold turnE;rw [ca,rng_ok.2 ⟨by omega,by omega⟩];rfl
  rw [e2,if_pos rfl,show ((4 - (k:Int)) % 4).toNat = (4 - k) % 4 from by omega,mvS_back (trn_back hk)] at t2
  have h1:=q_site_ShiftSite (X:=X) s b (by omega)
  rw [shR_ok hs hbE hadd] at h1
  have h2:=q_site_ShiftSite (X:=X) (mvS (shP b) s) ⟨-b.x,-b.y⟩ (by omega)
  have hback:∀ t ∈ (mvS (shP b) s).tbs,ptE (addP ⟨-b.x,-b.y⟩ t.at_) = 0:=by
    intro t ht
    obtain ⟨u,hu,rfl⟩:=List.mem_map.1 (show t ∈ s.tbs.map (mvT (shP b)) from ht)
    rw [mvT_at,shP_add,add_back]
    exact ptE_of (hpt u hu)
  rw [shR_ok cc hbE2 hback,mvS_back (fun p => by rw [shP_add,shP_add];exact add_back b p)] at h2
  have sp1:=q_site_Spacing (X:=X) s (by omega)
  have sp2:=q_site_Spacing (X:=X) (mvS (trnN k) s) (by omega)
  have sp3:=q_site_Spacing (X:=X) (mvS (shP b) s) (by omega)
  have se2:spcE (mvS (trnN k) s) = spcE s:=by unfold spcE;rw [ca,hs,la]
  have se3:spcE (mvS (shP b) s) = spcE s:=by unfold spcE;rw [cc,hs,lc]
  have hlt:spcE s = 0 → 2 ≤ s.tbs.length:=by
    intro h0
    unfold spcE at h0
    have:=fst0_in0 h0 (if s.tbs.length < 2 then 7 else 0) (by simp)
    split at this
    · cases this
    · omega
  have v2:(if spcE (mvS (trnN k) s) = 0 then spcOf (mvS (trnN k) s).tbs else 0) = if spcE s = 0 then spcOf s.tbs else 0:=by
    rw [se2]
    split
    · rename_i h0;exact spc_mv (keeps_trn k) (hlt h0)
    · rfl
  have v3:(if spcE (mvS (shP b) s) = 0 then spcOf (mvS (shP b) s).tbs else 0) = if spcE s = 0 then spcOf s.tbs else 0:=by
    rw [se3]
    split
    · rename_i h0;exact spc_mv (keeps_add b) (hlt h0)
    · rfl
  rw [v2,se2] at sp2
  rw [v3,se3] at sp3
  have sm:=q_ref01_SameSite (X:=X) s s (by omega)
  rw [decide_eq_true ⟨rfl,rfl,rfl⟩] at sm
  have kA:=q_ref01_CheckSite (X:=X) (mvS (trnN k) s) (by omega)
  have kC:=q_ref01_CheckSite (X:=X) (mvS (shP b) s) (by omega)
  rw [ca] at kA
  rw [cc] at kC
  refine ⟨t1,t2,h1,h2,q_law01_given s (by omega),q_law01_given _ (by omega),q_law01_given _ (by omega),q_law01_own s (by omega),q_law01_own _ (by omega),q_law01_own _ (by omega),sm,kA,kC,sp1,sp2,sp3,?_⟩
  rw [eq_iff_iff]
  unfold spcE
  rw [hs]
  by_cases h2:s.tbs.length < 2
  · rw [if_pos h2]
    constructor
    · intro h;cases h
    · intro h;omega
  · rw [if_neg h2]
    constructor
    · intro _;omega
    · intro _;rfl
theorem step_trn:∀ sec:_root_.Fin 8,∀ k:_root_.Fin 4,stepOf (((sec.val:Int) + 2 * (k.val:Int)) % 8) = trnN k.val (stepOf (sec.val:Int)):=by decide
theorem step_opp:∀ sec:_root_.Fin 8,stepOf (((sec.val:Int) + 4) % 8) = ⟨-(stepOf (sec.val:Int)).x,-(stepOf (sec.val:Int)).y⟩:=by decide
theorem step_bd:∀ sec:_root_.Fin 8,(¬ ((stepOf (sec.val:Int)).x = 0 ∧ (stepOf (sec.val:Int)).y = 0)) ∧ (-1 ≤ (stepOf (sec.val:Int)).x ∧ (stepOf (sec.val:Int)).x ≤ 1 ∧ -1 ≤ (stepOf (sec.val:Int)).y ∧ (stepOf (sec.val:Int)).y ≤ 1) ∧ 1 ≤ (stepOf (sec.val:Int)).x * (stepOf (sec.val:Int)).x + (stepOf (sec.val:Int)).y * (stepOf (sec.val:Int)).y:=by decide
theorem q_law01_SiteTurned (hW:Q X 17 [] (.B true)) (s:Ste) (R:Rse) (n0 n1 n2:Int) (lR:R.length = 408) (hn:(0 ≤ n0 ∧ n0 ≤ 255) ∧ (0 ≤ n1 ∧ n1 ≤ 255) ∧ 0 ≤ n2 ∧ n2 ≤ 255) :
    Q X 7 [encSte s,encRs R,.agg [.s (.int .u8 n0),.s (.int .u8 n1),.s (.int .u8 n2)]] (.B true):=by
  have sh:=q_ref01_ShortSite (X:=X) s
  have es:=encSte_eq s
  have eR:encRs R = .agg (R.map .I):=rfl
  have hc:=cells_mk lR
  have hw:=fun m:Nat => encI_lowm (n:=m) R
  have k2:=q_ref01_CheckRose (X:=X) R lR
  by_cases h1:shortS s = true
  case neg =>
    rw [Bool.eq_false_iff.2 h1] at sh
    rw [es] at sh
    rw [es,eR]
    rw [eR] at k2
    generalize R.map PV.I = Rs at k2 hc hw
    have rl:=hc.len
    have rt:=hc.tk
    have rv:=hc.vw
    intro M
    (refine ACall_fn (cf:=L4.c7) rfl rfl fun hM hA => ?_;simp only [L4.c7,zO,zF,zT];rw [mk3 _ (by decide)];simp -implicitDefEqProofs (disch:=first|omega|(simp only [go_sem,seval,-List.reduceReplicate,rl,rt,rv];first|done|omega)) only [go_sem,seval,-List.reduceReplicate,rl,rt,rv])
    refine callP_q (hW _) ?_
    simp -implicitDefEqProofs (disch:=first|omega|(simp only [go_sem,seval,-List.reduceReplicate];first|done|omega)) only [go_sem,seval,-List.reduceReplicate]
    refine callP_q (sh _) ?_
    simp -implicitDefEqProofs (disch:=first|omega|(simp only [go_sem,seval,-List.reduceReplicate,rl,rt,rv];first|done|omega)) only [go_sem,seval,-List.reduceReplicate,rl,rt,rv]
    refine callP_q (hW _) ?_
    simp -implicitDefEqProofs (disch:=first|omega|(simp only [go_sem,seval,-List.reduceReplicate];first|done|omega)) only [go_sem,seval,-List.reduceReplicate]
    (all_goals (first|refine post_fin ret_ok hM rfl ?_ ?_|refine post_fin0 ret_ok hM rfl ?_ ?_|refine post_fin normal_ok hM rfl ?_ ?_|refine post_fin0 normal_ok hM rfl ?_ ?_);all_goals first|(simp only [go_sem,seval,-List.reduceReplicate] <;> first|done|omega)|skip;all_goals (try simp -implicitDefEqProofs (disch:=first|omega|(simp only [go_sem,seval,-List.reduceReplicate];first|done|omega)) only [go_sem,seval,-List.reduceReplicate]))
  rw [h1] at sh
  have hl:s.tbs.length ≤ 65:=by
    unfold shortS at h1
    simp only [Bool.and_eq_true,Bool.or_eq_true,decide_eq_true_eq] at h1
    omega
  have k1:=q_ref01_CheckSite (X:=X) s (by omega)
  by_cases h2:chkSte s = 0
  case neg =>
    generalize chkSte s = z at k1 h2
    rw [es] at sh k1
    rw [es,eR]
    rw [eR] at k2
    generalize R.map PV.I = Rs at k2 hc hw
    have rl:=hc.len
    have rt:=hc.tk
    have rv:=hc.vw
    intro M
    (refine ACall_fn (cf:=L4.c7) rfl rfl fun hM hA => ?_;simp only [L4.c7,zO,zF,zT];rw [mk3 _ (by decide)];simp -implicitDefEqProofs (disch:=first|omega|(simp only [go_sem,seval,-List.reduceReplicate,rl,rt,rv];first|done|omega)) only [go_sem,seval,-List.reduceReplicate,rl,rt,rv])
    refine callP_q (hW _) ?_
    simp -implicitDefEqProofs (disch:=first|omega|(simp only [go_sem,seval,-List.reduceReplicate];first|done|omega)) only [go_sem,seval,-List.reduceReplicate]
    refine callP_q (sh _) ?_
    simp -implicitDefEqProofs (disch:=first|omega|(simp only [go_sem,seval,-List.reduceReplicate,rl,rt,rv];first|done|omega)) only [go_sem,seval,-List.reduceReplicate,rl,rt,rv]
    refine callP_q (k1 _) ?_
    simp -implicitDefEqProofs (disch:=first|omega|(simp only [go_sem,seval,-List.reduceReplicate,rl,rt,rv,h2];first|done|omega)) only [go_sem,seval,-List.reduceReplicate,rl,rt,rv,h2]
    refine callP_q (hW _) ?_
    simp -implicitDefEqProofs (disch:=first|omega|(simp only [go_sem,seval,-List.reduceReplicate];first|done|omega)) only [go_sem,seval,-List.reduceReplicate]
    (all_goals (first|refine post_fin ret_ok hM rfl ?_ ?_|refine post_fin0 ret_ok hM rfl ?_ ?_|refine post_fin normal_ok hM rfl ?_ ?_|refine post_fin0 normal_ok hM rfl ?_ ?_);all_goals first|(simp only [go_sem,seval,-List.reduceReplicate] <;> first|done|omega)|skip;all_goals (try simp -implicitDefEqProofs (disch:=first|omega|(simp only [go_sem,seval,-List.reduceReplicate];first|done|omega)) only [go_sem,seval,-List.reduceReplicate]))
  rw [h2] at k1
  by_cases h3:chkRse R = 0
  case neg =>
    generalize chkRse R = z at k2 h3
    rw [es] at sh k1
    rw [es,eR]
    rw [eR] at k2
    generalize R.map PV.I = Rs at k2 hc hw
    have rl:=hc.len
    have rt:=hc.tk
    have rv:=hc.vw
    intro M
    (refine ACall_fn (cf:=L4.c7) rfl rfl fun hM hA => ?_;simp only [L4.c7,zO,zF,zT];rw [mk3 _ (by decide)];simp -implicitDefEqProofs (disch:=first|omega|(simp only [go_sem,seval,-List.reduceReplicate,rl,rt,rv];first|done|omega)) only [go_sem,seval,-List.reduceReplicate,rl,rt,rv])
    refine callP_q (hW _) ?_
    simp -implicitDefEqProofs (disch:=first|omega|(simp only [go_sem,seval,-List.reduceReplicate];first|done|omega)) only [go_sem,seval,-List.reduceReplicate]
    refine callP_q (sh _) ?_
    simp -implicitDefEqProofs (disch:=first|omega|(simp only [go_sem,seval,-List.reduceReplicate,rl,rt,rv];first|done|omega)) only [go_sem,seval,-List.reduceReplicate,rl,rt,rv]
    refine callP_q (k1 _) ?_
    simp -implicitDefEqProofs (disch:=first|omega|(simp only [go_sem,seval,-List.reduceReplicate,rl,rt,rv];first|done|omega)) only [go_sem,seval,-List.reduceReplicate,rl,rt,rv]
    refine callP_q (k2 _) ?_
    simp -implicitDefEqProofs (disch:=first|omega|(simp only [go_sem,seval,-List.reduceReplicate,rl,rt,rv,h3];first|done|omega)) only [go_sem,seval,-List.reduceReplicate,rl,rt,rv,h3]
    refine callP_q (hW _) ?_
    simp -implicitDefEqProofs (disch:=first|omega|(simp only [go_sem,seval,-List.reduceReplicate];first|done|omega)) only [go_sem,seval,-List.reduceReplicate]
    (all_goals (first|refine post_fin ret_ok hM rfl ?_ ?_|refine post_fin0 ret_ok hM rfl ?_ ?_|refine post_fin normal_ok hM rfl ?_ ?_|refine post_fin0 normal_ok hM rfl ?_ ?_);all_goals first|(simp only [go_sem,seval,-List.reduceReplicate] <;> first|done|omega)|skip;all_goals (try simp -implicitDefEqProofs (disch:=first|omega|(simp only [go_sem,seval,-List.reduceReplicate];first|done|omega)) only [go_sem,seval,-List.reduceReplicate]))
  rw [h3] at k2
  obtain ⟨k,hk⟩:∃ k:Nat,n0 % 4 = k:=⟨(n0 % 4).toNat,by omega⟩
  obtain ⟨sec,hs⟩:∃ k:Nat,n1 % 8 = k:=⟨(n1 % 8).toNat,by omega⟩
  have hk4:k < 4:=by omega
  have hs8:sec < 8:=by omega
  have a1:=step_trn ⟨sec,hs8⟩ ⟨k,hk4⟩
  have a2:=step_opp ⟨sec,hs8⟩
  obtain ⟨a3,a4,a5⟩:=step_bd ⟨sec,hs8⟩
  simp only at a1 a2 a3 a4 a5
  have st1:=q_site_Step (X:=X) sec
  have st2:=q_site_Step (X:=X) (((sec:Int) + 2 * k) % 8)
  have st3:=q_site_Step (X:=X) (((sec:Int) + 4) % 8)
  rw [rng_ok.2 ⟨by omega,by omega⟩] at st1 st2 st3
  rw [a1] at st2
  rw [a2] at st3
  have hb:0 ≤ n2 % 100 ∧ n2 % 100 ≤ 99 ∧ 0 ≤ n0 % 90 ∧ n0 % 90 ≤ 89:=by omega
  have hbp:ptIn ⟨n2 % 100,n0 % 90⟩:=by unfold ptIn;simp only;omega
  have hfp:=trnN_W hbp k
  have lU:=trnR_len (q:=k) lR (Nat.le_refl 8)
  have r1:=q_site_TurnRose (X:=X) R k lR
  have e1:trnE R k = 0:=by unfold trnE;rw [h3,rng_ok.2 ⟨by omega,by omega⟩];rfl
  rw [e1,if_pos rfl,Int.toNat_natCast] at r1
  have r2:=q_site_TurnRose (X:=X) (trnR R k 8) ((4 - (k:Int)) % 4) lU
  have e2:trnE (trnR R k 8) ((4 - (k:Int)) % 4) = 0:=by unfold trnE;rw [trnR_chk lR h3,rng_ok.2 ⟨by omega,by omega⟩];rfl
  rw [e2,if_pos rfl,show ((4 - (k:Int)) % 4).toNat = (4 - k) % 4 from by omega,trnR_back lR hk4] at r2
  have hpr:chkSte (pairS ⟨#[97]⟩ ⟨#[98]⟩ ⟨#[120]⟩ ⟨n2 % 100,n0 % 90⟩ (stepOf sec)) = 0:=pair_ok (by decide) (by decide) (by decide) (by decide) hbp (by unfold ptIn;simp only;omega) a5
  have tp:=q_site_TurnSite (X:=X) (pairS ⟨#[97]⟩ ⟨#[98]⟩ ⟨#[120]⟩ ⟨n2 % 100,n0 % 90⟩ (stepOf sec)) k (by show 2 ≤ _;omega)
  have e3:turnE (pairS ⟨#[97]⟩ ⟨#[98]⟩ ⟨#[120]⟩ ⟨n2 % 100,n0 % 90⟩ (stepOf sec)) k = 0:=by unfold turnE;rw [hpr,rng_ok.2 ⟨by omega,by omega⟩];rfl
  have e4:mvS (trnN k) (pairS ⟨#[97]⟩ ⟨#[98]⟩ ⟨#[120]⟩ ⟨n2 % 100,n0 % 90⟩ (stepOf sec)) = pairS ⟨#[97]⟩ ⟨#[98]⟩ ⟨#[120]⟩ (trnN k ⟨n2 % 100,n0 % 90⟩) (trnN k (stepOf sec)):=by
    have:=trn_add k ⟨n2 % 100,n0 % 90⟩ (stepOf sec)
    unfold mvS pairS
    simp only [List.map_cons,List.map_nil,mvT,Tb.at_] at this ⊢
    rw [this]
  rw [e3,if_pos rfl,Int.toNat_natCast,e4] at tp
  have lS:=(chkSte_in h2).2.2.1
  have hqb:-1 ≤ (trnN k (stepOf sec)).x ∧ (trnN k (stepOf sec)).x ≤ 1 ∧ -1 ≤ (trnN k (stepOf sec)).y ∧ (trnN k (stepOf sec)).y ≤ 1:=by
    have:=(step_bd ⟨(sec + 2 * k) % 8,Nat.mod_lt _ (by decide)⟩).2.1
    simp only at this
    rw [show (((sec + 2 * k) % 8:Nat):Int) = ((sec:Int) + 2 * k) % 8 from by omega,a1] at this
    exact this
  exact q_turned_core hW s (mvS (trnN k) s) (mvS (shP ⟨n2 % 100,n0 % 90⟩) s) R (trnR R k 8) k sec ⟨n2 % 100,n0 % 90⟩ (stepOf sec) (trnN k (stepOf sec)) (trnN k ⟨n2 % 100,n0 % 90⟩) (if spcE s = 0 then spcOf s.tbs else 0) (spcE s) n0 n1 n2
    sh k1 k2 lS hn hk hs rfl (all_pt h2) (turnF_ok s k _ h2 hk4 hb) st1 st2 st3 a3 a4 hqb hfp tp lR lU r1 r2 (trnR_blk lR (Nat.le_refl 8) sec hs8)
theorem q_law01_SiteTurnedL (hW:Q X 17 [] (.B true)) (s:Ste) (R:Rse) (l:List Int) (lR:R.length = 408) (h:l.length = 3 ∧ ∀ z ∈ l,0 ≤ z ∧ z ≤ 255):Q X 7 [encSte s,encRs R,.agg (l.flatMap fun z => [PV.s (.int .u8 z)])] (.B true):=by
  match l,h.1 with
  | [a,b,c],_ => exact q_law01_SiteTurned hW s R a b c lR ⟨h.2 a (by simp),h.2 b (by simp),h.2 c (by simp)⟩
end
end Go.Nac.L4
