import Derived.Test.YtclanmkmbjinaaaGreatDoorW10
set_option linter.unusedSimpArgs false
set_option linter.unusedVariables false
set_option linter.unnecessarySimpa false
set_option maxRecDepth 10000
namespace Go.Nac.L4
attribute [local congr] b1_congr b2_congr Wp_congr wpOps_congr thenK_congr blockK_congr gK_congr cK_congr
section
variable {X:XRel}
theorem q_blown_core (a b J:Ser) (R:Rse) (e v u:Int) (hW:Q X 17 [] (.B true))
    (s1:Q X 63 [encSer a] (.B true)) (s2:Q X 63 [encSer b] (.B true))
    (c1:Q X 65 [encSer a] (encSer a)) (c2:Q X 65 [encSer b] (encSer b))
    (gA:Q X 80 [encSer a,encSer b] (.tup [encSer J,.I v]))
    (gB:Q X 81 [encSer a,encSer b] (.tup [encRs R,.I u])) (hRl:R.length = 408)
    (k1:Q X 67 [encSer a] (.I (chkSer a))) (k2:Q X 67 [encSer b] (.I (chkSer b)))
    (hq:Q X 34 [.fs ([chkSer a,chkSer b].map PV.I)] (.I e))
    (h0:e = 0 → Q X 82 [encSer a,encSer b] (.tup [encRs R,.I u]) ∧ Q X 83 [encSer a,encSer b] (.I v))
    (h1:e = 0 → v = 0 → Q X 84 [encSer a,encSer b] (encSer J))
    (h2:e = 0 → v ≠ 0 → J = ser0) (h3:e ≠ 0 → J = ser0 ∧ v = e ∧ R = z408 ∧ u = e)
    (hS:Q X 85 [encSer J,encSer J] (.B true)):Q X 12 [encSer a,encSer b] (.B true):=by
  have hT:=q_law01_told (X:=X) J
  have hc:=cells_mk hRl
  have hq1:=hc.eq R hRl
  rw [decide_eq_true rfl] at hq1
  have e1:encRs R = .agg (R.map .I):=rfl
  have hzI:=z408_I
  have hcz:=cells_mk (r:=z408) List.length_replicate
  have hJ0:encSer ser0 = .agg [.s (.string ⟨#[]⟩),.I 0,.fs [],.fs []]:=rfl
  have hRZ:e ≠ 0 → R.map PV.I = z408.map PV.I:=fun h => by rw [(h3 h).2.2.1]
  have lJ1:∀ m,lowL m (J.samples.map encF) = True:=fun m => encF_low _
  have lJ2:∀ m,lowL m (J.gaps.map encSpn) = True:=fun m => encSpn_low _
  rw [e1] at gB h0
  clear e1
  generalize R.map PV.I = Rs at gB h0 hc hq1 hRZ
  generalize z408.map PV.I = Z at hcz hzI hRZ
  have ea:=encSer_eq a
  have eb:=encSer_eq b
  have eJ:=encSer_eq J
  have la1:∀ m,lowL m (a.samples.map encF) = True:=fun m => encF_low _
  have la2:∀ m,lowL m (a.gaps.map encSpn) = True:=fun m => encSpn_low _
  have lb1:∀ m,lowL m (b.samples.map encF) = True:=fun m => encF_low _
  have lb2:∀ m,lowL m (b.gaps.map encSpn) = True:=fun m => encSpn_low _
  rw [ea] at s1 c1 gA gB k1 h0 h1 ⊢
  rw [eb] at s2 c2 gA gB k2 h0 h1 ⊢
  rw [eJ] at gA h1 hT hS
  intro M
  (refine ACall_fn (cf:=L4.c12) rfl rfl fun hM hA => ?_;simp only [L4.c12];rw [mk2 _ (by decide)];simp -implicitDefEqProofs (disch:=first|omega|(simp only [go_sem,seval,-List.reduceReplicate];first|done|omega)) only [go_sem,seval,-List.reduceReplicate])
  refine callP_q (hW _) ?_
  simp -implicitDefEqProofs (disch:=first|omega|(simp only [go_sem,seval,-List.reduceReplicate];first|done|omega)) only [go_sem,seval,-List.reduceReplicate]
  refine callP_q (s1 _) ?_
  simp -implicitDefEqProofs (disch:=first|omega|(simp only [go_sem,seval,-List.reduceReplicate];first|done|omega)) only [go_sem,seval,-List.reduceReplicate]
  refine callP_q (s2 _) ?_
  simp -implicitDefEqProofs (disch:=first|omega|(simp only [go_sem,seval,-List.reduceReplicate];first|done|omega)) only [go_sem,seval,-List.reduceReplicate]
  refine pcallP_q c1 ?_ ?_
  · (simp only [go_sem,seval,-List.reduceReplicate,la1,la2] <;> first|done|omega)
  simp -implicitDefEqProofs (disch:=first|omega|(simp only [go_sem,seval,-List.reduceReplicate];first|done|omega)) only [go_sem,seval,-List.reduceReplicate]
  refine pcallP_q c2 ?_ ?_
  · (simp only [go_sem,seval,-List.reduceReplicate,lb1,lb2] <;> first|done|omega)
  simp -implicitDefEqProofs (disch:=first|omega|(simp only [go_sem,seval,-List.reduceReplicate];first|done|omega)) only [go_sem,seval,-List.reduceReplicate]
  refine pcallP_q gA ?_ ?_
  · (simp only [go_sem,seval,-List.reduceReplicate,la1,la2,lb1,lb2] <;> first|done|omega)
  have rl:=hc.len
  have rt:=hc.tk
  have ro:=hc.one
  have rv:=hc.vw
  have zl:=hcz.len
  have zt:=hcz.tk
  have zo:=hcz.one
  have zv:=hcz.vw
  have rd:Rs.drop 408 = []:=List.drop_of_length_le (by omega)
  have zd:Z.drop 408 = []:=List.drop_of_length_le (by omega)
  simp -implicitDefEqProofs (disch:=first|omega|(simp only [go_sem,seval,-List.reduceReplicate];first|done|omega)) only [go_sem,seval,-List.reduceReplicate]
  refine ⟨by simp [pairsOk,okPair,apartL,refs,refs1],?_⟩
  refine pcallP_q c1 ?_ ?_
  · (simp only [go_sem,seval,-List.reduceReplicate,la1,la2] <;> first|done|omega)
  simp -implicitDefEqProofs (disch:=first|omega|(simp only [go_sem,seval,-List.reduceReplicate];first|done|omega)) only [go_sem,seval,-List.reduceReplicate]
  refine pcallP_q c2 ?_ ?_
  · (simp only [go_sem,seval,-List.reduceReplicate,lb1,lb2] <;> first|done|omega)
  simp -implicitDefEqProofs (disch:=first|omega|(simp only [go_sem,seval,-List.reduceReplicate];first|done|omega)) only [go_sem,seval,-List.reduceReplicate]
  refine pcallP_q gB ?_ ?_
  · (simp only [go_sem,seval,-List.reduceReplicate,la1,la2,lb1,lb2] <;> first|done|omega)
  simp -implicitDefEqProofs (disch:=first|omega|(simp only [go_sem,seval,-List.reduceReplicate,hzI,rl,rt,ro,rv,rd,zl,zo,zd,zt,putE_agg,List.append_nil];first|done|omega)) only [go_sem,seval,-List.reduceReplicate,hzI,rl,rt,ro,rv,rd,zl,zo,zd,zt,putE_agg,List.append_nil]
  refine ⟨by simp [pairsOk,okPair,apartL,refs,refs1],?_⟩
  refine callP_q (k1 _) ?_
  simp -implicitDefEqProofs (disch:=first|omega|(simp only [go_sem,seval,-List.reduceReplicate];first|done|omega)) only [go_sem,seval,-List.reduceReplicate]
  refine callP_q (k2 _) ?_
  simp -implicitDefEqProofs (disch:=first|omega|(simp only [go_sem,seval,-List.reduceReplicate];first|done|omega)) only [go_sem,seval,-List.reduceReplicate]
  refine callP_q (hq _) ?_
  simp -implicitDefEqProofs (disch:=first|omega|(simp only [go_sem,seval,-List.reduceReplicate,hzI,zl];first|done|omega)) only [go_sem,seval,-List.reduceReplicate,hzI,zl]
  by_cases he:e = 0
  · obtain ⟨b1,b2⟩:=h0 he
    subst he
    simp -implicitDefEqProofs (disch:=first|omega|(simp only [go_sem,seval,-List.reduceReplicate];first|done|omega)) only [go_sem,seval,-List.reduceReplicate]
    refine callP_q (b1 _) ?_
    simp -implicitDefEqProofs (disch:=first|omega|(simp only [go_sem,seval,-List.reduceReplicate,hzI,rl,rt,ro,rv,rd,zl,zo,zd,zt,zv,putE_agg,List.append_nil];first|done|omega)) only [go_sem,seval,-List.reduceReplicate,hzI,rl,rt,ro,rv,rd,zl,zo,zd,zt,zv,putE_agg,List.append_nil]
    refine callP_q (b2 _) ?_
    by_cases hv:v = 0
    · have b3:=h1 rfl hv
      subst hv
      simp -implicitDefEqProofs (disch:=first|omega|(simp only [go_sem,seval,-List.reduceReplicate];first|done|omega)) only [go_sem,seval,-List.reduceReplicate]
      refine callP_q (b3 _) ?_
      simp -implicitDefEqProofs (disch:=first|omega|(simp only [go_sem,seval,-List.reduceReplicate];first|done|omega)) only [go_sem,seval,-List.reduceReplicate]
      refine callP_q (hT _) ?_
      simp -implicitDefEqProofs (disch:=first|omega|(simp only [go_sem,seval,-List.reduceReplicate];first|done|omega)) only [go_sem,seval,-List.reduceReplicate]
      refine callP_q (hS _) ?_
      simp -implicitDefEqProofs (disch:=first|omega|(simp only [go_sem,seval,-List.reduceReplicate,hzI,rl,rt,ro,rv,rd,zl,zo,zd,zt,zv,putE_agg,List.append_nil,eqsV_agg,hq1];first|done|omega)) only [go_sem,seval,-List.reduceReplicate,hzI,rl,rt,ro,rv,rd,zl,zo,zd,zt,zv,putE_agg,List.append_nil,eqsV_agg,hq1]
      (all_goals (first|refine post_fin ret_ok hM rfl ?_ ?_|refine post_fin0 ret_ok hM rfl ?_ ?_|refine post_fin normal_ok hM rfl ?_ ?_|refine post_fin0 normal_ok hM rfl ?_ ?_);all_goals first|(simp only [go_sem,seval,-List.reduceReplicate] <;> first|done|omega)|skip;all_goals (try simp -implicitDefEqProofs (disch:=first|omega|(simp only [go_sem,seval,-List.reduceReplicate];first|done|omega)) only [go_sem,seval,-List.reduceReplicate]))
    · obtain rfl:=h2 rfl hv
      simp -implicitDefEqProofs (disch:=first|omega|(simp only [go_sem,seval,-List.reduceReplicate,hv];first|done|omega)) only [go_sem,seval,-List.reduceReplicate,hv]
      refine callP_q (hT _) ?_
      simp -implicitDefEqProofs (disch:=first|omega|(simp only [go_sem,seval,-List.reduceReplicate];first|done|omega)) only [go_sem,seval,-List.reduceReplicate]
      refine callP_q (hS _) ?_
      simp -implicitDefEqProofs (disch:=first|omega|(simp only [go_sem,seval,-List.reduceReplicate,hzI,rl,rt,ro,rv,rd,zl,zo,zd,zt,zv,putE_agg,List.append_nil,eqsV_agg,hq1];first|done|omega)) only [go_sem,seval,-List.reduceReplicate,hzI,rl,rt,ro,rv,rd,zl,zo,zd,zt,zv,putE_agg,List.append_nil,eqsV_agg,hq1]
      (all_goals (first|refine post_fin ret_ok hM rfl ?_ ?_|refine post_fin0 ret_ok hM rfl ?_ ?_|refine post_fin normal_ok hM rfl ?_ ?_|refine post_fin0 normal_ok hM rfl ?_ ?_);all_goals first|(simp only [go_sem,seval,-List.reduceReplicate] <;> first|done|omega)|skip;all_goals (try simp -implicitDefEqProofs (disch:=first|omega|(simp only [go_sem,seval,-List.reduceReplicate];first|done|omega)) only [go_sem,seval,-List.reduceReplicate]))
  · obtain ⟨rfl,rfl,_,rfl⟩:=h3 he
    have hRZ:=hRZ he
    simp -implicitDefEqProofs (disch:=first|omega|(simp only [go_sem,seval,-List.reduceReplicate,he];first|done|omega)) only [go_sem,seval,-List.reduceReplicate,he]
    refine callP_q (hT _) ?_
    simp -implicitDefEqProofs (disch:=first|omega|(simp only [go_sem,seval,-List.reduceReplicate];first|done|omega)) only [go_sem,seval,-List.reduceReplicate]
    refine callP_q (hS _) ?_
    rw [hRZ] at hq1 rl rt rv ⊢
    simp -implicitDefEqProofs (disch:=first|omega|(simp only [go_sem,seval,-List.reduceReplicate,hzI,rl,rt,ro,rv,rd,zl,zo,zd,zt,zv,putE_agg,List.append_nil,eqsV_agg,hq1];first|done|omega)) only [go_sem,seval,-List.reduceReplicate,hzI,rl,rt,ro,rv,rd,zl,zo,zd,zt,zv,putE_agg,List.append_nil,eqsV_agg,hq1]
    (all_goals (first|refine post_fin ret_ok hM rfl ?_ ?_|refine post_fin0 ret_ok hM rfl ?_ ?_|refine post_fin normal_ok hM rfl ?_ ?_|refine post_fin0 normal_ok hM rfl ?_ ?_);all_goals first|(simp only [go_sem,seval,-List.reduceReplicate] <;> first|done|omega)|skip;all_goals (try simp -implicitDefEqProofs (disch:=first|omega|(simp only [go_sem,seval,-List.reduceReplicate];first|done|omega)) only [go_sem,seval,-List.reduceReplicate]))
theorem blownR_bad {a b:Ser} (h:¬ fst0 [chkSer a,chkSer b] = 0):blownR a b = (z408,fst0 [chkSer a,chkSer b]):=by
  have e:blownE a b = fst0 [chkSer a,chkSer b]:=by
    unfold blownE
    simp only [fst0] at h ⊢
    by_cases h1:chkSer a = 0
    · rw [if_pos h1] at h ⊢
      rw [if_pos h1]
      by_cases h2:chkSer b = 0
      · rw [if_pos h2] at h;exact absurd rfl h
      · rw [if_neg h2,if_neg h2]
    · rw [if_neg h1,if_neg h1]
  unfold blownR
  rw [e,if_neg h]
theorem blownR_len (a b:Ser):(blownR a b).1.length = 408:=by
  unfold blownR
  split
  · cases h:blTo b (recOf a.samples a.gaps) with
    | none => exact List.length_replicate
    | some r => exact (blK_in (a:=a) (Nat.le_refl _) h).1
  · exact List.length_replicate
theorem q_law01_SiteBlown (hX:FloorX X) (hS:SortX X) (hW:Q X 17 [] (.B true)) (a b:Ser):Q X 12 [encSer a,encSer b] (.B true):=by
  have s1:=q_ref01_Short (X:=X) a
  have s2:=q_ref01_Short (X:=X) b
  have es:=encSer_eq a
  have et:=encSer_eq b
  by_cases h1:shortB a = true
  case neg =>
    have h1:shortB a = false:=by simpa using h1
    rw [h1,es] at s1
    rw [es,et]
    intro M
    (refine ACall_fn (cf:=L4.c12) rfl rfl fun hM hA => ?_;simp only [L4.c12];rw [mk2 _ (by decide)];simp -implicitDefEqProofs (disch:=first|omega|(simp only [go_sem,seval,-List.reduceReplicate];first|done|omega)) only [go_sem,seval,-List.reduceReplicate])
    refine callP_q (hW _) ?_
    simp -implicitDefEqProofs (disch:=first|omega|(simp only [go_sem,seval,-List.reduceReplicate];first|done|omega)) only [go_sem,seval,-List.reduceReplicate]
    refine callP_q (s1 _) ?_
    simp -implicitDefEqProofs (disch:=first|omega|(simp only [go_sem,seval,-List.reduceReplicate];first|done|omega)) only [go_sem,seval,-List.reduceReplicate]
    refine callP_q (hW _) ?_
    simp -implicitDefEqProofs (disch:=first|omega|(simp only [go_sem,seval,-List.reduceReplicate];first|done|omega)) only [go_sem,seval,-List.reduceReplicate]
    (all_goals (first|refine post_fin ret_ok hM rfl ?_ ?_|refine post_fin0 ret_ok hM rfl ?_ ?_|refine post_fin normal_ok hM rfl ?_ ?_|refine post_fin0 normal_ok hM rfl ?_ ?_);all_goals first|(simp only [go_sem,seval,-List.reduceReplicate] <;> first|done|omega)|skip;all_goals (try simp -implicitDefEqProofs (disch:=first|omega|(simp only [go_sem,seval,-List.reduceReplicate];first|done|omega)) only [go_sem,seval,-List.reduceReplicate]))
  by_cases h2:shortB b = true
  case neg =>
    have h2:shortB b = false:=by simpa using h2
    rw [h1,es] at s1
    rw [h2,et] at s2
    rw [es,et]
    intro M
    (refine ACall_fn (cf:=L4.c12) rfl rfl fun hM hA => ?_;simp only [L4.c12];rw [mk2 _ (by decide)];simp -implicitDefEqProofs (disch:=first|omega|(simp only [go_sem,seval,-List.reduceReplicate];first|done|omega)) only [go_sem,seval,-List.reduceReplicate])
    refine callP_q (hW _) ?_
    simp -implicitDefEqProofs (disch:=first|omega|(simp only [go_sem,seval,-List.reduceReplicate];first|done|omega)) only [go_sem,seval,-List.reduceReplicate]
    refine callP_q (s1 _) ?_
    simp -implicitDefEqProofs (disch:=first|omega|(simp only [go_sem,seval,-List.reduceReplicate];first|done|omega)) only [go_sem,seval,-List.reduceReplicate]
    refine callP_q (s2 _) ?_
    simp -implicitDefEqProofs (disch:=first|omega|(simp only [go_sem,seval,-List.reduceReplicate];first|done|omega)) only [go_sem,seval,-List.reduceReplicate]
    refine callP_q (hW _) ?_
    simp -implicitDefEqProofs (disch:=first|omega|(simp only [go_sem,seval,-List.reduceReplicate];first|done|omega)) only [go_sem,seval,-List.reduceReplicate]
    (all_goals (first|refine post_fin ret_ok hM rfl ?_ ?_|refine post_fin0 ret_ok hM rfl ?_ ?_|refine post_fin normal_ok hM rfl ?_ ?_|refine post_fin0 normal_ok hM rfl ?_ ?_);all_goals first|(simp only [go_sem,seval,-List.reduceReplicate] <;> first|done|omega)|skip;all_goals (try simp -implicitDefEqProofs (disch:=first|omega|(simp only [go_sem,seval,-List.reduceReplicate];first|done|omega)) only [go_sem,seval,-List.reduceReplicate]))
  clear es et
  rw [h1] at s1
  rw [h2] at s2
  obtain ⟨l1,l2⟩:=short_len h1
  obtain ⟨l3,l4⟩:=short_len h2
  have hq:=q_law01_first (X:=X) [chkSer a,chkSer b] (by simp)
  refine q_blown_core a b (apdR a b).1 (blownR a b).1 (fst0 [chkSer a,chkSer b]) (apdR a b).2 (blownR a b).2 hW s1 s2 (q_law01_series a (by omega) (by omega)) (q_law01_series b (by omega) (by omega))
    (q_site_Append hS a b (by omega) (by omega) (by omega) (by omega)) (q_site_Blown a b (by omega) (by omega) (by omega) (by omega)) (blownR_len a b)
    (q_ref01_CheckSeries hX a (by omega) (by omega)) (q_ref01_CheckSeries hX b (by omega) (by omega)) hq ?_ ?_ ?_ ?_ ?_
  · intro h
    have h0:=fst0_in0 h
    have ga:=h0 (chkSer a) (by simp)
    have gb:=h0 (chkSer b) (by simp)
    rw [(apdR_chk ga gb).1]
    exact ⟨q_ref01_Blown a b ga gb,q_ref01_CheckAppend a b ga gb⟩
  · intro h hv
    have h0:=fst0_in0 h
    have ga:=h0 (chkSer a) (by simp)
    have gb:=h0 (chkSer b) (by simp)
    rw [(apdR_chk ga gb).1] at hv
    rw [(apdR_chk ga gb).2,if_pos hv]
    refine q_ref01_Append a b ga gb ?_
    unfold chkApp at hv
    split at hv
    · cases hv
    · split at hv
      · cases hv
      · split at hv
        · cases hv
        · rename_i h;omega
  · intro h hv
    have h0:=fst0_in0 h
    have ga:=h0 (chkSer a) (by simp)
    have gb:=h0 (chkSer b) (by simp)
    rw [(apdR_chk ga gb).1] at hv
    rw [(apdR_chk ga gb).2,if_neg hv]
  · intro h
    rw [apdR_bad h,blownR_bad h]
    exact ⟨rfl,rfl,rfl,rfl⟩
  · have key:(∀ x ∈ (apdR a b).1.samples,smpE x = 0) ∧ (apdR a b).1.samples.length ≤ 1048576 ∧ (apdR a b).1.gaps.length ≤ 1048576:=by
      by_cases h:fst0 [chkSer a,chkSer b] = 0
      · have h0:=fst0_in0 h
        have ga:=h0 (chkSer a) (by simp)
        have gb:=h0 (chkSer b) (by simp)
        rw [(apdR_chk ga gb).2]
        split
        · rename_i hv
          refine ⟨?_,?_,?_⟩
          · intro x hx
            rcases List.mem_append.1 (show x ∈ a.samples ++ b.samples from hx) with hx|hx
            · exact (serIn_of ga).2 x hx
            · exact (serIn_of gb).2 x hx
          · show (a.samples ++ b.samples).length ≤ _
            rw [List.length_append];omega
          · show (apdG a b).length ≤ _
            unfold chkApp at hv
            split at hv
            · cases hv
            · split at hv
              · cases hv
              · split at hv
                · cases hv
                · split at hv
                  · cases hv
                  · omega
        · exact ⟨fun x hx => (by cases hx),Nat.zero_le _,Nat.zero_le _⟩
      · rw [apdR_bad h]
        exact ⟨fun x hx => (by cases hx),Nat.zero_le _,Nat.zero_le _⟩
    obtain ⟨k1,k2,k3⟩:=key
    have:=q_ref01_SameSeries (X:=X) (apdR a b).1 (apdR a b).1 k1 k1 k2 k3
    simpa using this
end
end Go.Nac.L4
