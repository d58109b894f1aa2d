import Derived.Test.YtclanmkmbjinaaaGreatDoorW09
set_option linter.unusedSimpArgs false
set_option linter.unusedVariables false
set_option linter.unnecessarySimpa false
set_option maxRecDepth 10000
namespace Go.Nac.L4
attribute [local congr] b1_congr b2_congr Wp_congr wpOps_congr thenK_congr blockK_congr gK_congr cK_congr
section
variable {X:XRel}
def spellE (s:Ser) (lv:Nat) (n:Int):Int:=fst0 [chkSer s,smpE lv,rng n 1 40000]
def spellL (s:Ser) (lv:Nat) (n:Int):List Spn:=longK n (spTo lv (recOf s.samples s.gaps))
def spellR (s:Ser) (lv:Nat) (n:Int):List Spn × Int :=
  if spellE s lv n = 0 then (if 1024 < (spellL s lv n).length then ([],5) else (spellL s lv n,0)) else ([],spellE s lv n)
theorem q_site_Spells (s:Ser) (lv:Nat) (n:Int) (hl:s.samples.length ≤ 1048576) (hgl:s.gaps.length ≤ 1048576):Q X 66 [encSer s,encF lv,.I n] (.tup [.fs ((spellR s lv n).1.map encSpn),.I (spellR s lv n).2]):=by
  intro M
  have e:=encSer_eq s
  (refine ACall_fn (cf:=L4.c66) rfl rfl fun hM hA => ?_;simp only [L4.c66,zO,zF,zT];rw [mk3 _ (by decide)];simp -implicitDefEqProofs (disch:=first|omega|(simp only [go_sem,seval,e];first|done|omega)) only [go_sem,seval,e])
  refine callP_q (q_site_CheckSeries s hl hgl _) ?_
  simp -implicitDefEqProofs (disch:=first|omega|(simp only [go_sem,seval];first|done|omega)) only [go_sem,seval]
  refine callP_q (q_site_CheckSample lv _) ?_
  simp -implicitDefEqProofs (disch:=first|omega|(simp only [go_sem,seval];first|done|omega)) only [go_sem,seval]
  refine callP_q (q_site_within _ _ _ _) ?_
  simp -implicitDefEqProofs (disch:=first|omega|(simp only [go_sem,seval];first|done|omega)) only [go_sem,seval]
  have hq:=q_site_first (X:=X) [chkSer s,smpE lv,rng n 1 40000] (by simp) M
  have e1:spellE s lv n = fst0 [chkSer s,smpE lv,rng n 1 40000]:=rfl
  rw [← e1] at hq
  refine callP_q hq ?_
  unfold spellR
  by_cases h0:spellE s lv n = 0
  case neg =>
    rw [if_neg h0]
    generalize spellE s lv n = ee at h0
    simp -implicitDefEqProofs (disch:=first|omega|(simp only [go_sem,seval,h0];first|done|omega)) only [go_sem,seval,h0]
    (all_goals (first|refine post_fin ret_ok hM rfl ?_ ?_|refine post_fin0 ret_ok hM rfl ?_ ?_|refine post_fin normal_ok hM rfl ?_ ?_|refine post_fin0 normal_ok hM rfl ?_ ?_);all_goals first|(simp only [go_sem,seval] <;> first|done|omega)|skip;all_goals (try simp -implicitDefEqProofs (disch:=first|omega|(simp only [go_sem,seval];first|done|omega)) only [go_sem,seval]))
  rw [if_pos h0,h0]
  rw [e1] at h0
  have g0:=fst0_in0 h0
  have g1:=g0 (chkSer s) (by simp)
  have g2:=g0 (smpE lv) (by simp)
  have g3:=g0 (rng n 1 40000) (by simp)
  obtain ⟨hin,hsm⟩:=serIn_of g1
  rw [rng_ok] at g3
  simp -implicitDefEqProofs (disch:=first|omega|(simp only [go_sem,seval,e];first|done|omega)) only [go_sem,seval,e]
  refine callP_q (q_site_recorded s _) ?_
  have hrec:∀ p ∈ recOf s.samples s.gaps,smpE p.2 = 0:=fun p hp => hsm _ (rec_mem hp).1
  have hrl:(recOf s.samples s.gaps).length ≤ 40000:=Nat.le_trans (rec_len _ _ _) hin.1
  have hidx:∀ p ∈ recOf s.samples s.gaps,p.1 < 40000:=fun p hp => Nat.lt_of_lt_of_le (rec_mem hp).2 hin.1
  have hlen:=recP_len s.samples s.gaps
  have hy:=y_recorded (X:=X) s hin
  have hsn:=fun (k:Nat) (p:Nat × Nat) (hp:(recOf s.samples s.gaps)[k]? = some p) => spTo_snoc (lv:=lv) hp
  have hspl:=fun k:Nat => spTo_len lv ((recOf s.samples s.gaps).take k)
  simp -implicitDefEqProofs (disch:=first|omega|(simp only [go_sem,seval];first|done|omega)) only [go_sem,seval]
  refine range_pairs hy (fun k => [.row true 1 0 [.os (M.length + 2) (spTo lv ((recOf s.samples s.gaps).take k)).length 0 (spTo lv ((recOf s.samples s.gaps).take k)).length],.row true 2 0 [],.row true 2 (spTo lv ((recOf s.samples s.gaps).take k)).length ((spTo lv ((recOf s.samples s.gaps).take k)).map encSpn)]) (recP s.samples s.gaps).length (Nat.le_refl _) hM (by simp -implicitDefEqProofs (disch:=first|omega|(simp only [go_sem,seval];first|done|omega)) only [go_sem,seval]) (fun k => rfl) ?_ ?_ ?_ ?_
  · intro k _
    simp only [go_sem,seval,encSpn_low]
    try simp
  · refine (?_:lowL (M.length + (0 + 1 + 1 + 1)) _)
    simp only [go_sem,seval,encSer_eq,encF_low,encSpn_low]
    try simp
  · intro k x E L LB hk hx hE
    obtain ⟨p,hp,rfl⟩:∃ p,(recOf s.samples s.gaps)[k]? = some p ∧ (PV.I p.1,encF p.2) = x:=by
      unfold recP at hx;rw [List.getElem?_map] at hx;exact Option.map_eq_some_iff.1 hx
    have hk':k < (recOf s.samples s.gaps).length:=by omega
    have hxs:=hrec p (List.mem_of_getElem? hp)
    have hxi:=hidx p (List.mem_of_getElem? hp)
    have hss:=hsn k p hp
    have hol:=hspl k
    have htl:((recOf s.samples s.gaps).take k).length = k:=by rw [List.length_take];omega
    simp only [hss]
    generalize spTo lv ((recOf s.samples s.gaps).take k) = o at hol ⊢
    obtain ⟨j,y⟩:=p
    simp only at hxs hxi ⊢
    clear hss hx hsn
    have hgt:=s_gtr_smp hxs g2
    simp -implicitDefEqProofs (disch:=first|omega|(simp only [go_sem,seval,encSpn_eq];first|done|omega)) only [go_sem,seval,encSpn_eq]
    refine roundB (by rw [getMj];rfl) ?_
    by_cases hab:aboveB y lv = true
    · rw [splStep_above hab]
      rw [hab] at hgt
      simp -implicitDefEqProofs (disch:=first|omega|(simp only [go_sem,seval,hgt,encSpn_eq];first|done|omega)) only [go_sem,seval,hgt,encSpn_eq]
      exact roundX [] (by simp)
    have hab':aboveB y lv = false:=by simpa using hab
    rw [hab'] at hgt
    simp -implicitDefEqProofs (disch:=first|omega|(simp only [go_sem,seval,hgt,encSpn_eq];first|done|omega)) only [go_sem,seval,hgt,encSpn_eq]
    have hol1:o.length ≤ 40000:=by omega
    clear hspl hy hidx hrec hE
    rcases (by omega:o.length = 0 ∨ 1 ≤ o.length) with h0|h0
    · have ho:o = []:=List.eq_nil_of_length_eq_zero h0
      subst ho
      rw [splStep_nil hab']
      simp -implicitDefEqProofs (disch:=first|omega|(simp only [go_sem,seval,List.length_nil,Int.lt_irrefl];first|done|omega)) only [go_sem,seval,List.length_nil,Int.lt_irrefl]
      refine roundX [] ?_
      simp [encSpn]
    · have f1:((0:Int) < o.length) = True:=eq_true (by omega)
      obtain ⟨z,g1⟩:∃ z,o[o.length - 1]? = some z:=⟨_,List.getElem?_eq_getElem (by omega)⟩
      have e1:(o.length:Int) - 1 = ((o.length - 1:Nat):Int):=by omega
      have l1:o.length - 1 < o.length:=by omega
      have eset:(o.map encSpn).set (o.length - 1) (.agg [.I z.fr,.I ((j:Int) + 1)]) = (o.set (o.length - 1) ⟨z.fr,(j:Int) + 1⟩).map encSpn:=by rw [List.map_set];rfl
      by_cases hc:z.to_ = j
      · have hst:=splStep_ext hab' g1 hc
        rw [hst]
        simp -implicitDefEqProofs (disch:=first|omega|(simp only [go_sem,seval,f1,e1,g1,l1,hc,encSpn_cells,encSpn_eq,eset];first|done|omega)) only [go_sem,seval,f1,e1,g1,l1,hc,encSpn_cells,encSpn_eq,eset]
        refine roundX [] ?_
        simp
      · have hst:=splStep_new hab' g1 hc
        rw [hst]
        simp -implicitDefEqProofs (disch:=first|omega|(simp only [go_sem,seval,f1,e1,g1,l1,hc,encSpn_cells,encSpn_eq,eset];first|done|omega)) only [go_sem,seval,f1,e1,g1,l1,hc,encSpn_cells,encSpn_eq,eset]
        refine roundX [] ?_
        simp [encSpn]
  · refine .inl ⟨rfl,?_⟩
    have hall:(recOf s.samples s.gaps).take (recP s.samples s.gaps).length = recOf s.samples s.gaps:=List.take_of_length_le (by omega)
    rw [hall]
    have hL:spellL s lv n = longK n (spTo lv (recOf s.samples s.gaps)):=rfl
    rw [hL]
    have hin2:spIn 40000 (spTo lv (recOf s.samples s.gaps)):=spTo_in hidx
    have hsl:=spTo_len lv (recOf s.samples s.gaps)
    generalize spTo lv (recOf s.samples s.gaps) = all at hin2 hsl ⊢
    have hlk:=fun k:Nat => longK_len n (all.take k)
    simp -implicitDefEqProofs (disch:=first|omega|(simp only [go_sem,seval];first|done|omega)) only [go_sem,seval]
    refine loop_mk (α:=Nat) 0 (fun k => k ≤ all.length) (fun k => M ++ [.row true 1 0 [.os (M.length + 2) all.length 0 all.length],.row true 2 (longK n (all.take k)).length ((longK n (all.take k)).map encSpn),.row true 2 all.length (all.map encSpn)])
      (fun k => [(2,.I n),(10,.os (M.length + 1) (longK n (all.take k)).length 0 (longK n (all.take k)).length),(62,.os (M.length + 2) all.length 0 all.length),(63,.I all.length),(64,.I k)]) (fun k => all.length - k) (Nat.zero_le _) rfl rfl ?_
    intro k hk
    have hkk:=hlk k
    have htl:(all.take k).length = k:=by rw [List.length_take];omega
    by_cases hlt:k < all.length
    · obtain ⟨z,hz⟩:∃ z,all[k]? = some z:=⟨_,List.getElem?_eq_getElem hlt⟩
      have hzi:=hin2 z (List.mem_of_getElem? hz)
      have hsn2:=longK_snoc (least:=n) hz
      have again:∀ o:List Spn,longK n (all.take (k + 1)) = o → Again 84 (fun k => k ≤ all.length) (fun k => M ++ [.row true 1 0 [.os (M.length + 2) all.length 0 all.length],.row true 2 (longK n (all.take k)).length ((longK n (all.take k)).map encSpn),.row true 2 all.length (all.map encSpn)])
        (fun k => [(2,.I n),(10,.os (M.length + 1) (longK n (all.take k)).length 0 (longK n (all.take k)).length),(62,.os (M.length + 2) all.length 0 all.length),(63,.I all.length),(64,.I k)]) (fun k => all.length - k) k
        (M ++ [.row true 1 0 [.os (M.length + 2) all.length 0 all.length],.row true 2 o.length (o.map encSpn),.row true 2 all.length (all.map encSpn)]) (mk 84 [(2,.I n),(10,.os (M.length + 1) o.length 0 o.length),(62,.os (M.length + 2) all.length 0 all.length),(63,.I all.length),(64,.I (k + 1))]):=by
        rintro o rfl
        exact again' (k + 1) (by omega) (by omega) rfl rfl
      rw [hsn2] at again
      generalize longK n (all.take k) = o at hkk again ⊢
      simp -implicitDefEqProofs (disch:=first|omega|(simp only [go_sem,seval,hlt,hz,encSpn_cells,encSpn_eq];first|done|omega)) only [go_sem,seval,hlt,hz,encSpn_cells,encSpn_eq]
      by_cases hc:n ≤ z.to_ - z.fr
      · rw [if_pos hc] at again
        simp -implicitDefEqProofs (disch:=first|omega|(simp only [go_sem,seval,hc,encSpn_cells,encSpn_eq];first|done|omega)) only [go_sem,seval,hc,encSpn_cells,encSpn_eq]
        refine Wp_cut_at hM rfl 3 (by simp) (by first|done|(simp only [go_sem,seval,encSpn_low] <;> first|done|(refine ⟨?_,?_⟩ <;> omega)|omega)) (lowL_mk (by first|done|(simp only [go_sem,seval,encSpn_low] <;> first|done|(refine ⟨?_,?_⟩ <;> omega)|omega))) ?_
        simp -implicitDefEqProofs (disch:=first|omega|(simp only [go_sem,seval];first|done|omega)) only [go_sem,seval]
        have:=again _ rfl
        simpa [encSpn] using this
      · rw [if_neg hc,List.append_nil] at again
        simp -implicitDefEqProofs (disch:=first|omega|(simp only [go_sem,seval,hc,encSpn_cells,encSpn_eq];first|done|omega)) only [go_sem,seval,hc,encSpn_cells,encSpn_eq]
        refine Wp_cut_at hM rfl 3 (by simp) (by first|done|(simp only [go_sem,seval,encSpn_low] <;> first|done|(refine ⟨?_,?_⟩ <;> omega)|omega)) (lowL_mk (by first|done|(simp only [go_sem,seval,encSpn_low] <;> first|done|(refine ⟨?_,?_⟩ <;> omega)|omega))) ?_
        simp -implicitDefEqProofs (disch:=first|omega|(simp only [go_sem,seval];first|done|omega)) only [go_sem,seval]
        exact again _ rfl
    have hkk2:k = all.length:=by omega
    subst hkk2
    rw [List.take_length]
    have hll:=longK_len n all
    generalize longK n all = out at hll
    by_cases hbig:1024 < out.length
    · have f1:((1024:Int) < out.length) = True:=eq_true (by omega)
      rw [if_pos hbig]
      simp -implicitDefEqProofs (disch:=first|omega|(simp only [go_sem,seval,hlt,f1];first|done|omega)) only [go_sem,seval,hlt,f1]
      (all_goals (first|refine post_fin ret_ok hM rfl ?_ ?_|refine post_fin0 ret_ok hM rfl ?_ ?_|refine post_fin normal_ok hM rfl ?_ ?_|refine post_fin0 normal_ok hM rfl ?_ ?_);all_goals first|(simp only [go_sem,seval] <;> first|done|omega)|skip;all_goals (try simp -implicitDefEqProofs (disch:=first|omega|(simp only [go_sem,seval];first|done|omega)) only [go_sem,seval]))
    · have f1:((1024:Int) < out.length) = False:=eq_false (by omega)
      rw [if_neg hbig]
      simp -implicitDefEqProofs (disch:=first|omega|(simp only [go_sem,seval,hlt,f1];first|done|omega)) only [go_sem,seval,hlt,f1]
      (all_goals (first|refine post_fin ret_ok hM rfl ?_ ?_|refine post_fin0 ret_ok hM rfl ?_ ?_|refine post_fin normal_ok hM rfl ?_ ?_|refine post_fin0 normal_ok hM rfl ?_ ?_);all_goals first|(simp only [go_sem,seval,encSpn_low] <;> first|done|omega)|skip;all_goals (try simp -implicitDefEqProofs (disch:=first|omega|(simp only [go_sem,seval];first|done|omega)) only [go_sem,seval]))
theorem q_site_Blown (a b:Ser) (ha:a.samples.length ≤ 1048576) (hag:a.gaps.length ≤ 1048576) (hb:b.samples.length ≤ 1048576) (hbg:b.gaps.length ≤ 1048576) :
    Q X 81 [encSer a,encSer b] (.tup [encRs (blownR a b).1,.I (blownR a b).2]):=by
  intro M
  have ea:=encSer_eq a
  have eb:=encSer_eq b
  have hzI:=z408_I
  have hzl:(List.map PV.I z408).length = 408:=by rw [List.length_map];exact List.length_replicate
  have hzv:=fun M => view1_ints M z408
  have hzx:=fun n M => out1_ints n M z408
  have hzo:=ones_I z408
  have hzw:=fun m:Nat => encI_lowm (n:=m) z408
  have hzd:(List.map PV.I z408).drop 408 = []:=List.drop_of_length_le (by omega)
  have hzt:(List.map PV.I z408).take 408 = List.map PV.I z408:=List.take_of_length_le (by omega)
  have hze:encRs z408 = .agg (List.map PV.I z408):=rfl
  generalize hZ:List.map PV.I z408 = Z at hzI hzl hzv hzo hzw hzd hzt hzx hze
  (refine ACall_fn (cf:=L4.c81) rfl rfl fun hM hA => ?_;simp only [L4.c81,zO,zF,zT];rw [mk2 _ (by decide)];simp -implicitDefEqProofs (disch:=first|omega|(simp only [go_sem,seval,-List.reduceReplicate,ea,eb,hzI];first|done|omega)) only [go_sem,seval,-List.reduceReplicate,ea,eb,hzI])
  refine callP_q (q_site_CheckSeries a ha hag _) ?_
  simp -implicitDefEqProofs (disch:=first|omega|(simp only [go_sem,seval,-List.reduceReplicate,eb];first|done|omega)) only [go_sem,seval,-List.reduceReplicate,eb]
  refine callP_q (q_site_CheckSeries b hb hbg _) ?_
  simp -implicitDefEqProofs (disch:=first|omega|(simp only [go_sem,seval,-List.reduceReplicate];first|done|omega)) only [go_sem,seval,-List.reduceReplicate]
  by_cases hst:a.start = b.start
  case neg =>
    have fs:(a.start = b.start) = False:=eq_false hst
    simp -implicitDefEqProofs (disch:=first|omega|(simp only [go_sem,seval,-List.reduceReplicate,fs];first|done|omega)) only [go_sem,seval,-List.reduceReplicate,fs]
    refine callP_q (q_site_when _ _ _) ?_
    simp -implicitDefEqProofs (disch:=first|omega|(simp only [go_sem,seval,-List.reduceReplicate];first|done|omega)) only [go_sem,seval,-List.reduceReplicate]
    refine callP_q (q_site_first [chkSer a,chkSer b,2] (by simp) _) ?_
    have e0:blownE a b = fst0 [chkSer a,chkSer b,2]:=by unfold blownE;rw [if_pos (Or.inl hst)]
    have h0:¬ fst0 [chkSer a,chkSer b,2] = 0:=fun h => by have:=fst0_in0 h 2 (by simp);cases this
    unfold blownR
    rw [e0,if_neg h0,hze]
    generalize fst0 [chkSer a,chkSer b,2] = ee at h0
    simp -implicitDefEqProofs (disch:=first|omega|(simp only [go_sem,seval,-List.reduceReplicate,h0,hzI,hzl,putE_agg,hzo,hzd,hzv,List.append_nil,hzt];first|done|omega)) only [go_sem,seval,-List.reduceReplicate,h0,hzI,hzl,putE_agg,hzo,hzd,hzv,List.append_nil,hzt]
    (first|refine post_fin ret_ok hM rfl ?_ ?_|refine post_fin0 ret_ok hM rfl ?_ ?_|refine post_fin normal_ok hM rfl ?_ ?_|refine post_fin0 normal_ok hM rfl ?_ ?_)
    · simp -implicitDefEqProofs (disch:=first|omega|(simp only [go_sem,seval,-List.reduceReplicate,hzt,hzx];first|done|omega)) only [go_sem,seval,-List.reduceReplicate,hzt,hzx]
    · (simp only [go_sem,seval,-List.reduceReplicate,hzw,hzt,hzx] <;> first|done|omega)
  have fs:(a.start = b.start) = True:=eq_true hst
  simp -implicitDefEqProofs (disch:=first|omega|(simp only [go_sem,seval,-List.reduceReplicate,fs,eb];first|done|omega)) only [go_sem,seval,-List.reduceReplicate,fs,eb]
  by_cases hln:a.samples.length = b.samples.length
  case neg =>
    have fl:decide (¬ a.samples.length = b.samples.length) = true:=by simp [hln]
    rw [fl]
    refine callP_q (q_site_when _ _ _) ?_
    simp -implicitDefEqProofs (disch:=first|omega|(simp only [go_sem,seval,-List.reduceReplicate];first|done|omega)) only [go_sem,seval,-List.reduceReplicate]
    refine callP_q (q_site_first [chkSer a,chkSer b,2] (by simp) _) ?_
    have e0:blownE a b = fst0 [chkSer a,chkSer b,2]:=by unfold blownE;rw [if_pos (Or.inr hln)]
    have h0:¬ fst0 [chkSer a,chkSer b,2] = 0:=fun h => by have:=fst0_in0 h 2 (by simp);cases this
    unfold blownR
    rw [e0,if_neg h0,hze]
    generalize fst0 [chkSer a,chkSer b,2] = ee at h0
    simp -implicitDefEqProofs (disch:=first|omega|(simp only [go_sem,seval,-List.reduceReplicate,h0,hzI,hzl,putE_agg,hzo,hzd,hzv,List.append_nil,hzt];first|done|omega)) only [go_sem,seval,-List.reduceReplicate,h0,hzI,hzl,putE_agg,hzo,hzd,hzv,List.append_nil,hzt]
    (first|refine post_fin ret_ok hM rfl ?_ ?_|refine post_fin0 ret_ok hM rfl ?_ ?_|refine post_fin normal_ok hM rfl ?_ ?_|refine post_fin0 normal_ok hM rfl ?_ ?_)
    · simp -implicitDefEqProofs (disch:=first|omega|(simp only [go_sem,seval,-List.reduceReplicate,hzt,hzx];first|done|omega)) only [go_sem,seval,-List.reduceReplicate,hzt,hzx]
    · (simp only [go_sem,seval,-List.reduceReplicate,hzw,hzt,hzx] <;> first|done|omega)
  have fl:decide (¬ a.samples.length = b.samples.length) = false:=by simp [hln]
  rw [fl]
  refine callP_q (q_site_when _ _ _) ?_
  simp -implicitDefEqProofs (disch:=first|omega|(simp only [go_sem,seval,-List.reduceReplicate];first|done|omega)) only [go_sem,seval,-List.reduceReplicate]
  refine callP_q (q_site_first [chkSer a,chkSer b,0] (by simp) _) ?_
  have e0:blownE a b = fst0 [chkSer a,chkSer b,0]:=by unfold blownE;rw [if_neg (fun h => h.elim (fun h => h hst) (fun h => h hln))]
  by_cases h0:fst0 [chkSer a,chkSer b,0] = 0
  case neg =>
    unfold blownR
    rw [e0,if_neg h0,hze]
    generalize fst0 [chkSer a,chkSer b,0] = ee at h0
    simp -implicitDefEqProofs (disch:=first|omega|(simp only [go_sem,seval,-List.reduceReplicate,h0,hzI,hzl,putE_agg,hzo,hzd,hzv,List.append_nil,hzt];first|done|omega)) only [go_sem,seval,-List.reduceReplicate,h0,hzI,hzl,putE_agg,hzo,hzd,hzv,List.append_nil,hzt]
    (first|refine post_fin ret_ok hM rfl ?_ ?_|refine post_fin0 ret_ok hM rfl ?_ ?_|refine post_fin normal_ok hM rfl ?_ ?_|refine post_fin0 normal_ok hM rfl ?_ ?_)
    · simp -implicitDefEqProofs (disch:=first|omega|(simp only [go_sem,seval,-List.reduceReplicate,hzt,hzx];first|done|omega)) only [go_sem,seval,-List.reduceReplicate,hzt,hzx]
    · (simp only [go_sem,seval,-List.reduceReplicate,hzw,hzt,hzx] <;> first|done|omega)
  have g0:=fst0_in0 h0
  have ga:=g0 (chkSer a) (by simp)
  have gb:=g0 (chkSer b) (by simp)
  obtain ⟨hina,hsa⟩:=serIn_of ga
  obtain ⟨hinb,hsb⟩:=serIn_of gb
  unfold blownR
  rw [e0,h0,if_pos rfl]
  simp -implicitDefEqProofs (disch:=first|omega|(simp only [go_sem,seval,-List.reduceReplicate,eb];first|done|omega)) only [go_sem,seval,-List.reduceReplicate,eb]
  refine callP_q (q_site_missing b hinb.1 hinb.2.1 hinb.2.2 _) ?_
  simp -implicitDefEqProofs (disch:=first|omega|(simp only [go_sem,seval,-List.reduceReplicate,ea,hzI];first|done|omega)) only [go_sem,seval,-List.reduceReplicate,ea,hzI]
  refine callP_q (q_site_recorded a _) ?_
  have hrec:∀ p ∈ recOf a.samples a.gaps,smpE p.2 = 0 ∧ p.1 < b.samples.length:=fun p hp => ⟨hsa _ (rec_mem hp).1,by rw [← hln];exact (rec_mem hp).2⟩
  have hrl:(recOf a.samples a.gaps).length ≤ 40000:=Nat.le_trans (rec_len _ _ _) hina.1
  have hlen:=recP_len a.samples a.gaps
  have hy:=y_recorded (X:=X) a hina
  have hsn:=fun (k:Nat) (p:Nat × Nat) (hp:(recOf a.samples a.gaps)[k]? = some p) => blTo_snoc (b:=b) hp
  have hbin:=fun (k:Nat) (r:Rse) (hk:k ≤ (recOf a.samples a.gaps).length) (h:blTo b ((recOf a.samples a.gaps).take k) = some r) => blTo_in hk h
  have hcs:=blTo_cases b (recOf a.samples a.gaps) (recOf a.samples a.gaps).length (Nat.le_refl _)
  have hg:=fun (i:Nat) (hi:i < b.samples.length) => gone_get (n:=b.samples.length) (g:=b.gaps) (k:=b.gaps.length) hi
  have hgl:(goneRow b.samples.length b.gaps b.gaps.length).length = b.samples.length:=by simp [goneRow]
  have hgw:=fun m:Nat => goneRow_low (m:=m) b.samples.length b.gaps b.gaps.length
  rw [List.take_length] at hg
  generalize goneRow b.samples.length b.gaps b.gaps.length = gone at hg hgl hgw ⊢
  simp -implicitDefEqProofs (disch:=first|omega|(simp only [go_sem,seval,-List.reduceReplicate];first|done|omega)) only [go_sem,seval,-List.reduceReplicate]
  have hR0:(M ++ [Blk.row true 408 0 [PV.agg Z],Blk.row true 1 0 [PV.I 0],Blk.row true 1 0 [PV.fs gone],Blk.row true 408 0 [PV.agg Z]]) = M ++ (fun k => [.row true 408 0 [.agg Z],.row true 1 0 [.I 0],.row true 1 0 [.fs gone],.row true 408 0 [.agg (((blTo b ((recOf a.samples a.gaps).take k)).getD z408).map PV.I)]]) 0:=by
    rw [← hZ];rfl
  refine hR0 ▸ ?_
  rcases hcs with hall|⟨m,hm,hall,hnone⟩
  · refine range_pairs hy (fun k => [.row true 408 0 [.agg Z],.row true 1 0 [.I 0],.row true 1 0 [.fs gone],.row true 408 0 [.agg (((blTo b ((recOf a.samples a.gaps).take k)).getD z408).map PV.I)]]) (recP a.samples a.gaps).length (Nat.le_refl _) hM (by simp -implicitDefEqProofs (disch:=first|omega|(simp only [go_sem,seval,-List.reduceReplicate];first|done|omega)) only [go_sem,seval,-List.reduceReplicate]) (fun k => rfl) ?_ ?_ ?_ ?_
    · intro k _
      have hcw:∀ m:Nat,lowL m (((blTo b ((recOf a.samples a.gaps).take k)).getD z408).map PV.I) = True:=fun m => encI_lowm _
      simp only [go_sem,seval,-List.reduceReplicate,hzw,hgw,hcw]
      try simp
    · refine (?_:lowL (M.length + (0 + 1 + 1 + 1 + 1)) _)
      simp only [go_sem,seval,-List.reduceReplicate,ea,eb,encSer_eq,encF_low,encSpn_low]
      try simp
    · intro k x E L LB hk hx hE
      obtain ⟨p,hp,rfl⟩:∃ p,(recOf a.samples a.gaps)[k]? = some p ∧ (PV.I p.1,encF p.2) = x:=by
        unfold recP at hx;rw [List.getElem?_map] at hx;exact Option.map_eq_some_iff.1 hx
      have hk':k < (recOf a.samples a.gaps).length:=by omega
      obtain ⟨hxs,hxi⟩:=hrec p (List.mem_of_getElem? hp)
      have hxs1:=hxs
      have hss:=hsn k p hp
      obtain ⟨r,hr⟩:=hall k (by omega)
      obtain ⟨r',hr'⟩:=hall (k + 1) (by omega)
      have hri:=hbin k r (by omega) hr
      simp only [hr,hr',Option.getD_some]
      rw [hss,hr] at hr'
      obtain ⟨j,y⟩:=p
      simp only at hxs hxi hr' ⊢
      clear hss hx hsn hbin hall hy hrec hE
      obtain ⟨w,hw⟩:∃ w,b.samples[j]? = some w:=⟨_,List.getElem?_eq_getElem hxi⟩
      have hws:=hsb w (List.mem_of_getElem? hw)
      have hgj:=hg j hxi
      have hjl:j < gone.length:=by omega
      simp -implicitDefEqProofs (disch:=first|omega|(simp only [go_sem,seval,-List.reduceReplicate,eb];first|done|omega)) only [go_sem,seval,-List.reduceReplicate,eb]
      refine roundB (by rw [getMj];rfl) ?_
      simp only [blStep,List.getD_eq_getElem?_getD,hw,Option.getD_some] at hr'
      by_cases hgp:gapAt b.gaps j = true
      · rw [if_pos hgp] at hr'
        cases hr'
        rw [hgp] at hgj
        simp -implicitDefEqProofs (disch:=first|omega|(simp only [go_sem,seval,-List.reduceReplicate,hgj,hjl,hgl,hxi];first|done|omega)) only [go_sem,seval,-List.reduceReplicate,hgj,hjl,hgl,hxi]
        exact roundX [] (by simp)
      have hgp':gapAt b.gaps j = false:=by simpa using hgp
      rw [hgp'] at hgj
      rw [if_neg hgp] at hr'
      by_cases hbad:blowBad y w = true
      · rw [if_pos hbad] at hr';cases hr'
      rw [if_neg hbad] at hr'
      cases hr'
      obtain ⟨⟨b1,b2⟩,⟨b3,b4⟩,b5⟩:=blow_ok (by simpa using hbad)
      have F1:=f_lss (smp_isNum hxs) num_0
      rw [decide_eq_false (by rw [f_lt0 hxs];omega)] at F1
      have F2:=f_geq (smp_isNum hxs) num_51
      rw [decide_eq_false (by rw [f_ge51 hxs];omega)] at F2
      have F3:=f_lss (smp_isNum hws) num_0
      rw [decide_eq_false (by rw [f_lt0 hws];omega)] at F3
      have F4:=f_gtr (smp_isNum hws) num_7
      rw [decide_eq_false (by rw [f_gt7 hws];omega)] at F4
      have G1:=f_fi hws b3
      have G2:=f_fi hxs b1
      obtain ⟨n,hn⟩:∃ n:Nat,six w / 16 = n:=⟨(six w / 16).toNat,by omega⟩
      obtain ⟨v,hv⟩:∃ v:Nat,six y / 16 = v:=⟨(six y / 16).toNat,by omega⟩
      have hn7:n ≤ 7:=by omega
      have F5:=f_neq (near_num n hn7).1 (smp_isNum hws)
      rw [decide_eq_false (by rw [f_ne hws hn7];omega)] at F5
      rw [hn] at G1
      rw [hv] at G2
      have hat:blowAt y w = n * 51 + v:=by unfold blowAt;rw [hn,hv];rfl
      rw [hat]
      have hv51:v < 51:=by omega
      have hn8:n < 8:=by omega
      have hil:n * 51 + v < 408:=by omega
      obtain ⟨u,hu⟩:∃ u,r[n * 51 + v]? = some u:=⟨_,List.getElem?_eq_getElem (by rw [hri.1];exact hil)⟩
      have hub:=hri.2 u (List.mem_of_getElem? hu)
      have hinc:=incR_I hu
      have hcl:(List.map PV.I r).length = 408:=by rw [List.length_map,hri.1]
      have hco:=ones_I r
      have hcg:(List.map PV.I r)[n * 51 + v]? = some (PV.I u):=by rw [List.getElem?_map,hu];rfl
      have hdt:((List.map PV.I r).drop (n * 51 + v)).take 1 = [PV.I u]:=by
        obtain ⟨q1,q2⟩:=List.getElem?_eq_some_iff.1 hcg
        rw [List.drop_eq_getElem_cons q1,q2];rfl
      generalize (incR r (n * 51 + v)).map PV.I = cs' at hinc ⊢
      generalize List.map PV.I r = cs at hinc hcl hco hcg hdt ⊢
      have T8:(n < 8) = True:=eq_true hn8
      have T51:(v < 51) = True:=eq_true hv51
      simp -implicitDefEqProofs (disch:=first|omega|(simp only [go_sem,seval,-List.reduceReplicate,hgj,hjl,hgl,hxi,hw,F1,F2,F3,F4,F5,G1,G2,r_sop,sopV_itf,eb,T8,T51,Nat.mul_one,hdt,hcl,hco,hinc,hub,putE_agg];first|done|omega)) only [go_sem,seval,-List.reduceReplicate,hgj,hjl,hgl,hxi,hw,F1,F2,F3,F4,F5,G1,G2,r_sop,sopV_itf,eb,T8,T51,Nat.mul_one,hdt,hcl,hco,hinc,hub,putE_agg]
      refine roundX [] ?_
      simp
      exact hinc
    · refine .inl ⟨rfl,?_⟩
      have hall2:(recOf a.samples a.gaps).take (recP a.samples a.gaps).length = recOf a.samples a.gaps:=List.take_of_length_le (by omega)
      rw [hall2]
      obtain ⟨r,hr⟩:=hall _ (Nat.le_refl _)
      have hri:=hbin _ r (Nat.le_refl _) hr
      rw [List.take_length] at hr
      rw [hr]
      simp only [Option.getD_some]
      have hre:encRs r = .agg (List.map PV.I r):=rfl
      have hrl2:(List.map PV.I r).length = 408:=by rw [List.length_map,hri.1]
      have hrv:=fun M => view1_ints M r
      have hrx:=fun n M => out1_ints n M r
      have hro:=ones_I r
      have hrw:=fun m:Nat => encI_lowm (n:=m) r
      have hrt:(List.map PV.I r).take 408 = List.map PV.I r:=List.take_of_length_le (by omega)
      rw [hre]
      generalize List.map PV.I r = C at hrl2 hrv hrx hro hrw hrt ⊢
      simp -implicitDefEqProofs (disch:=first|omega|(simp only [go_sem,seval,-List.reduceReplicate,hrl2,hrv,hro,hrt,putE_agg,hzl,hzd,hzt,List.append_nil];first|done|omega)) only [go_sem,seval,-List.reduceReplicate,hrl2,hrv,hro,hrt,putE_agg,hzl,hzd,hzt,List.append_nil]
      (first|refine post_fin ret_ok hM rfl ?_ ?_|refine post_fin0 ret_ok hM rfl ?_ ?_|refine post_fin normal_ok hM rfl ?_ ?_|refine post_fin0 normal_ok hM rfl ?_ ?_)
      · simp -implicitDefEqProofs (disch:=first|omega|(simp only [go_sem,seval,-List.reduceReplicate,hrt,hrx];first|done|omega)) only [go_sem,seval,-List.reduceReplicate,hrt,hrx]
      · (simp only [go_sem,seval,-List.reduceReplicate,hrw,hrt,hrx] <;> first|done|omega)
  · obtain ⟨p,hp⟩:∃ p,(recOf a.samples a.gaps)[m]? = some p:=⟨_,List.getElem?_eq_getElem hm⟩
    have hxp:(recP a.samples a.gaps)[m]? = some (PV.I p.1,encF p.2):=by unfold recP;rw [List.getElem?_map,hp];rfl
    have hbl:blTo b (recOf a.samples a.gaps) = none:=blTo_none hnone
    rw [hbl]
    refine range_pairs hy (fun k => [.row true 408 0 [.agg Z],.row true 1 0 [.I 0],.row true 1 0 [.fs gone],.row true 408 0 [.agg (((blTo b ((recOf a.samples a.gaps).take k)).getD z408).map PV.I)]]) m (by omega) hM (by simp -implicitDefEqProofs (disch:=first|omega|(simp only [go_sem,seval,-List.reduceReplicate];first|done|omega)) only [go_sem,seval,-List.reduceReplicate]) (fun k => rfl) ?_ ?_ ?_ ?_
    · intro k _
      have hcw:∀ m:Nat,lowL m (((blTo b ((recOf a.samples a.gaps).take k)).getD z408).map PV.I) = True:=fun m => encI_lowm _
      simp only [go_sem,seval,-List.reduceReplicate,hzw,hgw,hcw]
      try simp
    · refine (?_:lowL (M.length + (0 + 1 + 1 + 1 + 1)) _)
      simp only [go_sem,seval,-List.reduceReplicate,ea,eb,encSer_eq,encF_low,encSpn_low]
      try simp
    · intro k x E L LB hk hx hE
      obtain ⟨p,hp,rfl⟩:∃ p,(recOf a.samples a.gaps)[k]? = some p ∧ (PV.I p.1,encF p.2) = x:=by
        unfold recP at hx;rw [List.getElem?_map] at hx;exact Option.map_eq_some_iff.1 hx
      have hk':k < (recOf a.samples a.gaps).length:=by omega
      obtain ⟨hxs,hxi⟩:=hrec p (List.mem_of_getElem? hp)
      have hxs1:=hxs
      have hss:=hsn k p hp
      obtain ⟨r,hr⟩:=hall k (by omega)
      obtain ⟨r',hr'⟩:=hall (k + 1) (by omega)
      have hri:=hbin k r (by omega) hr
      simp only [hr,hr',Option.getD_some]
      rw [hss,hr] at hr'
      obtain ⟨j,y⟩:=p
      simp only at hxs hxi hr' ⊢
      clear hss hx hsn hbin hall hy hrec hE
      obtain ⟨w,hw⟩:∃ w,b.samples[j]? = some w:=⟨_,List.getElem?_eq_getElem hxi⟩
      have hws:=hsb w (List.mem_of_getElem? hw)
      have hgj:=hg j hxi
      have hjl:j < gone.length:=by omega
      simp -implicitDefEqProofs (disch:=first|omega|(simp only [go_sem,seval,-List.reduceReplicate,eb];first|done|omega)) only [go_sem,seval,-List.reduceReplicate,eb]
      refine roundB (by rw [getMj];rfl) ?_
      simp only [blStep,List.getD_eq_getElem?_getD,hw,Option.getD_some] at hr'
      by_cases hgp:gapAt b.gaps j = true
      · rw [if_pos hgp] at hr'
        cases hr'
        rw [hgp] at hgj
        simp -implicitDefEqProofs (disch:=first|omega|(simp only [go_sem,seval,-List.reduceReplicate,hgj,hjl,hgl,hxi];first|done|omega)) only [go_sem,seval,-List.reduceReplicate,hgj,hjl,hgl,hxi]
        exact roundX [] (by simp)
      have hgp':gapAt b.gaps j = false:=by simpa using hgp
      rw [hgp'] at hgj
      rw [if_neg hgp] at hr'
      by_cases hbad:blowBad y w = true
      · rw [if_pos hbad] at hr';cases hr'
      rw [if_neg hbad] at hr'
      cases hr'
      obtain ⟨⟨b1,b2⟩,⟨b3,b4⟩,b5⟩:=blow_ok (by simpa using hbad)
      have F1:=f_lss (smp_isNum hxs) num_0
      rw [decide_eq_false (by rw [f_lt0 hxs];omega)] at F1
      have F2:=f_geq (smp_isNum hxs) num_51
      rw [decide_eq_false (by rw [f_ge51 hxs];omega)] at F2
      have F3:=f_lss (smp_isNum hws) num_0
      rw [decide_eq_false (by rw [f_lt0 hws];omega)] at F3
      have F4:=f_gtr (smp_isNum hws) num_7
      rw [decide_eq_false (by rw [f_gt7 hws];omega)] at F4
      have G1:=f_fi hws b3
      have G2:=f_fi hxs b1
      obtain ⟨n,hn⟩:∃ n:Nat,six w / 16 = n:=⟨(six w / 16).toNat,by omega⟩
      obtain ⟨v,hv⟩:∃ v:Nat,six y / 16 = v:=⟨(six y / 16).toNat,by omega⟩
      have hn7:n ≤ 7:=by omega
      have F5:=f_neq (near_num n hn7).1 (smp_isNum hws)
      rw [decide_eq_false (by rw [f_ne hws hn7];omega)] at F5
      rw [hn] at G1
      rw [hv] at G2
      have hat:blowAt y w = n * 51 + v:=by unfold blowAt;rw [hn,hv];rfl
      rw [hat]
      have hv51:v < 51:=by omega
      have hn8:n < 8:=by omega
      have hil:n * 51 + v < 408:=by omega
      obtain ⟨u,hu⟩:∃ u,r[n * 51 + v]? = some u:=⟨_,List.getElem?_eq_getElem (by rw [hri.1];exact hil)⟩
      have hub:=hri.2 u (List.mem_of_getElem? hu)
      have hinc:=incR_I hu
      have hcl:(List.map PV.I r).length = 408:=by rw [List.length_map,hri.1]
      have hco:=ones_I r
      have hcg:(List.map PV.I r)[n * 51 + v]? = some (PV.I u):=by rw [List.getElem?_map,hu];rfl
      have hdt:((List.map PV.I r).drop (n * 51 + v)).take 1 = [PV.I u]:=by
        obtain ⟨q1,q2⟩:=List.getElem?_eq_some_iff.1 hcg
        rw [List.drop_eq_getElem_cons q1,q2];rfl
      generalize (incR r (n * 51 + v)).map PV.I = cs' at hinc ⊢
      generalize List.map PV.I r = cs at hinc hcl hco hcg hdt ⊢
      have T8:(n < 8) = True:=eq_true hn8
      have T51:(v < 51) = True:=eq_true hv51
      simp -implicitDefEqProofs (disch:=first|omega|(simp only [go_sem,seval,-List.reduceReplicate,hgj,hjl,hgl,hxi,hw,F1,F2,F3,F4,F5,G1,G2,r_sop,sopV_itf,eb,T8,T51,Nat.mul_one,hdt,hcl,hco,hinc,hub,putE_agg];first|done|omega)) only [go_sem,seval,-List.reduceReplicate,hgj,hjl,hgl,hxi,hw,F1,F2,F3,F4,F5,G1,G2,r_sop,sopV_itf,eb,T8,T51,Nat.mul_one,hdt,hcl,hco,hinc,hub,putE_agg]
      refine roundX [] ?_
      simp
      exact hinc
    · refine .inr ⟨_,.ret,[.row true 408 0 [.agg Z],.row true 1 0 [.I 3],.row true 1 0 [.fs gone],.row true 408 0 [.agg (((blTo b ((recOf a.samples a.gaps).take m)).getD z408).map PV.I)]],hxp,(by simp),rfl,?_,?_,?_⟩
      · have hcw:∀ i:Nat,lowL i (((blTo b ((recOf a.samples a.gaps).take m)).getD z408).map PV.I) = True:=fun i => encI_lowm _
        simp only [go_sem,seval,-List.reduceReplicate,hzw,hgw,hcw]
        try simp
      · intro E L LB hE
        obtain ⟨hxs,hxi⟩:=hrec p (List.mem_of_getElem? hp)
        have hss:=hsn m p hp
        obtain ⟨r,hr⟩:=hall m (Nat.le_refl _)
        rw [hss,hr] at hnone
        simp only [hr,Option.getD_some]
        obtain ⟨j,y⟩:=p
        simp only at hxs hxi hnone ⊢
        clear hss hsn hbin hall hy hrec hE
        obtain ⟨w,hw⟩:∃ w,b.samples[j]? = some w:=⟨_,List.getElem?_eq_getElem hxi⟩
        have hws:=hsb w (List.mem_of_getElem? hw)
        have hgj:=hg j hxi
        have hjl:j < gone.length:=by omega
        simp -implicitDefEqProofs (disch:=first|omega|(simp only [go_sem,seval,-List.reduceReplicate,eb];first|done|omega)) only [go_sem,seval,-List.reduceReplicate,eb]
        refine roundB (by rw [getMj];rfl) ?_
        simp only [blStep,List.getD_eq_getElem?_getD,hw,Option.getD_some] at hnone
        by_cases hgp:gapAt b.gaps j = true
        · rw [if_pos hgp] at hnone;cases hnone
        have hgp':gapAt b.gaps j = false:=by simpa using hgp
        rw [hgp'] at hgj
        rw [if_neg hgp] at hnone
        by_cases hbad:blowBad y w = true
        case neg => rw [if_neg hbad] at hnone;cases hnone
        unfold blowBad at hbad
        simp only [Bool.or_eq_true,decide_eq_true_eq] at hbad
        have F1:=f_lss (smp_isNum hxs) num_0
        have F2:=f_geq (smp_isNum hxs) num_51
        have F3:=f_lss (smp_isNum hws) num_0
        have F4:=f_gtr (smp_isNum hws) num_7
        by_cases c1:six y < 0
        · rw [decide_eq_true (by rw [f_lt0 hxs];exact c1)] at F1
          simp -implicitDefEqProofs (disch:=first|omega|(simp only [go_sem,seval,-List.reduceReplicate,hgj,hjl,hgl,hxi,hw,F1,r_sop,sopV_itf,eb,hzI,hzl,putE_agg,hzo,hzd,hzt,List.append_nil];first|done|omega)) only [go_sem,seval,-List.reduceReplicate,hgj,hjl,hgl,hxi,hw,F1,r_sop,sopV_itf,eb,hzI,hzl,putE_agg,hzo,hzd,hzt,List.append_nil]
          exact roundX [] (by simp)
        rw [decide_eq_false (by rw [f_lt0 hxs];exact c1)] at F1
        by_cases c2:816 ≤ six y
        · rw [decide_eq_true (by rw [f_ge51 hxs];exact c2)] at F2
          simp -implicitDefEqProofs (disch:=first|omega|(simp only [go_sem,seval,-List.reduceReplicate,hgj,hjl,hgl,hxi,hw,F1,F2,r_sop,sopV_itf,eb,hzI,hzl,putE_agg,hzo,hzd,hzt,List.append_nil];first|done|omega)) only [go_sem,seval,-List.reduceReplicate,hgj,hjl,hgl,hxi,hw,F1,F2,r_sop,sopV_itf,eb,hzI,hzl,putE_agg,hzo,hzd,hzt,List.append_nil]
          exact roundX [] (by simp)
        rw [decide_eq_false (by rw [f_ge51 hxs];exact c2)] at F2
        by_cases c3:six w < 0
        · rw [decide_eq_true (by rw [f_lt0 hws];exact c3)] at F3
          simp -implicitDefEqProofs (disch:=first|omega|(simp only [go_sem,seval,-List.reduceReplicate,hgj,hjl,hgl,hxi,hw,F1,F2,F3,r_sop,sopV_itf,eb,hzI,hzl,putE_agg,hzo,hzd,hzt,List.append_nil];first|done|omega)) only [go_sem,seval,-List.reduceReplicate,hgj,hjl,hgl,hxi,hw,F1,F2,F3,r_sop,sopV_itf,eb,hzI,hzl,putE_agg,hzo,hzd,hzt,List.append_nil]
          exact roundX [] (by simp)
        rw [decide_eq_false (by rw [f_lt0 hws];exact c3)] at F3
        by_cases c4:112 < six w
        · rw [decide_eq_true (by rw [f_gt7 hws];exact c4)] at F4
          simp -implicitDefEqProofs (disch:=first|omega|(simp only [go_sem,seval,-List.reduceReplicate,hgj,hjl,hgl,hxi,hw,F1,F2,F3,F4,r_sop,sopV_itf,eb,hzI,hzl,putE_agg,hzo,hzd,hzt,List.append_nil];first|done|omega)) only [go_sem,seval,-List.reduceReplicate,hgj,hjl,hgl,hxi,hw,F1,F2,F3,F4,r_sop,sopV_itf,eb,hzI,hzl,putE_agg,hzo,hzd,hzt,List.append_nil]
          exact roundX [] (by simp)
        rw [decide_eq_false (by rw [f_gt7 hws];exact c4)] at F4
        have c5:¬ six w % 16 = 0:=by omega
        have G1:=f_fi hws (by omega)
        obtain ⟨n,hn⟩:∃ n:Nat,six w / 16 = n:=⟨(six w / 16).toNat,by omega⟩
        have hn7:n ≤ 7:=by omega
        have F5:=f_neq (near_num n hn7).1 (smp_isNum hws)
        rw [decide_eq_true (by rw [f_ne hws hn7];omega)] at F5
        rw [hn] at G1
        simp -implicitDefEqProofs (disch:=first|omega|(simp only [go_sem,seval,-List.reduceReplicate,hgj,hjl,hgl,hxi,hw,F1,F2,F3,F4,F5,G1,r_sop,sopV_itf,eb,hzI,hzl,putE_agg,hzo,hzd,hzt,List.append_nil];first|done|omega)) only [go_sem,seval,-List.reduceReplicate,hgj,hjl,hgl,hxi,hw,F1,F2,F3,F4,F5,G1,r_sop,sopV_itf,eb,hzI,hzl,putE_agg,hzo,hzd,hzt,List.append_nil]
        exact roundX [] (by simp)
      · simp only [hze]
        generalize ((blTo b ((recOf a.samples a.gaps).take m)).getD z408).map PV.I = C
        simp -implicitDefEqProofs (disch:=first|omega|(simp only [go_sem,seval,-List.reduceReplicate];first|done|omega)) only [go_sem,seval,-List.reduceReplicate]
        (first|refine post_fin ret_ok hM rfl ?_ ?_|refine post_fin0 ret_ok hM rfl ?_ ?_|refine post_fin normal_ok hM rfl ?_ ?_|refine post_fin0 normal_ok hM rfl ?_ ?_)
        · simp -implicitDefEqProofs (disch:=first|omega|(simp only [go_sem,seval,-List.reduceReplicate,hzt,hzx];first|done|omega)) only [go_sem,seval,-List.reduceReplicate,hzt,hzx]
        · (simp only [go_sem,seval,-List.reduceReplicate,hzw,hzt,hzx] <;> first|done|omega)
def ItoaX (X:XRel):Prop:=∀ (n:Int) (M:List Blk),-9223372036854775808 ≤ n → n ≤ 9223372036854775807 → X 140 [.I n] M (.s (.string (itoaB n))) M
def encStr (s:ByteArray):PV:=.s (.string s)
def JoinX (X:XRel):Prop:=∀ (l:List ByteArray) (M:List Blk),l.length ≤ 64 → (∀ s ∈ l,s.size ≤ 200) → X 141 [.fs (l.map encStr),.s (.string ⟨#[]⟩)] M (.s (.string (joinB l))) M
theorem itoaB_size (n:Int) (h0:-9223372036854775808 ≤ n) (h1:n ≤ 9223372036854775807):(itoaB n).size ≤ 21:=by
  have:=Lib.itoa_length_le n h0 h1
  show (Lib.itoa n).toArray.size ≤ 21
  simpa using this
theorem nameOk_size {s:ByteArray} (h:nameOk s = true):s.size ≤ 24:=by
  unfold nameOk at h
  simp only [Bool.and_eq_true,decide_eq_true_eq] at h
  exact h.1.2
theorem sz_turbine:(⟨#[116,117,114,98,105,110,101,32]⟩:ByteArray).size = 8:=rfl
theorem sz_sp:(⟨#[32]⟩:ByteArray).size = 1:=rfl
theorem sz_nl:(⟨#[10]⟩:ByteArray).size = 1:=rfl
theorem sz_site:(⟨#[115,105,116,101,32]⟩:ByteArray).size = 5:=rfl
theorem tbTxt_size {t:Tb} (h:nameOk t.name = true) (hp:ptIn t.at_):(tbTxt t).size ≤ 200:=by
  have h1:=nameOk_size h
  unfold ptIn at hp
  have hp1:-1000 ≤ t.x ∧ t.x ≤ 1000 ∧ -1000 ≤ t.y ∧ t.y ≤ 1000:=hp
  have h2:=itoaB_size t.x (by omega) (by omega)
  have h3:=itoaB_size t.y (by omega) (by omega)
  unfold tbTxt
  simp only [ByteArray.size_append,sz_turbine,sz_sp,sz_nl]
  omega
theorem q_site_Print_1 (hI:ItoaX X) (t:Tb) (h:nameOk t.name = true) (hp:ptIn t.at_):Q X 139 [encTb t] (.s (.string (tbTxt t))):=by
  intro M
  have h1:=nameOk_size h
  unfold ptIn at hp
  have hp1:-1000 ≤ t.x ∧ t.x ≤ 1000 ∧ -1000 ≤ t.y ∧ t.y ≤ 1000:=hp
  have h2:=itoaB_size t.x (by omega) (by omega)
  have h3:=itoaB_size t.y (by omega) (by omega)
  have e:tbTxt t = (((((⟨#[116,117,114,98,105,110,101,32]⟩:ByteArray) ++ t.name) ++ ⟨#[32]⟩) ++ itoaB t.x) ++ ⟨#[32]⟩) ++ itoaB t.y ++ ⟨#[10]⟩:=rfl
  rw [e]
  (refine ACall_fn (cf:=L4.c139) rfl rfl fun hM hA => ?_;simp only [L4.c139,zO,zF,zT];rw [mk1 _ (by decide)];simp -implicitDefEqProofs (disch:=first|omega|(simp only [go_sem,seval,encTb_eq,bin_addS,ByteArray.size_append,sz_turbine,sz_sp,sz_nl];first|done|omega)) only [go_sem,seval,encTb_eq,bin_addS,ByteArray.size_append,sz_turbine,sz_sp,sz_nl])
  refine callP_q (ACall_ext (hI t.x _ (by omega) (by omega))) ?_
  simp -implicitDefEqProofs (disch:=first|omega|(simp only [go_sem,seval,encTb_eq,bin_addS,ByteArray.size_append,sz_turbine,sz_sp,sz_nl];first|done|omega)) only [go_sem,seval,encTb_eq,bin_addS,ByteArray.size_append,sz_turbine,sz_sp,sz_nl]
  refine callP_q (ACall_ext (hI t.y _ (by omega) (by omega))) ?_
  simp -implicitDefEqProofs (disch:=first|omega|(simp only [go_sem,seval,bin_addS,ByteArray.size_append,sz_turbine,sz_sp,sz_nl];first|done|omega)) only [go_sem,seval,bin_addS,ByteArray.size_append,sz_turbine,sz_sp,sz_nl]
  (all_goals (first|refine post_fin ret_ok hM rfl ?_ ?_|refine post_fin0 ret_ok hM rfl ?_ ?_|refine post_fin normal_ok hM rfl ?_ ?_|refine post_fin0 normal_ok hM rfl ?_ ?_);all_goals first|(simp only [go_sem,seval] <;> first|done|omega)|skip;all_goals (try simp -implicitDefEqProofs (disch:=first|omega|(simp only [go_sem,seval];first|done|omega)) only [go_sem,seval]))
theorem q_site_mapped_str {g:FuncId} {f:Tb → ByteArray} (l:List Tb) (hl:l.length ≤ 1000000) (hg:∀ x ∈ l,Q X g [encTb x] (.s (.string (f x)))):Q X 138 [.fs (l.map encTb),.fn (.func g) [] []] (.fs ((l.map f).map encStr)):=by
  intro M
  (refine ACall_fn (cf:=L4.c138) rfl rfl fun hM hA => ?_;simp only [L4.c138,zO,zF,zT];rw [mk2 _ (by decide)];simp -implicitDefEqProofs (disch:=first|omega|(simp only [go_sem,seval];first|done|omega)) only [go_sem,seval])
  refine loop_mk (α:=Nat) 0 (fun k => k ≤ l.length) (fun k => M ++ [.row true 1 k (((l.take k).map f).map encStr)])
    (fun k => [(1,.fn (.func g) [] []),(5,.os M.length k 0 k),(8,.fs (l.map encTb)),(9,.I l.length),(10,.I k)]) (fun k => l.length - k) (Nat.zero_le _) rfl rfl ?_
  have hlw:∀ (n:Nat) (L:List Tb),lowL n (List.map (fun x => encStr (f x)) L) = True:=fun n L => eq_true (lowL_map _ _ fun r => by simp [encStr,PV.low])
  have hls:∀ (n:Nat) (x:Tb),(encStr (f x)).low n = True:=fun n x => eq_true (by simp [encStr,PV.low])
  intro k hk
  by_cases hlt:k < l.length
  · obtain ⟨x,h1⟩:∃ x,l[k]? = some x:=⟨_,List.getElem?_eq_getElem hlt⟩
    have h2:k = ((l.take k).map f).length:=by simp;omega
    have h2':(l.take k).length = k:=by simp;omega
    simp -implicitDefEqProofs (disch:=first|omega|(simp only [go_sem,seval,hlt,h1,encTb_cells];first|done|omega)) only [go_sem,seval,hlt,h1,encTb_cells]
    refine callP_l (hg x (List.mem_of_getElem? h1) _) ?_
    simp -implicitDefEqProofs (disch:=first|omega|(simp only [go_sem,seval,encTb_cells];first|done|omega)) only [go_sem,seval,encTb_cells]
    refine Wp_cut_at hM rfl 1 (by simp) (by first|done|(simp only [go_sem,seval,hlw,hls,encTb_low] <;> first|done|(refine ⟨?_,?_⟩ <;> omega)|omega)) (lowL_mk (by first|done|(simp only [go_sem,seval,hlw,hls,encTb_low] <;> first|done|(refine ⟨?_,?_⟩ <;> omega)|omega))) ?_
    simp -implicitDefEqProofs (disch:=first|omega|(simp only [go_sem,seval];first|done|omega)) only [go_sem,seval]
    refine again' (k + 1) (by omega) (by omega) ?_ rfl
    have h3:=take_snoc (f:=fun x => encStr (f x)) h1
    rw [h3];rfl
  · simp -implicitDefEqProofs (disch:=first|omega|(simp only [go_sem,seval,hlt];first|done|omega)) only [go_sem,seval,hlt]
    (first|refine post_fin ret_ok hM rfl ?_ ?_|refine post_fin0 ret_ok hM rfl ?_ ?_|refine post_fin normal_ok hM rfl ?_ ?_|refine post_fin0 normal_ok hM rfl ?_ ?_)
    · simp -implicitDefEqProofs (disch:=first|omega|(simp only [go_sem,seval];first|done|omega)) only [go_sem,seval]
      rw [List.take_of_length_le (by omega)]
    · (simp only [go_sem,seval,hlw] <;> first|done|omega)
theorem q_site_Print (hI:ItoaX X) (hJ:JoinX X) (s:Ste) (hl:s.tbs.length ≤ 1048576):Q X 92 [encSte s] (.tup [.s (.string (if chkSte s = 0 then steTxt s else ⟨#[]⟩)),.I (chkSte s)]):=by
  intro M
  have es:=encSte_eq s
  (refine ACall_fn (cf:=L4.c92) rfl rfl fun hM hA => ?_;simp only [L4.c92,zO,zF,zT];rw [mk1 _ (by decide)];simp -implicitDefEqProofs (disch:=first|omega|(simp only [go_sem,seval,es];first|done|omega)) only [go_sem,seval,es])
  refine callP_q (q_site_CheckSite s hl _) ?_
  by_cases h0:chkSte s = 0
  case neg =>
    rw [if_neg h0]
    generalize chkSte s = ee at h0
    simp -implicitDefEqProofs (disch:=first|omega|(simp only [go_sem,seval,h0];first|done|omega)) only [go_sem,seval,h0]
    (all_goals (first|refine post_fin ret_ok hM rfl ?_ ?_|refine post_fin0 ret_ok hM rfl ?_ ?_|refine post_fin normal_ok hM rfl ?_ ?_|refine post_fin0 normal_ok hM rfl ?_ ?_);all_goals first|(simp only [go_sem,seval] <;> first|done|omega)|skip;all_goals (try simp -implicitDefEqProofs (disch:=first|omega|(simp only [go_sem,seval];first|done|omega)) only [go_sem,seval]))
  rw [if_pos h0,h0]
  obtain ⟨hn,hle,hln,hin⟩:=chkSte_in h0
  have hpt:=all_pt h0
  have hnm:∀ t ∈ s.tbs,nameOk t.name = true:=by
    intro t ht
    obtain ⟨i,hi,h2⟩:=List.mem_iff_getElem.1 ht
    exact (tbE_parts (hin i t hi (List.getElem?_eq_some_iff.2 ⟨hi,h2⟩))).1
  simp -implicitDefEqProofs (disch:=first|omega|(simp only [go_sem,seval,es];first|done|omega)) only [go_sem,seval,es]
  refine callP_q (q_site_mapped_str s.tbs (by omega) (fun x hx => q_site_Print_1 hI x (hnm x hx) (hpt x hx)) _) ?_
  have h1:=nameOk_size hn
  have h2:=itoaB_size s.least (by omega) (by omega)
  simp -implicitDefEqProofs (disch:=first|omega|(simp only [go_sem,seval,bin_addS,ByteArray.size_append,sz_site,sz_sp,sz_nl];first|done|omega)) only [go_sem,seval,bin_addS,ByteArray.size_append,sz_site,sz_sp,sz_nl]
  refine callP_q (ACall_ext (hI s.least _ (by omega) (by omega))) ?_
  simp -implicitDefEqProofs (disch:=first|omega|(simp only [go_sem,seval,bin_addS,ByteArray.size_append,sz_site,sz_sp,sz_nl];first|done|omega)) only [go_sem,seval,bin_addS,ByteArray.size_append,sz_site,sz_sp,sz_nl]
  have hj:=hJ (s.tbs.map tbTxt) M (by rw [List.length_map];exact hln) (by
    intro u hu
    obtain ⟨t,ht,rfl⟩:=List.mem_map.1 hu
    exact tbTxt_size (hnm t ht) (hpt t ht))
  rw [List.map_map] at hj
  have hjs:(joinB (s.tbs.map tbTxt)).size ≤ 100000:=joinB_size (by rw [List.length_map];exact hln) (by
    intro u hu
    obtain ⟨t,ht,rfl⟩:=List.mem_map.1 hu
    exact tbTxt_size (hnm t ht) (hpt t ht))
  refine callP_q (ACall_ext hj) ?_
  have e:steTxt s = ((((⟨#[115,105,116,101,32]⟩:ByteArray) ++ s.name) ++ ⟨#[32]⟩) ++ itoaB s.least ++ ⟨#[10]⟩) ++ joinB (s.tbs.map tbTxt):=rfl
  rw [e]
  simp -implicitDefEqProofs (disch:=first|omega|(simp only [go_sem,seval,bin_addS,ByteArray.size_append,sz_site,sz_sp,sz_nl];first|done|omega)) only [go_sem,seval,bin_addS,ByteArray.size_append,sz_site,sz_sp,sz_nl]
  (all_goals (first|refine post_fin ret_ok hM rfl ?_ ?_|refine post_fin0 ret_ok hM rfl ?_ ?_|refine post_fin normal_ok hM rfl ?_ ?_|refine post_fin0 normal_ok hM rfl ?_ ?_);all_goals first|(simp only [go_sem,seval] <;> first|done|omega)|skip;all_goals (try simp -implicitDefEqProofs (disch:=first|omega|(simp only [go_sem,seval];first|done|omega)) only [go_sem,seval]))
theorem put_run (ns:List Int) (hl:ns.length ≤ 40000) {M0 E:List Blk} {v:Nat} {bs:List PV} (hb:bs.length ≤ 400000) :
    ACall F X (.fn 131) [.fs (ns.map .I),.op (M0.length + 1) 0 0 0] (M0 ++ (.row true 1 v bs :: .row true 1 0 [.os M0.length v 0 bs.length] :: E)) (.tup [])
      (M0 ++ (.row true 1 (v + ns.length) (bs ++ putB ns) :: .row true 1 0 [.os M0.length (v + ns.length) 0 (bs ++ putB ns).length] :: E)):=by
  refine ACall_fn (cf:=c131) rfl rfl fun hM hA => ?_
  simp only [c131,zO,zF,zT]
  rw [mk2 _ (by decide)]
  simp -implicitDefEqProofs (disch:=first|omega|(simp only [go_sem,seval];first|done|omega)) only [go_sem,seval]
  refine loop_mk (α:=Nat) 0 (fun k => k ≤ ns.length) (fun k => M0 ++ (.row true 1 (v + k) (bs ++ putB (ns.take k)) :: .row true 1 0 [.os M0.length (v + k) 0 (bs ++ putB (ns.take k)).length] :: E))
    (fun k => [(1,.op (M0.length + 1) 0 0 0),(5,.fs (ns.map .I)),(6,.I ns.length),(7,.I k)]) (fun k => ns.length - k) (Nat.zero_le _) (by simp [putB]) rfl ?_
  intro k hk
  by_cases hlt:k < ns.length
  · obtain ⟨n,hn⟩:∃ n,ns[k]? = some n:=⟨_,List.getElem?_eq_getElem hlt⟩
    have hsn:=putB_snoc hn
    have hpl:=putB_len (ns.take k)
    have htl:(ns.take k).length = k:=by rw [List.length_take];omega
    have hbl:(bs ++ putB (ns.take k)).length ≤ 560000:=by rw [List.length_append,hpl];omega
    have again:∀ c:List PV,bs ++ putB (ns.take (k + 1)) = c → Again 26 (fun k => k ≤ ns.length) (fun k => M0 ++ (.row true 1 (v + k) (bs ++ putB (ns.take k)) :: .row true 1 0 [.os M0.length (v + k) 0 (bs ++ putB (ns.take k)).length] :: E))
      (fun k => [(1,.op (M0.length + 1) 0 0 0),(5,.fs (ns.map .I)),(6,.I ns.length),(7,.I k)]) (fun k => ns.length - k) k
      (M0 ++ (.row true 1 (v + (k + 1)) c :: .row true 1 0 [.os M0.length (v + (k + 1)) 0 c.length] :: E)) (mk 26 [(1,.op (M0.length + 1) 0 0 0),(5,.fs (ns.map .I)),(6,.I ns.length),(7,.I (k + 1))]):=by
      rintro c rfl
      exact again' (k + 1) (by omega) (by omega) rfl rfl
    rw [hsn,← List.append_assoc] at again
    generalize bs ++ putB (ns.take k) = c at hbl again ⊢
    have hsh:∀ (m:Nat),m ≤ 24 → bin .shr (.s (.int .i64 n)) (.s (.int .u64 m)) = some (.s (.int .i64 (n.fdiv (2 ^ m)))):=by
      intro m hm
      rw [bin_shr (by omega)]
      have:min (m:Int).toNat IntKind.i64.bits = m:=by
        have:IntKind.i64.bits = 64:=rfl
        omega
      rw [this]
    have s1:bin .shr (.s (.int .i64 n)) (.s (.int .u64 24)) = some (.s (.int .i64 (n.fdiv 16777216))):=hsh 24 (by decide)
    have s2:bin .shr (.s (.int .i64 n)) (.s (.int .u64 16)) = some (.s (.int .i64 (n.fdiv 65536))):=hsh 16 (by decide)
    have s3:bin .shr (.s (.int .i64 n)) (.s (.int .u64 8)) = some (.s (.int .i64 (n.fdiv 256))):=hsh 8 (by decide)
    simp -implicitDefEqProofs (disch:=first|omega|(simp only [go_sem,seval,hlt,hn,s1,s2,s3];first|done|omega)) only [go_sem,seval,hlt,hn,s1,s2,s3]
    have h:=again _ rfl
    simp only [List.length_append,be4_eq,List.length_cons,List.length_nil] at h
    exact h
  have hkk:k = ns.length:=by omega
  subst hkk
  rw [List.take_length]
  have hbl:lowL (M0 ++ Blk.row true 1 v bs :: Blk.row true 1 0 [PV.os M0.length v 0 bs.length] :: E).length bs:=hM (Blk.row true 1 v bs) (by simp)
  have hlow:lowM (M0 ++ (Blk.row true 1 (v + ns.length) (bs ++ putB ns) :: Blk.row true 1 0 [.os M0.length (v + ns.length) 0 (bs ++ putB ns).length] :: E)).length (M0 ++ (Blk.row true 1 (v + ns.length) (bs ++ putB ns) :: Blk.row true 1 0 [.os M0.length (v + ns.length) 0 (bs ++ putB ns).length] :: E)):=by
    intro b hb
    have hlen:(M0 ++ (Blk.row true 1 (v + ns.length) (bs ++ putB ns) :: Blk.row true 1 0 [.os M0.length (v + ns.length) 0 (bs ++ putB ns).length] :: E)).length = (M0 ++ Blk.row true 1 v bs :: Blk.row true 1 0 [PV.os M0.length v 0 bs.length] :: E).length:=by simp
    rw [hlen]
    rcases List.mem_append.1 hb with hb|hb
    · exact hM b (by simp [hb])
    · rcases List.mem_cons.1 hb with rfl|hb
      · show lowL _ (bs ++ putB ns)
        rw [lowL_iff]
        intro x hx
        rcases List.mem_append.1 hx with hx|hx
        · exact (lowL_iff _).1 hbl x hx
        · exact (lowL_iff _).1 (of_eq_true (putB_low ns)) x hx
      · rcases List.mem_cons.1 hb with rfl|hb
        · show lowL _ [_]
          simp [lowL,PV.low]
        · exact hM b (by simp [hb])
  simp only [List.length_append] at hlow
  simp -implicitDefEqProofs (disch:=first|omega|(simp only [go_sem,seval,hlt];first|done|omega)) only [go_sem,seval,hlt]
  refine post_fin0 normal_ok (by simpa using hlow) (by simp) ?_ ?_
  · simp -implicitDefEqProofs (disch:=first|omega|(simp only [go_sem,seval];first|done|omega)) only [go_sem,seval]
    rfl
  · (simp only [go_sem,seval] <;> first|done|omega)
def FbitsX (X:XRel):Prop:=∀ (b:Nat) (M:List Blk),X 132 [.s (.float .f32 b)] M (.s (.int .u32 b)) M
theorem q_site_Encode (hF:FbitsX X) (s:Ser) (hl:s.samples.length ≤ 1048576) (hgl:s.gaps.length ≤ 1048576):Q X 88 [encSer s] (.tup [.fs (if chkSer s = 0 then encB s else []),.I (chkSer s)]):=by
  intro M
  have es:=encSer_eq s
  (refine ACall_fn (cf:=L4.c88) rfl rfl fun hM hA => ?_;simp only [L4.c88,zO,zF,zT];rw [mk1 _ (by decide)];simp -implicitDefEqProofs (disch:=first|omega|(simp only [go_sem,seval,es];first|done|omega)) only [go_sem,seval,es])
  refine callP_q (q_site_CheckSeries s hl hgl _) ?_
  by_cases h0:chkSer s = 0
  case neg =>
    rw [if_neg h0]
    generalize chkSer s = ee at h0
    simp -implicitDefEqProofs (disch:=first|omega|(simp only [go_sem,seval,h0];first|done|omega)) only [go_sem,seval,h0]
    (all_goals (first|refine post_fin ret_ok hM rfl ?_ ?_|refine post_fin0 ret_ok hM rfl ?_ ?_|refine post_fin normal_ok hM rfl ?_ ?_|refine post_fin0 normal_ok hM rfl ?_ ?_);all_goals first|(simp only [go_sem,seval] <;> first|done|omega)|skip;all_goals (try simp -implicitDefEqProofs (disch:=first|omega|(simp only [go_sem,seval];first|done|omega)) only [go_sem,seval]))
  rw [if_pos h0,h0]
  obtain ⟨hin,hsm⟩:=serIn_of h0
  have hnm:s.name.size ≤ 24:=by
    unfold chkSer at h0
    split at h0
    · cases h0
    · rename_i hn;exact nameOk_size (by simpa using hn)
  have hbo:=bytesPV_ok s.name
  have hbl:=bytesPV_len s.name
  have hhs:∀ M:List Blk,held M (.s (.string s.name)) = some (bytesPV s.name):=fun _ => held_str
  simp -implicitDefEqProofs (disch:=first|omega|(simp only [go_sem,seval,es,hhs,hbo,hbl];first|done|omega)) only [go_sem,seval,es,hhs,hbo,hbl]
  have hh:(hdrB s).length = 5 + s.name.size:=by
    unfold hdrB
    rw [List.length_append,List.length_append,hbl];rfl
  have hls:=hin.1
  have hgs:s.gaps.length ≤ 1024:=by
    unfold chkSer at h0
    split at h0
    · cases h0
    · split at h0
      · cases h0
      · split at h0
        · cases h0
        · split at h0
          · rename_i h4;exact absurd h0 h4
          · split at h0
            · rename_i h5;exact absurd h0 h5
            · rename_i h5;exact (chkSpns_in (Decidable.of_not_not h5)).2
  have hP:=put_run (X:=X) [s.start,(s.samples.length:Int),(s.gaps.length:Int)] (by simp) (M0:=M) (E:=[]) (v:=2) (bs:=hdrB s) (by omega)
  have hlow:∀ n:Nat,lowL n (hdrB s) = True:=fun n => eq_true (by
    unfold hdrB
    rw [lowL_iff]
    intro x hx
    rcases List.mem_append.1 hx with hx|hx
    · simp only [List.cons_append,List.nil_append,List.mem_cons,List.not_mem_nil,or_false] at hx
      rcases hx with rfl|rfl|rfl|rfl|rfl <;> simp [PV.low]
    · exact (lowL_iff _).1 (of_eq_true (bytesPV_low s.name)) x hx)
  rw [hh] at hP
  refine callP_l hP ?_
  have hcl:∀ (L:List Int) (m:Nat),lowL m (hdrB s ++ putB L) = True:=fun L m => eq_true (by
    rw [lowL_iff]
    intro x hx
    rcases List.mem_append.1 hx with hx|hx
    · exact (lowL_iff _).1 (of_eq_true (hlow m)) x hx
    · exact (lowL_iff _).1 (of_eq_true (putB_low L)) x hx)
  have hC:∀ L:List Int,(hdrB s ++ putB L).length = 5 + s.name.size + 4 * L.length:=fun L => by rw [List.length_append,hh,putB_len]
  have hstep:∀ L N:List Int,hdrB s ++ putB L ++ putB N = hdrB s ++ putB (L ++ N):=fun L N => by rw [List.append_assoc,putB_app]
  have hE:encB s = hdrB s ++ putB ([s.start,(s.samples.length:Int),(s.gaps.length:Int)] ++ gapNs s.gaps ++ bitNs s.samples):=rfl
  generalize encB s = R at hE ⊢
  simp -implicitDefEqProofs (disch:=first|omega|(simp only [go_sem,seval];first|done|omega)) only [go_sem,seval]
  have hb3:([s.start,(s.samples.length:Int),(s.gaps.length:Int)]:List Int).length = 3:=rfl
  generalize [s.start,(s.samples.length:Int),(s.gaps.length:Int)] = base at hb3 hE ⊢
  refine loop_mk (α:=Nat) 0 (fun k => k ≤ s.gaps.length) (fun k => M ++ [.row true 1 (5 + 2 * k) (hdrB s ++ putB (base ++ gapNs (s.gaps.take k))),.row true 1 0 [.os M.length (5 + 2 * k) 0 (hdrB s ++ putB (base ++ gapNs (s.gaps.take k))).length]])
    (fun k => [(1,.fp (encSer s).cells),(5,.op (M.length + 1) 0 0 0),(6,.fn (.func 131) [] [.op (M.length + 1) 0 0 0]),(41,.fs (s.gaps.map encSpn)),(42,.I s.gaps.length),(43,.I k)]) (fun k => s.gaps.length - k) (Nat.zero_le _) ?_ rfl ?_
  · simp [gapNs]
  intro k hk
  by_cases hlt:k < s.gaps.length
  · obtain ⟨g,hg⟩:∃ g,s.gaps[k]? = some g:=⟨_,List.getElem?_eq_getElem hlt⟩
    have hsn:=gapNs_snoc hg
    have hgl2:=gapNs_len (s.gaps.take k)
    have htl:(s.gaps.take k).length = k:=by rw [List.length_take];omega
    have hcl2:(hdrB s ++ putB (base ++ gapNs (s.gaps.take k))).length = 5 + s.name.size + 4 * (3 + 2 * k):=by rw [hC,List.length_append,hb3,hgl2,htl]
    have hP2:=put_run (X:=X) [g.fr,g.to_] (by simp) (M0:=M) (E:=[.row true 2 0 [encSpn g]]) (v:=5 + 2 * k) (bs:=hdrB s ++ putB (base ++ gapNs (s.gaps.take k))) (by omega)
    rw [hstep,List.append_assoc,← hsn] at hP2
    have hlw:=hcl (base ++ gapNs (s.gaps.take (k + 1)))
    generalize hdrB s ++ putB (base ++ gapNs (s.gaps.take k)) = c at hP2 hcl2 ⊢
    simp -implicitDefEqProofs (disch:=first|omega|(simp only [go_sem,seval,hlt,hg,encSpn_cells,encSpn_eq];first|done|omega)) only [go_sem,seval,hlt,hg,encSpn_cells,encSpn_eq]
    refine callP_l hP2 ?_
    simp -implicitDefEqProofs (disch:=first|omega|(simp only [go_sem,seval,hlt,hg,encSpn_cells,encSpn_eq];first|done|omega)) only [go_sem,seval,hlt,hg,encSpn_cells,encSpn_eq]
    have hes:lowL (M.length + 2) (encSer s).cells = True:=by rw [encSer_cells];exact eq_true (by simp [lowL,PV.low,encF_low,encSpn_low])
    refine Wp_cut_at hM rfl 2 (by simp) (by first|done|(simp only [go_sem,seval,hlw,hlow,putB_low,hes,encSpn_low] <;> first|done|(refine ⟨?_,?_⟩ <;> omega)|omega)) (lowL_mk (by first|done|(simp only [go_sem,seval,hlw,hlow,putB_low,hes,encSpn_low] <;> first|done|(refine ⟨?_,?_⟩ <;> omega)|omega))) ?_
    simp -implicitDefEqProofs (disch:=first|omega|(simp only [go_sem,seval];first|done|omega)) only [go_sem,seval]
    exact again' (k + 1) (by omega) (by omega) rfl rfl
  have hkk:k = s.gaps.length:=by omega
  subst hkk
  rw [List.take_length]
  simp -implicitDefEqProofs (disch:=first|omega|(simp only [go_sem,seval,hlt,encSer_cells];first|done|omega)) only [go_sem,seval,hlt,encSer_cells]
  refine loop_mk (α:=Nat) 0 (fun j => j ≤ s.samples.length) (fun j => M ++ [.row true 1 (5 + (2 * s.gaps.length + j)) (hdrB s ++ putB (base ++ gapNs s.gaps ++ bitNs (s.samples.take j))),.row true 1 0 [.os M.length (5 + (2 * s.gaps.length + j)) 0 (hdrB s ++ putB (base ++ gapNs s.gaps ++ bitNs (s.samples.take j))).length]])
    (fun j => [(5,.op (M.length + 1) 0 0 0),(6,.fn (.func 131) [] [.op (M.length + 1) 0 0 0]),(56,.fs (s.samples.map encF)),(57,.I s.samples.length),(58,.I j)]) (fun j => s.samples.length - j) (Nat.zero_le _) ?_ rfl ?_
  · simp [bitNs]
  intro j hj
  by_cases hlt2:j < s.samples.length
  · obtain ⟨x,hx⟩:∃ x,s.samples[j]? = some x:=⟨_,List.getElem?_eq_getElem hlt2⟩
    have hxs:=hsm x (List.mem_of_getElem? hx)
    have hpl:=f_plus0 hxs
    have hbs:bitNs (s.samples.take (j + 1)) = bitNs (s.samples.take j) ++ [IntKind.i64.wrap (plus0 x)]:=by
      unfold bitNs
      exact take_snoc (f:=fun x => IntKind.i64.wrap (plus0 x:Int)) hx
    have hbl2:(bitNs (s.samples.take j)).length = j:=by unfold bitNs;rw [List.length_map,List.length_take];omega
    have hcl2:(hdrB s ++ putB (base ++ gapNs s.gaps ++ bitNs (s.samples.take j))).length = 5 + s.name.size + 4 * (3 + 2 * s.gaps.length + j):=by rw [hC,List.length_append,List.length_append,hb3,gapNs_len,hbl2]
    have hP2:=put_run (X:=X) [IntKind.i64.wrap (plus0 x)] (by simp) (M0:=M) (E:=[]) (v:=5 + (2 * s.gaps.length + j)) (bs:=hdrB s ++ putB (base ++ gapNs s.gaps ++ bitNs (s.samples.take j))) (by omega)
    have hb':base ++ gapNs s.gaps ++ bitNs (s.samples.take j) ++ [IntKind.i64.wrap (plus0 x)] = base ++ gapNs s.gaps ++ bitNs (s.samples.take (j + 1)):=by rw [hbs,List.append_assoc (base ++ gapNs s.gaps)]
    rw [hstep,hb'] at hP2
    have hlw:=hcl (base ++ gapNs s.gaps ++ bitNs (s.samples.take (j + 1)))
    generalize hdrB s ++ putB (base ++ gapNs s.gaps ++ bitNs (s.samples.take j)) = c at hP2 hcl2 ⊢
    simp -implicitDefEqProofs (disch:=first|omega|(simp only [go_sem,seval,hlt2,hx,r_sop,hpl];first|done|omega)) only [go_sem,seval,hlt2,hx,r_sop,hpl]
    refine callP_q (ACall_ext (hF (plus0 x) _)) ?_
    simp -implicitDefEqProofs (disch:=first|omega|(simp only [go_sem,seval];first|done|omega)) only [go_sem,seval]
    refine callP_l hP2 ?_
    simp -implicitDefEqProofs (disch:=first|omega|(simp only [go_sem,seval];first|done|omega)) only [go_sem,seval]
    refine Wp_cut_at hM rfl 2 (by simp) (by first|done|(simp only [go_sem,seval,hlw,hlow,putB_low,encF_low] <;> first|done|(refine ⟨?_,?_⟩ <;> omega)|omega)) (lowL_mk (by first|done|(simp only [go_sem,seval,hlw,hlow,putB_low,encF_low] <;> first|done|(refine ⟨?_,?_⟩ <;> omega)|omega))) ?_
    simp -implicitDefEqProofs (disch:=first|omega|(simp only [go_sem,seval];first|done|omega)) only [go_sem,seval]
    exact again' (j + 1) (by omega) (by omega) rfl rfl
  have hjj:j = s.samples.length:=by omega
  subst hjj
  rw [List.take_length]
  have hlw:=hcl (base ++ gapNs s.gaps ++ bitNs s.samples)
  rw [← hE] at hlw ⊢
  have hRt:R.take R.length = R:=List.take_length
  simp -implicitDefEqProofs (disch:=first|omega|(simp only [go_sem,seval,hlt2];first|done|omega)) only [go_sem,seval,hlt2]
  (first|refine post_fin ret_ok hM rfl ?_ ?_|refine post_fin0 ret_ok hM rfl ?_ ?_|refine post_fin normal_ok hM rfl ?_ ?_|refine post_fin0 normal_ok hM rfl ?_ ?_)
  · simp -implicitDefEqProofs (disch:=first|omega|(simp only [go_sem,seval,hRt];first|done|omega)) only [go_sem,seval,hRt]
  · (simp only [go_sem,seval,hlw,hRt] <;> first|done|omega)
theorem q_law01_farm:Q X 97 [] (encSte farmS):=by
  intro M
  (refine ACall_fn (cf:=L4.c97) rfl rfl fun hM hA => ?_;simp only [L4.c97,zO,zF,zT];rw [mk0];simp -implicitDefEqProofs (disch:=first|omega|(simp only [go_sem,seval,-List.reduceReplicate];first|done|omega)) only [go_sem,seval,-List.reduceReplicate])
  (first|refine post_fin ret_ok hM rfl ?_ ?_|refine post_fin0 ret_ok hM rfl ?_ ?_|refine post_fin normal_ok hM rfl ?_ ?_|refine post_fin0 normal_ok hM rfl ?_ ?_)
  · simp -implicitDefEqProofs (disch:=first|omega|(simp only [go_sem,seval,-List.reduceReplicate];first|done|omega)) only [go_sem,seval,-List.reduceReplicate]
    rfl
  · exact of_eq_true (encSte_low1 farmS)
theorem q_law01_wave:Q X 98 [] (encSer waveS):=by
  intro M
  (refine ACall_fn (cf:=L4.c98) rfl rfl fun hM hA => ?_;simp only [L4.c98,zO,zF,zT];rw [mk0];simp -implicitDefEqProofs (disch:=first|omega|(simp only [go_sem,seval,-List.reduceReplicate];first|done|omega)) only [go_sem,seval,-List.reduceReplicate])
  (first|refine post_fin ret_ok hM rfl ?_ ?_|refine post_fin0 ret_ok hM rfl ?_ ?_|refine post_fin normal_ok hM rfl ?_ ?_|refine post_fin0 normal_ok hM rfl ?_ ?_)
  · simp -implicitDefEqProofs (disch:=first|omega|(simp only [go_sem,seval,-List.reduceReplicate];first|done|omega)) only [go_sem,seval,-List.reduceReplicate]
    rfl
  · exact of_eq_true (encSer_low1 waveS)
theorem aw1 (hS:SortX X):Q X 19 [.fs (([⟨0,5⟩,⟨3,8⟩,⟨9,10⟩]:List Spn).map encSpn)] (.tup [.fs (([⟨0,8⟩,⟨9,10⟩]:List Spn).map encSpn),.I 0]):=by
  have h:=q_site_Canon (X:=X) hS [⟨0,5⟩,⟨3,8⟩,⟨9,10⟩] (by decide)
  rw [show chkAny [⟨0,5⟩,⟨3,8⟩,⟨9,10⟩] = 0 from by decide,if_pos rfl,aw_canon] at h
  exact h
theorem aw2:Q X 21 [.fs (([⟨0,8⟩,⟨9,10⟩]:List Spn).map encSpn)] (.tup [.I 9,.I 0]):=by
  have h:=q_site_Total (X:=X) [⟨0,8⟩,⟨9,10⟩] (by decide)
  rw [show chkSpns [⟨0,8⟩,⟨9,10⟩] = 0 from by decide,if_pos rfl,show totOf [⟨0,8⟩,⟨9,10⟩] = 9 from by decide] at h
  exact h
theorem aw3 (hS:SortX X):Q X 31 [.fs (([⟨0,8⟩,⟨9,10⟩]:List Spn).map encSpn),.fs (([⟨8,9⟩]:List Spn).map encSpn)] (.tup [.fs (([⟨0,10⟩]:List Spn).map encSpn),.I 0]):=by
  have h:=q_site_Join (X:=X) hS [⟨0,8⟩,⟨9,10⟩] [⟨8,9⟩] (by decide) (by decide)
  rw [aw_join] at h
  exact h
theorem aw4:Q X 33 [.fs (([⟨0,10⟩]:List Spn).map encSpn),.fs (([⟨3,5⟩]:List Spn).map encSpn)] (.tup [.fs (([⟨0,3⟩,⟨5,10⟩]:List Spn).map encSpn),.I 0]):=by
  have h:=q_site_Minus (X:=X) [⟨0,10⟩] [⟨3,5⟩] (by decide) (by decide)
  rw [aw_minus] at h
  exact h
theorem aw5:Q X 42 [encSte farmS] (.tup [.I 25,.I 0]):=by
  have h:=q_site_Spacing (X:=X) farmS (by decide)
  rw [show spcE farmS = 0 from by decide,if_pos rfl,farm_spc] at h
  exact h
theorem aw6:Q X 44 [encSte farmS,.I 1] (.tup [encSte (mvS (trnN 1) farmS),.I 0]):=by
  have h:=q_site_TurnSite (X:=X) farmS 1 (by decide)
  rw [show turnE farmS 1 = 0 from by decide,if_pos rfl] at h
  exact h
theorem aw9:Q X 64 [encSer waveS] (.tup [encSt ⟨6,144,1056964608,1077936128⟩,.I 0]):=by
  have h:=q_site_Summary (X:=X) waveS (by decide) (by decide)
  unfold sumOf sumE at h
  rw [if_pos wave_ok,if_pos wave_ok,wave_sum] at h
  exact h
theorem aw7 (hS:SortX X):Q X 57 [.I 2] (.tup [encPt ⟨-1,0⟩,.I 0]):=by
  have h:=q_site_Step (X:=X) 2
  rw [show stepOf 2 = ⟨-1,0⟩ from by decide,show rng 2 0 7 = 0 from by decide] at h
  exact h
theorem aw8 (hS:SortX X):Q X 57 [.I 0] (.tup [encPt ⟨0,-1⟩,.I 0]):=by
  have h:=q_site_Step (X:=X) 0
  rw [show stepOf 0 = ⟨0,-1⟩ from by decide,show rng 0 0 7 = 0 from by decide] at h
  exact h
theorem aw10:Q X 66 [encSer waveS,encF 1065353216,.I 1] (.tup [.fs (([⟨0,1⟩,⟨3,4⟩,⟨5,7⟩]:List Spn).map encSpn),.I 0]):=by
  have h:=q_site_Spells (X:=X) waveS 1065353216 1 (by decide) (by decide)
  unfold spellR spellL at h
  rw [show spellE waveS 1065353216 1 = 0 from by decide +kernel,if_pos rfl,wave_sp1,if_neg (by decide)] at h
  exact h
theorem aw11:Q X 66 [encSer waveS,encF 1065353216,.I 2] (.tup [.fs (([⟨5,7⟩]:List Spn).map encSpn),.I 0]):=by
  have h:=q_site_Spells (X:=X) waveS 1065353216 2 (by decide) (by decide)
  unfold spellR spellL at h
  rw [show spellE waveS 1065353216 2 = 0 from by decide +kernel,if_pos rfl,wave_sp2,if_neg (by decide)] at h
  exact h
def awRo:Rse:=incR (incR z408 7) (2 * 51 + 8)
theorem aw12:Q X 81 [encSer awA,encSer awB] (.tup [encRs awRo,.I 0]):=by
  have h:=q_site_Blown (X:=X) awA awB (by decide) (by decide) (by decide) (by decide)
  unfold blownR at h
  rw [aw_blownE,if_pos rfl,aw_blown] at h
  exact h
theorem aw14 (hI:ItoaX X) (hJ:JoinX X):Q X 92 [encSte farmS] (.tup [.s (.string (steTxt farmS)),.I 0]):=by
  have h:=q_site_Print (X:=X) hI hJ farmS (by decide)
  rw [farm_ok,if_pos rfl] at h
  exact h
theorem aw15 (hF:FbitsX X):Q X 88 [encSer waveS] (.tup [.fs (encB waveS),.I 0]):=by
  have h:=q_site_Encode (X:=X) hF waveS (by decide) (by decide)
  rw [wave_ok,if_pos rfl] at h
  exact h
theorem awRo_len:List.length awRo = 408:=by decide +kernel
theorem awRo_ok:chkRse awRo = 0:=by decide +kernel
theorem aw13:Q X 58 [encRs awRo,.I 1] (.tup [encRs (trnR awRo 1 8),.I 0]):=by
  have h:=q_site_TurnRose (X:=X) awRo 1 awRo_len
  rw [show trnE awRo 1 = 0 from by decide +kernel,if_pos rfl] at h
  exact h
theorem aw16:Q X 61 [encRs awRo] (.I 2):=by
  have h:=q_ref01_Quarters (X:=X) awRo awRo_len awRo_ok
  rw [show sumR awRo 408 = 2 from by decide +kernel] at h
  exact h
theorem at_cell {r:Rse} {i:Nat} {v:Int} (h:(r.drop i).take 1 = [v]):((r.map PV.I).drop i).take 1 = [PV.I v]:=by
  rw [← List.map_drop,← List.map_take,h];rfl
theorem r_7:(awRo.drop 7).take 1 = [1]:=by decide +kernel
theorem r_110:(awRo.drop 110).take 1 = [1]:=by decide +kernel
theorem u_109:((trnR awRo 1 8).drop 109).take 1 = [1]:=by decide +kernel
theorem u_212:((trnR awRo 1 8).drop 212).take 1 = [1]:=by decide +kernel
theorem same_self (l:List Spn) (h:l.length ≤ 1048576):Q X 39 [.fs (l.map encSpn),.fs (l.map encSpn)] (.B true):=by
  have:=q_ref01_SameSpans (X:=X) l l h
  simpa using this
theorem aw_turned:encSte (mvS (trnN 1) farmS) = .agg [.s (.string ⟨#[110,111,114,116,104]⟩),.I 5,.fs [.agg [.s (.string ⟨#[97]⟩),.I 0,.I 0],.agg [.s (.string ⟨#[98]⟩),.I 0,.I (-6)],.agg [.s (.string ⟨#[99]⟩),.I 4,.I (-3)]]]:=rfl
theorem aw_e0:(encB waveS).length = 57:=by decide +kernel
theorem aw_e4:(encB waveS).take 4 = bytesPV ⟨#[87,73,78,68]⟩:=by rfl
theorem aw_es:sized 1 (encB waveS) = true:=by decide +kernel
theorem aw_e29:(encB waveS)[29]? = some (u8 63):=by rfl
theorem aw_e30:(encB waveS)[30]? = some (u8 128):=by rfl
theorem aw_fl:eqCells [SK.flt,SK.flt] [encF 1056964608,encF 1077936128] [PV.s (Value.float FloatKind.f32 1056964608),PV.s (Value.float FloatKind.f32 1077936128)] = some true:=by
  have o1:(FloatKind.f32.format.order 1056964608 1056964608 == some .eq) = true:=by decide
  have o2:(FloatKind.f32.format.order 1077936128 1077936128 == some .eq) = true:=by decide
  rw [eqCells_flt,eqCells_flt,eqCells_nil]
  simp [o1,o2]
set_option maxHeartbeats 2000000 in
theorem q_law01_awake (hS:SortX X) (hI:ItoaX X) (hJ:JoinX X) (hF:FbitsX X):Q X 17 [] (.B true):=by
  intro M
  (refine ACall_fn (cf:=L4.c17) rfl rfl fun hM hA => ?_;simp only [L4.c17,zO,zF,zT];rw [mk0];simp -implicitDefEqProofs (disch:=first|omega|(simp only [go_sem,seval,-List.reduceReplicate];first|done|omega)) only [go_sem,seval,-List.reduceReplicate])
  refine callP_q (aw1 hS _) ?_
  simp -implicitDefEqProofs (disch:=first|omega|(simp only [go_sem,seval,-List.reduceReplicate];first|done|omega)) only [go_sem,seval,-List.reduceReplicate]
  refine callP_q (aw2 _) ?_
  simp -implicitDefEqProofs (disch:=first|omega|(simp only [go_sem,seval,-List.reduceReplicate];first|done|omega)) only [go_sem,seval,-List.reduceReplicate]
  refine callP_q (aw3 hS _) ?_
  simp -implicitDefEqProofs (disch:=first|omega|(simp only [go_sem,seval,-List.reduceReplicate];first|done|omega)) only [go_sem,seval,-List.reduceReplicate]
  refine callP_q (aw4 _) ?_
  simp -implicitDefEqProofs (disch:=first|omega|(simp only [go_sem,seval,-List.reduceReplicate];first|done|omega)) only [go_sem,seval,-List.reduceReplicate]
  refine callP_q (q_law01_farm _) ?_
  simp -implicitDefEqProofs (disch:=first|omega|(simp only [go_sem,seval,-List.reduceReplicate];first|done|omega)) only [go_sem,seval,-List.reduceReplicate]
  refine callP_q (aw5 _) ?_
  simp -implicitDefEqProofs (disch:=first|omega|(simp only [go_sem,seval,-List.reduceReplicate];first|done|omega)) only [go_sem,seval,-List.reduceReplicate]
  refine callP_q (q_law01_farm _) ?_
  simp -implicitDefEqProofs (disch:=first|omega|(simp only [go_sem,seval,-List.reduceReplicate];first|done|omega)) only [go_sem,seval,-List.reduceReplicate]
  refine callP_q (aw6 _) ?_
  simp -implicitDefEqProofs (disch:=first|omega|(simp only [go_sem,seval,-List.reduceReplicate,aw_turned];first|done|omega)) only [go_sem,seval,-List.reduceReplicate,aw_turned]
  refine callP_q (aw7 hS _) ?_
  simp -implicitDefEqProofs (disch:=first|omega|(simp only [go_sem,seval,-List.reduceReplicate,encPt_eq];first|done|omega)) only [go_sem,seval,-List.reduceReplicate,encPt_eq]
  refine callP_q (aw8 hS _) ?_
  simp -implicitDefEqProofs (disch:=first|omega|(simp only [go_sem,seval,-List.reduceReplicate,encPt_eq];first|done|omega)) only [go_sem,seval,-List.reduceReplicate,encPt_eq]
  refine callP_q (q_law01_wave _) ?_
  simp -implicitDefEqProofs (disch:=first|omega|(simp only [go_sem,seval,-List.reduceReplicate];first|done|omega)) only [go_sem,seval,-List.reduceReplicate]
  refine callP_q (aw9 _) ?_
  simp -implicitDefEqProofs (disch:=first|omega|(simp only [go_sem,seval,-List.reduceReplicate,encSt_eq];first|done|omega)) only [go_sem,seval,-List.reduceReplicate,encSt_eq]
  refine callP_q (q_law01_wave _) ?_
  simp -implicitDefEqProofs (disch:=first|omega|(simp only [go_sem,seval,-List.reduceReplicate];first|done|omega)) only [go_sem,seval,-List.reduceReplicate]
  refine callP_q (aw10 _) ?_
  simp -implicitDefEqProofs (disch:=first|omega|(simp only [go_sem,seval,-List.reduceReplicate];first|done|omega)) only [go_sem,seval,-List.reduceReplicate]
  refine callP_q (q_law01_wave _) ?_
  simp -implicitDefEqProofs (disch:=first|omega|(simp only [go_sem,seval,-List.reduceReplicate];first|done|omega)) only [go_sem,seval,-List.reduceReplicate]
  refine callP_q (aw11 _) ?_
  have hzI:=z408_I
  have hzl:(List.map PV.I z408).length = 408:=by rw [List.length_map];exact List.length_replicate
  have hzo:=ones_I z408
  have hzd:(List.map PV.I z408).drop 408 = []:=List.drop_of_length_le (by omega)
  generalize hZ:List.map PV.I z408 = Z at hzI hzl hzo hzd
  simp -implicitDefEqProofs (disch:=first|omega|(simp only [go_sem,seval,-List.reduceReplicate,hzI];first|done|omega)) only [go_sem,seval,-List.reduceReplicate,hzI]
  refine callP_q (aw12 _) ?_
  have hc:=cells_mk awRo_len
  have e12:encRs awRo = .agg (awRo.map PV.I):=rfl
  have h13:=aw13 (X:=X)
  rw [e12] at h13 ⊢
  have hcl:=hc.len
  have hct:=hc.tk
  have hco:=hc.one
  have k7:=at_cell r_7
  have k110:=at_cell r_110
  have h16:=aw16 (X:=X)
  rw [e12] at h16
  generalize awRo.map PV.I = cs at k7 k110 h16 hc hcl hct hco h13 ⊢
  have hcv:=hc.vw
  simp -implicitDefEqProofs (disch:=first|omega|(simp only [go_sem,seval,-List.reduceReplicate,hzI,hzl,hcl,hco,hct,hcv,hzd,putE_agg,List.append_nil];first|done|omega)) only [go_sem,seval,-List.reduceReplicate,hzI,hzl,hcl,hco,hct,hcv,hzd,putE_agg,List.append_nil]
  refine callP_q (h13 _) ?_
  have hc2:=cells_mk (r:=trnR awRo 1 8) (trnR_len awRo_len (Nat.le_refl _))
  have e13:encRs (trnR awRo 1 8) = .agg ((trnR awRo 1 8).map PV.I):=rfl
  rw [e13]
  have hcl2:=hc2.len
  have hct2:=hc2.tk
  have hco2:=hc2.one
  have hcv2:=hc2.vw
  have k109:=at_cell u_109
  have k212:=at_cell u_212
  generalize (trnR awRo 1 8).map PV.I = ds at k109 k212 hc2 hcl2 hct2 hco2 hcv2 ⊢
  simp -implicitDefEqProofs (disch:=first|omega|(simp only [go_sem,seval,-List.reduceReplicate,hzI,hzl,hcl2,hco2,hct2,hcv2,hzd,putE_agg,List.append_nil];first|done|omega)) only [go_sem,seval,-List.reduceReplicate,hzI,hzl,hcl2,hco2,hct2,hcv2,hzd,putE_agg,List.append_nil]
  refine callP_q (q_law01_farm _) ?_
  simp -implicitDefEqProofs (disch:=first|omega|(simp only [go_sem,seval,-List.reduceReplicate];first|done|omega)) only [go_sem,seval,-List.reduceReplicate]
  refine callP_q (aw14 hI hJ _) ?_
  simp -implicitDefEqProofs (disch:=first|omega|(simp only [go_sem,seval,-List.reduceReplicate];first|done|omega)) only [go_sem,seval,-List.reduceReplicate]
  refine callP_q (q_law01_wave _) ?_
  simp -implicitDefEqProofs (disch:=first|omega|(simp only [go_sem,seval,-List.reduceReplicate];first|done|omega)) only [go_sem,seval,-List.reduceReplicate]
  refine callP_q (aw15 hF _) ?_
  have hEl:=aw_e0
  have hE4:=aw_e4
  have hEs:=aw_es
  have hE29:=aw_e29
  have hE30:=aw_e30
  generalize encB waveS = eb at hEl hE4 hEs hE29 hE30 ⊢
  simp -implicitDefEqProofs (disch:=first|omega|(simp only [go_sem,seval,-List.reduceReplicate,aw_turned,hEl];first|done|omega)) only [go_sem,seval,-List.reduceReplicate,aw_turned,hEl]
  refine callP_q (same_self [⟨0,8⟩,⟨9,10⟩] (by decide) _) ?_
  simp -implicitDefEqProofs (disch:=first|omega|(simp only [go_sem,seval,-List.reduceReplicate,aw_turned,hEl];first|done|omega)) only [go_sem,seval,-List.reduceReplicate,aw_turned,hEl]
  refine callP_q (same_self [⟨0,10⟩] (by decide) _) ?_
  simp -implicitDefEqProofs (disch:=first|omega|(simp only [go_sem,seval,-List.reduceReplicate,aw_turned,hEl];first|done|omega)) only [go_sem,seval,-List.reduceReplicate,aw_turned,hEl]
  refine callP_q (same_self [⟨0,3⟩,⟨5,10⟩] (by decide) _) ?_
  have hfl:=aw_fl
  simp -implicitDefEqProofs (disch:=first|omega|(simp only [go_sem,seval,-List.reduceReplicate,aw_turned,hEl,hfl];first|done|omega)) only [go_sem,seval,-List.reduceReplicate,aw_turned,hEl,hfl]
  refine callP_q (same_self [⟨0,1⟩,⟨3,4⟩,⟨5,7⟩] (by decide) _) ?_
  simp -implicitDefEqProofs (disch:=first|omega|(simp only [go_sem,seval,-List.reduceReplicate,aw_turned,hEl,hfl];first|done|omega)) only [go_sem,seval,-List.reduceReplicate,aw_turned,hEl,hfl]
  refine callP_q (same_self [⟨5,7⟩] (by decide) _) ?_
  simp -implicitDefEqProofs (disch:=first|omega|(simp only [go_sem,seval,-List.reduceReplicate,aw_turned,hEl,hfl,k7,k110,k109,k212,hcl,hct,hcv,hcl2];first|done|omega)) only [go_sem,seval,-List.reduceReplicate,aw_turned,hEl,hfl,k7,k110,k109,k212,hcl,hct,hcv,hcl2]
  refine callP_q (h16 _) ?_
  simp -implicitDefEqProofs (disch:=first|omega|(simp only [go_sem,seval,-List.reduceReplicate,aw_turned,aw_print,hEl,hE4,hEs,hE29,hE30,hfl,k7,k110,k109,k212,hcl,hct,hcv,hcl2,hct2,bin_strEq];first|done|omega)) only [go_sem,seval,-List.reduceReplicate,aw_turned,aw_print,hEl,hE4,hEs,hE29,hE30,hfl,k7,k110,k109,k212,hcl,hct,hcv,hcl2,hct2,bin_strEq]
  (all_goals (first|refine post_fin ret_ok hM rfl ?_ ?_|refine post_fin0 ret_ok hM rfl ?_ ?_|refine post_fin normal_ok hM rfl ?_ ?_|refine post_fin0 normal_ok hM rfl ?_ ?_);all_goals first|(simp only [go_sem,seval,-List.reduceReplicate] <;> first|done|omega)|skip;all_goals (try simp -implicitDefEqProofs (disch:=first|omega|(simp only [go_sem,seval,-List.reduceReplicate];first|done|omega)) only [go_sem,seval,-List.reduceReplicate]))
def Fc:Prog
  | 148 => some c148
  | 149 => some c149
  | 168 => some c168
  | _ => none
abbrev Qc (f:FuncId) (args:List PV) (r:PV):Prop:=∀ M,ACall Fc (fun _ _ _ _ _ => False) (.fn f) args M r M
theorem qc_isNaN (x:Int):Qc 168 [.I x] (.B false):=by
  intro M
  (refine ACall_fn (cf:=L4.c168) rfl rfl fun hM hA => ?_;simp only [L4.c168,zO,zF,zT];rw [mk1 _ (by decide)];simp -implicitDefEqProofs (disch:=first|omega|(simp only [go_sem,seval];first|done|omega)) only [go_sem,seval])
  (all_goals (first|refine post_fin ret_ok hM rfl ?_ ?_|refine post_fin0 ret_ok hM rfl ?_ ?_|refine post_fin normal_ok hM rfl ?_ ?_|refine post_fin0 normal_ok hM rfl ?_ ?_);all_goals first|(simp only [go_sem,seval] <;> first|done|omega)|skip;all_goals (try simp -implicitDefEqProofs (disch:=first|omega|(simp only [go_sem,seval];first|done|omega)) only [go_sem,seval]))
  all_goals simp
theorem qc_Compare (x y:Int):Qc 149 [.I x,.I y] (.I (if x < y then -1 else if y < x then 1 else 0)):=by
  intro M
  (refine ACall_fn (cf:=L4.c149) rfl rfl fun hM hA => ?_;simp only [L4.c149,zO,zF,zT];rw [mk2 _ (by decide)];simp -implicitDefEqProofs (disch:=first|omega|(simp only [go_sem,seval];first|done|omega)) only [go_sem,seval])
  refine callP_q (qc_isNaN x _) ?_
  simp -implicitDefEqProofs (disch:=first|omega|(simp only [go_sem,seval];first|done|omega)) only [go_sem,seval]
  refine callP_q (qc_isNaN y _) ?_
  simp -implicitDefEqProofs (disch:=first|omega|(simp only [go_sem,seval];first|done|omega)) only [go_sem,seval]
  by_cases h1:x < y
  · simp -implicitDefEqProofs (disch:=first|omega|(simp only [go_sem,seval,h1];first|done|omega)) only [go_sem,seval,h1]
    (all_goals (first|refine post_fin ret_ok hM rfl ?_ ?_|refine post_fin0 ret_ok hM rfl ?_ ?_|refine post_fin normal_ok hM rfl ?_ ?_|refine post_fin0 normal_ok hM rfl ?_ ?_);all_goals first|(simp only [go_sem,seval] <;> first|done|omega)|skip;all_goals (try simp -implicitDefEqProofs (disch:=first|omega|(simp only [go_sem,seval];first|done|omega)) only [go_sem,seval]))
  · by_cases h2:y < x
    · simp -implicitDefEqProofs (disch:=first|omega|(simp only [go_sem,seval,h1,h2];first|done|omega)) only [go_sem,seval,h1,h2]
      (all_goals (first|refine post_fin ret_ok hM rfl ?_ ?_|refine post_fin0 ret_ok hM rfl ?_ ?_|refine post_fin normal_ok hM rfl ?_ ?_|refine post_fin0 normal_ok hM rfl ?_ ?_);all_goals first|(simp only [go_sem,seval] <;> first|done|omega)|skip;all_goals (try simp -implicitDefEqProofs (disch:=first|omega|(simp only [go_sem,seval];first|done|omega)) only [go_sem,seval]))
    · simp -implicitDefEqProofs (disch:=first|omega|(simp only [go_sem,seval,h1,h2];first|done|omega)) only [go_sem,seval,h1,h2]
      (all_goals (first|refine post_fin ret_ok hM rfl ?_ ?_|refine post_fin0 ret_ok hM rfl ?_ ?_|refine post_fin normal_ok hM rfl ?_ ?_|refine post_fin0 normal_ok hM rfl ?_ ?_);all_goals first|(simp only [go_sem,seval] <;> first|done|omega)|skip;all_goals (try simp -implicitDefEqProofs (disch:=first|omega|(simp only [go_sem,seval];first|done|omega)) only [go_sem,seval]))
theorem qc_canon (x y:Spn):Qc 148 [encSpn x,encSpn y] (.I (spnCmp x y)):=by
  intro M
  (refine ACall_fn (cf:=L4.c148) rfl rfl fun hM hA => ?_;simp only [L4.c148,zO,zF,zT];rw [mk2 _ (by decide)];simp -implicitDefEqProofs (disch:=first|omega|(simp only [go_sem,seval,encSpn_eq];first|done|omega)) only [go_sem,seval,encSpn_eq])
  refine callP_q (qc_Compare x.fr y.fr _) ?_
  have e:spnCmp x y = if x.fr < y.fr then -1 else if y.fr < x.fr then 1 else 0:=rfl
  rw [e]
  simp -implicitDefEqProofs (disch:=first|omega|(simp only [go_sem,seval];first|done|omega)) only [go_sem,seval]
  (all_goals (first|refine post_fin ret_ok hM rfl ?_ ?_|refine post_fin0 ret_ok hM rfl ?_ ?_|refine post_fin normal_ok hM rfl ?_ ?_|refine post_fin0 normal_ok hM rfl ?_ ?_);all_goals first|(simp only [go_sem,seval] <;> first|done|omega)|skip;all_goals (try simp -implicitDefEqProofs (disch:=first|omega|(simp only [go_sem,seval];first|done|omega)) only [go_sem,seval]))
theorem q_law01_given (s:Ste) (hl:s.tbs.length ≤ 1048576):Q X 43 [encSte s] (encSte s):=by
  obtain ⟨nm,least,l⟩:=s
  simp only at hl ⊢
  have e:encSte ⟨nm,least,l⟩ = .agg [.s (.string nm),.I least,.fs (l.map encTb)]:=rfl
  rw [e]
  clear e
  intro M
  have hz:zSte = .agg [.s (.string ⟨#[]⟩),.I 0,.s (.slice none 0 0)]:=rfl
  (refine ACall_fn (cf:=L4.c43) rfl rfl fun hM hA => ?_;simp only [L4.c43,zO,zF,zT];rw [mk1 _ (by decide)];simp -implicitDefEqProofs (disch:=first|omega|(simp only [go_sem,seval,ownR_agg];first|done|omega)) only [go_sem,seval,ownR_agg])
  refine loop_mk (α:=Nat) 0 (fun k => k ≤ l.length) (fun k => M ++ [.row true 3 0 [zSte],.row true 3 0 [.agg [.s (.string nm),.I least,.os (M.length + 2) (l.take k).length 0 (l.take k).length]],.row true 3 (l.take k).length ((l.take k).map encTb)])
    (fun k => [(2,.op M.length 0 0 0),(3,.op (M.length + 1) 0 0 0),(12,.fs (l.map encTb)),(13,.I l.length),(14,.I k)]) (fun k => l.length - k) (Nat.zero_le _) rfl rfl ?_
  intro k hk
  by_cases hlt:k < l.length
  · obtain ⟨x,hx⟩:∃ x,l[k]? = some x:=⟨_,List.getElem?_eq_getElem hlt⟩
    have htl:(l.take k).length = k:=by rw [List.length_take];omega
    have hs:l.take (k + 1) = l.take k ++ [x]:=by
      obtain ⟨h3,h4⟩:=List.getElem?_eq_some_iff.1 hx
      rw [List.take_succ_eq_append_getElem h3,h4]
    have again:∀ o:List Tb,l.take (k + 1) = o → Again 26 (fun k => k ≤ l.length) (fun k => M ++ [.row true 3 0 [zSte],.row true 3 0 [.agg [.s (.string nm),.I least,.os (M.length + 2) (l.take k).length 0 (l.take k).length]],.row true 3 (l.take k).length ((l.take k).map encTb)])
      (fun k => [(2,.op M.length 0 0 0),(3,.op (M.length + 1) 0 0 0),(12,.fs (l.map encTb)),(13,.I l.length),(14,.I k)]) (fun k => l.length - k) k
      (M ++ [.row true 3 0 [zSte],.row true 3 0 [.agg [.s (.string nm),.I least,.os (M.length + 2) o.length 0 o.length]],.row true 3 o.length (o.map encTb)]) (mk 26 [(2,.op M.length 0 0 0),(3,.op (M.length + 1) 0 0 0),(12,.fs (l.map encTb)),(13,.I l.length),(14,.I (k + 1))]):=by
      rintro o rfl
      exact again' (k + 1) (by omega) (by omega) rfl rfl
    rw [hs] at again
    clear hs
    generalize l.take k = o at htl again ⊢
    have f0:((k:Int) < l.length) = True:=eq_true (by omega)
    simp -implicitDefEqProofs (disch:=first|omega|(simp only [go_sem,seval,hlt,f0,hx,encTb_cells,encTb_eq];first|done|omega)) only [go_sem,seval,hlt,f0,hx,encTb_cells,encTb_eq]
    refine Wp_cut_at hM rfl 3 (by simp) (by first|done|(simp only [go_sem,seval,encTb_low,zSte_low] <;> first|done|(refine ⟨?_,?_⟩ <;> omega)|omega)) (lowL_mk (by first|done|(simp only [go_sem,seval,encTb_low,zSte_low] <;> first|done|(refine ⟨?_,?_⟩ <;> omega)|omega))) ?_
    simp -implicitDefEqProofs (disch:=first|omega|(simp only [go_sem,seval];first|done|omega)) only [go_sem,seval]
    simpa [encTb] using again _ rfl
  · simp -implicitDefEqProofs (disch:=first|omega|(simp only [go_sem,seval,hlt];first|done|omega)) only [go_sem,seval,hlt]
    rw [List.take_of_length_le (by omega)]
    simp -implicitDefEqProofs (disch:=first|omega|(simp only [go_sem,seval,hz];first|done|omega)) only [go_sem,seval,hz]
    (first|refine post_fin ret_ok hM rfl ?_ ?_|refine post_fin0 ret_ok hM rfl ?_ ?_|refine post_fin normal_ok hM rfl ?_ ?_|refine post_fin0 normal_ok hM rfl ?_ ?_)
    · simp -implicitDefEqProofs (disch:=first|omega|(simp only [go_sem,seval];first|done|omega)) only [go_sem,seval]
      rw [List.take_of_length_le (by rw [List.length_map];omega)]
    · (simp only [go_sem,seval,encTb_low] <;> first|done|omega)
theorem q_law01_own (s:Ste) (hl:s.tbs.length ≤ 1048576):Q X 55 [encSte s] (encSte s):=by
  obtain ⟨nm,least,l⟩:=s
  simp only at hl ⊢
  have e:encSte ⟨nm,least,l⟩ = .agg [.s (.string nm),.I least,.fs (l.map encTb)]:=rfl
  rw [e]
  clear e
  intro M
  have hz:zSte = .agg [.s (.string ⟨#[]⟩),.I 0,.s (.slice none 0 0)]:=rfl
  (refine ACall_fn (cf:=L4.c55) rfl rfl fun hM hA => ?_;simp only [L4.c55,zO,zF,zT];rw [mk1 _ (by decide)];simp -implicitDefEqProofs (disch:=first|omega|(simp only [go_sem,seval,ownR_agg];first|done|omega)) only [go_sem,seval,ownR_agg])
  refine loop_mk (α:=Nat) 0 (fun k => k ≤ l.length) (fun k => M ++ [.row true 3 0 [zSte],.row true 3 0 [.agg [.s (.string nm),.I least,.os (M.length + 2) (l.take k).length 0 (l.take k).length]],.row true 3 (l.take k).length ((l.take k).map encTb)])
    (fun k => [(2,.op M.length 0 0 0),(3,.op (M.length + 1) 0 0 0),(12,.fs (l.map encTb)),(13,.I l.length),(14,.I k)]) (fun k => l.length - k) (Nat.zero_le _) rfl rfl ?_
  intro k hk
  by_cases hlt:k < l.length
  · obtain ⟨x,hx⟩:∃ x,l[k]? = some x:=⟨_,List.getElem?_eq_getElem hlt⟩
    have htl:(l.take k).length = k:=by rw [List.length_take];omega
    have hs:l.take (k + 1) = l.take k ++ [x]:=by
      obtain ⟨h3,h4⟩:=List.getElem?_eq_some_iff.1 hx
      rw [List.take_succ_eq_append_getElem h3,h4]
    have again:∀ o:List Tb,l.take (k + 1) = o → Again 26 (fun k => k ≤ l.length) (fun k => M ++ [.row true 3 0 [zSte],.row true 3 0 [.agg [.s (.string nm),.I least,.os (M.length + 2) (l.take k).length 0 (l.take k).length]],.row true 3 (l.take k).length ((l.take k).map encTb)])
      (fun k => [(2,.op M.length 0 0 0),(3,.op (M.length + 1) 0 0 0),(12,.fs (l.map encTb)),(13,.I l.length),(14,.I k)]) (fun k => l.length - k) k
      (M ++ [.row true 3 0 [zSte],.row true 3 0 [.agg [.s (.string nm),.I least,.os (M.length + 2) o.length 0 o.length]],.row true 3 o.length (o.map encTb)]) (mk 26 [(2,.op M.length 0 0 0),(3,.op (M.length + 1) 0 0 0),(12,.fs (l.map encTb)),(13,.I l.length),(14,.I (k + 1))]):=by
      rintro o rfl
      exact again' (k + 1) (by omega) (by omega) rfl rfl
    rw [hs] at again
    clear hs
    generalize l.take k = o at htl again ⊢
    have f0:((k:Int) < l.length) = True:=eq_true (by omega)
    simp -implicitDefEqProofs (disch:=first|omega|(simp only [go_sem,seval,hlt,f0,hx,encTb_cells,encTb_eq];first|done|omega)) only [go_sem,seval,hlt,f0,hx,encTb_cells,encTb_eq]
    refine Wp_cut_at hM rfl 3 (by simp) (by first|done|(simp only [go_sem,seval,encTb_low,zSte_low] <;> first|done|(refine ⟨?_,?_⟩ <;> omega)|omega)) (lowL_mk (by first|done|(simp only [go_sem,seval,encTb_low,zSte_low] <;> first|done|(refine ⟨?_,?_⟩ <;> omega)|omega))) ?_
    simp -implicitDefEqProofs (disch:=first|omega|(simp only [go_sem,seval];first|done|omega)) only [go_sem,seval]
    simpa [encTb] using again _ rfl
  · simp -implicitDefEqProofs (disch:=first|omega|(simp only [go_sem,seval,hlt];first|done|omega)) only [go_sem,seval,hlt]
    rw [List.take_of_length_le (by omega)]
    simp -implicitDefEqProofs (disch:=first|omega|(simp only [go_sem,seval,hz];first|done|omega)) only [go_sem,seval,hz]
    (first|refine post_fin ret_ok hM rfl ?_ ?_|refine post_fin0 ret_ok hM rfl ?_ ?_|refine post_fin normal_ok hM rfl ?_ ?_|refine post_fin0 normal_ok hM rfl ?_ ?_)
    · simp -implicitDefEqProofs (disch:=first|omega|(simp only [go_sem,seval];first|done|omega)) only [go_sem,seval]
      rw [List.take_of_length_le (by rw [List.length_map];omega)]
    · (simp only [go_sem,seval,encTb_low] <;> first|done|omega)
def shortS (s:Ste):Bool:=decide (s.name.size ≤ 60) && (decide (s.tbs.length ≤ 10) || decide (s.tbs.length = 65)) && s.tbs.all fun t => decide (t.name.size ≤ 60)
theorem q_ref01_ShortSite (s:Ste):Q X 41 [encSte s,.I 10] (.B (shortS s)):=by
  obtain ⟨nm,least,l⟩:=s
  have e:encSte ⟨nm,least,l⟩ = .agg [.s (.string nm),.I least,.fs (l.map encTb)]:=rfl
  rw [e]
  clear e
  unfold shortS
  simp only
  intro M
  by_cases h1:nm.size ≤ 60
  case neg =>
    have f1:((60:Int) < nm.size) = True:=eq_true (by omega)
    (refine ACall_fn (cf:=L4.c41) rfl rfl fun hM hA => ?_;simp only [L4.c41,zO,zF,zT];rw [mk2 _ (by decide)];simp -implicitDefEqProofs (disch:=first|omega|(simp only [go_sem,seval,f1];first|done|omega)) only [go_sem,seval,f1])
    (first|refine post_fin ret_ok hM rfl ?_ ?_|refine post_fin0 ret_ok hM rfl ?_ ?_|refine post_fin normal_ok hM rfl ?_ ?_|refine post_fin0 normal_ok hM rfl ?_ ?_)
    · simp -implicitDefEqProofs (disch:=first|omega|(simp only [go_sem,seval];first|done|omega)) only [go_sem,seval]
      rw [decide_eq_false h1];rfl
    · (simp only [go_sem,seval] <;> first|done|omega)
  have f1:((60:Int) < nm.size) = False:=eq_false (by omega)
  rw [decide_eq_true h1,Bool.true_and]
  by_cases h2:l.length ≤ 10 ∨ l.length = 65
  case neg =>
    have f2:((10:Int) < l.length) = True:=eq_true (by omega)
    have f3:((l.length:Int) = 65) = False:=eq_false (by omega)
    (refine ACall_fn (cf:=L4.c41) rfl rfl fun hM hA => ?_;simp only [L4.c41,zO,zF,zT];rw [mk2 _ (by decide)];simp -implicitDefEqProofs (disch:=first|omega|(simp only [go_sem,seval,f1,f2,f3];first|done|omega)) only [go_sem,seval,f1,f2,f3])
    (first|refine post_fin ret_ok hM rfl ?_ ?_|refine post_fin0 ret_ok hM rfl ?_ ?_|refine post_fin normal_ok hM rfl ?_ ?_|refine post_fin0 normal_ok hM rfl ?_ ?_)
    · simp -implicitDefEqProofs (disch:=first|omega|(simp only [go_sem,seval];first|done|omega)) only [go_sem,seval]
      rw [decide_eq_false (show ¬ l.length ≤ 10 from by omega),decide_eq_false (show ¬ l.length = 65 from by omega)];rfl
    · (simp only [go_sem,seval] <;> first|done|omega)
  have h3:(decide (l.length ≤ 10) || decide (l.length = 65)) = true:=by rcases h2 with h|h <;> simp [h]
  rw [h3,Bool.true_and]
  (refine ACall_fn (cf:=L4.c41) rfl rfl fun hM hA => ?_;simp only [L4.c41,zO,zF,zT];rw [mk2 _ (by decide)];simp -implicitDefEqProofs (disch:=first|omega|(simp only [go_sem,seval,f1];first|done|omega)) only [go_sem,seval,f1])
  have hc:((10:Int) < l.length ∧ ¬ (l.length:Int) = 65) = False:=eq_false (by omega)
  by_cases h4:(10:Int) < l.length
  · have f3:((l.length:Int) = 65) = True:=eq_true (by omega)
    simp -implicitDefEqProofs (disch:=first|omega|(simp only [go_sem,seval,h4,f3];first|done|omega)) only [go_sem,seval,h4,f3]
    refine loop_mk (α:=Nat) 0 (fun k => k ≤ l.length ∧ (l.take k).all (fun t => decide (t.name.size ≤ 60)) = true) (fun _ => M) (fun k => [(2,.fp [.s (.string nm),.I least,.fs (l.map encTb)]),(5,.I k)]) (fun k => l.length - k) ⟨Nat.zero_le _,rfl⟩ rfl rfl ?_
    rintro k ⟨hk,hs⟩
    by_cases hlt:k < l.length
    · obtain ⟨x,hx⟩:∃ x,l[k]? = some x:=⟨_,List.getElem?_eq_getElem hlt⟩
      simp -implicitDefEqProofs (disch:=first|omega|(simp only [go_sem,seval,hlt,hx,encTb_cells,encTb_eq];first|done|omega)) only [go_sem,seval,hlt,hx,encTb_cells,encTb_eq]
      by_cases hn:x.name.size ≤ 60
      · have fn:((60:Int) < x.name.size) = False:=eq_false (by omega)
        simp -implicitDefEqProofs (disch:=first|omega|(simp only [go_sem,seval,fn];first|done|omega)) only [go_sem,seval,fn]
        refine again' (k + 1) ⟨by omega,?_⟩ (by omega) rfl rfl
        obtain ⟨g3,g4⟩:=List.getElem?_eq_some_iff.1 hx
        rw [List.take_succ_eq_append_getElem g3,g4,List.all_append,hs];simp [hn]
      · have fn:((60:Int) < x.name.size) = True:=eq_true (by omega)
        simp -implicitDefEqProofs (disch:=first|omega|(simp only [go_sem,seval,fn];first|done|omega)) only [go_sem,seval,fn]
        (first|refine post_fin ret_ok hM rfl ?_ ?_|refine post_fin0 ret_ok hM rfl ?_ ?_|refine post_fin normal_ok hM rfl ?_ ?_|refine post_fin0 normal_ok hM rfl ?_ ?_)
        · simp -implicitDefEqProofs (disch:=first|omega|(simp only [go_sem,seval];first|done|omega)) only [go_sem,seval]
          congr 1;symm
          rw [List.all_eq_false]
          exact ⟨x,List.mem_of_getElem? hx,by simpa using hn⟩
        · (simp only [go_sem,seval] <;> first|done|omega)
    · simp -implicitDefEqProofs (disch:=first|omega|(simp only [go_sem,seval,hlt];first|done|omega)) only [go_sem,seval,hlt]
      (first|refine post_fin ret_ok hM rfl ?_ ?_|refine post_fin0 ret_ok hM rfl ?_ ?_|refine post_fin normal_ok hM rfl ?_ ?_|refine post_fin0 normal_ok hM rfl ?_ ?_)
      · simp -implicitDefEqProofs (disch:=first|omega|(simp only [go_sem,seval];first|done|omega)) only [go_sem,seval]
        rw [List.take_of_length_le (by omega)] at hs
        rw [hs]
      · (simp only [go_sem,seval] <;> first|done|omega)
  · simp -implicitDefEqProofs (disch:=first|omega|(simp only [go_sem,seval,h4];first|done|omega)) only [go_sem,seval,h4]
    refine loop_mk (α:=Nat) 0 (fun k => k ≤ l.length ∧ (l.take k).all (fun t => decide (t.name.size ≤ 60)) = true) (fun _ => M) (fun k => [(2,.fp [.s (.string nm),.I least,.fs (l.map encTb)]),(5,.I k)]) (fun k => l.length - k) ⟨Nat.zero_le _,rfl⟩ rfl rfl ?_
    rintro k ⟨hk,hs⟩
    by_cases hlt:k < l.length
    · obtain ⟨x,hx⟩:∃ x,l[k]? = some x:=⟨_,List.getElem?_eq_getElem hlt⟩
      simp -implicitDefEqProofs (disch:=first|omega|(simp only [go_sem,seval,hlt,hx,encTb_cells,encTb_eq];first|done|omega)) only [go_sem,seval,hlt,hx,encTb_cells,encTb_eq]
      by_cases hn:x.name.size ≤ 60
      · have fn:((60:Int) < x.name.size) = False:=eq_false (by omega)
        simp -implicitDefEqProofs (disch:=first|omega|(simp only [go_sem,seval,fn];first|done|omega)) only [go_sem,seval,fn]
        refine again' (k + 1) ⟨by omega,?_⟩ (by omega) rfl rfl
        obtain ⟨g3,g4⟩:=List.getElem?_eq_some_iff.1 hx
        rw [List.take_succ_eq_append_getElem g3,g4,List.all_append,hs];simp [hn]
      · have fn:((60:Int) < x.name.size) = True:=eq_true (by omega)
        simp -implicitDefEqProofs (disch:=first|omega|(simp only [go_sem,seval,fn];first|done|omega)) only [go_sem,seval,fn]
        (first|refine post_fin ret_ok hM rfl ?_ ?_|refine post_fin0 ret_ok hM rfl ?_ ?_|refine post_fin normal_ok hM rfl ?_ ?_|refine post_fin0 normal_ok hM rfl ?_ ?_)
        · simp -implicitDefEqProofs (disch:=first|omega|(simp only [go_sem,seval];first|done|omega)) only [go_sem,seval]
          congr 1;symm
          rw [List.all_eq_false]
          exact ⟨x,List.mem_of_getElem? hx,by simpa using hn⟩
        · (simp only [go_sem,seval] <;> first|done|omega)
    · simp -implicitDefEqProofs (disch:=first|omega|(simp only [go_sem,seval,hlt];first|done|omega)) only [go_sem,seval,hlt]
      (first|refine post_fin ret_ok hM rfl ?_ ?_|refine post_fin0 ret_ok hM rfl ?_ ?_|refine post_fin normal_ok hM rfl ?_ ?_|refine post_fin0 normal_ok hM rfl ?_ ?_)
      · simp -implicitDefEqProofs (disch:=first|omega|(simp only [go_sem,seval];first|done|omega)) only [go_sem,seval]
        rw [List.take_of_length_le (by omega)] at hs
        rw [hs]
      · (simp only [go_sem,seval] <;> first|done|omega)
theorem q_ref01_SameSite (a b:Ste) (hl:a.tbs.length ≤ 1048576):Q X 54 [encSte a,encSte b] (.B (decide (a.name = b.name ∧ a.least = b.least ∧ a.tbs = b.tbs))):=by
  obtain ⟨na,la,ta⟩:=a
  obtain ⟨nb,lb,tb⟩:=b
  have e1:encSte ⟨na,la,ta⟩ = .agg [.s (.string na),.I la,.fs (ta.map encTb)]:=rfl
  have e2:encSte ⟨nb,lb,tb⟩ = .agg [.s (.string nb),.I lb,.fs (tb.map encTb)]:=rfl
  rw [e1,e2]
  clear e1 e2
  simp only at hl ⊢
  intro M
  by_cases h1:na = nb
  case neg =>
    (refine ACall_fn (cf:=L4.c54) rfl rfl fun hM hA => ?_;simp only [L4.c54,zO,zF,zT];rw [mk2 _ (by decide)];simp -implicitDefEqProofs (disch:=first|omega|(simp only [go_sem,seval,bin_strNe,h1];first|done|omega)) only [go_sem,seval,bin_strNe,h1])
    (first|refine post_fin ret_ok hM rfl ?_ ?_|refine post_fin0 ret_ok hM rfl ?_ ?_|refine post_fin normal_ok hM rfl ?_ ?_|refine post_fin0 normal_ok hM rfl ?_ ?_)
    · simp -implicitDefEqProofs (disch:=first|omega|(simp only [go_sem,seval];first|done|omega)) only [go_sem,seval]
      simp [h1]
    · (simp only [go_sem,seval] <;> first|done|omega)
  by_cases h2:la = lb
  case neg =>
    (refine ACall_fn (cf:=L4.c54) rfl rfl fun hM hA => ?_;simp only [L4.c54,zO,zF,zT];rw [mk2 _ (by decide)];simp -implicitDefEqProofs (disch:=first|omega|(simp only [go_sem,seval,bin_strNe,h1,h2];first|done|omega)) only [go_sem,seval,bin_strNe,h1,h2])
    (first|refine post_fin ret_ok hM rfl ?_ ?_|refine post_fin0 ret_ok hM rfl ?_ ?_|refine post_fin normal_ok hM rfl ?_ ?_|refine post_fin0 normal_ok hM rfl ?_ ?_)
    · simp -implicitDefEqProofs (disch:=first|omega|(simp only [go_sem,seval];first|done|omega)) only [go_sem,seval]
      simp [h2]
    · (simp only [go_sem,seval] <;> first|done|omega)
  by_cases h3:ta.length = tb.length
  case neg =>
    have f3:((ta.length:Int) = tb.length) = False:=eq_false (by omega)
    (refine ACall_fn (cf:=L4.c54) rfl rfl fun hM hA => ?_;simp only [L4.c54,zO,zF,zT];rw [mk2 _ (by decide)];simp -implicitDefEqProofs (disch:=first|omega|(simp only [go_sem,seval,bin_strNe,h1,h2,f3];first|done|omega)) only [go_sem,seval,bin_strNe,h1,h2,f3])
    (first|refine post_fin ret_ok hM rfl ?_ ?_|refine post_fin0 ret_ok hM rfl ?_ ?_|refine post_fin normal_ok hM rfl ?_ ?_|refine post_fin0 normal_ok hM rfl ?_ ?_)
    · simp -implicitDefEqProofs (disch:=first|omega|(simp only [go_sem,seval];first|done|omega)) only [go_sem,seval]
      have h4:¬ ta = tb:=fun h => h3 (by rw [h])
      simp [h4]
    · (simp only [go_sem,seval] <;> first|done|omega)
  have f3:((ta.length:Int) = tb.length) = True:=eq_true (by omega)
  (refine ACall_fn (cf:=L4.c54) rfl rfl fun hM hA => ?_;simp only [L4.c54,zO,zF,zT];rw [mk2 _ (by decide)];simp -implicitDefEqProofs (disch:=first|omega|(simp only [go_sem,seval,bin_strNe,h1,h2,f3];first|done|omega)) only [go_sem,seval,bin_strNe,h1,h2,f3])
  refine loop_mk (α:=Nat) 0 (fun k => k ≤ ta.length ∧ ta.take k = tb.take k) (fun k => M) (fun k => [(2,.fp [.s (.string na),.I la,.fs (ta.map encTb)]),(3,.fp [.s (.string nb),.I lb,.fs (tb.map encTb)]),(5,.I k)]) (fun k => ta.length - k) ⟨Nat.zero_le _,rfl⟩ rfl (by simp only [h1,h2];rfl) ?_
  rintro k ⟨hk,hs⟩
  by_cases hlt:k < ta.length
  · obtain ⟨x,hx⟩:∃ x,ta[k]? = some x:=⟨_,List.getElem?_eq_getElem hlt⟩
    obtain ⟨y,hy⟩:∃ y,tb[k]? = some y:=⟨_,List.getElem?_eq_getElem (by omega)⟩
    have hlt2:k < tb.length:=by omega
    have heq:eqCells [.str,.int,.int] [.s (.string x.name),.I x.x,.I x.y] [.s (.string y.name),.I y.x,.I y.y] = some (decide (x = y)):=by
      simp only [eqCells,eqSK,Option.bind_some,Option.bind_eq_bind,pure,if_true,ba_beq]
      obtain ⟨n1,x1,y1⟩:=x
      obtain ⟨n2,x2,y2⟩:=y
      by_cases g1:n1 = n2 <;> by_cases g2:x1 = x2 <;> by_cases g3:y1 = y2 <;> simp [g1,g2,g3]
    simp -implicitDefEqProofs (disch:=first|omega|(simp only [go_sem,seval,hlt,hlt2,hx,hy,encTb_cells,encTb_eq,eqsV_agg,heq];first|done|omega)) only [go_sem,seval,hlt,hlt2,hx,hy,encTb_cells,encTb_eq,eqsV_agg,heq]
    by_cases hxy:x = y
    · simp -implicitDefEqProofs (disch:=first|omega|(simp only [go_sem,seval,hxy];first|done|omega)) only [go_sem,seval,hxy]
      refine again' (k + 1) ⟨by omega,?_⟩ (by omega) rfl rfl
      have g1:=take_snoc (f:=id) hx;have g2:=take_snoc (f:=id) hy
      simp only [List.map_id] at g1 g2
      rw [g1,g2,hs,hxy]
    · simp -implicitDefEqProofs (disch:=first|omega|(simp only [go_sem,seval,hxy];first|done|omega)) only [go_sem,seval,hxy]
      (first|refine post_fin ret_ok hM rfl ?_ ?_|refine post_fin0 ret_ok hM rfl ?_ ?_|refine post_fin normal_ok hM rfl ?_ ?_|refine post_fin0 normal_ok hM rfl ?_ ?_)
      · simp -implicitDefEqProofs (disch:=first|omega|(simp only [go_sem,seval];first|done|omega)) only [go_sem,seval]
        have h4:¬ ta = tb:=by
          rintro rfl
          rw [hx] at hy;cases hy;exact hxy rfl
        simp [h4]
      · (simp only [go_sem,seval] <;> first|done|omega)
  · simp -implicitDefEqProofs (disch:=first|omega|(simp only [go_sem,seval,hlt];first|done|omega)) only [go_sem,seval,hlt]
    (first|refine post_fin ret_ok hM rfl ?_ ?_|refine post_fin0 ret_ok hM rfl ?_ ?_|refine post_fin normal_ok hM rfl ?_ ?_|refine post_fin0 normal_ok hM rfl ?_ ?_)
    · simp -implicitDefEqProofs (disch:=first|omega|(simp only [go_sem,seval];first|done|omega)) only [go_sem,seval]
      rw [List.take_of_length_le (by omega),List.take_of_length_le (by omega)] at hs
      simp [h1,h2,hs]
    · (simp only [go_sem,seval] <;> first|done|omega)
end
end Go.Nac.L4
namespace Go.Nac.L4
attribute [local congr] b1_congr b2_congr Wp_congr wpOps_congr thenK_congr blockK_congr gK_congr cK_congr
section
variable {X:XRel}
open Ieee
def recQ (l:List Nat) (g:List Spn) (k:Nat):List (Nat × Nat):=(recK l g k).map p0
def sumQ (s:Ser):Stt:=sttTo (recQ s.samples s.gaps s.samples.length)
end
end Go.Nac.L4
namespace Go.Nac.L4
attribute [local congr] b1_congr b2_congr Wp_congr wpOps_congr thenK_congr blockK_congr gK_congr cK_congr
section
variable {X:XRel}
def FrombX (X:XRel):Prop:=∀ (u:Nat) (M:List Blk),X 135 [.s (.int .u32 u)] M (.s (.float .f32 u)) M
def nk (a b c d:UInt8):Nat → Nat
  | 0 => 0
  | 1 => a.toNat
  | 2 => a.toNat * 256 + b.toNat
  | 3 => (a.toNat * 256 + b.toNat) * 256 + c.toNat
  | _ => ((a.toNat * 256 + b.toNat) * 256 + c.toNat) * 256 + d.toNat
def encW (w:List UInt8):PV:=.s (.string ⟨w.toArray⟩)
theorem encW_low {n:Nat} (l:List (List UInt8)):lowL n (l.map encW) = True:=eq_true (lowL_map _ _ fun r => by simp [encW,PV.low])
theorem encW_cells (w:List UInt8):(encW w).cells = [.s (.string ⟨w.toArray⟩)]:=rfl
theorem encW_eq (w:List UInt8):encW w = .s (.string ⟨w.toArray⟩):=rfl
theorem encW_sized (l:List (List UInt8)):sized 1 (l.map encW) = true:=by unfold sized;rw [List.all_eq_true];intro x hx;obtain ⟨y,_,rfl⟩:=List.mem_map.1 hx;rfl
theorem q_ref01_Split (c:UInt8) (l:List UInt8) (hl:l.length ≤ 1000000):Q X 96 [.s (.string ⟨l.toArray⟩),.s (.int .u8 c.toNat)] (.fs ((spl c l).map encW)):=by
  intro M
  have hz:=bs_size l
  (refine ACall_fn (cf:=L4.c96) rfl rfl fun hM hA => ?_;simp only [L4.c96,zO,zF,zT];rw [mk2 _ (by decide)];simp -implicitDefEqProofs (disch:=first|omega|(simp only [go_sem,seval,hz];first|done|omega)) only [go_sem,seval,hz])
  refine loop_mk (α:=Nat × Nat × List (List UInt8)) (0,0,[]) (fun a => (a.1 ≤ l.length ∧ a.2.1 ≤ a.1 ∧ c ∉ (l.drop a.2.1).take (a.1 - a.2.1) ∧ spl c l = a.2.2 ++ spl c (l.drop a.2.1) ∧ a.2.2.length ≤ a.2.1) ∨ (a.1 = l.length + 1 ∧ spl c l = a.2.2))
    (fun a => M ++ [.row true 1 a.2.2.length (a.2.2.map encW)])
    (fun a => [(0,.s (.string ⟨l.toArray⟩)),(1,.s (.int .u8 c.toNat)),(5,.os M.length a.2.2.length 0 a.2.2.length),(6,.I a.2.1),(7,.I a.1)]) (fun a => l.length + 1 - a.1) (.inl ⟨Nat.zero_le _,Nat.le_refl _,by simp,by simp,Nat.le_refl _⟩) rfl rfl ?_
  rintro ⟨i,f,P⟩ hinv
  simp only at hinv
  rcases hinv with ⟨h1,h2,h3,h4,h5⟩|⟨h1,h2⟩
  case inr =>
    have f1:((i:Int) ≤ l.length) = False:=eq_false (by omega)
    have tk:(P.map encW).take P.length = P.map encW:=List.take_of_length_le (by simp)
    simp -implicitDefEqProofs (disch:=first|omega|(simp only [go_sem,seval,f1,hz];first|done|omega)) only [go_sem,seval,f1,hz]
    (first|refine post_fin ret_ok hM rfl ?_ ?_|refine post_fin0 ret_ok hM rfl ?_ ?_|refine post_fin normal_ok hM rfl ?_ ?_|refine post_fin0 normal_ok hM rfl ?_ ?_)
    · simp -implicitDefEqProofs (disch:=first|omega|(simp only [go_sem,seval,tk];first|done|omega)) only [go_sem,seval,tk]
      rw [h2]
    · (simp only [go_sem,seval,encW_low] <;> first|done|omega)
  have f1:((i:Int) ≤ l.length) = True:=eq_true (by omega)
  have hss:=@slstrV_bs l (some (.I f)) (some (.I i))
  have b1:(f ≤ i ∧ i ≤ l.length) = True:=eq_true ⟨h2,h1⟩
  have again:∀ (N:List Blk) (T:List (Nat × PV)) (f':Nat) (P':List (List UInt8)),((i + 1 ≤ l.length ∧ f' ≤ i + 1 ∧ c ∉ (l.drop f').take (i + 1 - f') ∧ spl c l = P' ++ spl c (l.drop f') ∧ P'.length ≤ f') ∨ (i + 1 = l.length + 1 ∧ spl c l = P')) →
      M ++ [.row true 1 P'.length (P'.map encW)] = N → [(0,.s (.string ⟨l.toArray⟩)),(1,.s (.int .u8 c.toNat)),(5,.os M.length P'.length 0 P'.length),(6,.I f'),(7,.I (i + 1))] = T → Again 35 (fun a:Nat × Nat × List (List UInt8) => (a.1 ≤ l.length ∧ a.2.1 ≤ a.1 ∧ c ∉ (l.drop a.2.1).take (a.1 - a.2.1) ∧ spl c l = a.2.2 ++ spl c (l.drop a.2.1) ∧ a.2.2.length ≤ a.2.1) ∨ (a.1 = l.length + 1 ∧ spl c l = a.2.2))
      (fun a => M ++ [.row true 1 a.2.2.length (a.2.2.map encW)]) (fun a => [(0,.s (.string ⟨l.toArray⟩)),(1,.s (.int .u8 c.toNat)),(5,.os M.length a.2.2.length 0 a.2.2.length),(6,.I a.2.1),(7,.I a.1)]) (fun a => l.length + 1 - a.1) (i,f,P) N (mk 35 T):=by
    rintro N T f' P' hi rfl rfl
    exact again' (i + 1,f',P') hi (by simp only;omega) rfl rfl
  by_cases he:i = l.length
  · have f2:((i:Int) = l.length) = True:=eq_true (by omega)
    have hd:(l.drop f).take (i - f) = l.drop f:=List.take_of_length_le (by rw [List.length_drop];omega)
    rw [hd] at h3
    rw [spl_miss h3] at h4
    simp -implicitDefEqProofs (disch:=first|omega|(simp only [go_sem,seval,f1,f2,hz,hss,b1,hd];first|done|omega)) only [go_sem,seval,f1,f2,hz,hss,b1,hd]
    refine again _ _ (i + 1) (P ++ [l.drop f]) (.inr ⟨by omega,h4⟩) ?_ ?_ <;> simp [encW]
  · have f2:((i:Int) = l.length) = False:=eq_false (by omega)
    obtain ⟨x,hx⟩:∃ x,l[i]? = some x:=⟨_,List.getElem?_eq_getElem (by omega)⟩
    have hix:=idxsV_bs hx
    have hdi:l.drop f = (l.drop f).take (i - f) ++ x :: l.drop (i + 1):=by
      have e1:(l.drop f).drop (i - f) = x :: l.drop (i + 1):=by
        rw [List.drop_drop,show f + (i - f) = i by omega]
        obtain ⟨g1,g2⟩:=List.getElem?_eq_some_iff.1 hx
        rw [List.drop_eq_getElem_cons g1,g2]
      rw [← e1,List.take_append_drop]
    by_cases hc:x = c
    · have f3:((x.toNat:Int) = c.toNat) = True:=eq_true (by rw [hc])
      subst hc
      rw [hdi,spl_hit h3] at h4
      simp -implicitDefEqProofs (disch:=first|omega|(simp only [go_sem,seval,f1,f2,f3,hz,hss,b1,hix];first|done|omega)) only [go_sem,seval,f1,f2,f3,hz,hss,b1,hix]
      refine again _ _ (i + 1) (P ++ [(l.drop f).take (i - f)]) (.inl ⟨by omega,Nat.le_refl _,by simp,by rw [h4];simp,by simp;omega⟩) ?_ ?_ <;> simp [encW]
    · have f3:((x.toNat:Int) = c.toNat) = False:=eq_false (fun h => hc (UInt8.toNat_inj.1 (by omega)))
      simp -implicitDefEqProofs (disch:=first|omega|(simp only [go_sem,seval,f1,f2,f3,hz,hix];first|done|omega)) only [go_sem,seval,f1,f2,f3,hz,hix]
      refine again _ _ f P (.inl ⟨by omega,by omega,?_,h4,h5⟩) rfl rfl
      have e2:i + 1 - f = (i - f) + 1:=by omega
      have hlt:i - f < (l.drop f).length:=by rw [List.length_drop];omega
      rw [e2,List.take_succ_eq_append_getElem hlt]
      simp only [List.mem_append,List.mem_singleton,not_or]
      refine ⟨h3,fun h => hc ?_⟩
      rw [h,List.getElem_drop]
      have e3:f + (i - f) = i:=by omega
      obtain ⟨g1,g2⟩:=List.getElem?_eq_some_iff.1 hx
      simp only [e3]
      exact g2.symm
theorem numR_in:∀ w:List UInt8,-1000000000 < (numR w).1 ∧ (numR w).1 < 1000000000
  | [] => by simp [numR]
  | c :: r => by
    unfold numR
    split
    · have:=numR_in r
      simp only
      omega
    · cases hn:numP (c :: r) with
      | none => simp
      | some n =>
        have:=(numP_iff.1 hn).2
        simp only
        omega
theorem digit_of {b:UInt8} (h1:¬ b.toNat < 48) (h2:¬ 57 < b.toNat):Lib.digitVal b = some (b.toNat - 48):=by unfold Lib.digitVal;rw [if_pos (by omega)]
theorem no_digit {b:UInt8} (h:b.toNat < 48 ∨ 57 < b.toNat):Lib.digitVal b = none:=by unfold Lib.digitVal;rw [if_neg (by omega)]
theorem q_ref01_Number:∀ (l:List UInt8),l.length ≤ 1000000 → Q X 145 [.s (.string ⟨l.toArray⟩)] (.tup [.I (numR l).1,.B (numR l).2])
  | [],_ => by
    have e:numR [] = (0,false):=rfl
    have hz:(⟨([]:List UInt8).toArray⟩:ByteArray).size = 0:=rfl
    rw [e]
    intro M
    (refine ACall_fn (cf:=L4.c145) rfl rfl fun hM hA => ?_;simp only [L4.c145,zO,zF,zT];rw [mk1 _ (by decide)];simp -implicitDefEqProofs (disch:=first|omega|(simp only [go_sem,seval,hz];first|done|omega)) only [go_sem,seval,hz])
    (all_goals (first|refine post_fin ret_ok hM rfl ?_ ?_|refine post_fin0 ret_ok hM rfl ?_ ?_|refine post_fin normal_ok hM rfl ?_ ?_|refine post_fin0 normal_ok hM rfl ?_ ?_);all_goals first|(simp only [go_sem,seval] <;> first|done|omega)|skip;all_goals (try simp -implicitDefEqProofs (disch:=first|omega|(simp only [go_sem,seval];first|done|omega)) only [go_sem,seval]))
  | c :: r,hl => by
    have hz:=bs_size (c :: r)
    have hix:=idxsV_bs (l:=c :: r) (k:=0) (u:=c) rfl
    simp only [List.length_cons] at hz hl
    have hc0:(0:Int) < ((r.length + 1:Nat):Int):=by omega
    have hcf:=eq_true hc0
    have hc1:(((r.length + 1:Nat):Int) = 0) = False:=eq_false (by omega)
    by_cases hc:c = 45
    · subst hc
      have e:numR (45 :: r) = (-(numR r).1,(numR r).2 && decide (0 < (numR r).1)):=by rw [numR,if_pos rfl]
      rw [e]
      obtain ⟨g1,g2⟩:=numR_in r
      have hN:=q_ref01_Number r (by omega)
      have hss:=@slstrV_bs (45 :: r) (some (.I 1)) none
      simp only [List.length_cons] at hss
      have htk:r.take r.length = r:=List.take_length
      have e45:((45:UInt8).toNat:Int) = 45:=rfl
      intro M
      (refine ACall_fn (cf:=L4.c145) rfl rfl fun hM hA => ?_;simp only [L4.c145,zO,zF,zT];rw [mk1 _ (by decide)];simp -implicitDefEqProofs (disch:=first|omega|(simp only [go_sem,seval,hz,hix,hcf,hss,htk,e45];first|done|omega)) only [go_sem,seval,hz,hix,hcf,hss,htk,e45])
      refine callP_q (hN _) ?_
      generalize (numR r).1 = v at g1 g2
      generalize (numR r).2 = is
      simp -implicitDefEqProofs (disch:=first|omega|(simp only [go_sem,seval];first|done|omega)) only [go_sem,seval]
      cases is
      · simp -implicitDefEqProofs (disch:=first|omega|(simp only [go_sem,seval];first|done|omega)) only [go_sem,seval]
        (all_goals (first|refine post_fin ret_ok hM rfl ?_ ?_|refine post_fin0 ret_ok hM rfl ?_ ?_|refine post_fin normal_ok hM rfl ?_ ?_|refine post_fin0 normal_ok hM rfl ?_ ?_);all_goals first|(simp only [go_sem,seval] <;> first|done|omega)|skip;all_goals (try simp -implicitDefEqProofs (disch:=first|omega|(simp only [go_sem,seval];first|done|omega)) only [go_sem,seval]))
      · simp -implicitDefEqProofs (disch:=first|omega|(simp only [go_sem,seval];first|done|omega)) only [go_sem,seval]
        (all_goals (first|refine post_fin ret_ok hM rfl ?_ ?_|refine post_fin0 ret_ok hM rfl ?_ ?_|refine post_fin normal_ok hM rfl ?_ ?_|refine post_fin0 normal_ok hM rfl ?_ ?_);all_goals first|(simp only [go_sem,seval] <;> first|done|omega)|skip;all_goals (try simp -implicitDefEqProofs (disch:=first|omega|(simp only [go_sem,seval];first|done|omega)) only [go_sem,seval]))
    · have f45:((c.toNat:Int) = 45) = False:=eq_false (fun h => hc (UInt8.toNat_inj.1 (by have:(45:UInt8).toNat = 45:=rfl;omega)))
      have hp:∀ t,c :: r ≠ 45 :: t:=fun t h => hc (by injection h)
      rw [numR_plain hp]
      by_cases c9:9 < (c :: r).length
      · have e:numP (c :: r) = none:=by unfold numP;rw [if_pos (.inr (.inl c9))]
        have f9:((9:Int) < ((r.length + 1:Nat):Int)) = True:=eq_true (by simp at c9;omega)
        rw [e]
        intro M
        (refine ACall_fn (cf:=L4.c145) rfl rfl fun hM hA => ?_;simp only [L4.c145,zO,zF,zT];rw [mk1 _ (by decide)];simp -implicitDefEqProofs (disch:=first|omega|(simp only [go_sem,seval,hz,hix,hcf,hc1,f45,f9];first|done|omega)) only [go_sem,seval,hz,hix,hcf,hc1,f45,f9])
        (all_goals (first|refine post_fin ret_ok hM rfl ?_ ?_|refine post_fin0 ret_ok hM rfl ?_ ?_|refine post_fin normal_ok hM rfl ?_ ?_|refine post_fin0 normal_ok hM rfl ?_ ?_);all_goals first|(simp only [go_sem,seval] <;> first|done|omega)|skip;all_goals (try simp -implicitDefEqProofs (disch:=first|omega|(simp only [go_sem,seval];first|done|omega)) only [go_sem,seval]))
      have f9:((9:Int) < ((r.length + 1:Nat):Int)) = False:=eq_false (by simp at c9;omega)
      by_cases c0:1 < (c :: r).length ∧ c = 48
      · have e:numP (c :: r) = none:=by unfold numP;rw [if_pos (.inr (.inr ⟨c0.1,by rw [c0.2];rfl⟩))]
        have f1:((1:Int) < ((r.length + 1:Nat):Int)) = True:=eq_true (by have:=c0.1;simp at this;omega)
        have f48:((c.toNat:Int) = 48) = True:=eq_true (by rw [c0.2];rfl)
        rw [e]
        intro M
        (refine ACall_fn (cf:=L4.c145) rfl rfl fun hM hA => ?_;simp only [L4.c145,zO,zF,zT];rw [mk1 _ (by decide)];simp -implicitDefEqProofs (disch:=first|omega|(simp only [go_sem,seval,hz,hix,hcf,hc1,f45,f9,f1,f48];first|done|omega)) only [go_sem,seval,hz,hix,hcf,hc1,f45,f9,f1,f48])
        (all_goals (first|refine post_fin ret_ok hM rfl ?_ ?_|refine post_fin0 ret_ok hM rfl ?_ ?_|refine post_fin normal_ok hM rfl ?_ ?_|refine post_fin0 normal_ok hM rfl ?_ ?_);all_goals first|(simp only [go_sem,seval] <;> first|done|omega)|skip;all_goals (try simp -implicitDefEqProofs (disch:=first|omega|(simp only [go_sem,seval];first|done|omega)) only [go_sem,seval]))
      have e:numP (c :: r) = Lib.decFrom 0 (c :: r):=by
        unfold numP
        rw [if_neg]
        rintro (h|h|⟨h1,h2⟩)
        · cases h
        · exact c9 h
        · exact c0 ⟨h1,by simpa using h2⟩
      rw [e]
      clear e
      have hl9:(c :: r).length ≤ 9:=by omega
      intro M
      have hstart:((1:Int) < ((r.length + 1:Nat):Int)) = False ∨ ((1:Int) < ((r.length + 1:Nat):Int)) = True ∧ ((c.toNat:Int) = 48) = False:=by
        by_cases h1:1 < (c :: r).length
        · right
          refine ⟨eq_true (by simp at h1;omega),eq_false fun h => c0 ⟨h1,UInt8.toNat_inj.1 ?_⟩⟩
          have:(48:UInt8).toNat = 48:=rfl
          omega
        · left;exact eq_false (by simp at h1;simp [h1])
      have hlen:(c :: r).length = r.length + 1:=rfl
      rcases hstart with f1|⟨f1,f48⟩
      (refine ACall_fn (cf:=L4.c145) rfl rfl fun hM hA => ?_;simp only [L4.c145,zO,zF,zT];rw [mk1 _ (by decide)];simp -implicitDefEqProofs (disch:=first|omega|(simp only [go_sem,seval,hz,hix,hcf,hc1,f45,f9,f1];first|done|omega)) only [go_sem,seval,hz,hix,hcf,hc1,f45,f9,f1])
      rotate_left
      (refine ACall_fn (cf:=L4.c145) rfl rfl fun hM hA => ?_;simp only [L4.c145,zO,zF,zT];rw [mk1 _ (by decide)];simp -implicitDefEqProofs (disch:=first|omega|(simp only [go_sem,seval,hz,hix,hcf,hc1,f45,f9,f1,f48];first|done|omega)) only [go_sem,seval,hz,hix,hcf,hc1,f45,f9,f1,f48])
      all_goals
        clear hix hp f1 c0
        generalize c :: r = w at hz hlen hl9 ⊢
        rw [← hlen] at hz
        clear hl hc0 hcf hc1 f9 hlen
        refine loop_mk (α:=Nat × Nat) (0,0) (fun a => a.1 ≤ w.length ∧ Lib.decFrom 0 (w.take a.1) = some a.2 ∧ a.2 < 1000000000) (fun a => M) (fun a => [(0,.s (.string ⟨w.toArray⟩)),(6,.I a.2),(7,.I a.1)]) (fun a => w.length - a.1) ⟨Nat.zero_le _,rfl,by decide⟩ rfl rfl ?_
        rintro ⟨k,n⟩ ⟨hk,hd,hn⟩
        simp only at hk hd hn
        by_cases hlt:k < w.length
        · have fk:((k:Int) < w.length) = True:=eq_true (by omega)
          obtain ⟨b,hb⟩:∃ b,w[k]? = some b:=⟨_,List.getElem?_eq_getElem hlt⟩
          have hib:=idxsV_bs hb
          have bl:=b.toNat_lt
          by_cases g1:b.toNat < 48
          · have fb:((b.toNat:Int) < 48) = True:=eq_true (by omega)
            have hN:Lib.decFrom 0 w = none:=by
              cases hx:Lib.decFrom 0 w with
              | none => rfl
              | some m => obtain ⟨d,hd2⟩:=Lib.digit_of_decFrom w 0 m hx k b hb;rw [no_digit (.inl g1)] at hd2;cases hd2
            rw [hN]
            simp -implicitDefEqProofs (disch:=first|omega|(simp only [go_sem,seval,hz,fk,hib,fb];first|done|omega)) only [go_sem,seval,hz,fk,hib,fb]
            (all_goals (first|refine post_fin ret_ok hM rfl ?_ ?_|refine post_fin0 ret_ok hM rfl ?_ ?_|refine post_fin normal_ok hM rfl ?_ ?_|refine post_fin0 normal_ok hM rfl ?_ ?_);all_goals first|(simp only [go_sem,seval] <;> first|done|omega)|skip;all_goals (try simp -implicitDefEqProofs (disch:=first|omega|(simp only [go_sem,seval];first|done|omega)) only [go_sem,seval]))
          by_cases g2:57 < b.toNat
          · have fb:((b.toNat:Int) < 48) = False:=eq_false (by omega)
            have fc:((57:Int) < b.toNat) = True:=eq_true (by omega)
            have hN:Lib.decFrom 0 w = none:=by
              cases hx:Lib.decFrom 0 w with
              | none => rfl
              | some m => obtain ⟨d,hd2⟩:=Lib.digit_of_decFrom w 0 m hx k b hb;rw [no_digit (.inr g2)] at hd2;cases hd2
            rw [hN]
            simp -implicitDefEqProofs (disch:=first|omega|(simp only [go_sem,seval,hz,fk,hib,fb,fc];first|done|omega)) only [go_sem,seval,hz,fk,hib,fb,fc]
            (all_goals (first|refine post_fin ret_ok hM rfl ?_ ?_|refine post_fin0 ret_ok hM rfl ?_ ?_|refine post_fin normal_ok hM rfl ?_ ?_|refine post_fin0 normal_ok hM rfl ?_ ?_);all_goals first|(simp only [go_sem,seval] <;> first|done|omega)|skip;all_goals (try simp -implicitDefEqProofs (disch:=first|omega|(simp only [go_sem,seval];first|done|omega)) only [go_sem,seval]))
          have fb:((b.toNat:Int) < 48) = False:=eq_false (by omega)
          have fc:((57:Int) < b.toNat) = False:=eq_false (by omega)
          have hst:=Lib.decFrom_take w k 0 n b _ hd hb (digit_of g1 g2)
          have hlt9:=Lib.decFrom_lt _ _ _ hst
          have htl:(w.take (k + 1)).length ≤ 9:=by rw [List.length_take];omega
          have hp9:10 ^ (w.take (k + 1)).length ≤ 10 ^ 9:=Nat.pow_le_pow_right (by decide) htl
          have hbound:n * 10 + (b.toNat - 48) < 1000000000:=by
            have:(10:Nat) ^ 9 = 1000000000:=rfl
            omega
          have w8:IntKind.u8.wrap ((b.toNat:Int) - 48) = ((b.toNat - 48:Nat):Int):=by
            have e:∀ z:Int,IntKind.u8.wrap z = z % 256:=fun _ => rfl
            rw [e];omega
          have hb9:b.toNat - 48 ≤ 9:=by omega
          have en:(10 * (n:Int) + ((b.toNat - 48:Nat):Int)) = ((n * 10 + (b.toNat - 48):Nat):Int):=by omega
          simp -implicitDefEqProofs (disch:=first|omega|(simp only [go_sem,seval,hz,fk,hib,fb,fc,w8,en];first|done|omega)) only [go_sem,seval,hz,fk,hib,fb,fc,w8,en]
          exact again' (k + 1,n * 10 + (b.toNat - 48)) ⟨by omega,hst,hbound⟩ (by simp only;omega) rfl rfl
        · have hkk:k = w.length:=by omega
          have fk:((k:Int) < w.length) = False:=eq_false (by omega)
          rw [hkk,List.take_length] at hd
          rw [hd]
          simp -implicitDefEqProofs (disch:=first|omega|(simp only [go_sem,seval,hz,fk];first|done|omega)) only [go_sem,seval,hz,fk]
          (all_goals (first|refine post_fin ret_ok hM rfl ?_ ?_|refine post_fin0 ret_ok hM rfl ?_ ?_|refine post_fin normal_ok hM rfl ?_ ?_|refine post_fin0 normal_ok hM rfl ?_ ?_);all_goals first|(simp only [go_sem,seval] <;> first|done|omega)|skip;all_goals (try simp -implicitDefEqProofs (disch:=first|omega|(simp only [go_sem,seval];first|done|omega)) only [go_sem,seval]))
theorem itoaB_one {n:Int} (h:0 ≤ n ∧ n ≤ 9):itoaB n = ⟨#[UInt8.ofNat (48 + n.toNat)]⟩:=by
  unfold itoaB Lib.itoa
  rw [if_neg (by omega),Lib.decDigits_one (by omega)]
theorem itoaB_pos {n:Int} (h:9 < n):itoaB n = itoaB (n / 10) ++ itoaB (n % 10):=by
  have h1:¬ n.toNat < 10:=by omega
  have e:Lib.decDigits n.toNat = Lib.decDigits (n.toNat / 10) ++ [UInt8.ofNat (48 + n.toNat % 10)]:=by
    conv => lhs;rw [Lib.decDigits,dif_neg h1]
  rw [itoaB_one (n:=n % 10) (by omega)]
  unfold itoaB Lib.itoa
  rw [if_neg (by omega),if_neg (by omega),e,bs_app]
  have e1:(n / 10).toNat = n.toNat / 10:=by omega
  have e2:(n % 10).toNat = n.toNat % 10:=by omega
  rw [e1,e2]
theorem itoaB_neg {n:Int} (h:n < 0):itoaB n = (⟨#[45]⟩:ByteArray) ++ itoaB (-n):=by
  unfold itoaB Lib.itoa
  rw [if_pos h,if_neg (by omega)]
  have e1:(-n).toNat = n.natAbs:=by omega
  rw [e1]
  exact (bs_app [45] _).symm
theorem itoaB_neg2 {n:Int} (h:n < -9):itoaB n = itoaB (-((-n) / 10)) ++ itoaB ((-n) % 10):=by
  rw [itoaB_neg (by omega),itoaB_pos (n:=-n) (by omega),itoaB_neg (n:=-((-n) / 10)) (by omega),Int.neg_neg,ByteArray.append_assoc]
theorem q_ref01_Text (n:Int) (h:-1000000000 ≤ n ∧ n ≤ 1000000000):Q X 144 [.I n] (.s (.string (itoaB n))):=by
  induction hk:n.natAbs using Nat.strongRecOn generalizing n with
  | ind k ih =>
    intro M
    by_cases h1:9 < n
    · have f1:((9:Int) < n) = True:=eq_true h1
      have t1:n.tdiv 10 = n / 10:=Int.tdiv_eq_ediv_of_nonneg (by omega)
      have t2:n.tmod 10 = n % 10:=Int.tmod_eq_emod_of_nonneg (by omega)
      have s1:=itoaB_size (n / 10) (by omega) (by omega)
      have s2:=itoaB_size (n % 10) (by omega) (by omega)
      rw [itoaB_pos h1]
      (refine ACall_fn (cf:=L4.c144) rfl rfl fun hM hA => ?_;simp only [L4.c144,zO,zF,zT];rw [mk1 _ (by decide)];simp -implicitDefEqProofs (disch:=first|omega|(simp only [go_sem,seval,f1,t1];first|done|omega)) only [go_sem,seval,f1,t1])
      refine callP_q (ih _ (by omega) (n / 10) (by omega) rfl _) ?_
      simp -implicitDefEqProofs (disch:=first|omega|(simp only [go_sem,seval,t2];first|done|omega)) only [go_sem,seval,t2]
      refine callP_q (ih _ (by omega) (n % 10) (by omega) rfl _) ?_
      simp -implicitDefEqProofs (disch:=first|omega|(simp only [go_sem,seval,bin_addS];first|done|omega)) only [go_sem,seval,bin_addS]
      (all_goals (first|refine post_fin ret_ok hM rfl ?_ ?_|refine post_fin0 ret_ok hM rfl ?_ ?_|refine post_fin normal_ok hM rfl ?_ ?_|refine post_fin0 normal_ok hM rfl ?_ ?_);all_goals first|(simp only [go_sem,seval] <;> first|done|omega)|skip;all_goals (try simp -implicitDefEqProofs (disch:=first|omega|(simp only [go_sem,seval];first|done|omega)) only [go_sem,seval]))
    have f1:((9:Int) < n) = False:=eq_false h1
    by_cases h2:n < -9
    · have f2:(n < (-9:Int)) = True:=eq_true h2
      have t1:n.tdiv 10 = -((-n) / 10):=by
        have e:n = -(-n):=by omega
        conv => lhs;rw [e,Int.neg_tdiv,Int.tdiv_eq_ediv_of_nonneg (by omega)]
      have t2:n.tmod 10 = -((-n) % 10):=by
        have e:n = -(-n):=by omega
        conv => lhs;rw [e,Int.neg_tmod,Int.tmod_eq_emod_of_nonneg (by omega)]
      have s1:=itoaB_size (-((-n) / 10)) (by omega) (by omega)
      have s2:=itoaB_size ((-n) % 10) (by omega) (by omega)
      have e0:- -((-n) % 10) = (-n) % 10:=by omega
      rw [itoaB_neg2 h2]
      (refine ACall_fn (cf:=L4.c144) rfl rfl fun hM hA => ?_;simp only [L4.c144,zO,zF,zT];rw [mk1 _ (by decide)];simp -implicitDefEqProofs (disch:=first|omega|(simp only [go_sem,seval,f1,f2,t1];first|done|omega)) only [go_sem,seval,f1,f2,t1])
      refine callP_q (ih _ (by omega) (-((-n) / 10)) (by omega) rfl _) ?_
      simp -implicitDefEqProofs (disch:=first|omega|(simp only [go_sem,seval,t2,e0];first|done|omega)) only [go_sem,seval,t2,e0]
      refine callP_q (ih _ (by omega) ((-n) % 10) (by omega) rfl _) ?_
      simp -implicitDefEqProofs (disch:=first|omega|(simp only [go_sem,seval,bin_addS];first|done|omega)) only [go_sem,seval,bin_addS]
      (all_goals (first|refine post_fin ret_ok hM rfl ?_ ?_|refine post_fin0 ret_ok hM rfl ?_ ?_|refine post_fin normal_ok hM rfl ?_ ?_|refine post_fin0 normal_ok hM rfl ?_ ?_);all_goals first|(simp only [go_sem,seval] <;> first|done|omega)|skip;all_goals (try simp -implicitDefEqProofs (disch:=first|omega|(simp only [go_sem,seval];first|done|omega)) only [go_sem,seval]))
    have f2:(n < (-9:Int)) = False:=eq_false h2
    by_cases h3:n < 0
    · have f3:(n < (0:Int)) = True:=eq_true h3
      have s1:=itoaB_size (-n) (by omega) (by omega)
      have sz1:(⟨#[45]⟩:ByteArray).size = 1:=rfl
      rw [itoaB_neg h3]
      have hq:Q X 144 [.I (-n)] (.s (.string (itoaB (-n)))):=by
        intro M
        have g1:((9:Int) < -n) = False:=eq_false (by omega)
        have g2:(-n < (-9:Int)) = False:=eq_false (by omega)
        have g3:(-n < (0:Int)) = False:=eq_false (by omega)
        have w8:IntKind.u8.wrap (48 + -n) = 48 + -n:=by
          have e:∀ z:Int,IntKind.u8.wrap z = z % 256:=fun _ => rfl
          rw [e];omega
        have hs:strOf [.s (.int .u8 (48 + -n))] = some (itoaB (-n)):=by
          rw [itoaB_one (by omega)]
          have:(48 + -n).toNat = 48 + (-n).toNat:=by omega
          show some _ = _
          rw [this]
        (refine ACall_fn (cf:=L4.c144) rfl rfl fun hM hA => ?_;simp only [L4.c144,zO,zF,zT];rw [mk1 _ (by decide)];simp -implicitDefEqProofs (disch:=first|omega|(simp only [go_sem,seval,g1,g2,g3,w8,hs];first|done|omega)) only [go_sem,seval,g1,g2,g3,w8,hs])
        (all_goals (first|refine post_fin ret_ok hM rfl ?_ ?_|refine post_fin0 ret_ok hM rfl ?_ ?_|refine post_fin normal_ok hM rfl ?_ ?_|refine post_fin0 normal_ok hM rfl ?_ ?_);all_goals first|(simp only [go_sem,seval] <;> first|done|omega)|skip;all_goals (try simp -implicitDefEqProofs (disch:=first|omega|(simp only [go_sem,seval];first|done|omega)) only [go_sem,seval]))
      (refine ACall_fn (cf:=L4.c144) rfl rfl fun hM hA => ?_;simp only [L4.c144,zO,zF,zT];rw [mk1 _ (by decide)];simp -implicitDefEqProofs (disch:=first|omega|(simp only [go_sem,seval,f1,f2,f3];first|done|omega)) only [go_sem,seval,f1,f2,f3])
      refine callP_q (hq _) ?_
      simp -implicitDefEqProofs (disch:=first|omega|(simp only [go_sem,seval,bin_addS,sz1];first|done|omega)) only [go_sem,seval,bin_addS,sz1]
      (all_goals (first|refine post_fin ret_ok hM rfl ?_ ?_|refine post_fin0 ret_ok hM rfl ?_ ?_|refine post_fin normal_ok hM rfl ?_ ?_|refine post_fin0 normal_ok hM rfl ?_ ?_);all_goals first|(simp only [go_sem,seval] <;> first|done|omega)|skip;all_goals (try simp -implicitDefEqProofs (disch:=first|omega|(simp only [go_sem,seval];first|done|omega)) only [go_sem,seval]))
    have f3:(n < (0:Int)) = False:=eq_false h3
    have w8:IntKind.u8.wrap (48 + n) = 48 + n:=by
      have e:∀ z:Int,IntKind.u8.wrap z = z % 256:=fun _ => rfl
      rw [e];omega
    have hs:strOf [.s (.int .u8 (48 + n))] = some (itoaB n):=by
      rw [itoaB_one (by omega)]
      have:(48 + n).toNat = 48 + n.toNat:=by omega
      show some _ = _
      rw [this]
    (refine ACall_fn (cf:=L4.c144) rfl rfl fun hM hA => ?_;simp only [L4.c144,zO,zF,zT];rw [mk1 _ (by decide)];simp -implicitDefEqProofs (disch:=first|omega|(simp only [go_sem,seval,f1,f2,f3,w8,hs];first|done|omega)) only [go_sem,seval,f1,f2,f3,w8,hs])
    (all_goals (first|refine post_fin ret_ok hM rfl ?_ ?_|refine post_fin0 ret_ok hM rfl ?_ ?_|refine post_fin normal_ok hM rfl ?_ ?_|refine post_fin0 normal_ok hM rfl ?_ ?_);all_goals first|(simp only [go_sem,seval] <;> first|done|omega)|skip;all_goals (try simp -implicitDefEqProofs (disch:=first|omega|(simp only [go_sem,seval];first|done|omega)) only [go_sem,seval]))
theorem join_flat (l:List (List UInt8)):Lib.join l [] = l.flatten:=by
  cases l with
  | nil => rfl
  | cons x r =>
    rw [Lib.join_cons,List.flatten_cons]
    congr 1
    unfold Lib.joinTail
    congr 1
    exact (List.map_congr_left fun y _ => by simp).trans (List.map_id _)
theorem joinB_snoc (l:List ByteArray) (x:ByteArray):joinB (l ++ [x]) = joinB l ++ x:=by
  refine toL_inj ?_
  unfold joinB
  rw [join_flat,join_flat]
  simp
theorem joinB_nil:joinB [] = ⟨#[]⟩:=rfl
theorem q_ref01_Print (s:Ste) (h0:chkSte s = 0):Q X 94 [encSte s] (.s (.string (steTxt s))):=by
  intro M
  have es:=encSte_eq s
  obtain ⟨hn,hle,hln,hin⟩:=chkSte_in h0
  have h1:=nameOk_size hn
  have h2:=itoaB_size s.least (by omega) (by omega)
  obtain ⟨H,hH⟩:∃ H,H = (((⟨#[115,105,116,101,32]⟩:ByteArray) ++ s.name) ++ ⟨#[32]⟩) ++ itoaB s.least ++ ⟨#[10]⟩:=⟨_,rfl⟩
  have hHs:H.size ≤ 100:=by
    rw [hH]
    simp only [ByteArray.size_append,sz_site,sz_sp,sz_nl]
    omega
  have hT:steTxt s = H ++ joinB (s.tbs.map tbTxt):=by rw [hH];rfl
  rw [hT]
  (refine ACall_fn (cf:=L4.c94) rfl rfl fun hM hA => ?_;simp only [L4.c94,zO,zF,zT];rw [mk1 _ (by decide)];simp -implicitDefEqProofs (disch:=first|omega|(simp only [go_sem,seval,es,bin_addS,ByteArray.size_append,sz_turbine,sz_sp,sz_nl,sz_site];first|done|omega)) only [go_sem,seval,es,bin_addS,ByteArray.size_append,sz_turbine,sz_sp,sz_nl,sz_site])
  refine callP_q (q_ref01_Text _ (by omega) _) ?_
  simp -implicitDefEqProofs (disch:=first|omega|(simp only [go_sem,seval,bin_addS,ByteArray.size_append,sz_turbine,sz_sp,sz_nl,sz_site];first|done|omega)) only [go_sem,seval,bin_addS,ByteArray.size_append,sz_turbine,sz_sp,sz_nl,sz_site]
  rw [← hH]
  clear hH
  refine loop_mk (α:=Nat) 0 (fun k => k ≤ s.tbs.length) (fun k => M)
    (fun k => [(1,.fp [.s (.string s.name),.I s.least,.fs (s.tbs.map encTb)]),(3,.s (.string (H ++ joinB ((s.tbs.take k).map tbTxt)))),(4,.I k)]) (fun k => s.tbs.length - k) (Nat.zero_le _) rfl ?_ ?_
  · have e0:H ++ (⟨#[]⟩:ByteArray) = H:=toL_inj (by simp)
    simp [joinB_nil,e0]
  intro k hk
  by_cases hlt:k < s.tbs.length
  · obtain ⟨t,ht⟩:∃ t,s.tbs[k]? = some t:=⟨_,List.getElem?_eq_getElem hlt⟩
    have hsn:=take_snoc (f:=tbTxt) ht
    have htm:=List.mem_of_getElem? ht
    have htn:nameOk t.name = true:=(tbE_parts (hin k t hlt ht)).1
    have htp:=all_pt h0 t htm
    have hts:=tbTxt_size htn htp
    unfold ptIn at htp
    have hp1:-1000 ≤ t.x ∧ t.x ≤ 1000 ∧ -1000 ≤ t.y ∧ t.y ≤ 1000:=htp
    have g1:=nameOk_size htn
    have g2:=itoaB_size t.x (by omega) (by omega)
    have g3:=itoaB_size t.y (by omega) (by omega)
    have hjs:(joinB ((s.tbs.take k).map tbTxt)).size ≤ 100000:=joinB_size (by rw [List.length_map,List.length_take];omega) (by
      intro u hu
      obtain ⟨t',ht',rfl⟩:=List.mem_map.1 hu
      have hm:=List.mem_of_mem_take ht'
      obtain ⟨i,hi,e2⟩:=List.mem_iff_getElem.1 hm
      exact tbTxt_size (tbE_parts (hin i t' hi (List.getElem?_eq_some_iff.2 ⟨hi,e2⟩))).1 (all_pt h0 t' hm))
    have hcs:(H ++ joinB ((s.tbs.take k).map tbTxt)).size ≤ 100100:=by rw [ByteArray.size_append];omega
    have e3:H ++ joinB ((s.tbs.take (k + 1)).map tbTxt) = ((((((H ++ joinB ((s.tbs.take k).map tbTxt)) ++ (⟨#[116,117,114,98,105,110,101,32]⟩:ByteArray)) ++ t.name) ++ ⟨#[32]⟩) ++ itoaB t.x) ++ ⟨#[32]⟩) ++ itoaB t.y ++ ⟨#[10]⟩:=by
      rw [hsn,joinB_snoc]
      unfold tbTxt
      simp only [ByteArray.append_assoc]
    generalize H ++ joinB ((s.tbs.take k).map tbTxt) = O at hcs e3 ⊢
    simp -implicitDefEqProofs (disch:=first|omega|(simp only [go_sem,seval,hlt,ht,encTb_cells,encTb_eq,bin_addS,ByteArray.size_append,sz_turbine,sz_sp,sz_nl];first|done|omega)) only [go_sem,seval,hlt,ht,encTb_cells,encTb_eq,bin_addS,ByteArray.size_append,sz_turbine,sz_sp,sz_nl]
    refine callP_q (q_ref01_Text _ (by omega) _) ?_
    simp -implicitDefEqProofs (disch:=first|omega|(simp only [go_sem,seval,encTb_cells,encTb_eq,bin_addS,ByteArray.size_append,sz_turbine,sz_sp,sz_nl];first|done|omega)) only [go_sem,seval,encTb_cells,encTb_eq,bin_addS,ByteArray.size_append,sz_turbine,sz_sp,sz_nl]
    refine callP_q (q_ref01_Text _ (by omega) _) ?_
    simp -implicitDefEqProofs (disch:=first|omega|(simp only [go_sem,seval,bin_addS,ByteArray.size_append,sz_turbine,sz_sp,sz_nl];first|done|omega)) only [go_sem,seval,bin_addS,ByteArray.size_append,sz_turbine,sz_sp,sz_nl]
    refine Wp_cut_at hM rfl 0 (by simp) (by first|done|(simp only [go_sem,seval,encTb_low] <;> first|done|(refine ⟨?_,?_⟩ <;> omega)|omega)) (lowL_mk (by first|done|(simp only [go_sem,seval,encTb_low] <;> first|done|(refine ⟨?_,?_⟩ <;> omega)|omega))) ?_
    simp -implicitDefEqProofs (disch:=first|omega|(simp only [go_sem,seval];first|done|omega)) only [go_sem,seval]
    exact again' (k + 1) (by omega) (by omega) rfl (by rw [e3];rfl)
  have hkk:k = s.tbs.length:=by omega
  subst hkk
  rw [List.take_length]
  simp -implicitDefEqProofs (disch:=first|omega|(simp only [go_sem,seval,hlt];first|done|omega)) only [go_sem,seval,hlt]
  (all_goals (first|refine post_fin ret_ok hM rfl ?_ ?_|refine post_fin0 ret_ok hM rfl ?_ ?_|refine post_fin normal_ok hM rfl ?_ ?_|refine post_fin0 normal_ok hM rfl ?_ ?_);all_goals first|(simp only [go_sem,seval] <;> first|done|omega)|skip;all_goals (try simp -implicitDefEqProofs (disch:=first|omega|(simp only [go_sem,seval];first|done|omega)) only [go_sem,seval]))
end
end Go.Nac.L4
