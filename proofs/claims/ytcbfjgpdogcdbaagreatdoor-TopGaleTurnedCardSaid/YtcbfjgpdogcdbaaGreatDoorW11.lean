import Derived.Test.YtcbfjgpdogcdbaaGreatDoorW10
set_option linter.unusedSimpArgs false
set_option linter.unusedVariables false
set_option linter.unnecessarySimpa false
set_option maxRecDepth 10000
namespace Go.Nac.L5
attribute [local congr] b1_congr b2_congr Wp_congr wpOps_congr thenK_congr blockK_congr gK_congr cK_congr
section
variable {X:XRel}
set_option maxHeartbeats 8000000 in
theorem q_gturned_core (hW:Q X 7 [] (.B true)) (s a:Ste) (R U:Rse) (k sec:Nat) (p q:Pt) (txt:ByteArray) (n0 n1:Int)
    (sh:Q X 18 [encSte s,.I 10] (.B true)) (k1:Q X 19 [encSte s] (.I 0)) (k2:Q X 20 [encRs R] (.I 0))
    (hl:s.tbs.length ≤ 64) (hn:(0 ≤ n0 ∧ n0 ≤ 255) ∧ 0 ≤ n1 ∧ n1 ≤ 255) (hk:n0 % 4 = k) (hs:n1 % 8 = sec) (hpt:∀ t ∈ s.tbs,ptIn t.at_)
    (c0:Q X 22 [encSte s] (encSte s)) (t1:Q X 21 [encSte s,.I k] (.tup [encSte a,.I 0])) (gP:Q X 23 [encSte a] (.tup [.s (.string txt),.I 0]))
    (gR:Q X 24 [.s (.string txt)] (.tup [encSte a,.I 0,.I 0])) (t2:Q X 21 [encSte a,.I ((4 - (k:Int)) % 4)] (.tup [encSte s,.I 0]))
    (st1:Q X 25 [.I sec] (.tup [encPt p,.I 0])) (st2:Q X 25 [.I (((sec:Int) + 2 * k) % 8)] (.tup [encPt q,.I 0]))
    (o0:Q X 28 [encSte s] (encSte s)) (sm:Q X 27 [encSte s,encSte s] (.B true))
    (hla:a.tbs.length = s.tbs.length) (ha:∀ (i:Nat) (x:Tb),s.tbs[i]? = some x → a.tbs[i]? = some (mvT (trnN k) x)) (hq:q = trnN k p) (hpb:-1 ≤ p.x ∧ p.x ≤ 1 ∧ -1 ≤ p.y ∧ p.y ≤ 1) (hqb:-1 ≤ q.x ∧ q.x ≤ 1 ∧ -1 ≤ q.y ∧ q.y ≤ 1)
    (lR:R.length = 408) (lU:U.length = 408) (r1:Q X 26 [encRs R,.I k] (.tup [encRs U,.I 0]))
    (hbk:blk U ((sec + 2 * k) % 8) = blk R sec) :
    Q X 4 [encSte s,encRs R,.agg [.s (.int .u8 n0),.s (.int .u8 n1)]] (.B true):=by
  have es:=encSte_eq s
  have ea:=encSte_eq a
  have ep:encPt p = .agg [.I p.x,.I p.y]:=rfl
  have eq':encPt q = .agg [.I q.x,.I q.y]:=rfl
  have hc:=cells_mk lR
  have eR:encRs R = .agg (R.map .I):=rfl
  have eU:encRs U = .agg (U.map .I):=rfl
  have hcU:=cells_mk lU
  have hsec:sec < 8:=by omega
  have T8c:((sec:Int) + 2 * k).tmod 8 = (((sec + 2 * k) % 8:Nat):Int):=by rw [Int.tmod_eq_emod_of_nonneg (by omega)];omega
  have T8m:((sec:Int) + 2 * k) % 8 = (((sec + 2 * k) % 8:Nat):Int):=by omega
  rw [T8m] at st2
  have hm8:(sec + 2 * k) % 8 < 8:=Nat.mod_lt _ (by decide)
  have hB1:((U.map PV.I).drop (((sec + 2 * k) % 8) * 51)).take 51 = (blk R sec).map PV.I:=by rw [blk_I,hbk]
  have hB2:((R.map PV.I).drop (sec * 51)).take 51 = (blk R sec).map PV.I:=blk_I _ _
  have heB:=eqCells_ints 51 (blk R sec) (blk R sec) (blk_len lR hsec) (blk_len lR hsec)
  rw [decide_eq_true rfl] at heB
  have hBl:((blk R sec).map PV.I).length = 51:=by rw [List.length_map];exact blk_len lR hsec
  have hBt:((blk R sec).map PV.I).take 51 = (blk R sec).map PV.I:=List.take_of_length_le (by omega)
  have hBo:=ones_I (blk R sec)
  have hBv:=fun M => view1_ints M (blk R sec)
  generalize (sec + 2 * k) % 8 = m at T8c hm8 hB1 st2
  generalize (blk R sec).map PV.I = B at hB1 hB2 heB hBl hBt hBo hBv
  have hwU:=fun m:Nat => encI_lowm (n:=m) U
  have hzI:=z408_I
  have hcz:=cells_mk (r:=z408) List.length_replicate
  rw [eR] at k2 r1 ⊢
  rw [eU] at r1
  generalize U.map PV.I = Us at r1 hcU hwU hB1
  generalize z408.map PV.I = Z at hcz hzI
  have hw:=fun m:Nat => encI_lowm (n:=m) R
  generalize R.map PV.I = Rs at k2 r1 hc hw hB2 ⊢
  have ul:=hcU.len
  have ut:=hcU.tk
  have uo:=hcU.one
  have uv:=hcU.vw
  have zl:=hcz.len
  have zt:=hcz.tk
  have zo:=hcz.one
  have zv:=hcz.vw
  have rl:=hc.len
  have rt:=hc.tk
  have ro:=hc.one
  have rv:=hc.vw
  have rd:Rs.drop 408 = []:=List.drop_of_length_le (by omega)
  have ud:Us.drop 408 = []:=List.drop_of_length_le (by omega)
  have zd:Z.drop 408 = []:=List.drop_of_length_le (by omega)
  have ls:∀ m,lowL m (s.tbs.map encTb) = True:=fun m => encTb_low _
  have lsa:∀ m,lowL m (a.tbs.map encTb) = True:=fun m => encTb_low _
  rw [es] at sh k1 c0 t1 t2 o0 sm ⊢
  rw [ea] at t1 gP gR t2
  rw [ep] at st1
  rw [eq'] at st2
  have m0:n0.tmod 4 = k:=by rw [Int.tmod_eq_emod_of_nonneg hn.1.1];exact hk
  have m1:n1.tmod 8 = sec:=by rw [Int.tmod_eq_emod_of_nonneg hn.2.1];exact hs
  have T4:(4 - (k:Int)).tmod 4 = (4 - (k:Int)) % 4:=Int.tmod_eq_emod_of_nonneg (by omega)
  have fla:((a.tbs.length:Int) = s.tbs.length) = True:=eq_true (by omega)
  have g8:(m < 8) = True:=eq_true hm8
  have g8':(sec < 8) = True:=eq_true hsec
  intro M
  (refine ACall_fn (cf:=L5.c4) rfl rfl fun hM hA => ?_;simp only [L5.c4,zO,zF,zT];rw [mk3 _ (by decide)];simp -implicitDefEqProofs (disch:=first|omega|(simp only [go_sem,seval,-List.reduceReplicate,rl,rt,rv];first|done|omega)) only [go_sem,seval,-List.reduceReplicate,rl,rt,rv])
  refine callP_q (sh _) ?_
  simp -implicitDefEqProofs (disch:=first|omega|(simp only [go_sem,seval,-List.reduceReplicate];first|done|omega)) only [go_sem,seval,-List.reduceReplicate]
  refine callP_q (k1 _) ?_
  simp -implicitDefEqProofs (disch:=first|omega|(simp only [go_sem,seval,-List.reduceReplicate,rl,rt,rv];first|done|omega)) only [go_sem,seval,-List.reduceReplicate,rl,rt,rv]
  refine callP_q (k2 _) ?_
  simp -implicitDefEqProofs (disch:=first|omega|(simp only [go_sem,seval,-List.reduceReplicate,m0,m1];first|done|omega)) only [go_sem,seval,-List.reduceReplicate,m0,m1]
  refine callP_q (c0 _) ?_
  simp -implicitDefEqProofs (disch:=first|omega|(simp only [go_sem,seval,-List.reduceReplicate];first|done|omega)) only [go_sem,seval,-List.reduceReplicate]
  refine callP_q (t1 _) ?_
  simp -implicitDefEqProofs (disch:=first|omega|(simp only [go_sem,seval,-List.reduceReplicate];first|done|omega)) only [go_sem,seval,-List.reduceReplicate]
  refine callP_q (gP _) ?_
  simp -implicitDefEqProofs (disch:=first|omega|(simp only [go_sem,seval,-List.reduceReplicate];first|done|omega)) only [go_sem,seval,-List.reduceReplicate]
  refine callP_q (gR _) ?_
  simp -implicitDefEqProofs (disch:=first|omega|(simp only [go_sem,seval,-List.reduceReplicate,T4];first|done|omega)) only [go_sem,seval,-List.reduceReplicate,T4]
  refine callP_q (t2 _) ?_
  simp -implicitDefEqProofs (disch:=first|omega|(simp only [go_sem,seval,-List.reduceReplicate];first|done|omega)) only [go_sem,seval,-List.reduceReplicate]
  refine callP_q (st1 _) ?_
  simp -implicitDefEqProofs (disch:=first|omega|(simp only [go_sem,seval,-List.reduceReplicate,T8c];first|done|omega)) only [go_sem,seval,-List.reduceReplicate,T8c]
  refine callP_q (st2 _) ?_
  simp -implicitDefEqProofs (disch:=first|omega|(simp only [go_sem,seval,-List.reduceReplicate,hzI,rl,rt,ro,rv,rd,zl,zt,zo,zv,zd];first|done|omega)) only [go_sem,seval,-List.reduceReplicate,hzI,rl,rt,ro,rv,rd,zl,zt,zo,zv,zd]
  refine callP_q (r1 _) ?_
  simp -implicitDefEqProofs (disch:=first|omega|(simp only [go_sem,seval,-List.reduceReplicate,hzI,rl,rt,ro,rv,rd,ul,ut,uo,uv,ud,zl,zt,zo,zv,zd,putE_agg,List.append_nil];first|done|omega)) only [go_sem,seval,-List.reduceReplicate,hzI,rl,rt,ro,rv,rd,ul,ut,uo,uv,ud,zl,zt,zo,zv,zd,putE_agg,List.append_nil]
  refine callP_q (o0 _) ?_
  simp -implicitDefEqProofs (disch:=first|omega|(simp only [go_sem,seval,-List.reduceReplicate];first|done|omega)) only [go_sem,seval,-List.reduceReplicate]
  refine callP_q (sm _) ?_
  simp -implicitDefEqProofs (disch:=first|omega|(simp only [go_sem,seval,-List.reduceReplicate,hzI,rl,rt,ro,rv,rd,ul,ut,uo,uv,ud,zl,zt,zo,zv,zd,putE_agg,List.append_nil,eqsV_agg,T8c,g8,g8',hB1,hB2,hBl,hBt,hBo,hBv,heB,fla];first|done|omega)) only [go_sem,seval,-List.reduceReplicate,hzI,rl,rt,ro,rv,rd,ul,ut,uo,uv,ud,zl,zt,zo,zv,zd,putE_agg,List.append_nil,eqsV_agg,T8c,g8,g8',hB1,hB2,hBl,hBt,hBo,hBv,heB,fla]
  clear sh k1 k2 c0 t1 gP gR t2 st1 st2 o0 sm r1
  refine loop_mk (α:=Nat) 0 (fun i => i ≤ s.tbs.length) (fun _ => M ++ [Blk.row true 3 0 [.agg [.s (.string a.name),.I a.least,.fs (a.tbs.map encTb)]],Blk.row true 3 0 [.agg [.s (.string a.name),.I a.least,.fs (a.tbs.map encTb)]],Blk.row true 3 0 [.agg [.s (.string s.name),.I s.least,.fs (s.tbs.map encTb)]],Blk.row true 2 0 [.agg [.I p.x,.I p.y]],Blk.row true 2 0 [.agg [.I q.x,.I q.y]],Blk.row true 408 0 [.agg Us]]) (fun i => [(3,.fp [.s (.string s.name),.I s.least,.fs (s.tbs.map encTb)]),(9,.op M.length 0 0 0),(18,.op (M.length + 3) 0 0 0),(20,.op (M.length + 4) 0 0 0),(144,.fs (s.tbs.map encTb)),(145,.I s.tbs.length),(146,.I i)]) (fun i => s.tbs.length - i) (Nat.zero_le _) rfl rfl ?_
  intro i hi
  by_cases hlt:i < s.tbs.length
  · obtain ⟨x,hx⟩:∃ x,s.tbs[i]? = some x:=⟨_,List.getElem?_eq_getElem hlt⟩
    have ex:encTb x = .agg [.s (.string x.name),.I x.x,.I x.y]:=rfl
    have ecx:(encTb x).cells = [.s (.string x.name),.I x.x,.I x.y]:=rfl
    have px:=hpt x (List.mem_of_getElem? hx)
    have hfx:=ha i x hx
    simp -implicitDefEqProofs (disch:=first|omega|(simp only [go_sem,seval,-List.reduceReplicate,hlt,hx,ex,ecx];first|done|omega)) only [go_sem,seval,-List.reduceReplicate,hlt,hx,ex,ecx]
    refine loop_mk (α:=Nat) 0 (fun j => j ≤ s.tbs.length) (fun _ => M ++ [Blk.row true 3 0 [.agg [.s (.string a.name),.I a.least,.fs (a.tbs.map encTb)]],Blk.row true 3 0 [.agg [.s (.string a.name),.I a.least,.fs (a.tbs.map encTb)]],Blk.row true 3 0 [.agg [.s (.string s.name),.I s.least,.fs (s.tbs.map encTb)]],Blk.row true 2 0 [.agg [.I p.x,.I p.y]],Blk.row true 2 0 [.agg [.I q.x,.I q.y]],Blk.row true 408 0 [.agg Us],Blk.row true 3 0 [.agg [.s (.string x.name),.I x.x,.I x.y]]]) (fun j => [(3,.fp [.s (.string s.name),.I s.least,.fs (s.tbs.map encTb)]),(9,.op M.length 0 0 0),(18,.op (M.length + 3) 0 0 0),(20,.op (M.length + 4) 0 0 0),(24,.I i),(25,.op (M.length + 6) 0 0 0),(144,.fs (s.tbs.map encTb)),(145,.I s.tbs.length),(146,.I i),(152,.fs (s.tbs.map encTb)),(153,.I s.tbs.length),(154,.I j)]) (fun j => s.tbs.length - j) (Nat.zero_le _) rfl rfl ?_
    intro j hj
    by_cases hlj:j < s.tbs.length
    · obtain ⟨y,hy⟩:∃ y,s.tbs[j]? = some y:=⟨_,List.getElem?_eq_getElem hlj⟩
      have ey:encTb y = .agg [.s (.string y.name),.I y.x,.I y.y]:=rfl
      have ecy:(encTb y).cells = [.s (.string y.name),.I y.x,.I y.y]:=rfl
      have py:=hpt y (List.mem_of_getElem? hy)
      have hfy:=ha j y hy
      have efx:encTb (mvT (trnN k) x) = .agg [.s (.string x.name),.I (trnN k x.at_).x,.I (trnN k x.at_).y]:=rfl
      have efy:encTb (mvT (trnN k) y) = .agg [.s (.string y.name),.I (trnN k y.at_).x,.I (trnN k y.at_).y]:=rfl
      have ecfx:(encTb (mvT (trnN k) x)).cells = [.s (.string x.name),.I (trnN k x.at_).x,.I (trnN k x.at_).y]:=rfl
      have ecfy:(encTb (mvT (trnN k) y)).cells = [.s (.string y.name),.I (trnN k y.at_).x,.I (trnN k y.at_).y]:=rfl
      have pf:=trnN_W px k
      have pg:=trnN_W py k
      have hD:=dot_trn k x.at_ y.at_ p
      rw [← hq] at hD
      have hK:=keeps_trn k x.at_ y.at_
      generalize trnN k x.at_ = f at efx ecfx pf hD hK
      generalize trnN k y.at_ = g at efy ecfy pg hD hK
      have d1:=dot_bd px py hpb
      have d2:=dot_bd pf pg hqb
      have cf:=q_ref01_CheckPoint (X:=X) f
      have cg:=q_ref01_CheckPoint (X:=X) g
      rw [ptE_of pf] at cf
      rw [ptE_of pg] at cg
      have af:=q_ref01_Apart (X:=X) f g (ptIn_W pf) (ptIn_W pg)
      have ax:=q_ref01_Apart (X:=X) x.at_ y.at_ (ptIn_W px) (ptIn_W py)
      rw [hK] at af
      have e1:encPt f = .agg [.I f.x,.I f.y]:=rfl
      have e2:encPt g = .agg [.I g.x,.I g.y]:=rfl
      have e3:encPt x.at_ = .agg [.I x.x,.I x.y]:=rfl
      have e4:encPt y.at_ = .agg [.I y.x,.I y.y]:=rfl
      rw [e1] at cf af
      rw [e2] at cg af
      rw [e3,e4] at ax
      unfold dotP at hD
      have x1:x.at_.x = x.x:=rfl
      have x2:x.at_.y = x.y:=rfl
      have y1:y.at_.x = y.x:=rfl
      have y2:y.at_.y = y.y:=rfl
      rw [x1,x2,y1,y2] at hD
      rw [x1,x2,y1,y2] at d1
      unfold ptIn at px py pf pg
      rw [x1,x2] at px
      rw [y1,y2] at py
      simp -implicitDefEqProofs (disch:=first|omega|(simp only [go_sem,seval,-List.reduceReplicate,hlj,hy,ey,ecy,hfx,hfy,efx,efy,ecfx,ecfy];first|done|omega)) only [go_sem,seval,-List.reduceReplicate,hlj,hy,ey,ecy,hfx,hfy,efx,efy,ecfx,ecfy]
      refine ⟨by simp [pairsOk,okPair,apartL,refs,refs1],?_⟩
      refine callP_q (cf _) ?_
      simp -implicitDefEqProofs (disch:=first|omega|(simp only [go_sem,seval,-List.reduceReplicate];first|done|omega)) only [go_sem,seval,-List.reduceReplicate]
      refine callP_q (cg _) ?_
      simp -implicitDefEqProofs (disch:=first|omega|(simp only [go_sem,seval,-List.reduceReplicate,hD];first|done|omega)) only [go_sem,seval,-List.reduceReplicate,hD]
      refine callP_q (af _) ?_
      simp -implicitDefEqProofs (disch:=first|omega|(simp only [go_sem,seval,-List.reduceReplicate];first|done|omega)) only [go_sem,seval,-List.reduceReplicate]
      refine callP_q (ax _) ?_
      simp -implicitDefEqProofs (disch:=first|omega|(simp only [go_sem,seval,-List.reduceReplicate];first|done|omega)) only [go_sem,seval,-List.reduceReplicate]
      refine Wp_cut_at hM rfl 7 (by simp) (by first|done|(simp only [go_sem,seval,-List.reduceReplicate,ls,lsa,hwU] <;> first|done|(refine ⟨?_,?_⟩ <;> omega)|omega)) (lowL_mk (by first|done|(simp only [go_sem,seval,-List.reduceReplicate,ls,lsa,hwU] <;> first|done|(refine ⟨?_,?_⟩ <;> omega)|omega))) ?_
      simp -implicitDefEqProofs (disch:=first|omega|(simp only [go_sem,seval,-List.reduceReplicate];first|done|omega)) only [go_sem,seval,-List.reduceReplicate]
      exact again' (j + 1) (by omega) (by omega) rfl rfl
    simp -implicitDefEqProofs (disch:=first|omega|(simp only [go_sem,seval,-List.reduceReplicate,hlj];first|done|omega)) only [go_sem,seval,-List.reduceReplicate,hlj]
    refine Wp_cut_at hM rfl 6 (by simp) (by first|done|(simp only [go_sem,seval,-List.reduceReplicate,ls,lsa,hwU] <;> first|done|(refine ⟨?_,?_⟩ <;> omega)|omega)) (lowL_mk (by first|done|(simp only [go_sem,seval,-List.reduceReplicate,ls,lsa,hwU] <;> first|done|(refine ⟨?_,?_⟩ <;> omega)|omega))) ?_
    simp -implicitDefEqProofs (disch:=first|omega|(simp only [go_sem,seval,-List.reduceReplicate];first|done|omega)) only [go_sem,seval,-List.reduceReplicate]
    exact again' (i + 1) (by omega) (by omega) rfl rfl
  simp -implicitDefEqProofs (disch:=first|omega|(simp only [go_sem,seval,-List.reduceReplicate,hlt];first|done|omega)) only [go_sem,seval,-List.reduceReplicate,hlt]
  refine callP_q (hW _) ?_
  simp -implicitDefEqProofs (disch:=first|omega|(simp only [go_sem,seval,-List.reduceReplicate];first|done|omega)) only [go_sem,seval,-List.reduceReplicate]
  (all_goals (first|refine post_fin ret_ok hM rfl ?_ ?_|refine post_fin0 ret_ok hM rfl ?_ ?_|refine post_fin normal_ok hM rfl ?_ ?_|refine post_fin0 normal_ok hM rfl ?_ ?_);all_goals first|(simp only [go_sem,seval,-List.reduceReplicate] <;> first|done|omega)|skip;all_goals (try simp -implicitDefEqProofs (disch:=first|omega|(simp only [go_sem,seval,-List.reduceReplicate];first|done|omega)) only [go_sem,seval,-List.reduceReplicate]))
theorem mvS_back {f g:Pt → Pt} (h:∀ p,g (f p) = p) (s:Ste):mvS g (mvS f s) = s:=by
  obtain ⟨nm,least,l⟩:=s
  show (⟨nm,least,(l.map (mvT f)).map (mvT g)⟩:Ste) = _
  rw [List.map_map]
  have:(mvT g ∘ mvT f) = id:=funext fun t => mvT_back h t
  rw [this,List.map_id]
theorem step_trn:∀ sec:_root_.Fin 8,∀ k:_root_.Fin 4,stepOf (((sec.val:Int) + 2 * (k.val:Int)) % 8) = trnN k.val (stepOf (sec.val:Int)):=by decide
theorem step_bd:∀ sec:_root_.Fin 8,(¬ ((stepOf (sec.val:Int)).x = 0 ∧ (stepOf (sec.val:Int)).y = 0)) ∧ (-1 ≤ (stepOf (sec.val:Int)).x ∧ (stepOf (sec.val:Int)).x ≤ 1 ∧ -1 ≤ (stepOf (sec.val:Int)).y ∧ (stepOf (sec.val:Int)).y ≤ 1) ∧ 1 ≤ (stepOf (sec.val:Int)).x * (stepOf (sec.val:Int)).x + (stepOf (sec.val:Int)).y * (stepOf (sec.val:Int)).y:=by decide
theorem steL_len {s:Ste} (h:chkSte s = 0):(steL s).length ≤ 20000:=by
  obtain ⟨hn,hle,hln,hin⟩:=chkSte_in h
  have e:(steTxt s).size = (steL s).length:=by rw [steL_eq,bs_size]
  rw [← e]
  have h1:=nameOk_size hn
  have h2:=itoaB_size s.least (by omega) (by omega)
  have hpt:=all_pt h
  unfold steTxt
  simp only [ByteArray.size_append,sz_site,sz_sp,sz_nl]
  have key:∀ l:List ByteArray,(∀ u ∈ l,u.size ≤ 200) → (joinB l).size ≤ 200 * l.length:=by
    intro l hl
    rw [Lib.size_eq,joinB_toL]
    induction l with
    | nil => simp
    | cons a r ih =>
      have ha:=hl a (by simp)
      have hr:=ih fun u hu => hl u (by simp [hu])
      rw [List.map_cons,List.flatten_cons,List.length_append,List.length_cons]
      rw [Lib.size_eq] at ha
      omega
  have:=key (s.tbs.map tbTxt) (by
    intro u hu
    obtain ⟨t,ht,rfl⟩:=List.mem_map.1 hu
    obtain ⟨i,hi,e2⟩:=List.mem_iff_getElem.1 ht
    exact tbTxt_size (tbE_parts (hin i t hi (List.getElem?_eq_some_iff.2 ⟨hi,e2⟩))).1 (hpt t ht))
  rw [List.length_map] at this
  omega
theorem q_top_TopGaleTurned (hI:ItoaX X) (hJ:JoinX X) (hC:CutX X) (hSp:SplitX X) (hA:AtoiX X) (hT:TrimX X) (hW:Q X 7 [] (.B true)) (s:Ste) (R:Rse) (n0 n1:Int) (lR:R.length = 408) (hn:(0 ≤ n0 ∧ n0 ≤ 255) ∧ 0 ≤ n1 ∧ n1 ≤ 255) :
    Q X 4 [encSte s,encRs R,.agg [.s (.int .u8 n0),.s (.int .u8 n1)]] (.B true):=by
  have sh:=q_ref01_ShortSite (X:=X) s
  have es:=encSte_eq s
  have eR:encRs R = .agg (R.map .I):=rfl
  have hc:=cells_mk lR
  have hw:=fun m:Nat => encI_lowm (n:=m) R
  have k2:=q_ref01_CheckRose (X:=X) R lR
  by_cases h1:shortS s = true
  case neg =>
    rw [Bool.eq_false_iff.2 h1] at sh
    rw [es] at sh
    rw [es,eR]
    rw [eR] at k2
    generalize R.map PV.I = Rs at k2 hc hw
    have rl:=hc.len
    have rt:=hc.tk
    have rv:=hc.vw
    intro M
    (refine ACall_fn (cf:=L5.c4) rfl rfl fun hM hA => ?_;simp only [L5.c4,zO,zF,zT];rw [mk3 _ (by decide)];simp -implicitDefEqProofs (disch:=first|omega|(simp only [go_sem,seval,-List.reduceReplicate,rl,rt,rv];first|done|omega)) only [go_sem,seval,-List.reduceReplicate,rl,rt,rv])
    refine callP_q (sh _) ?_
    simp -implicitDefEqProofs (disch:=first|omega|(simp only [go_sem,seval,-List.reduceReplicate,rl,rt,rv];first|done|omega)) only [go_sem,seval,-List.reduceReplicate,rl,rt,rv]
    refine callP_q (hW _) ?_
    simp -implicitDefEqProofs (disch:=first|omega|(simp only [go_sem,seval,-List.reduceReplicate];first|done|omega)) only [go_sem,seval,-List.reduceReplicate]
    (all_goals (first|refine post_fin ret_ok hM rfl ?_ ?_|refine post_fin0 ret_ok hM rfl ?_ ?_|refine post_fin normal_ok hM rfl ?_ ?_|refine post_fin0 normal_ok hM rfl ?_ ?_);all_goals first|(simp only [go_sem,seval,-List.reduceReplicate] <;> first|done|omega)|skip;all_goals (try simp -implicitDefEqProofs (disch:=first|omega|(simp only [go_sem,seval,-List.reduceReplicate];first|done|omega)) only [go_sem,seval,-List.reduceReplicate]))
  rw [h1] at sh
  have hl:s.tbs.length ≤ 65:=by
    unfold shortS at h1
    simp only [Bool.and_eq_true,Bool.or_eq_true,decide_eq_true_eq] at h1
    omega
  have k1:=q_ref01_CheckSite (X:=X) s (by omega)
  by_cases h2:chkSte s = 0
  case neg =>
    generalize chkSte s = z at k1 h2
    rw [es] at sh k1
    rw [es,eR]
    rw [eR] at k2
    generalize R.map PV.I = Rs at k2 hc hw
    have rl:=hc.len
    have rt:=hc.tk
    have rv:=hc.vw
    intro M
    (refine ACall_fn (cf:=L5.c4) rfl rfl fun hM hA => ?_;simp only [L5.c4,zO,zF,zT];rw [mk3 _ (by decide)];simp -implicitDefEqProofs (disch:=first|omega|(simp only [go_sem,seval,-List.reduceReplicate,rl,rt,rv];first|done|omega)) only [go_sem,seval,-List.reduceReplicate,rl,rt,rv])
    refine callP_q (sh _) ?_
    simp -implicitDefEqProofs (disch:=first|omega|(simp only [go_sem,seval,-List.reduceReplicate,rl,rt,rv];first|done|omega)) only [go_sem,seval,-List.reduceReplicate,rl,rt,rv]
    refine callP_q (k1 _) ?_
    simp -implicitDefEqProofs (disch:=first|omega|(simp only [go_sem,seval,-List.reduceReplicate,rl,rt,rv,h2];first|done|omega)) only [go_sem,seval,-List.reduceReplicate,rl,rt,rv,h2]
    refine callP_q (hW _) ?_
    simp -implicitDefEqProofs (disch:=first|omega|(simp only [go_sem,seval,-List.reduceReplicate];first|done|omega)) only [go_sem,seval,-List.reduceReplicate]
    (all_goals (first|refine post_fin ret_ok hM rfl ?_ ?_|refine post_fin0 ret_ok hM rfl ?_ ?_|refine post_fin normal_ok hM rfl ?_ ?_|refine post_fin0 normal_ok hM rfl ?_ ?_);all_goals first|(simp only [go_sem,seval,-List.reduceReplicate] <;> first|done|omega)|skip;all_goals (try simp -implicitDefEqProofs (disch:=first|omega|(simp only [go_sem,seval,-List.reduceReplicate];first|done|omega)) only [go_sem,seval,-List.reduceReplicate]))
  rw [h2] at k1
  by_cases h3:chkRse R = 0
  case neg =>
    generalize chkRse R = z at k2 h3
    rw [es] at sh k1
    rw [es,eR]
    rw [eR] at k2
    generalize R.map PV.I = Rs at k2 hc hw
    have rl:=hc.len
    have rt:=hc.tk
    have rv:=hc.vw
    intro M
    (refine ACall_fn (cf:=L5.c4) rfl rfl fun hM hA => ?_;simp only [L5.c4,zO,zF,zT];rw [mk3 _ (by decide)];simp -implicitDefEqProofs (disch:=first|omega|(simp only [go_sem,seval,-List.reduceReplicate,rl,rt,rv];first|done|omega)) only [go_sem,seval,-List.reduceReplicate,rl,rt,rv])
    refine callP_q (sh _) ?_
    simp -implicitDefEqProofs (disch:=first|omega|(simp only [go_sem,seval,-List.reduceReplicate,rl,rt,rv];first|done|omega)) only [go_sem,seval,-List.reduceReplicate,rl,rt,rv]
    refine callP_q (k1 _) ?_
    simp -implicitDefEqProofs (disch:=first|omega|(simp only [go_sem,seval,-List.reduceReplicate,rl,rt,rv];first|done|omega)) only [go_sem,seval,-List.reduceReplicate,rl,rt,rv]
    refine callP_q (k2 _) ?_
    simp -implicitDefEqProofs (disch:=first|omega|(simp only [go_sem,seval,-List.reduceReplicate,rl,rt,rv,h3];first|done|omega)) only [go_sem,seval,-List.reduceReplicate,rl,rt,rv,h3]
    refine callP_q (hW _) ?_
    simp -implicitDefEqProofs (disch:=first|omega|(simp only [go_sem,seval,-List.reduceReplicate];first|done|omega)) only [go_sem,seval,-List.reduceReplicate]
    (all_goals (first|refine post_fin ret_ok hM rfl ?_ ?_|refine post_fin0 ret_ok hM rfl ?_ ?_|refine post_fin normal_ok hM rfl ?_ ?_|refine post_fin0 normal_ok hM rfl ?_ ?_);all_goals first|(simp only [go_sem,seval,-List.reduceReplicate] <;> first|done|omega)|skip;all_goals (try simp -implicitDefEqProofs (disch:=first|omega|(simp only [go_sem,seval,-List.reduceReplicate];first|done|omega)) only [go_sem,seval,-List.reduceReplicate]))
  rw [h3] at k2
  obtain ⟨k,hk⟩:∃ k:Nat,n0 % 4 = k:=⟨(n0 % 4).toNat,by omega⟩
  obtain ⟨sec,hs⟩:∃ k:Nat,n1 % 8 = k:=⟨(n1 % 8).toNat,by omega⟩
  have hk4:k < 4:=by omega
  have hs8:sec < 8:=by omega
  have a1:=step_trn ⟨sec,hs8⟩ ⟨k,hk4⟩
  obtain ⟨a3,a4,a5⟩:=step_bd ⟨sec,hs8⟩
  simp only at a1 a3 a4 a5
  have st1:=q_site_Step (X:=X) sec
  have st2:=q_site_Step (X:=X) (((sec:Int) + 2 * k) % 8)
  rw [rng_ok.2 ⟨by omega,by omega⟩] at st1 st2
  rw [a1] at st2
  have lU:=trnR_len (q:=k) lR (Nat.le_refl 8)
  have r1:=q_site_TurnRose (X:=X) R k lR
  have e1:trnE R k = 0:=by unfold trnE;rw [h3,rng_ok.2 ⟨by omega,by omega⟩];rfl
  rw [e1,if_pos rfl,Int.toNat_natCast] at r1
  have hpt:=all_pt h2
  have lS:=(chkSte_in h2).2.2.1
  have hqb:-1 ≤ (trnN k (stepOf sec)).x ∧ (trnN k (stepOf sec)).x ≤ 1 ∧ -1 ≤ (trnN k (stepOf sec)).y ∧ (trnN k (stepOf sec)).y ≤ 1:=by
    have:=(step_bd ⟨(sec + 2 * k) % 8,Nat.mod_lt _ (by decide)⟩).2.1
    simp only at this
    rw [show (((sec + 2 * k) % 8:Nat):Int) = ((sec:Int) + 2 * k) % 8 from by omega,a1] at this
    exact this
  have ca:chkSte (mvS (trnN k) s) = 0:=chkSte_mv (keeps_trn k) h2 fun t ht => ptE_of (trnN_W (hpt t ht) k)
  have la:(mvS (trnN k) s).tbs.length = s.tbs.length:=List.length_map _
  have t1:=q_site_TurnSite (X:=X) s k (by omega)
  have e2:turnE s k = 0:=by unfold turnE;rw [h2,rng_ok.2 ⟨by omega,by omega⟩];rfl
  rw [e2,if_pos rfl,Int.toNat_natCast] at t1
  have t2:=q_site_TurnSite (X:=X) (mvS (trnN k) s) ((4 - (k:Int)) % 4) (by omega)
  have e3:turnE (mvS (trnN k) s) ((4 - (k:Int)) % 4) = 0:=by unfold turnE;rw [ca,rng_ok.2 ⟨by omega,by omega⟩];rfl
  rw [e3,if_pos rfl,show ((4 - (k:Int)) % 4).toNat = (4 - k) % 4 from by omega,mvS_back (trn_back hk4)] at t2
  have hpl:=steL_len ca
  obtain ⟨p1,p2,p3⟩:=print_parse ca (by omega)
  have gP:=q_site_Print (X:=X) hI hJ (mvS (trnN k) s) (by omega)
  rw [if_pos ca,ca,steL_eq] at gP
  have gR:=q_site_Parse (X:=X) hC hSp hI hA hT (steL (mvS (trnN k) s)) (by omega)
  rw [p1,p2,p3] at gR
  have hS:=q_ref01_SameSite (X:=X) s s (by omega)
  rw [decide_eq_true ⟨rfl,rfl,rfl⟩] at hS
  refine q_gturned_core hW s (mvS (trnN k) s) R (trnR R k 8) k sec (stepOf sec) (trnN k (stepOf sec)) _ n0 n1
    sh k1 k2 lS hn hk hs hpt (q_top_galeSite s (by omega)) t1 gP gR t2 st1 st2 (q_top_galeOwn s (by omega)) hS la ?_ rfl a4 hqb lR lU r1 (trnR_blk lR (Nat.le_refl 8) sec hs8)
  intro i x hx
  show (s.tbs.map (mvT (trnN k)))[i]? = _
  rw [List.getElem?_map,hx];rfl
theorem q_top_TopGaleTurnedL (hI:ItoaX X) (hJ:JoinX X) (hC:CutX X) (hSp:SplitX X) (hA:AtoiX X) (hT:TrimX X) (hW:Q X 7 [] (.B true)) (s:Ste) (R:Rse) (l:List Int) (lR:R.length = 408) (h:l.length = 2 ∧ ∀ z ∈ l,0 ≤ z ∧ z ≤ 255):Q X 4 [encSte s,encRs R,.agg (l.flatMap fun z => [PV.s (.int .u8 z)])] (.B true):=by
  match l,h.1 with
  | [a,b],_ => exact q_top_TopGaleTurned hI hJ hC hSp hA hT hW s R a b lR ⟨h.2 a (by simp),h.2 b (by simp)⟩
end
end Go.Nac.L5
