import Derived.Test.YtclanmkmbjinaaaGreatDoorW08
set_option linter.unusedSimpArgs false
set_option linter.unusedVariables false
set_option linter.unnecessarySimpa false
set_option maxRecDepth 10000
namespace Go.Nac.L4
attribute [local congr] b1_congr b2_congr Wp_congr wpOps_congr thenK_congr blockK_congr gK_congr cK_congr
section
variable {X:XRel}
def canonR (l:List Spn):List Spn:=pickOf (wantOf [1] l [])
def joinR (a b:List Spn):List Spn:=pickOf (wantOf [1,2,3] a b)
def meetR (a b:List Spn):List Spn:=pickOf (wantOf [3] a b)
def minusR (a b:List Spn):List Spn:=pickOf (wantOf [1] a b)
theorem q_ref01_SameSpans (a b:List Spn) (hl:a.length ≤ 1048576):Q X 39 [.fs (a.map encSpn),.fs (b.map encSpn)] (.B (decide (a = b))):=by
  intro M
  (refine ACall_fn (cf:=L4.c39) rfl rfl fun hM hA => ?_;simp only [L4.c39,zO,zF,zT];rw [mk2 _ (by decide)];simp -implicitDefEqProofs (disch:=first|omega|(simp only [go_sem,seval,-List.reduceReplicate];first|done|omega)) only [go_sem,seval,-List.reduceReplicate])
  refine cK_cases ?_ ?_ <;> intro hc <;> simp only [decide_eq_true_eq,decide_eq_false_iff_not,Classical.not_not] at hc
  · simp -implicitDefEqProofs (disch:=first|omega|(simp only [go_sem,seval,-List.reduceReplicate];first|done|omega)) only [go_sem,seval,-List.reduceReplicate]
    (first|refine post_fin ret_ok hM rfl ?_ ?_|refine post_fin0 ret_ok hM rfl ?_ ?_|refine post_fin normal_ok hM rfl ?_ ?_|refine post_fin0 normal_ok hM rfl ?_ ?_)
    · simp -implicitDefEqProofs (disch:=first|omega|(simp only [go_sem,seval,-List.reduceReplicate];first|done|omega)) only [go_sem,seval,-List.reduceReplicate]
      congr 2;symm;rw [decide_eq_false_iff_not];rintro rfl;exact hc rfl
    · (simp only [go_sem,seval,-List.reduceReplicate] <;> first|done|omega)
  · simp -implicitDefEqProofs (disch:=first|omega|(simp only [go_sem,seval,-List.reduceReplicate];first|done|omega)) only [go_sem,seval,-List.reduceReplicate]
    have hc:b.length = a.length:=by omega
    refine loop_mk (α:=Nat) 0 (fun k => k ≤ a.length ∧ a.take k = b.take k) (fun k => M) (fun k => [(0,.fs (a.map encSpn)),(1,.fs (b.map encSpn)),(5,.I k)]) (fun k => a.length - k) ⟨Nat.zero_le _,rfl⟩ rfl rfl ?_
    rintro k ⟨hk,hs⟩
    by_cases hlt:k < a.length
    · obtain ⟨x,h1⟩:∃ x,a[k]? = some x:=⟨_,List.getElem?_eq_getElem hlt⟩
      obtain ⟨y,h2⟩:∃ y,b[k]? = some y:=⟨_,List.getElem?_eq_getElem (by omega)⟩
      simp -implicitDefEqProofs (disch:=first|omega|(simp only [go_sem,seval,-List.reduceReplicate,hlt,h1,h2,encSpn_cells];first|done|omega)) only [go_sem,seval,-List.reduceReplicate,hlt,h1,h2,encSpn_cells]
      refine cK_cases ?_ ?_ <;> intro he
      · simp -implicitDefEqProofs (disch:=first|omega|(simp only [go_sem,seval,-List.reduceReplicate];first|done|omega)) only [go_sem,seval,-List.reduceReplicate]
        (first|refine post_fin ret_ok hM rfl ?_ ?_|refine post_fin0 ret_ok hM rfl ?_ ?_|refine post_fin normal_ok hM rfl ?_ ?_|refine post_fin0 normal_ok hM rfl ?_ ?_)
        · simp -implicitDefEqProofs (disch:=first|omega|(simp only [go_sem,seval,-List.reduceReplicate];first|done|omega)) only [go_sem,seval,-List.reduceReplicate]
          congr 2;symm;rw [decide_eq_false_iff_not];rintro rfl
          rw [h1] at h2;cases h2;simp at he
        · (simp only [go_sem,seval,-List.reduceReplicate] <;> first|done|omega)
      · simp -implicitDefEqProofs (disch:=first|omega|(simp only [go_sem,seval,-List.reduceReplicate];first|done|omega)) only [go_sem,seval,-List.reduceReplicate]
        have hxy:x = y:=by cases x;cases y;simp at he;simp [he]
        refine again' (k + 1) ⟨by omega,?_⟩ (by omega) rfl rfl
        have g1:=take_snoc (f:=id) h1;have g2:=take_snoc (f:=id) h2
        simp only [List.map_id] at g1 g2
        rw [g1,g2,hs,hxy]
    · simp -implicitDefEqProofs (disch:=first|omega|(simp only [go_sem,seval,-List.reduceReplicate,hlt];first|done|omega)) only [go_sem,seval,-List.reduceReplicate,hlt]
      (first|refine post_fin ret_ok hM rfl ?_ ?_|refine post_fin0 ret_ok hM rfl ?_ ?_|refine post_fin normal_ok hM rfl ?_ ?_|refine post_fin0 normal_ok hM rfl ?_ ?_)
      · simp -implicitDefEqProofs (disch:=first|omega|(simp only [go_sem,seval,-List.reduceReplicate];first|done|omega)) only [go_sem,seval,-List.reduceReplicate]
        congr 2;symm;rw [decide_eq_true_eq]
        rw [List.take_of_length_le (by omega),List.take_of_length_le (by omega)] at hs;exact hs
      · (simp only [go_sem,seval,-List.reduceReplicate] <;> first|done|omega)
def zSpn:PV:=.agg [.I 0,.I 0]
theorem q_slices_Grow_nil (M:List Blk):ACall F X (.fn 152) [PV.nilS,.I 0] M PV.nilS M:=by
  (refine ACall_fn (cf:=L4.c152) rfl rfl fun hM hA => ?_;simp only [L4.c152,zO,zF,zT];rw [mk2 _ (by decide)];simp -implicitDefEqProofs (disch:=first|omega|(simp only [go_sem,seval,-List.reduceReplicate,r_capn,capnV_nil,r_appz,appzO_some,r_copy,copyO_os,copyR_all];first|done|omega)) only [go_sem,seval,-List.reduceReplicate,r_capn,capnV_nil,r_appz,appzO_some,r_copy,copyO_os,copyR_all])
  have hres:∀ N:List Blk,bodyPost M.length [(4,none)] PV.nilS M .ret (M ++ N) (mk 27 [(4,PV.nilS)]):=fun N => post_nil ret_ok hM rfl (by simp -implicitDefEqProofs (disch:=first|omega|(simp only [go_sem,seval,-List.reduceReplicate];first|done|omega)) only [go_sem,seval,-List.reduceReplicate])
  exact hres _
theorem q_slices_Grow (n:Nat) (h:1 ≤ n) (hn:n ≤ 1048576) (M:List Blk):ACall F X (.fn 152) [PV.nilS,.I n] M (.os M.length 0 0 0) (M ++ [.row true 2 0 (List.replicate n zSpn)]):=by
  refine ACall_own (cf:=c152) rfl rfl fun hM hA => ?_
  simp only [c152,zO,zF,zT]
  rw [mk2 _ (by decide)]
  have h1:¬ (n:Int) < 0:=by omega
  have h2:(0:Int) < n:=by omega
  have h3:((0:Int) ≤ 0) = True:=eq_true (by omega)
  have e1:(n:Int) - 0 = n:=by omega
  have e2:(0:Int) - 0 = 0:=by omega
  simp -implicitDefEqProofs (disch:=first|omega|(simp only [go_sem,seval,-List.reduceReplicate,r_capn,capnV_nil,r_appz,appzO_some,r_copy,copyO_os,copyR_all,h1,h2,h3,e1,e2,natZ];first|done|omega)) only [go_sem,seval,-List.reduceReplicate,r_capn,capnV_nil,r_appz,appzO_some,r_copy,copyO_os,copyR_all,h1,h2,h3,e1,e2,natZ]
  refine own_fin ret_ok hM (j:=1) rfl rfl ?_
  · rw [lowL_iff]
    intro x hx
    rw [List.eq_of_mem_replicate hx]
    unfold zSpn
    (simp only [go_sem,seval,-List.reduceReplicate] <;> first|done|omega)
theorem q_slices_Concat (a b:List Spn) (hl:a.length + b.length ≤ 1000000):Q X 106 [.fs [.fs (a.map encSpn),.fs (b.map encSpn)]] (.fs ((a ++ b).map encSpn)):=by
  intro M
  (refine ACall_fn (cf:=L4.c106) rfl rfl fun hM hA => ?_;simp only [L4.c106,zO,zF,zT];rw [mk1 _ (by decide)];simp -implicitDefEqProofs (disch:=first|omega|(simp only [go_sem,seval,-List.reduceReplicate];first|done|omega)) only [go_sem,seval,-List.reduceReplicate])
  refine loop_mk (α:=Nat) 0 (fun k => k ≤ 2) (fun _ => M) (fun k => [(0,.fs [.fs (a.map encSpn),.fs (b.map encSpn)]),(3,.I (if k = 0 then 0 else if k = 1 then a.length else a.length + b.length)),(9,.fs [.fs (a.map encSpn),.fs (b.map encSpn)]),(10,.I 2),(11,.I k)]) (fun k => 2 - k) (by omega) rfl rfl ?_
  intro k hk
  rcases (by omega:k = 0 ∨ k = 1 ∨ k = 2) with rfl|rfl|rfl
  · have f1:¬ (a.length:Int) < 0:=by omega
    simp -implicitDefEqProofs (disch:=first|omega|(simp only [go_sem,seval,-List.reduceReplicate,f1];first|done|omega)) only [go_sem,seval,-List.reduceReplicate,f1]
    exact again' (α:=Nat) 1 (by decide) (by decide) rfl rfl
  · have f1:¬ (a.length:Int) + (b.length:Int) < 0:=by omega
    simp -implicitDefEqProofs (disch:=first|omega|(simp only [go_sem,seval,-List.reduceReplicate,f1];first|done|omega)) only [go_sem,seval,-List.reduceReplicate,f1]
    exact again' (α:=Nat) 2 (by decide) (by decide) rfl rfl
  · simp -implicitDefEqProofs (disch:=first|omega|(simp only [go_sem,seval,-List.reduceReplicate,Int.lt_irrefl];first|done|omega)) only [go_sem,seval,-List.reduceReplicate,Int.lt_irrefl]
    rcases (by omega:a.length + b.length = 0 ∨ 1 ≤ a.length + b.length) with h0|h0
    · have ha:a = []:=List.eq_nil_of_length_eq_zero (by omega)
      have hb:b = []:=List.eq_nil_of_length_eq_zero (by omega)
      subst ha;subst hb
      simp -implicitDefEqProofs (disch:=first|omega|(simp only [go_sem,seval,-List.reduceReplicate];first|done|omega)) only [go_sem,seval,-List.reduceReplicate]
      refine callP_q (q_slices_Grow_nil M) ?_
      simp -implicitDefEqProofs (disch:=first|omega|(simp only [go_sem,seval,-List.reduceReplicate];first|done|omega)) only [go_sem,seval,-List.reduceReplicate]
      refine loop_mk (α:=Nat) 0 (fun k => k ≤ 2) (fun k => if k = 0 then M else M ++ [.row true 2 (k - 1) []]) (fun k => [(6,if k = 0 then PV.nilS else .os M.length (k - 1) 0 0),(25,.fs [.fs [],.fs []]),(26,.I 2),(27,.I k)]) (fun k => 2 - k) (by omega) rfl rfl ?_
      intro k hk
      rcases (by omega:k = 0 ∨ k = 1 ∨ k = 2) with rfl|rfl|rfl
      · simp -implicitDefEqProofs (disch:=first|omega|(simp only [go_sem,seval,-List.reduceReplicate,appO_nil0];first|done|omega)) only [go_sem,seval,-List.reduceReplicate,appO_nil0]
        exact again' (α:=Nat) 1 (by decide) (by decide) rfl rfl
      · simp -implicitDefEqProofs (disch:=first|omega|(simp only [go_sem,seval,-List.reduceReplicate,appR_nil0];first|done|omega)) only [go_sem,seval,-List.reduceReplicate,appR_nil0]
        exact again' (α:=Nat) 2 (by decide) (by decide) rfl rfl
      · simp -implicitDefEqProofs (disch:=first|omega|(simp only [go_sem,seval,-List.reduceReplicate];first|done|omega)) only [go_sem,seval,-List.reduceReplicate]
        (first|refine post_fin ret_ok hM rfl ?_ ?_|refine post_fin0 ret_ok hM rfl ?_ ?_|refine post_fin normal_ok hM rfl ?_ ?_|refine post_fin0 normal_ok hM rfl ?_ ?_)
        · simp -implicitDefEqProofs (disch:=first|omega|(simp only [go_sem,seval,-List.reduceReplicate];first|done|omega)) only [go_sem,seval,-List.reduceReplicate]
        · (simp only [go_sem,seval,-List.reduceReplicate] <;> first|done|omega)
    · have e1:(a.length:Int) + (b.length:Int) = ((a.length + b.length:Nat):Int):=by omega
      rw [e1]
      refine callP_l (q_slices_Grow _ h0 (by omega) M) ?_
      have oka:=encSpn_ok a
      have okb:=encSpn_ok b
      simp -implicitDefEqProofs (disch:=first|omega|(simp only [go_sem,seval,-List.reduceReplicate];first|done|omega)) only [go_sem,seval,-List.reduceReplicate]
      refine loop_mk (α:=Nat) 0 (fun k => k ≤ 2) (fun k => M ++ [.row true 2 k (if k = 0 then List.replicate (a.length + b.length) zSpn else if k = 1 then a.map encSpn else a.map encSpn ++ b.map encSpn)]) (fun k => [(6,.os M.length k 0 (if k = 0 then 0 else if k = 1 then a.length else a.length + b.length)),(25,.fs [.fs (a.map encSpn),.fs (b.map encSpn)]),(26,.I 2),(27,.I k)]) (fun k => 2 - k) (by omega) rfl rfl ?_
      intro k hk
      rcases (by omega:k = 0 ∨ k = 1 ∨ k = 2) with rfl|rfl|rfl
      · have hc:=appR_cut (M:=M ++ [.row true 2 0 (List.replicate (a.length + b.length) zSpn)]) (k:=2) (bytes:=16) (i:=M.length) (ver:=0) (len:=0) (xs:=List.replicate (a.length + b.length) zSpn) (ys:=a.map encSpn) (by omega) oka (by omega) (by omega) (by simp;omega)
        simp only [List.take_zero,List.nil_append,List.length_map,Nat.zero_add] at hc
        simp -implicitDefEqProofs (disch:=first|omega|(simp only [go_sem,seval,-List.reduceReplicate,hc];first|done|omega)) only [go_sem,seval,-List.reduceReplicate,hc]
        refine again' (α:=Nat) 1 ?_ ?_ ?_ ?_
        · decide
        · decide
        · rfl
        · rfl
      · simp -implicitDefEqProofs (disch:=first|omega|(simp only [go_sem,seval,-List.reduceReplicate,oka,okb];first|done|omega)) only [go_sem,seval,-List.reduceReplicate,oka,okb]
        refine again' (α:=Nat) 2 ?_ ?_ ?_ ?_
        · decide
        · decide
        · rfl
        · rfl
      · simp -implicitDefEqProofs (disch:=first|omega|(simp only [go_sem,seval,-List.reduceReplicate,oka,okb];first|done|omega)) only [go_sem,seval,-List.reduceReplicate,oka,okb]
        (first|refine post_fin ret_ok hM rfl ?_ ?_|refine post_fin0 ret_ok hM rfl ?_ ?_|refine post_fin normal_ok hM rfl ?_ ?_|refine post_fin0 normal_ok hM rfl ?_ ?_)
        · simp -implicitDefEqProofs (disch:=first|omega|(simp only [go_sem,seval,-List.reduceReplicate];first|done|omega)) only [go_sem,seval,-List.reduceReplicate]
          simp
        · (simp only [go_sem,seval,-List.reduceReplicate,encSpn_low] <;> first|done|omega)
theorem q_site_mapped_Span {g:FuncId} {f:Spn → Int} (l:List Spn) (hl:l.length ≤ 1000000) (hg:∀ x,Q X g [encSpn x] (.I (f x))):Q X 100 [.fs (l.map encSpn),.fn (.func g) [] []] (.fs ((l.map f).map .I)):=by
  intro M
  (refine ACall_fn (cf:=L4.c100) rfl rfl fun hM hA => ?_;simp only [L4.c100,zO,zF,zT];rw [mk2 _ (by decide)];simp -implicitDefEqProofs (disch:=first|omega|(simp only [go_sem,seval,-List.reduceReplicate];first|done|omega)) only [go_sem,seval,-List.reduceReplicate])
  refine loop_mk (α:=Nat) 0 (fun k => k ≤ l.length) (fun k => M ++ [.row true 1 k (((l.take k).map f).map .I)])
    (fun k => [(1,.fn (.func g) [] []),(5,.os M.length k 0 k),(8,.fs (l.map encSpn)),(9,.I l.length),(10,.I k)]) (fun k => l.length - k) (Nat.zero_le _) rfl rfl ?_
  intro k hk
  by_cases hlt:k < l.length
  · obtain ⟨x,h1⟩:∃ x,l[k]? = some x:=⟨_,List.getElem?_eq_getElem hlt⟩
    have h2:k = ((l.take k).map f).length:=by simp;omega
    simp -implicitDefEqProofs (disch:=first|omega|(simp only [go_sem,seval,-List.reduceReplicate,hlt,h1,encSpn_cells];first|done|omega)) only [go_sem,seval,-List.reduceReplicate,hlt,h1,encSpn_cells]
    refine callP_l (hg x _) ?_
    simp -implicitDefEqProofs (disch:=first|omega|(simp only [go_sem,seval,-List.reduceReplicate,encSpn_cells];first|done|omega)) only [go_sem,seval,-List.reduceReplicate,encSpn_cells]
    refine Wp_cut_at hM rfl 1 (by simp) (by first|done|(simp only [go_sem,seval,-List.reduceReplicate,encI_low,encSpn_low] <;> first|done|(refine ⟨?_,?_⟩ <;> omega)|omega)) (lowL_mk (by first|done|(simp only [go_sem,seval,-List.reduceReplicate,encI_low,encSpn_low] <;> first|done|(refine ⟨?_,?_⟩ <;> omega)|omega))) ?_
    simp -implicitDefEqProofs (disch:=first|omega|(simp only [go_sem,seval,-List.reduceReplicate];first|done|omega)) only [go_sem,seval,-List.reduceReplicate]
    refine again' (k + 1) (by omega) (by omega) ?_ rfl
    have h3:=take_snoc (f:=fun x => PV.I (f x)) h1
    rw [h3]
  · simp -implicitDefEqProofs (disch:=first|omega|(simp only [go_sem,seval,-List.reduceReplicate,hlt];first|done|omega)) only [go_sem,seval,-List.reduceReplicate,hlt]
    (first|refine post_fin ret_ok hM rfl ?_ ?_|refine post_fin0 ret_ok hM rfl ?_ ?_|refine post_fin normal_ok hM rfl ?_ ?_|refine post_fin0 normal_ok hM rfl ?_ ?_)
    · simp -implicitDefEqProofs (disch:=first|omega|(simp only [go_sem,seval,-List.reduceReplicate];first|done|omega)) only [go_sem,seval,-List.reduceReplicate]
      rw [List.take_of_length_le (by omega)]
    · (simp only [go_sem,seval,-List.reduceReplicate,encI_low] <;> first|done|omega)
def chkAny (l:List Spn):Int:=if 1024 < l.length then 5 else fst0 (l.map chkSpn)
theorem q_site_Canon (hS:SortX X) (l:List Spn) (hl:l.length ≤ 1000000):Q X 19 [.fs (l.map encSpn)] (.tup [.fs ((if chkAny l = 0 then canonOf l else []).map encSpn),.I (chkAny l)]):=by
  intro M
  (refine ACall_fn (cf:=L4.c19) rfl rfl fun hM hA => ?_;simp only [L4.c19,zO,zF,zT];rw [mk1 _ (by decide)];simp -implicitDefEqProofs (disch:=first|omega|(simp only [go_sem,seval,-List.reduceReplicate];first|done|omega)) only [go_sem,seval,-List.reduceReplicate])
  by_cases h1:1024 < l.length
  · have f1:((1024:Int) < l.length) = True:=eq_true (by omega)
    have e:chkAny l = 5:=if_pos h1
    have e5:(if (5:Int) = 0 then canonOf l else []) = []:=if_neg (by decide)
    rw [e,e5]
    simp -implicitDefEqProofs (disch:=first|omega|(simp only [go_sem,seval,-List.reduceReplicate,f1];first|done|omega)) only [go_sem,seval,-List.reduceReplicate,f1]
    (all_goals (first|refine post_fin ret_ok hM rfl ?_ ?_|refine post_fin0 ret_ok hM rfl ?_ ?_|refine post_fin normal_ok hM rfl ?_ ?_|refine post_fin0 normal_ok hM rfl ?_ ?_);all_goals first|(simp only [go_sem,seval,-List.reduceReplicate] <;> first|done|omega)|skip;all_goals (try simp -implicitDefEqProofs (disch:=first|omega|(simp only [go_sem,seval,-List.reduceReplicate];first|done|omega)) only [go_sem,seval,-List.reduceReplicate]))
  · have f1:((1024:Int) < l.length) = False:=eq_false (by omega)
    have e:chkAny l = fst0 (l.map chkSpn):=if_neg h1
    rw [e]
    simp -implicitDefEqProofs (disch:=first|omega|(simp only [go_sem,seval,-List.reduceReplicate,f1];first|done|omega)) only [go_sem,seval,-List.reduceReplicate,f1]
    refine callP_q (q_site_mapped_Span l hl (fun x => q_site_CheckSpan x) _) ?_
    simp -implicitDefEqProofs (disch:=first|omega|(simp only [go_sem,seval,-List.reduceReplicate];first|done|omega)) only [go_sem,seval,-List.reduceReplicate]
    have hq:=q_site_first (X:=X) (l.map chkSpn) (by rw [List.length_map];omega) M
    rw [List.map_map] at hq
    refine callP_q hq ?_
    generalize fst0 (l.map chkSpn) = e
    simp -implicitDefEqProofs (disch:=first|omega|(simp only [go_sem,seval,-List.reduceReplicate];first|done|omega)) only [go_sem,seval,-List.reduceReplicate]
    by_cases hc:e = 0
    · subst hc
      simp -implicitDefEqProofs (disch:=first|omega|(simp only [go_sem,seval,-List.reduceReplicate];first|done|omega)) only [go_sem,seval,-List.reduceReplicate]
      refine callP_q (q_site_canon hS l hl _) ?_
      simp -implicitDefEqProofs (disch:=first|omega|(simp only [go_sem,seval,-List.reduceReplicate];first|done|omega)) only [go_sem,seval,-List.reduceReplicate]
      (all_goals (first|refine post_fin ret_ok hM rfl ?_ ?_|refine post_fin0 ret_ok hM rfl ?_ ?_|refine post_fin normal_ok hM rfl ?_ ?_|refine post_fin0 normal_ok hM rfl ?_ ?_);all_goals first|(simp only [go_sem,seval,-List.reduceReplicate,encSpn_low] <;> first|done|omega)|skip;all_goals (try simp -implicitDefEqProofs (disch:=first|omega|(simp only [go_sem,seval,-List.reduceReplicate];first|done|omega)) only [go_sem,seval,-List.reduceReplicate]))
    · rw [if_neg hc]
      simp -implicitDefEqProofs (disch:=first|omega|(simp only [go_sem,seval,-List.reduceReplicate,hc];first|done|omega)) only [go_sem,seval,-List.reduceReplicate,hc]
      (all_goals (first|refine post_fin ret_ok hM rfl ?_ ?_|refine post_fin0 ret_ok hM rfl ?_ ?_|refine post_fin normal_ok hM rfl ?_ ?_|refine post_fin0 normal_ok hM rfl ?_ ?_);all_goals first|(simp only [go_sem,seval,-List.reduceReplicate] <;> first|done|omega)|skip;all_goals (try simp -implicitDefEqProofs (disch:=first|omega|(simp only [go_sem,seval,-List.reduceReplicate];first|done|omega)) only [go_sem,seval,-List.reduceReplicate]))
theorem q_site_Total (l:List Spn) (hl:l.length ≤ 1048576):Q X 21 [.fs (l.map encSpn)] (.tup [.I (if chkSpns l = 0 then totOf l else 0),.I (chkSpns l)]):=by
  intro M
  (refine ACall_fn (cf:=L4.c21) rfl rfl fun hM hA => ?_;simp only [L4.c21,zO,zF,zT];rw [mk1 _ (by decide)];simp -implicitDefEqProofs (disch:=first|omega|(simp only [go_sem,seval];first|done|omega)) only [go_sem,seval])
  refine callP_q (q_site_CheckSpans l hl _) ?_
  simp -implicitDefEqProofs (disch:=first|omega|(simp only [go_sem,seval];first|done|omega)) only [go_sem,seval]
  by_cases hc:chkSpns l = 0
  · rw [if_pos hc,hc]
    obtain ⟨hin,hlen⟩:=chkSpns_in hc
    simp -implicitDefEqProofs (disch:=first|omega|(simp only [go_sem,seval,hc];first|done|omega)) only [go_sem,seval,hc]
    refine loop_mk (α:=Nat) 0 (fun k => k ≤ l.length) (fun k => M) (fun k => [(5,.I (totOf (l.take k))),(13,.fs (l.map encSpn)),(14,.I l.length),(15,.I k)]) (fun k => l.length - k) (Nat.zero_le _) rfl rfl ?_
    intro k hk
    by_cases hlt:k < l.length
    · obtain ⟨x,h1⟩:∃ x,l[k]? = some x:=⟨_,List.getElem?_eq_getElem hlt⟩
      have h2:=totOf_snoc h1
      have h3:=hin x (List.mem_of_getElem? h1)
      have h4:=totOf_bd hk hin
      simp -implicitDefEqProofs (disch:=first|omega|(simp only [go_sem,seval,hlt,h1,encSpn_cells,encSpn_eq];first|done|omega)) only [go_sem,seval,hlt,h1,encSpn_cells,encSpn_eq]
      refine Wp_cut_at hM rfl 0 (by simp) (by first|done|(simp only [go_sem,seval,encSpn_low] <;> first|done|(refine ⟨?_,?_⟩ <;> omega)|omega)) (lowL_mk (by first|done|(simp only [go_sem,seval,encSpn_low] <;> first|done|(refine ⟨?_,?_⟩ <;> omega)|omega))) ?_
      simp -implicitDefEqProofs (disch:=first|omega|(simp only [go_sem,seval];first|done|omega)) only [go_sem,seval]
      exact again' (k + 1) (by omega) (by omega) rfl (by rw [h2];rfl)
    · simp -implicitDefEqProofs (disch:=first|omega|(simp only [go_sem,seval,hlt];first|done|omega)) only [go_sem,seval,hlt]
      (first|refine post_fin ret_ok hM rfl ?_ ?_|refine post_fin0 ret_ok hM rfl ?_ ?_|refine post_fin normal_ok hM rfl ?_ ?_|refine post_fin0 normal_ok hM rfl ?_ ?_)
      · simp -implicitDefEqProofs (disch:=first|omega|(simp only [go_sem,seval];first|done|omega)) only [go_sem,seval]
        rw [List.take_of_length_le (by omega)]
      · (simp only [go_sem,seval] <;> first|done|omega)
  · rw [if_neg hc]
    simp -implicitDefEqProofs (disch:=first|omega|(simp only [go_sem,seval,hc];first|done|omega)) only [go_sem,seval,hc]
    (all_goals (first|refine post_fin ret_ok hM rfl ?_ ?_|refine post_fin0 ret_ok hM rfl ?_ ?_|refine post_fin normal_ok hM rfl ?_ ?_|refine post_fin0 normal_ok hM rfl ?_ ?_);all_goals first|(simp only [go_sem,seval] <;> first|done|omega)|skip;all_goals (try simp -implicitDefEqProofs (disch:=first|omega|(simp only [go_sem,seval];first|done|omega)) only [go_sem,seval]))
theorem q_site_others (l:List Spn) (hin:spOk l) (hl:l.length ≤ 1000000):Q X 109 [.fs (l.map encSpn)] (.fs ((othersOf l).map encSpn)):=by
  intro M
  (refine ACall_fn (cf:=L4.c109) rfl rfl fun hM hA => ?_;simp only [L4.c109,zO,zF,zT];rw [mk1 _ (by decide)];simp -implicitDefEqProofs (disch:=first|omega|(simp only [go_sem,seval];first|done|omega)) only [go_sem,seval])
  refine loop_mk (α:=Nat) 0 (fun k => k ≤ l.length) (fun k => M ++ [.row true 2 (othTo (l.take k)).1.length ((othTo (l.take k)).1.map encSpn)])
    (fun k => [(3,.os M.length (othTo (l.take k)).1.length 0 (othTo (l.take k)).1.length),(4,.I (othTo (l.take k)).2),(7,.fs (l.map encSpn)),(8,.I l.length),(9,.I k)]) (fun k => l.length - k) (Nat.zero_le _) rfl rfl ?_
  intro k hk
  by_cases hlt:k < l.length
  · obtain ⟨x,h1⟩:∃ x,l[k]? = some x:=⟨_,List.getElem?_eq_getElem hlt⟩
    have h2:=othTo_snoc h1
    have h3:=hin x (List.mem_of_getElem? h1)
    have h4:=othTo_last hk hin
    have h5:=othTo_len (l.take k)
    have h6:(l.take k).length = k:=by simp;omega
    have again:∀ s:List Spn × Int,othTo (l.take (k + 1)) = s → Again 35 (fun k => k ≤ l.length) (fun k => M ++ [.row true 2 (othTo (l.take k)).1.length ((othTo (l.take k)).1.map encSpn)])
      (fun k => [(3,.os M.length (othTo (l.take k)).1.length 0 (othTo (l.take k)).1.length),(4,.I (othTo (l.take k)).2),(7,.fs (l.map encSpn)),(8,.I l.length),(9,.I k)]) (fun k => l.length - k) k
      (M ++ [.row true 2 s.1.length (s.1.map encSpn)]) (mk 35 [(3,.os M.length s.1.length 0 s.1.length),(4,.I s.2),(7,.fs (l.map encSpn)),(8,.I l.length),(9,.I (k + 1))]):=by
      rintro s rfl
      exact again' (k + 1) (by omega) (by omega) rfl rfl
    rw [h2] at again
    generalize othTo (l.take k) = st at h4 h5 again ⊢
    obtain ⟨o,last⟩:=st
    simp only at h4 h5 again ⊢
    simp -implicitDefEqProofs (disch:=first|omega|(simp only [go_sem,seval,hlt,h1,encSpn_cells];first|done|omega)) only [go_sem,seval,hlt,h1,encSpn_cells]
    unfold othStep at again
    simp only at again
    by_cases hc:last < x.fr
    · rw [if_pos hc] at again
      simp -implicitDefEqProofs (disch:=first|omega|(simp only [go_sem,seval,hc,encSpn_eq];first|done|omega)) only [go_sem,seval,hc,encSpn_eq]
      refine Wp_cut_at hM rfl 1 (by simp) (by first|done|(simp only [go_sem,seval,encSpn_low] <;> first|done|(refine ⟨?_,?_⟩ <;> omega)|omega)) (lowL_mk (by first|done|(simp only [go_sem,seval,encSpn_low] <;> first|done|(refine ⟨?_,?_⟩ <;> omega)|omega))) ?_
      simp -implicitDefEqProofs (disch:=first|omega|(simp only [go_sem,seval];first|done|omega)) only [go_sem,seval]
      simpa [encSpn] using again _ rfl
    · rw [if_neg hc] at again
      simp -implicitDefEqProofs (disch:=first|omega|(simp only [go_sem,seval,hc,encSpn_eq];first|done|omega)) only [go_sem,seval,hc,encSpn_eq]
      refine Wp_cut_at hM rfl 1 (by simp) (by first|done|(simp only [go_sem,seval,encSpn_low] <;> first|done|(refine ⟨?_,?_⟩ <;> omega)|omega)) (lowL_mk (by first|done|(simp only [go_sem,seval,encSpn_low] <;> first|done|(refine ⟨?_,?_⟩ <;> omega)|omega))) ?_
      simp -implicitDefEqProofs (disch:=first|omega|(simp only [go_sem,seval];first|done|omega)) only [go_sem,seval]
      exact again _ rfl
  · simp -implicitDefEqProofs (disch:=first|omega|(simp only [go_sem,seval,hlt];first|done|omega)) only [go_sem,seval,hlt]
    rw [List.take_of_length_le (by omega)]
    unfold othersOf
    have h5:=othTo_len l
    generalize othTo l = st at h5 ⊢
    obtain ⟨o,last⟩:=st
    simp only at h5 ⊢
    by_cases hc:last < 40000
    · rw [if_pos hc]
      simp -implicitDefEqProofs (disch:=first|omega|(simp only [go_sem,seval,hc,encSpn_eq];first|done|omega)) only [go_sem,seval,hc,encSpn_eq]
      (first|refine post_fin ret_ok hM rfl ?_ ?_|refine post_fin0 ret_ok hM rfl ?_ ?_|refine post_fin normal_ok hM rfl ?_ ?_|refine post_fin0 normal_ok hM rfl ?_ ?_)
      · simp -implicitDefEqProofs (disch:=first|omega|(simp only [go_sem,seval];first|done|omega)) only [go_sem,seval]
        simp [encSpn]
      · (simp only [go_sem,seval,encSpn_low] <;> first|done|omega)
    · rw [if_neg hc]
      simp -implicitDefEqProofs (disch:=first|omega|(simp only [go_sem,seval,hc,encSpn_eq];first|done|omega)) only [go_sem,seval,hc,encSpn_eq]
      (first|refine post_fin ret_ok hM rfl ?_ ?_|refine post_fin0 ret_ok hM rfl ?_ ?_|refine post_fin normal_ok hM rfl ?_ ?_|refine post_fin0 normal_ok hM rfl ?_ ?_)
      · simp -implicitDefEqProofs (disch:=first|omega|(simp only [go_sem,seval];first|done|omega)) only [go_sem,seval]
      · (simp only [go_sem,seval,encSpn_low] <;> first|done|omega)
theorem q_site_meet (a b:List Spn) (ha:spOk a) (hb:spOk b) (hl:a.length + b.length ≤ 1000000):Q X 107 [.fs (a.map encSpn),.fs (b.map encSpn)] (.fs ((meetOf a b).map encSpn)):=by
  intro M
  (refine ACall_fn (cf:=L4.c107) rfl rfl fun hM hA => ?_;simp only [L4.c107,zO,zF,zT];rw [mk2 _ (by decide)];simp -implicitDefEqProofs (disch:=first|omega|(simp only [go_sem,seval];first|done|omega)) only [go_sem,seval])
  refine loop_mk (α:=List Spn × List Spn × List Spn) ([],a,b) (fun s => s.1.length + (s.2.1.length + s.2.2.length) ≤ a.length + b.length ∧ spOk s.2.1 ∧ spOk s.2.2 ∧ meetOf a b = s.1 ++ meetOf s.2.1 s.2.2)
    (fun s => M ++ [.row true 2 s.1.length (s.1.map encSpn)])
    (fun s => [(0,.fs (s.2.1.map encSpn)),(1,.fs (s.2.2.map encSpn)),(5,.os M.length s.1.length 0 s.1.length)]) (fun s => s.2.1.length + s.2.2.length) ⟨by simp,ha,hb,rfl⟩ rfl rfl ?_
  rintro ⟨o,x,y⟩ ⟨h1,h2,h3,h4⟩
  simp only at h1 h2 h3 h4 ⊢
  rcases x with _|⟨u,x⟩
  · simp -implicitDefEqProofs (disch:=first|omega|(simp only [go_sem,seval];first|done|omega)) only [go_sem,seval]
    (first|refine post_fin ret_ok hM rfl ?_ ?_|refine post_fin0 ret_ok hM rfl ?_ ?_|refine post_fin normal_ok hM rfl ?_ ?_|refine post_fin0 normal_ok hM rfl ?_ ?_)
    · simp -implicitDefEqProofs (disch:=first|omega|(simp only [go_sem,seval];first|done|omega)) only [go_sem,seval]
      rw [h4,meetOf_nilL,List.append_nil]
    · (simp only [go_sem,seval,encSpn_low] <;> first|done|omega)
  · rcases y with _|⟨w,y⟩
    · have f0:((0:Int) < ((x.length + 1:Nat):Int)) = True:=eq_true (by omega)
      simp -implicitDefEqProofs (disch:=first|omega|(simp only [go_sem,seval,f0];first|done|omega)) only [go_sem,seval,f0]
      (first|refine post_fin ret_ok hM rfl ?_ ?_|refine post_fin0 ret_ok hM rfl ?_ ?_|refine post_fin normal_ok hM rfl ?_ ?_|refine post_fin0 normal_ok hM rfl ?_ ?_)
      · simp -implicitDefEqProofs (disch:=first|omega|(simp only [go_sem,seval];first|done|omega)) only [go_sem,seval]
        rw [h4,meetOf_nilR,List.append_nil]
      · (simp only [go_sem,seval,encSpn_low] <;> first|done|omega)
    · rw [meetOf_cons] at h4
      have b1:=h2 u (by simp)
      have b2:=h3 w (by simp)
      simp only [List.length_cons] at h1
      have f0:((0:Int) < ((x.length + 1:Nat):Int)) = True:=eq_true (by omega)
      have f1:((0:Int) < ((y.length + 1:Nat):Int)) = True:=eq_true (by omega)
      simp -implicitDefEqProofs (disch:=first|omega|(simp only [go_sem,seval,f0,f1,encSpn_eq];first|done|omega)) only [go_sem,seval,f0,f1,encSpn_eq]
      refine ⟨by simp [pairsOk,okPair,apartL,refs,refs1],?_⟩
      have s1:sized 2 (PV.agg [PV.I u.fr,PV.I u.to_] :: List.map encSpn x) = true:=encSpn_sized (u :: x)
      have s2:sized 2 (PV.agg [PV.I w.fr,PV.I w.to_] :: List.map encSpn y) = true:=encSpn_sized (w :: y)
      have t1:(List.map encSpn x).take x.length = List.map encSpn x:=List.take_of_length_le (by simp)
      have t2:(List.map encSpn y).take y.length = List.map encSpn y:=List.take_of_length_le (by simp)
      by_cases hc:max u.fr w.fr < min u.to_ w.to_
      · rw [if_pos hc] at h4
        simp -implicitDefEqProofs (disch:=first|omega|(simp only [go_sem,seval,hc,encSpn_eq,f0,f1];first|done|omega)) only [go_sem,seval,hc,encSpn_eq,f0,f1]
        by_cases hd:u.to_ < w.to_
        · rw [if_pos hd] at h4
          simp -implicitDefEqProofs (disch:=first|omega|(simp only [go_sem,seval,hd,encSpn_eq,f0,f1,s1,s2,List.drop_succ_cons,List.drop_zero,List.length_cons,t1,t2];first|done|omega)) only [go_sem,seval,hd,encSpn_eq,f0,f1,s1,s2,List.drop_succ_cons,List.drop_zero,List.length_cons,t1,t2]
          refine Wp_cut_at hM rfl 1 (by simp) (by first|done|(simp only [go_sem,seval,encSpn_low] <;> first|done|(refine ⟨?_,?_⟩ <;> omega)|omega)) (lowL_mk (by first|done|(simp only [go_sem,seval,encSpn_low] <;> first|done|(refine ⟨?_,?_⟩ <;> omega)|omega))) ?_
          simp -implicitDefEqProofs (disch:=first|omega|(simp only [go_sem,seval];first|done|omega)) only [go_sem,seval]
          refine again' (α:=List Spn × List Spn × List Spn) (o ++ [⟨max u.fr w.fr,min u.to_ w.to_⟩],x,w :: y) ⟨by simp;omega,fun z hz => h2 z (List.mem_cons_of_mem _ hz),h3,by rw [h4];simp⟩ (by simp;try omega) ?_ ?_
          · simp [encSpn]
          · simp [encSpn]
        · rw [if_neg hd] at h4
          simp -implicitDefEqProofs (disch:=first|omega|(simp only [go_sem,seval,hd,encSpn_eq,f0,f1,s1,s2,List.drop_succ_cons,List.drop_zero,List.length_cons,t1,t2];first|done|omega)) only [go_sem,seval,hd,encSpn_eq,f0,f1,s1,s2,List.drop_succ_cons,List.drop_zero,List.length_cons,t1,t2]
          refine Wp_cut_at hM rfl 1 (by simp) (by first|done|(simp only [go_sem,seval,encSpn_low] <;> first|done|(refine ⟨?_,?_⟩ <;> omega)|omega)) (lowL_mk (by first|done|(simp only [go_sem,seval,encSpn_low] <;> first|done|(refine ⟨?_,?_⟩ <;> omega)|omega))) ?_
          simp -implicitDefEqProofs (disch:=first|omega|(simp only [go_sem,seval];first|done|omega)) only [go_sem,seval]
          refine again' (α:=List Spn × List Spn × List Spn) (o ++ [⟨max u.fr w.fr,min u.to_ w.to_⟩],u :: x,y) ⟨by simp;omega,h2,fun z hz => h3 z (List.mem_cons_of_mem _ hz),by rw [h4];simp⟩ (by simp;try omega) ?_ ?_
          · simp [encSpn]
          · simp [encSpn]
      · rw [if_neg hc] at h4
        simp -implicitDefEqProofs (disch:=first|omega|(simp only [go_sem,seval,hc,encSpn_eq,f0,f1];first|done|omega)) only [go_sem,seval,hc,encSpn_eq,f0,f1]
        by_cases hd:u.to_ < w.to_
        · rw [if_pos hd] at h4
          simp -implicitDefEqProofs (disch:=first|omega|(simp only [go_sem,seval,hd,encSpn_eq,f0,f1,s1,s2,List.drop_succ_cons,List.drop_zero,List.length_cons,t1,t2];first|done|omega)) only [go_sem,seval,hd,encSpn_eq,f0,f1,s1,s2,List.drop_succ_cons,List.drop_zero,List.length_cons,t1,t2]
          refine Wp_cut_at hM rfl 1 (by simp) (by first|done|(simp only [go_sem,seval,encSpn_low] <;> first|done|(refine ⟨?_,?_⟩ <;> omega)|omega)) (lowL_mk (by first|done|(simp only [go_sem,seval,encSpn_low] <;> first|done|(refine ⟨?_,?_⟩ <;> omega)|omega))) ?_
          simp -implicitDefEqProofs (disch:=first|omega|(simp only [go_sem,seval];first|done|omega)) only [go_sem,seval]
          refine again' (α:=List Spn × List Spn × List Spn) (o,x,w :: y) ⟨by simp;omega,fun z hz => h2 z (List.mem_cons_of_mem _ hz),h3,by rw [h4];simp⟩ (by simp;try omega) ?_ ?_
          · simp [encSpn]
          · simp [encSpn]
        · rw [if_neg hd] at h4
          simp -implicitDefEqProofs (disch:=first|omega|(simp only [go_sem,seval,hd,encSpn_eq,f0,f1,s1,s2,List.drop_succ_cons,List.drop_zero,List.length_cons,t1,t2];first|done|omega)) only [go_sem,seval,hd,encSpn_eq,f0,f1,s1,s2,List.drop_succ_cons,List.drop_zero,List.length_cons,t1,t2]
          refine Wp_cut_at hM rfl 1 (by simp) (by first|done|(simp only [go_sem,seval,encSpn_low] <;> first|done|(refine ⟨?_,?_⟩ <;> omega)|omega)) (lowL_mk (by first|done|(simp only [go_sem,seval,encSpn_low] <;> first|done|(refine ⟨?_,?_⟩ <;> omega)|omega))) ?_
          simp -implicitDefEqProofs (disch:=first|omega|(simp only [go_sem,seval];first|done|omega)) only [go_sem,seval]
          refine again' (α:=List Spn × List Spn × List Spn) (o,u :: x,y) ⟨by simp;omega,h2,fun z hz => h3 z (List.mem_cons_of_mem _ hz),by rw [h4];simp⟩ (by simp;try omega) ?_ ?_
          · simp [encSpn]
          · simp [encSpn]
theorem q_site_both {g:FuncId} {f:List Spn → List Spn → List Spn} (a b:List Spn) (ha:a.length ≤ 1048576) (hb:b.length ≤ 1048576)
    (hg:fst0 [chkSpns a,chkSpns b] = 0 → Q X g [.fs (a.map encSpn),.fs (b.map encSpn)] (.fs ((f a b).map encSpn)) ∧ (f a b).length ≤ 1000000) :
    Q X 104 [.fs (a.map encSpn),.fs (b.map encSpn),.fn (.func g) [] []] (.tup [.fs ((bothOf f a b).1.map encSpn),.I (bothOf f a b).2]):=by
  intro M
  (refine ACall_fn (cf:=L4.c104) rfl rfl fun hM hA => ?_;simp only [L4.c104,zO,zF,zT];rw [mk3 _ (by decide)];simp -implicitDefEqProofs (disch:=first|omega|(simp only [go_sem,seval];first|done|omega)) only [go_sem,seval])
  refine callP_q (q_site_CheckSpans a ha _) ?_
  simp -implicitDefEqProofs (disch:=first|omega|(simp only [go_sem,seval];first|done|omega)) only [go_sem,seval]
  refine callP_q (q_site_CheckSpans b hb _) ?_
  simp -implicitDefEqProofs (disch:=first|omega|(simp only [go_sem,seval];first|done|omega)) only [go_sem,seval]
  have hq:=q_site_first (X:=X) [chkSpns a,chkSpns b] (by simp) M
  refine callP_q hq ?_
  unfold bothOf
  generalize fst0 [chkSpns a,chkSpns b] = e at hg
  by_cases hc:e = 0
  · obtain ⟨h1,h2⟩:=hg hc
    subst hc
    rw [if_pos rfl]
    simp -implicitDefEqProofs (disch:=first|omega|(simp only [go_sem,seval];first|done|omega)) only [go_sem,seval]
    refine callP_q (h1 _) ?_
    simp -implicitDefEqProofs (disch:=first|omega|(simp only [go_sem,seval];first|done|omega)) only [go_sem,seval]
    by_cases h3:1024 < (f a b).length
    · have f1:((1024:Int) < (f a b).length) = True:=eq_true (by omega)
      rw [if_pos h3]
      simp -implicitDefEqProofs (disch:=first|omega|(simp only [go_sem,seval,f1];first|done|omega)) only [go_sem,seval,f1]
      (all_goals (first|refine post_fin ret_ok hM rfl ?_ ?_|refine post_fin0 ret_ok hM rfl ?_ ?_|refine post_fin normal_ok hM rfl ?_ ?_|refine post_fin0 normal_ok hM rfl ?_ ?_);all_goals first|(simp only [go_sem,seval] <;> first|done|omega)|skip;all_goals (try simp -implicitDefEqProofs (disch:=first|omega|(simp only [go_sem,seval];first|done|omega)) only [go_sem,seval]))
    · have f1:((1024:Int) < (f a b).length) = False:=eq_false (by omega)
      rw [if_neg h3]
      simp -implicitDefEqProofs (disch:=first|omega|(simp only [go_sem,seval,f1];first|done|omega)) only [go_sem,seval,f1]
      (all_goals (first|refine post_fin ret_ok hM rfl ?_ ?_|refine post_fin0 ret_ok hM rfl ?_ ?_|refine post_fin normal_ok hM rfl ?_ ?_|refine post_fin0 normal_ok hM rfl ?_ ?_);all_goals first|(simp only [go_sem,seval,encSpn_low] <;> first|done|omega)|skip;all_goals (try simp -implicitDefEqProofs (disch:=first|omega|(simp only [go_sem,seval];first|done|omega)) only [go_sem,seval]))
  · rw [if_neg hc]
    simp -implicitDefEqProofs (disch:=first|omega|(simp only [go_sem,seval,hc];first|done|omega)) only [go_sem,seval,hc]
    (all_goals (first|refine post_fin ret_ok hM rfl ?_ ?_|refine post_fin0 ret_ok hM rfl ?_ ?_|refine post_fin normal_ok hM rfl ?_ ?_|refine post_fin0 normal_ok hM rfl ?_ ?_);all_goals first|(simp only [go_sem,seval] <;> first|done|omega)|skip;all_goals (try simp -implicitDefEqProofs (disch:=first|omega|(simp only [go_sem,seval];first|done|omega)) only [go_sem,seval]))
theorem fst0_two {x y:Int} (h:fst0 [x,y] = 0):x = 0 ∧ y = 0:=by
  simp only [fst0] at h
  split at h
  · rename_i h1
    split at h
    · rename_i h2;exact ⟨h1,h2⟩
    · rename_i h2;exact absurd h h2
  · rename_i h1;exact absurd h h1
theorem q_site_Join_1 (hS:SortX X) (a b:List Spn) (hl:a.length + b.length ≤ 1000000):Q X 105 [.fs (a.map encSpn),.fs (b.map encSpn)] (.fs ((joinOf a b).map encSpn)):=by
  intro M
  (refine ACall_fn (cf:=L4.c105) rfl rfl fun hM hA => ?_;simp only [L4.c105,zO,zF,zT];rw [mk2 _ (by decide)];simp -implicitDefEqProofs (disch:=first|omega|(simp only [go_sem,seval];first|done|omega)) only [go_sem,seval])
  refine callP_q (q_slices_Concat a b hl _) ?_
  simp -implicitDefEqProofs (disch:=first|omega|(simp only [go_sem,seval];first|done|omega)) only [go_sem,seval]
  have hq:=q_site_canon hS (a ++ b) (by rw [List.length_append];omega) M
  have e:joinOf a b = canonOf (a ++ b):=rfl
  rw [e]
  refine callP_q hq ?_
  simp -implicitDefEqProofs (disch:=first|omega|(simp only [go_sem,seval];first|done|omega)) only [go_sem,seval]
  (all_goals (first|refine post_fin ret_ok hM rfl ?_ ?_|refine post_fin0 ret_ok hM rfl ?_ ?_|refine post_fin normal_ok hM rfl ?_ ?_|refine post_fin0 normal_ok hM rfl ?_ ?_);all_goals first|(simp only [go_sem,seval,encSpn_low] <;> first|done|omega)|skip;all_goals (try simp -implicitDefEqProofs (disch:=first|omega|(simp only [go_sem,seval];first|done|omega)) only [go_sem,seval]))
theorem othersOf_len (l:List Spn):(othersOf l).length ≤ l.length + 1:=by
  have:=othTo_len l
  unfold othersOf
  split
  · simp;omega
  · omega
theorem othersOf_in {l:List Spn} (h:spOk l):spOk (othersOf l):=by
  have key:∀ (k:Nat),k ≤ l.length → spOk (othTo (l.take k)).1 ∧ 0 ≤ (othTo (l.take k)).2:=by
    intro k
    induction k with
    | zero => intro _;exact ⟨fun x hx => (by simp [othTo] at hx),Int.le_refl _⟩
    | succ k ih =>
      intro hk
      obtain ⟨x,h1⟩:∃ x,l[k]? = some x:=⟨_,List.getElem?_eq_getElem (by omega)⟩
      obtain ⟨g1,g2⟩:=ih (by omega)
      have g3:=h x (List.mem_of_getElem? h1)
      rw [othTo_snoc h1]
      unfold othStep
      refine ⟨?_,by show 0 ≤ x.to_;omega⟩
      simp only
      split
      · intro z hz
        rcases List.mem_append.1 hz with hz|hz
        · exact g1 z hz
        · simp only [List.mem_singleton] at hz;subst hz
          refine ⟨g2,by assumption,?_⟩
          show x.fr ≤ 40000
          omega
      · exact g1
  have:=key l.length (Nat.le_refl _)
  rw [List.take_length] at this
  obtain ⟨g1,g2⟩:=this
  unfold othersOf
  split
  · intro z hz
    rcases List.mem_append.1 hz with hz|hz
    · exact g1 z hz
    · simp only [List.mem_singleton] at hz;subst hz
      exact ⟨g2,by assumption,Int.le_refl _⟩
  · exact g1
theorem q_site_Minus_1 (a b:List Spn) (ha:spOk a) (hb:spOk b) (hl:a.length + b.length ≤ 900000):Q X 108 [.fs (a.map encSpn),.fs (b.map encSpn)] (.fs ((minusOf a b).map encSpn)):=by
  intro M
  have:=othersOf_len b
  (refine ACall_fn (cf:=L4.c108) rfl rfl fun hM hA => ?_;simp only [L4.c108,zO,zF,zT];rw [mk2 _ (by decide)];simp -implicitDefEqProofs (disch:=first|omega|(simp only [go_sem,seval];first|done|omega)) only [go_sem,seval])
  refine callP_q (q_site_others b hb (by omega) _) ?_
  simp -implicitDefEqProofs (disch:=first|omega|(simp only [go_sem,seval];first|done|omega)) only [go_sem,seval]
  refine callP_q (q_site_meet a (othersOf b) ha (othersOf_in hb) (by omega) _) ?_
  have e:minusOf a b = meetOf a (othersOf b):=rfl
  rw [e]
  simp -implicitDefEqProofs (disch:=first|omega|(simp only [go_sem,seval];first|done|omega)) only [go_sem,seval]
  (all_goals (first|refine post_fin ret_ok hM rfl ?_ ?_|refine post_fin0 ret_ok hM rfl ?_ ?_|refine post_fin normal_ok hM rfl ?_ ?_|refine post_fin0 normal_ok hM rfl ?_ ?_);all_goals first|(simp only [go_sem,seval,encSpn_low] <;> first|done|omega)|skip;all_goals (try simp -implicitDefEqProofs (disch:=first|omega|(simp only [go_sem,seval];first|done|omega)) only [go_sem,seval]))
theorem meetOf_len (a b:List Spn):(meetOf a b).length ≤ a.length + b.length:=by
  have:∀ (n:Nat) (a b:List Spn),(meetN n a b).length ≤ n:=by
    intro n
    induction n with
    | zero => intro a b;cases a <;> cases b <;> simp [meetN]
    | succ n ih =>
      intro a b
      cases a with
      | nil => rw [meetN_nilL];simp
      | cons x a =>
        cases b with
        | nil => rw [meetN_nilR];simp
        | cons y b =>
          rw [meetN,List.length_append]
          have h1:(if max x.fr y.fr < min x.to_ y.to_ then [(⟨max x.fr y.fr,min x.to_ y.to_⟩:Spn)] else []).length ≤ 1:=by split <;> simp
          have h2:(if x.to_ < y.to_ then meetN n a (y :: b) else meetN n (x :: a) b).length ≤ n:=by split <;> apply ih
          omega
  exact this _ a b
theorem q_site_Join (hS:SortX X) (a b:List Spn) (ha:a.length ≤ 1048576) (hb:b.length ≤ 1048576) :
    Q X 31 [.fs (a.map encSpn),.fs (b.map encSpn)] (.tup [.fs ((bothOf joinOf a b).1.map encSpn),.I (bothOf joinOf a b).2]):=by
  intro M
  (refine ACall_fn (cf:=L4.c31) rfl rfl fun hM hA => ?_;simp only [L4.c31,zO,zF,zT];rw [mk2 _ (by decide)];simp -implicitDefEqProofs (disch:=first|omega|(simp only [go_sem,seval];first|done|omega)) only [go_sem,seval])
  refine callP_q (q_site_both (f:=joinOf) a b ha hb (fun h => ?_) _) ?_
  · obtain ⟨h1,h2⟩:=fst0_two h
    have l1:=(chkSpns_in h1).2
    have l2:=(chkSpns_in h2).2
    refine ⟨q_site_Join_1 hS a b (by omega),?_⟩
    have:=canonOf_len (a ++ b)
    rw [List.length_append] at this
    unfold joinOf
    omega
  · simp -implicitDefEqProofs (disch:=first|omega|(simp only [go_sem,seval];first|done|omega)) only [go_sem,seval]
    (all_goals (first|refine post_fin ret_ok hM rfl ?_ ?_|refine post_fin0 ret_ok hM rfl ?_ ?_|refine post_fin normal_ok hM rfl ?_ ?_|refine post_fin0 normal_ok hM rfl ?_ ?_);all_goals first|(simp only [go_sem,seval,encSpn_low] <;> first|done|omega)|skip;all_goals (try simp -implicitDefEqProofs (disch:=first|omega|(simp only [go_sem,seval];first|done|omega)) only [go_sem,seval]))
theorem q_site_Minus (a b:List Spn) (ha:a.length ≤ 1048576) (hb:b.length ≤ 1048576) :
    Q X 33 [.fs (a.map encSpn),.fs (b.map encSpn)] (.tup [.fs ((bothOf minusOf a b).1.map encSpn),.I (bothOf minusOf a b).2]):=by
  intro M
  (refine ACall_fn (cf:=L4.c33) rfl rfl fun hM hA => ?_;simp only [L4.c33,zO,zF,zT];rw [mk2 _ (by decide)];simp -implicitDefEqProofs (disch:=first|omega|(simp only [go_sem,seval];first|done|omega)) only [go_sem,seval])
  refine callP_q (q_site_both (f:=minusOf) a b ha hb (fun h => ?_) _) ?_
  · obtain ⟨h1,h2⟩:=fst0_two h
    have l1:=chkSpns_in h1
    have l2:=chkSpns_in h2
    refine ⟨q_site_Minus_1 a b l1.1 l2.1 (by omega),?_⟩
    have g1:=meetOf_len a (othersOf b)
    have g2:=othersOf_len b
    unfold minusOf
    omega
  · simp -implicitDefEqProofs (disch:=first|omega|(simp only [go_sem,seval];first|done|omega)) only [go_sem,seval]
    (all_goals (first|refine post_fin ret_ok hM rfl ?_ ?_|refine post_fin0 ret_ok hM rfl ?_ ?_|refine post_fin normal_ok hM rfl ?_ ?_|refine post_fin0 normal_ok hM rfl ?_ ?_);all_goals first|(simp only [go_sem,seval,encSpn_low] <;> first|done|omega)|skip;all_goals (try simp -implicitDefEqProofs (disch:=first|omega|(simp only [go_sem,seval];first|done|omega)) only [go_sem,seval]))
theorem q_site_apart (a b:Pt) (ha:ptW a) (hb:ptW b):Q X 111 [encPt a,encPt b] (.I (apartP a b)):=by
  intro M
  obtain ⟨⟨h1,h2⟩,h3,h4⟩:=apartP_bd ha hb
  unfold ptW at ha hb
  (refine ACall_fn (cf:=L4.c111) rfl rfl fun hM hA => ?_;simp only [L4.c111,zO,zF,zT];rw [mk2 _ (by decide)];simp -implicitDefEqProofs (disch:=first|omega|(simp only [go_sem,seval,encPt_eq];first|done|omega)) only [go_sem,seval,encPt_eq])
  (all_goals (first|refine post_fin ret_ok hM rfl ?_ ?_|refine post_fin0 ret_ok hM rfl ?_ ?_|refine post_fin normal_ok hM rfl ?_ ?_|refine post_fin0 normal_ok hM rfl ?_ ?_);all_goals first|(simp only [go_sem,seval] <;> first|done|omega)|skip;all_goals (try simp -implicitDefEqProofs (disch:=first|omega|(simp only [go_sem,seval];first|done|omega)) only [go_sem,seval]))
  all_goals rfl
theorem q_ref01_Apart (a b:Pt) (ha:ptW a) (hb:ptW b):Q X 119 [encPt a,encPt b] (.I (apartP a b)):=by
  intro M
  obtain ⟨⟨h1,h2⟩,h3,h4⟩:=apartP_bd ha hb
  unfold ptW at ha hb
  (refine ACall_fn (cf:=L4.c119) rfl rfl fun hM hA => ?_;simp only [L4.c119,zO,zF,zT];rw [mk2 _ (by decide)];simp -implicitDefEqProofs (disch:=first|omega|(simp only [go_sem,seval,encPt_eq];first|done|omega)) only [go_sem,seval,encPt_eq])
  (all_goals (first|refine post_fin ret_ok hM rfl ?_ ?_|refine post_fin0 ret_ok hM rfl ?_ ?_|refine post_fin normal_ok hM rfl ?_ ?_|refine post_fin0 normal_ok hM rfl ?_ ?_);all_goals first|(simp only [go_sem,seval] <;> first|done|omega)|skip;all_goals (try simp -implicitDefEqProofs (disch:=first|omega|(simp only [go_sem,seval];first|done|omega)) only [go_sem,seval]))
  all_goals rfl
theorem q_site_checkPlace (p:Pt):Q X 115 [encPt p] (.I (ptE p)):=by
  intro M
  (refine ACall_fn (cf:=L4.c115) rfl rfl fun hM hA => ?_;simp only [L4.c115,zO,zF,zT];rw [mk1 _ (by decide)];simp -implicitDefEqProofs (disch:=first|omega|(simp only [go_sem,seval,encPt_eq];first|done|omega)) only [go_sem,seval,encPt_eq])
  refine callP_q (q_site_within _ _ _ _) ?_
  simp -implicitDefEqProofs (disch:=first|omega|(simp only [go_sem,seval,encPt_eq];first|done|omega)) only [go_sem,seval,encPt_eq]
  refine callP_q (q_site_within _ _ _ _) ?_
  simp -implicitDefEqProofs (disch:=first|omega|(simp only [go_sem,seval,encPt_eq];first|done|omega)) only [go_sem,seval,encPt_eq]
  refine callP_q (q_site_first [rng p.x (-1000) 1000,rng p.y (-1000) 1000] (by simp) _) ?_
  have e:ptE p = fst0 [rng p.x (-1000) 1000,rng p.y (-1000) 1000]:=rfl
  rw [e]
  simp -implicitDefEqProofs (disch:=first|omega|(simp only [go_sem,seval];first|done|omega)) only [go_sem,seval]
  (all_goals (first|refine post_fin ret_ok hM rfl ?_ ?_|refine post_fin0 ret_ok hM rfl ?_ ?_|refine post_fin normal_ok hM rfl ?_ ?_|refine post_fin0 normal_ok hM rfl ?_ ?_);all_goals first|(simp only [go_sem,seval] <;> first|done|omega)|skip;all_goals (try simp -implicitDefEqProofs (disch:=first|omega|(simp only [go_sem,seval];first|done|omega)) only [go_sem,seval]))
theorem q_ref01_CheckPoint (p:Pt):Q X 49 [encPt p] (.I (ptE p)):=by
  intro M
  (refine ACall_fn (cf:=L4.c49) rfl rfl fun hM hA => ?_;simp only [L4.c49,zO,zF,zT];rw [mk1 _ (by decide)];simp -implicitDefEqProofs (disch:=first|omega|(simp only [go_sem,seval,encPt_eq];first|done|omega)) only [go_sem,seval,encPt_eq])
  refine callP_q (q_ref01_CheckRange _ _ _ _) ?_
  simp -implicitDefEqProofs (disch:=first|omega|(simp only [go_sem,seval,encPt_eq];first|done|omega)) only [go_sem,seval,encPt_eq]
  refine callP_q (q_ref01_CheckRange _ _ _ _) ?_
  simp -implicitDefEqProofs (disch:=first|omega|(simp only [go_sem,seval,encPt_eq];first|done|omega)) only [go_sem,seval,encPt_eq]
  refine callP_q (q_ref01_First [rng p.x (-1000) 1000,rng p.y (-1000) 1000] (by simp) _) ?_
  have e:ptE p = fst0 [rng p.x (-1000) 1000,rng p.y (-1000) 1000]:=rfl
  rw [e]
  simp -implicitDefEqProofs (disch:=first|omega|(simp only [go_sem,seval];first|done|omega)) only [go_sem,seval]
  (all_goals (first|refine post_fin ret_ok hM rfl ?_ ?_|refine post_fin0 ret_ok hM rfl ?_ ?_|refine post_fin normal_ok hM rfl ?_ ?_|refine post_fin0 normal_ok hM rfl ?_ ?_);all_goals first|(simp only [go_sem,seval] <;> first|done|omega)|skip;all_goals (try simp -implicitDefEqProofs (disch:=first|omega|(simp only [go_sem,seval];first|done|omega)) only [go_sem,seval]))
theorem q_site_checkTurns (n:Int):Q X 112 [.I n] (.I (rng n 0 3)):=by
  intro M
  (refine ACall_fn (cf:=L4.c112) rfl rfl fun hM hA => ?_;simp only [L4.c112,zO,zF,zT];rw [mk1 _ (by decide)];simp -implicitDefEqProofs (disch:=first|omega|(simp only [go_sem,seval];first|done|omega)) only [go_sem,seval])
  refine callP_q (q_site_within _ _ _ _) ?_
  simp -implicitDefEqProofs (disch:=first|omega|(simp only [go_sem,seval];first|done|omega)) only [go_sem,seval]
  (all_goals (first|refine post_fin ret_ok hM rfl ?_ ?_|refine post_fin0 ret_ok hM rfl ?_ ?_|refine post_fin normal_ok hM rfl ?_ ?_|refine post_fin0 normal_ok hM rfl ?_ ?_);all_goals first|(simp only [go_sem,seval] <;> first|done|omega)|skip;all_goals (try simp -implicitDefEqProofs (disch:=first|omega|(simp only [go_sem,seval];first|done|omega)) only [go_sem,seval]))
theorem q_ref01_CheckSite (s:Ste) (hl:s.tbs.length ≤ 1048576):Q X 46 [encSte s] (.I (chkSte s)):=by
  obtain ⟨nm,least,l⟩:=s
  have e:chkSte ⟨nm,least,l⟩ = if nameOk nm = false then 8 else if ¬ rng least 1 1000 = 0 then 3 else if 64 < l.length then 5 else fst0 (tbL least l):=rfl
  rw [e]
  clear e
  simp only at hl
  have e:encSte ⟨nm,least,l⟩ = .agg [.s (.string nm),.I least,.fs (l.map encTb)]:=rfl
  rw [e]
  clear e
  intro M
  (refine ACall_fn (cf:=L4.c46) rfl rfl fun hM hA => ?_;simp only [L4.c46,zO,zF,zT];rw [mk1 _ (by decide)];simp -implicitDefEqProofs (disch:=first|omega|(simp only [go_sem,seval];first|done|omega)) only [go_sem,seval])
  refine callP_q (q_ref01_IsName nm _) ?_
  simp -implicitDefEqProofs (disch:=first|omega|(simp only [go_sem,seval];first|done|omega)) only [go_sem,seval]
  by_cases h1:nameOk nm = false
  · rw [if_pos h1]
    simp -implicitDefEqProofs (disch:=first|omega|(simp only [go_sem,seval,h1];first|done|omega)) only [go_sem,seval,h1]
    (all_goals (first|refine post_fin ret_ok hM rfl ?_ ?_|refine post_fin0 ret_ok hM rfl ?_ ?_|refine post_fin normal_ok hM rfl ?_ ?_|refine post_fin0 normal_ok hM rfl ?_ ?_);all_goals first|(simp only [go_sem,seval] <;> first|done|omega)|skip;all_goals (try simp -implicitDefEqProofs (disch:=first|omega|(simp only [go_sem,seval];first|done|omega)) only [go_sem,seval]))
  have h1':nameOk nm = true:=by simpa using h1
  rw [if_neg h1]
  simp -implicitDefEqProofs (disch:=first|omega|(simp only [go_sem,seval,h1'];first|done|omega)) only [go_sem,seval,h1']
  refine callP_q (q_ref01_CheckRange _ _ _ _) ?_
  simp -implicitDefEqProofs (disch:=first|omega|(simp only [go_sem,seval];first|done|omega)) only [go_sem,seval]
  by_cases h2:rng least 1 1000 = 0
  case neg =>
    rw [if_pos h2]
    simp -implicitDefEqProofs (disch:=first|omega|(simp only [go_sem,seval,h2];first|done|omega)) only [go_sem,seval,h2]
    (all_goals (first|refine post_fin ret_ok hM rfl ?_ ?_|refine post_fin0 ret_ok hM rfl ?_ ?_|refine post_fin normal_ok hM rfl ?_ ?_|refine post_fin0 normal_ok hM rfl ?_ ?_);all_goals first|(simp only [go_sem,seval] <;> first|done|omega)|skip;all_goals (try simp -implicitDefEqProofs (disch:=first|omega|(simp only [go_sem,seval];first|done|omega)) only [go_sem,seval]))
  rw [if_neg (fun h => h h2)]
  simp -implicitDefEqProofs (disch:=first|omega|(simp only [go_sem,seval,h2];first|done|omega)) only [go_sem,seval,h2]
  rw [rng_ok] at h2
  by_cases h3:64 < l.length
  · have f3:((64:Int) < l.length) = True:=eq_true (by omega)
    rw [if_pos h3]
    simp -implicitDefEqProofs (disch:=first|omega|(simp only [go_sem,seval,f3];first|done|omega)) only [go_sem,seval,f3]
    (all_goals (first|refine post_fin ret_ok hM rfl ?_ ?_|refine post_fin0 ret_ok hM rfl ?_ ?_|refine post_fin normal_ok hM rfl ?_ ?_|refine post_fin0 normal_ok hM rfl ?_ ?_);all_goals first|(simp only [go_sem,seval] <;> first|done|omega)|skip;all_goals (try simp -implicitDefEqProofs (disch:=first|omega|(simp only [go_sem,seval];first|done|omega)) only [go_sem,seval]))
  have f3:((64:Int) < l.length) = False:=eq_false (by omega)
  rw [if_neg h3]
  simp -implicitDefEqProofs (disch:=first|omega|(simp only [go_sem,seval,f3];first|done|omega)) only [go_sem,seval,f3]
  have hsq:=sqBd (d:=least) (n:=1000) (by omega) (by omega) (by omega)
  refine loop_mk (α:=Nat) 0 (fun k => k ≤ l.length ∧ fst0 (tbL least l) = fst0 ((tbL least l).drop k) ∧ tbsIn least l k) (fun k => M)
    (fun k => [(1,.fp [.s (.string nm),.I least,.fs (l.map encTb)]),(3,.I k)]) (fun k => l.length - k) ⟨Nat.zero_le _,rfl,tbsIn_zero⟩ rfl rfl ?_
  rintro k ⟨hk,hs,hin⟩
  by_cases hlt:k < l.length
  case neg =>
    simp -implicitDefEqProofs (disch:=first|omega|(simp only [go_sem,seval,hlt];first|done|omega)) only [go_sem,seval,hlt]
    (first|refine post_fin ret_ok hM rfl ?_ ?_|refine post_fin0 ret_ok hM rfl ?_ ?_|refine post_fin normal_ok hM rfl ?_ ?_|refine post_fin0 normal_ok hM rfl ?_ ?_)
    · simp -implicitDefEqProofs (disch:=first|omega|(simp only [go_sem,seval];first|done|omega)) only [go_sem,seval]
      rw [hs,List.drop_of_length_le (by rw [tbL_len];omega)];rfl
    · (simp only [go_sem,seval] <;> first|done|omega)
  obtain ⟨x,hx⟩:∃ x,l[k]? = some x:=⟨_,List.getElem?_eq_getElem hlt⟩
  have hd:=fst0_drop (tbL least l) k _ (tbL_get hx)
  have hpt:=fun (i:Nat) (t:Tb) (hi:i < k) (ht:l[i]? = some t) => tbsIn_pt hin hi ht
  have hin1:=tbsIn_succ hin hx
  simp -implicitDefEqProofs (disch:=first|omega|(simp only [go_sem,seval,hlt,hx,encTb_cells,encTb_eq];first|done|omega)) only [go_sem,seval,hlt,hx,encTb_cells,encTb_eq]
  refine callP_q (q_ref01_IsName _ _) ?_
  simp -implicitDefEqProofs (disch:=first|omega|(simp only [go_sem,seval,encTb_eq];first|done|omega)) only [go_sem,seval,encTb_eq]
  by_cases g1:nameOk x.name = false
  · rw [tbE_name g1] at hd
    simp -implicitDefEqProofs (disch:=first|omega|(simp only [go_sem,seval,g1];first|done|omega)) only [go_sem,seval,g1]
    (first|refine post_fin ret_ok hM rfl ?_ ?_|refine post_fin0 ret_ok hM rfl ?_ ?_|refine post_fin normal_ok hM rfl ?_ ?_|refine post_fin0 normal_ok hM rfl ?_ ?_)
    · simp -implicitDefEqProofs (disch:=first|omega|(simp only [go_sem,seval];first|done|omega)) only [go_sem,seval]
      rw [hs,hd];rfl
    · (simp only [go_sem,seval] <;> first|done|omega)
  have g1':nameOk x.name = true:=by simpa using g1
  simp -implicitDefEqProofs (disch:=first|omega|(simp only [go_sem,seval,g1'];first|done|omega)) only [go_sem,seval,g1']
  refine callP_q (q_ref01_CheckPoint x.at_ _) ?_
  simp -implicitDefEqProofs (disch:=first|omega|(simp only [go_sem,seval,encTb_eq];first|done|omega)) only [go_sem,seval,encTb_eq]
  by_cases g2:ptE x.at_ = 0
  case neg =>
    rw [tbE_pt g1' g2] at hd
    simp -implicitDefEqProofs (disch:=first|omega|(simp only [go_sem,seval,g2];first|done|omega)) only [go_sem,seval,g2]
    (first|refine post_fin ret_ok hM rfl ?_ ?_|refine post_fin0 ret_ok hM rfl ?_ ?_|refine post_fin normal_ok hM rfl ?_ ?_|refine post_fin0 normal_ok hM rfl ?_ ?_)
    · simp -implicitDefEqProofs (disch:=first|omega|(simp only [go_sem,seval];first|done|omega)) only [go_sem,seval]
      rw [hs,hd];rfl
    · (simp only [go_sem,seval] <;> first|done|omega)
  have gx:=ptE_in g2
  simp -implicitDefEqProofs (disch:=first|omega|(simp only [go_sem,seval,g2,encTb_eq];first|done|omega)) only [go_sem,seval,g2,encTb_eq]
  refine loop_mk (α:=Nat) 0 (fun j => j ≤ k ∧ (l.take j).any (fun o => decide (o.name = x.name)) = false) (fun _ => M ++ [.row true 3 0 [encTb x]])
    (fun j => [(1,.fp [.s (.string nm),.I least,.fs (l.map encTb)]),(3,.I k),(4,.op M.length 0 0 0),(5,.I j)]) (fun j => k - j) ⟨Nat.zero_le _,rfl⟩ rfl rfl ?_
  rintro j ⟨hj,hany⟩
  by_cases hjk:j < k
  · obtain ⟨y,hy⟩:∃ y,l[j]? = some y:=⟨_,List.getElem?_eq_getElem (by omega)⟩
    have f1:j < l.length:=by omega
    have hsn:=any_snoc (fun o => decide (o.name = x.name)) hy
    simp -implicitDefEqProofs (disch:=first|omega|(simp only [go_sem,seval,hjk,f1,hy,encTb_cells,encTb_eq,bin_strEq];first|done|omega)) only [go_sem,seval,hjk,f1,hy,encTb_cells,encTb_eq,bin_strEq]
    by_cases hn:y.name = x.name
    · have:=any_hit (k:=k) (fun o => decide (o.name = x.name)) hy hjk (by simpa using hn)
      rw [tbE_twice g1' g2 this] at hd
      simp -implicitDefEqProofs (disch:=first|omega|(simp only [go_sem,seval,hn];first|done|omega)) only [go_sem,seval,hn]
      (first|refine post_fin ret_ok hM rfl ?_ ?_|refine post_fin0 ret_ok hM rfl ?_ ?_|refine post_fin normal_ok hM rfl ?_ ?_|refine post_fin0 normal_ok hM rfl ?_ ?_)
      · simp -implicitDefEqProofs (disch:=first|omega|(simp only [go_sem,seval];first|done|omega)) only [go_sem,seval]
        rw [hs,hd];rfl
      · (simp only [go_sem,seval] <;> first|done|omega)
    · simp -implicitDefEqProofs (disch:=first|omega|(simp only [go_sem,seval,hn];first|done|omega)) only [go_sem,seval,hn]
      refine again' (j + 1) ⟨by omega,by rw [hsn,hany];simp [hn]⟩ (by omega) rfl rfl
  have hjk':j = k:=by omega
  subst hjk'
  simp -implicitDefEqProofs (disch:=first|omega|(simp only [go_sem,seval,hjk,encTb_cells,encTb_eq];first|done|omega)) only [go_sem,seval,hjk,encTb_cells,encTb_eq]
  refine loop_mk (α:=Nat) 0 (fun i => i ≤ j ∧ (l.take i).any (fun o => decide (apartP x.at_ o.at_ < least * least)) = false) (fun _ => M ++ [.row true 3 0 [encTb x]])
    (fun i => [(1,.fp [.s (.string nm),.I least,.fs (l.map encTb)]),(3,.I j),(4,.op M.length 0 0 0),(6,.I i)]) (fun i => j - i) ⟨Nat.zero_le _,rfl⟩ rfl rfl ?_
  rintro i ⟨hi,hnear⟩
  by_cases hij:i < j
  · obtain ⟨y,hy⟩:∃ y,l[i]? = some y:=⟨_,List.getElem?_eq_getElem (by omega)⟩
    have f1:i < l.length:=by omega
    have hsn:=any_snoc (fun o => decide (apartP x.at_ o.at_ < least * least)) hy
    have gy:=hpt i y hij hy
    simp -implicitDefEqProofs (disch:=first|omega|(simp only [go_sem,seval,hij,f1,hy,encTb_cells,encTb_eq];first|done|omega)) only [go_sem,seval,hij,f1,hy,encTb_cells,encTb_eq]
    refine callP_q (q_ref01_Apart y.at_ x.at_ (ptIn_W gy) (ptIn_W gx) _) ?_
    rw [apartP_comm]
    have hbd:=apartP_bd (ptIn_W gx) (ptIn_W gy)
    simp -implicitDefEqProofs (disch:=first|omega|(simp only [go_sem,seval,encTb_cells,encTb_eq];first|done|omega)) only [go_sem,seval,encTb_cells,encTb_eq]
    by_cases hn:apartP x.at_ y.at_ < least * least
    · have:=any_hit (k:=j) (fun o => decide (apartP x.at_ o.at_ < least * least)) hy hij (by simpa using hn)
      rw [tbE_near g1' g2 hany this] at hd
      simp -implicitDefEqProofs (disch:=first|omega|(simp only [go_sem,seval,hn];first|done|omega)) only [go_sem,seval,hn]
      (first|refine post_fin ret_ok hM rfl ?_ ?_|refine post_fin0 ret_ok hM rfl ?_ ?_|refine post_fin normal_ok hM rfl ?_ ?_|refine post_fin0 normal_ok hM rfl ?_ ?_)
      · simp -implicitDefEqProofs (disch:=first|omega|(simp only [go_sem,seval];first|done|omega)) only [go_sem,seval]
        rw [hs,hd];rfl
      · (simp only [go_sem,seval] <;> first|done|omega)
    · simp -implicitDefEqProofs (disch:=first|omega|(simp only [go_sem,seval,hn];first|done|omega)) only [go_sem,seval,hn]
      refine again' (i + 1) ⟨by omega,by rw [hsn,hnear];simp [hn]⟩ (by omega) rfl rfl
  have hij':i = j:=by omega
  subst hij'
  have h0:=tbE_ok g1' g2 hany hnear
  rw [if_pos h0] at hd
  simp -implicitDefEqProofs (disch:=first|omega|(simp only [go_sem,seval,hij,encTb_cells,encTb_eq];first|done|omega)) only [go_sem,seval,hij,encTb_cells,encTb_eq]
  refine Wp_cut_at hM rfl 0 (by simp) (by first|done|(simp only [go_sem,seval,encTb_low] <;> first|done|(refine ⟨?_,?_⟩ <;> omega)|omega)) (lowL_mk (by first|done|(simp only [go_sem,seval,encTb_low] <;> first|done|(refine ⟨?_,?_⟩ <;> omega)|omega))) ?_
  simp -implicitDefEqProofs (disch:=first|omega|(simp only [go_sem,seval];first|done|omega)) only [go_sem,seval]
  exact again' (i + 1) ⟨by omega,by rw [hs,hd],hin1 h0⟩ (by omega) rfl rfl
theorem q_site_CheckSite (s:Ste) (hl:s.tbs.length ≤ 1048576):Q X 53 [encSte s] (.I (chkSte s)):=by
  obtain ⟨nm,least,l⟩:=s
  have e:chkSte ⟨nm,least,l⟩ = if nameOk nm = false then 8 else if ¬ rng least 1 1000 = 0 then 3 else if 64 < l.length then 5 else fst0 (tbL least l):=rfl
  rw [e]
  clear e
  simp only at hl
  have e:encSte ⟨nm,least,l⟩ = .agg [.s (.string nm),.I least,.fs (l.map encTb)]:=rfl
  rw [e]
  clear e
  intro M
  (refine ACall_fn (cf:=L4.c53) rfl rfl fun hM hA => ?_;simp only [L4.c53,zO,zF,zT];rw [mk1 _ (by decide)];simp -implicitDefEqProofs (disch:=first|omega|(simp only [go_sem,seval];first|done|omega)) only [go_sem,seval])
  refine callP_q (q_site_checkName nm _) ?_
  simp -implicitDefEqProofs (disch:=first|omega|(simp only [go_sem,seval];first|done|omega)) only [go_sem,seval]
  refine callP_q (q_site_within _ _ _ _) ?_
  simp -implicitDefEqProofs (disch:=first|omega|(simp only [go_sem,seval];first|done|omega)) only [go_sem,seval]
  refine callP_q (q_site_when _ _ _) ?_
  simp -implicitDefEqProofs (disch:=first|omega|(simp only [go_sem,seval];first|done|omega)) only [go_sem,seval]
  refine callP_q (q_site_first [if nameOk nm = false then 8 else 0,rng least 1 1000,if (64:Int) < l.length then 5 else 0] (by simp) _) ?_
  have hv:∀ n a b:Int,rng n a b = 0 ∨ rng n a b = 3:=by intro n a b;unfold rng;split <;> simp
  by_cases h1:nameOk nm = false
  · have e:fst0 [if nameOk nm = false then 8 else 0,rng least 1 1000,if (64:Int) < l.length then 5 else 0] = 8:=by simp [fst0,h1]
    have f8:((8:Int) = 0) = False:=by decide
    rw [if_pos h1,e]
    simp -implicitDefEqProofs (disch:=first|omega|(simp only [go_sem,seval,f8];first|done|omega)) only [go_sem,seval,f8]
    (all_goals (first|refine post_fin ret_ok hM rfl ?_ ?_|refine post_fin0 ret_ok hM rfl ?_ ?_|refine post_fin normal_ok hM rfl ?_ ?_|refine post_fin0 normal_ok hM rfl ?_ ?_);all_goals first|(simp only [go_sem,seval] <;> first|done|omega)|skip;all_goals (try simp -implicitDefEqProofs (disch:=first|omega|(simp only [go_sem,seval];first|done|omega)) only [go_sem,seval]))
  by_cases h2:rng least 1 1000 = 0
  case neg =>
    have h3:=(hv least 1 1000).resolve_left h2
    have e:fst0 [if nameOk nm = false then 8 else 0,rng least 1 1000,if (64:Int) < l.length then 5 else 0] = 3:=by simp [fst0,h1,h3]
    have f8:((3:Int) = 0) = False:=by decide
    rw [if_neg h1,if_pos h2,e]
    simp -implicitDefEqProofs (disch:=first|omega|(simp only [go_sem,seval,f8];first|done|omega)) only [go_sem,seval,f8]
    (all_goals (first|refine post_fin ret_ok hM rfl ?_ ?_|refine post_fin0 ret_ok hM rfl ?_ ?_|refine post_fin normal_ok hM rfl ?_ ?_|refine post_fin0 normal_ok hM rfl ?_ ?_);all_goals first|(simp only [go_sem,seval] <;> first|done|omega)|skip;all_goals (try simp -implicitDefEqProofs (disch:=first|omega|(simp only [go_sem,seval];first|done|omega)) only [go_sem,seval]))
  by_cases h3:64 < l.length
  · have f3:(64:Int) < l.length:=by omega
    have e:fst0 [if nameOk nm = false then 8 else 0,rng least 1 1000,if (64:Int) < l.length then 5 else 0] = 5:=by simp [fst0,h1,h2,f3]
    have f8:((5:Int) = 0) = False:=by decide
    rw [if_neg h1,if_neg (fun h => h h2),if_pos h3,e]
    simp -implicitDefEqProofs (disch:=first|omega|(simp only [go_sem,seval,f8];first|done|omega)) only [go_sem,seval,f8]
    (all_goals (first|refine post_fin ret_ok hM rfl ?_ ?_|refine post_fin0 ret_ok hM rfl ?_ ?_|refine post_fin normal_ok hM rfl ?_ ?_|refine post_fin0 normal_ok hM rfl ?_ ?_);all_goals first|(simp only [go_sem,seval] <;> first|done|omega)|skip;all_goals (try simp -implicitDefEqProofs (disch:=first|omega|(simp only [go_sem,seval];first|done|omega)) only [go_sem,seval]))
  have f3:¬ (64:Int) < l.length:=by omega
  have e:fst0 [if nameOk nm = false then 8 else 0,rng least 1 1000,if (64:Int) < l.length then 5 else 0] = 0:=by simp [fst0,h1,h2,f3]
  rw [if_neg h1,if_neg (fun h => h h2),if_neg h3,e]
  rw [rng_ok] at h2
  clear e
  simp -implicitDefEqProofs (disch:=first|omega|(simp only [go_sem,seval];first|done|omega)) only [go_sem,seval]
  have hsq:=sqBd (d:=least) (n:=1000) (by omega) (by omega) (by omega)
  refine loop_mk (α:=Nat) 0 (fun k => k ≤ l.length ∧ fst0 (tbL least l) = fst0 ((tbL least l).drop k) ∧ tbsIn least l k) (fun k => M ++ [.map (knownE (l.take k))])
    (fun k => [(1,.fp [.s (.string nm),.I least,.fs (l.map encTb)]),(4,.om M.length),(5,.I 0),(28,.fs (l.map encTb)),(29,.I l.length),(30,.I k)]) (fun k => l.length - k) ⟨Nat.zero_le _,rfl,tbsIn_zero⟩ rfl rfl ?_
  rintro k ⟨hk,hs,hin⟩
  by_cases hlt:k < l.length
  case neg =>
    simp -implicitDefEqProofs (disch:=first|omega|(simp only [go_sem,seval,hlt];first|done|omega)) only [go_sem,seval,hlt]
    (first|refine post_fin ret_ok hM rfl ?_ ?_|refine post_fin0 ret_ok hM rfl ?_ ?_|refine post_fin normal_ok hM rfl ?_ ?_|refine post_fin0 normal_ok hM rfl ?_ ?_)
    · simp -implicitDefEqProofs (disch:=first|omega|(simp only [go_sem,seval];first|done|omega)) only [go_sem,seval]
      rw [hs,List.drop_of_length_le (by rw [tbL_len];omega)];rfl
    · (simp only [go_sem,seval] <;> first|done|omega)
  obtain ⟨x,hx⟩:∃ x,l[k]? = some x:=⟨_,List.getElem?_eq_getElem hlt⟩
  have hd:=fst0_drop (tbL least l) k _ (tbL_get hx)
  have hpt:=fun (i:Nat) (t:Tb) (hi:i < k) (ht:l[i]? = some t) => tbsIn_pt hin hi ht
  have hin1:=tbsIn_succ hin hx
  have hkn:=knownE_like x.name (l.take k)
  have hfk:=find_known x.name (l.take k)
  simp -implicitDefEqProofs (disch:=first|omega|(simp only [go_sem,seval,hlt,hx,encTb_cells,encTb_eq];first|done|omega)) only [go_sem,seval,hlt,hx,encTb_cells,encTb_eq]
  refine callP_q (q_site_checkName _ _) ?_
  simp -implicitDefEqProofs (disch:=first|omega|(simp only [go_sem,seval,encTb_eq];first|done|omega)) only [go_sem,seval,encTb_eq]
  refine callP_q (q_site_checkPlace x.at_ _) ?_
  simp -implicitDefEqProofs (disch:=first|omega|(simp only [go_sem,seval,encTb_eq,lookV_om,lookB_no,keyOk_str,hkn,hfk];first|done|omega)) only [go_sem,seval,encTb_eq,lookV_om,lookB_no,keyOk_str,hkn,hfk]
  refine callP_q (q_site_when _ _ _) ?_
  simp -implicitDefEqProofs (disch:=first|omega|(simp only [go_sem,seval,encTb_eq];first|done|omega)) only [go_sem,seval,encTb_eq]
  refine callP_q (q_site_first [if nameOk x.name = false then 8 else 0,ptE x.at_,if (l.take k).any (fun o => decide (o.name = x.name)) = true then 9 else 0] (by simp) _) ?_
  have bad:∀ (e:Int),e ≠ 0 → tbE least (l.take k) x = e → fst0 (tbL least l) = e:=by
    intro e h0 h1
    rw [hs,hd,h1,if_neg h0]
  by_cases g1:nameOk x.name = false
  · have e:fst0 [if nameOk x.name = false then 8 else 0,ptE x.at_,if (l.take k).any (fun o => decide (o.name = x.name)) = true then 9 else 0] = 8:=by simp [fst0,g1]
    have f8:((8:Int) = 0) = False:=by decide
    rw [e]
    simp -implicitDefEqProofs (disch:=first|omega|(simp only [go_sem,seval,f8];first|done|omega)) only [go_sem,seval,f8]
    (first|refine post_fin ret_ok hM rfl ?_ ?_|refine post_fin0 ret_ok hM rfl ?_ ?_|refine post_fin normal_ok hM rfl ?_ ?_|refine post_fin0 normal_ok hM rfl ?_ ?_)
    · simp -implicitDefEqProofs (disch:=first|omega|(simp only [go_sem,seval];first|done|omega)) only [go_sem,seval]
      rw [bad 8 (by decide) (tbE_name g1)]
    · (simp only [go_sem,seval] <;> first|done|omega)
  have g1':nameOk x.name = true:=by simpa using g1
  by_cases g2:ptE x.at_ = 0
  case neg =>
    have g3:=(ptE_v x.at_).resolve_left g2
    have e:fst0 [if nameOk x.name = false then 8 else 0,ptE x.at_,if (l.take k).any (fun o => decide (o.name = x.name)) = true then 9 else 0] = 3:=by simp [fst0,g1,g3]
    have f8:((3:Int) = 0) = False:=by decide
    rw [e]
    simp -implicitDefEqProofs (disch:=first|omega|(simp only [go_sem,seval,f8];first|done|omega)) only [go_sem,seval,f8]
    (first|refine post_fin ret_ok hM rfl ?_ ?_|refine post_fin0 ret_ok hM rfl ?_ ?_|refine post_fin normal_ok hM rfl ?_ ?_|refine post_fin0 normal_ok hM rfl ?_ ?_)
    · simp -implicitDefEqProofs (disch:=first|omega|(simp only [go_sem,seval];first|done|omega)) only [go_sem,seval]
      rw [bad 3 (by decide) (tbE_pt g1' g2)]
    · (simp only [go_sem,seval] <;> first|done|omega)
  by_cases g3:(l.take k).any (fun o => decide (o.name = x.name)) = true
  · have e:fst0 [if nameOk x.name = false then 8 else 0,ptE x.at_,if (l.take k).any (fun o => decide (o.name = x.name)) = true then 9 else 0] = 9:=by rw [g3];simp [fst0,g1,g2]
    have f8:((9:Int) = 0) = False:=by decide
    rw [e]
    simp -implicitDefEqProofs (disch:=first|omega|(simp only [go_sem,seval,f8];first|done|omega)) only [go_sem,seval,f8]
    (first|refine post_fin ret_ok hM rfl ?_ ?_|refine post_fin0 ret_ok hM rfl ?_ ?_|refine post_fin normal_ok hM rfl ?_ ?_|refine post_fin0 normal_ok hM rfl ?_ ?_)
    · simp -implicitDefEqProofs (disch:=first|omega|(simp only [go_sem,seval];first|done|omega)) only [go_sem,seval]
      rw [bad 9 (by decide) (tbE_twice g1' g2 g3)]
    · (simp only [go_sem,seval] <;> first|done|omega)
  have g3':(l.take k).any (fun o => decide (o.name = x.name)) = false:=by simpa using g3
  have e:fst0 [if nameOk x.name = false then 8 else 0,ptE x.at_,if (l.take k).any (fun o => decide (o.name = x.name)) = true then 9 else 0] = 0:=by rw [g3'];simp [fst0,g1,g2]
  rw [e]
  clear e
  have gx:=ptE_in g2
  have hup:=upd_known x (l.take k) g3'
  have hsz:=encTb_sized l
  have hkl:(k ≤ l.length) = True:=eq_true hk
  have htk:List.take k (List.map encTb l) = (l.take k).map encTb:=by rw [List.map_take]
  have hlk:(l.take k).length = k:=by rw [List.length_take];omega
  have hsk:=encTb_sized (l.take k)
  simp -implicitDefEqProofs (disch:=first|omega|(simp only [go_sem,seval,encTb_cells,encTb_eq,mupdO_om,mupdB_map,keyOk_str,hkn,hup,hsz,hkl,htk,hlk,List.drop_zero,Nat.sub_zero];first|done|omega)) only [go_sem,seval,encTb_cells,encTb_eq,mupdO_om,mupdB_map,keyOk_str,hkn,hup,hsz,hkl,htk,hlk,List.drop_zero,Nat.sub_zero]
  refine loop_mk (α:=Nat) 0 (fun i => i ≤ k ∧ (l.take i).any (fun o => decide (apartP x.at_ o.at_ < least * least)) = false) (fun _ => M ++ [.map (knownE (l.take k ++ [x])),.row true 3 0 [encTb x]])
    (fun i => [(1,.fp [.s (.string nm),.I least,.fs (l.map encTb)]),(4,.om M.length),(5,.I 0),(7,.op (M.length + 1) 0 0 0),(28,.fs (l.map encTb)),(29,.I l.length),(30,.I k),(56,.fs ((l.take k).map encTb)),(57,.I k),(58,.I i)])
    (fun i => k - i) ⟨Nat.zero_le _,rfl⟩ rfl rfl ?_
  rintro i ⟨hi,hnear⟩
  by_cases hij:i < k
  · obtain ⟨y,hy⟩:∃ y,l[i]? = some y:=⟨_,List.getElem?_eq_getElem (by omega)⟩
    have hy':(l.take k)[i]? = some y:=by rw [List.getElem?_take_of_lt hij];exact hy
    have f1:i < (l.take k).length:=by omega
    have hsn:=any_snoc (fun o => decide (apartP x.at_ o.at_ < least * least)) hy
    have gy:=hpt i y hij hy
    simp -implicitDefEqProofs (disch:=first|omega|(simp only [go_sem,seval,hij,f1,hy',hlk,encTb_cells,encTb_eq];first|done|omega)) only [go_sem,seval,hij,f1,hy',hlk,encTb_cells,encTb_eq]
    refine callP_q (q_site_apart x.at_ y.at_ (ptIn_W gx) (ptIn_W gy) _) ?_
    simp -implicitDefEqProofs (disch:=first|omega|(simp only [go_sem,seval,encTb_cells,encTb_eq];first|done|omega)) only [go_sem,seval,encTb_cells,encTb_eq]
    by_cases hn:apartP x.at_ y.at_ < least * least
    · have hit:=any_hit (k:=k) (fun o => decide (apartP x.at_ o.at_ < least * least)) hy hij (by simpa using hn)
      simp -implicitDefEqProofs (disch:=first|omega|(simp only [go_sem,seval,hn];first|done|omega)) only [go_sem,seval,hn]
      (first|refine post_fin ret_ok hM rfl ?_ ?_|refine post_fin0 ret_ok hM rfl ?_ ?_|refine post_fin normal_ok hM rfl ?_ ?_|refine post_fin0 normal_ok hM rfl ?_ ?_)
      · simp -implicitDefEqProofs (disch:=first|omega|(simp only [go_sem,seval];first|done|omega)) only [go_sem,seval]
        rw [bad 15 (by decide) (tbE_near g1' g2 g3' hit)]
      · (simp only [go_sem,seval] <;> first|done|omega)
    · simp -implicitDefEqProofs (disch:=first|omega|(simp only [go_sem,seval,hn,encTb_cells,encTb_eq];first|done|omega)) only [go_sem,seval,hn,encTb_cells,encTb_eq]
      refine Wp_cut_at hM rfl 2 (by simp) (by first|done|(simp only [go_sem,seval,encTb_low] <;> first|done|(refine ⟨?_,?_⟩ <;> omega)|omega)) (lowL_mk (by first|done|(simp only [go_sem,seval,encTb_low] <;> first|done|(refine ⟨?_,?_⟩ <;> omega)|omega))) ?_
      simp -implicitDefEqProofs (disch:=first|omega|(simp only [go_sem,seval];first|done|omega)) only [go_sem,seval]
      exact again' (i + 1) ⟨by omega,by rw [hsn,hnear];simp [hn]⟩ (by omega) rfl rfl
  have hij':i = k:=by omega
  subst hij'
  have h0:=tbE_ok g1' g2 g3' hnear
  rw [if_pos h0] at hd
  simp -implicitDefEqProofs (disch:=first|omega|(simp only [go_sem,seval,hij,encTb_cells,encTb_eq];first|done|omega)) only [go_sem,seval,hij,encTb_cells,encTb_eq]
  refine Wp_cut_at hM rfl 1 (by simp) (by first|done|(simp only [go_sem,seval,encTb_low] <;> first|done|(refine ⟨?_,?_⟩ <;> omega)|omega)) (lowL_mk (by first|done|(simp only [go_sem,seval,encTb_low] <;> first|done|(refine ⟨?_,?_⟩ <;> omega)|omega))) ?_
  simp -implicitDefEqProofs (disch:=first|omega|(simp only [go_sem,seval];first|done|omega)) only [go_sem,seval]
  have hts:l.take (i + 1) = l.take i ++ [x]:=by
    obtain ⟨q1,q2⟩:=List.getElem?_eq_some_iff.1 hx
    rw [List.take_succ_eq_append_getElem q1,q2]
  exact again' (i + 1) ⟨by omega,by rw [hs,hd],hin1 h0⟩ (by omega) (by rw [hts]) rfl
theorem q_site_Spacing (s:Ste) (hl:s.tbs.length ≤ 1048576):Q X 42 [encSte s] (.tup [.I (if spcE s = 0 then spcOf s.tbs else 0),.I (spcE s)]):=by
  have hC:=q_site_CheckSite (X:=X) s hl
  have hq:=q_site_first (X:=X) [chkSte s,if s.tbs.length < 2 then 7 else 0] (by simp)
  have hz:spcE s = 0 → chkSte s = 0 ∧ 2 ≤ s.tbs.length:=by
    intro h
    obtain ⟨h1,h2⟩:=fst0_two h
    refine ⟨h1,?_⟩
    split at h2
    · cases h2
    · omega
  have e:spcE s = fst0 [chkSte s,if s.tbs.length < 2 then 7 else 0]:=rfl
  rw [← e] at hq
  clear e
  have hi:=fun h => chkSte_in (s:=s) h
  generalize spcE s = e at hq hz ⊢
  obtain ⟨nm,least,l⟩:=s
  simp only at hl hz hi
  have e:encSte ⟨nm,least,l⟩ = .agg [.s (.string nm),.I least,.fs (l.map encTb)]:=rfl
  rw [e] at hC ⊢
  clear e
  intro M
  (refine ACall_fn (cf:=L4.c42) rfl rfl fun hM hA => ?_;simp only [L4.c42,zO,zF,zT];rw [mk1 _ (by decide)];simp -implicitDefEqProofs (disch:=first|omega|(simp only [go_sem,seval];first|done|omega)) only [go_sem,seval])
  refine callP_q (hC _) ?_
  simp -implicitDefEqProofs (disch:=first|omega|(simp only [go_sem,seval];first|done|omega)) only [go_sem,seval]
  refine callP_q (q_site_when _ _ _) ?_
  simp -implicitDefEqProofs (disch:=first|omega|(simp only [go_sem,seval];first|done|omega)) only [go_sem,seval]
  have e:(if decide ((l.length:Int) < 2) = true then (7:Int) else 0) = if l.length < 2 then 7 else 0:=by
    by_cases h:l.length < 2
    · rw [if_pos h,if_pos (by simp;omega)]
    · rw [if_neg h,if_neg (by simp;omega)]
  simp only [decide_eq_true_eq] at e
  rw [e]
  clear e
  refine callP_q (hq _) ?_
  by_cases h0:e = 0
  case neg =>
    rw [if_neg h0]
    simp -implicitDefEqProofs (disch:=first|omega|(simp only [go_sem,seval,h0];first|done|omega)) only [go_sem,seval,h0]
    (all_goals (first|refine post_fin ret_ok hM rfl ?_ ?_|refine post_fin0 ret_ok hM rfl ?_ ?_|refine post_fin normal_ok hM rfl ?_ ?_|refine post_fin0 normal_ok hM rfl ?_ ?_);all_goals first|(simp only [go_sem,seval] <;> first|done|omega)|skip;all_goals (try simp -implicitDefEqProofs (disch:=first|omega|(simp only [go_sem,seval];first|done|omega)) only [go_sem,seval]))
  subst h0
  rw [if_pos rfl]
  obtain ⟨h1,h2⟩:=hz rfl
  obtain ⟨_,_,h3,hin⟩:=hi h1
  obtain ⟨t0,ht0⟩:∃ t,l[0]? = some t:=⟨_,List.getElem?_eq_getElem (by omega)⟩
  obtain ⟨t1,ht1⟩:∃ t,l[1]? = some t:=⟨_,List.getElem?_eq_getElem (by omega)⟩
  have f0:(0 < l.length) = True:=eq_true (by omega)
  have f1:(1 < l.length) = True:=eq_true (by omega)
  have hpt:=fun (i:Nat) (t:Tb) (ht:l[i]? = some t) => tbsIn_pt hin (List.getElem?_eq_some_iff.1 ht).1 ht
  have hs0:spcTo l 0 = apartP t0.at_ t1.at_:=by rw [spcTo,List.getD_eq_getElem?_getD,List.getD_eq_getElem?_getD,ht0,ht1];rfl
  simp -implicitDefEqProofs (disch:=first|omega|(simp only [go_sem,seval,ht0,ht1,f0,f1,encTb_cells,encTb_eq];first|done|omega)) only [go_sem,seval,ht0,ht1,f0,f1,encTb_cells,encTb_eq]
  refine callP_q (q_site_apart t0.at_ t1.at_ (ptIn_W (hpt _ _ ht0)) (ptIn_W (hpt _ _ ht1)) _) ?_
  rw [← hs0]
  simp -implicitDefEqProofs (disch:=first|omega|(simp only [go_sem,seval];first|done|omega)) only [go_sem,seval]
  refine loop_mk (α:=Nat) 0 (fun k => k ≤ l.length) (fun k => M) (fun k => [(1,.fp [.s (.string nm),.I least,.fs (l.map encTb)]),(5,.I (spcTo l k)),(34,.fs (l.map encTb)),(35,.I l.length),(36,.I k)]) (fun k => l.length - k) (Nat.zero_le _) rfl rfl ?_
  intro k hk
  by_cases hlt:k < l.length
  case neg =>
    have hkk:k = l.length:=by omega
    subst hkk
    simp -implicitDefEqProofs (disch:=first|omega|(simp only [go_sem,seval,hlt];first|done|omega)) only [go_sem,seval,hlt]
    (first|refine post_fin ret_ok hM rfl ?_ ?_|refine post_fin0 ret_ok hM rfl ?_ ?_|refine post_fin normal_ok hM rfl ?_ ?_|refine post_fin0 normal_ok hM rfl ?_ ?_)
    · simp -implicitDefEqProofs (disch:=first|omega|(simp only [go_sem,seval];first|done|omega)) only [go_sem,seval]
      rfl
    · (simp only [go_sem,seval] <;> first|done|omega)
  obtain ⟨x,hx⟩:∃ x,l[k]? = some x:=⟨_,List.getElem?_eq_getElem hlt⟩
  have hkl:(k ≤ l.length) = True:=eq_true hk
  have htk:List.take k (List.map encTb l) = (l.take k).map encTb:=by rw [List.map_take]
  have hlk:(l.take k).length = k:=by rw [List.length_take];omega
  have hsk:=encTb_sized (l.take k)
  have hsz:=encTb_sized l
  have hss:=spcTo_succ hx
  simp -implicitDefEqProofs (disch:=first|omega|(simp only [go_sem,seval,hlt,hx,encTb_cells,encTb_eq,hsz,hkl,htk,hlk,List.drop_zero,Nat.sub_zero];first|done|omega)) only [go_sem,seval,hlt,hx,encTb_cells,encTb_eq,hsz,hkl,htk,hlk,List.drop_zero,Nat.sub_zero]
  refine loop_mk (α:=Nat) 0 (fun i => i ≤ k) (fun _ => M ++ [.row true 3 0 [encTb x]])
    (fun i => [(1,.fp [.s (.string nm),.I least,.fs (l.map encTb)]),(5,.I (nearK x (spcTo l k) (l.take i))),(7,.op M.length 0 0 0),(34,.fs (l.map encTb)),(35,.I l.length),(36,.I k),(44,.fs ((l.take k).map encTb)),(45,.I k),(46,.I i)])
    (fun i => k - i) (Nat.zero_le _) rfl rfl ?_
  intro i hi
  by_cases hij:i < k
  · obtain ⟨y,hy⟩:∃ y,l[i]? = some y:=⟨_,List.getElem?_eq_getElem (by omega)⟩
    have hy':(l.take k)[i]? = some y:=by rw [List.getElem?_take_of_lt hij];exact hy
    have f1:i < (l.take k).length:=by omega
    have hsn:=nearK_snoc (x:=x) (m:=spcTo l k) hy
    have hne:=tbsIn_ne hin hlt hx hij hy
    have hb:(x.name == y.name) = false:=by rw [ba_beq,decide_eq_false_iff_not];exact fun h => hne h.symm
    simp -implicitDefEqProofs (disch:=first|omega|(simp only [go_sem,seval,hij,f1,hy',hlk,encTb_cells,encTb_eq,hb,Bool.false_and,Bool.not_false];first|done|omega)) only [go_sem,seval,hij,f1,hy',hlk,encTb_cells,encTb_eq,hb,Bool.false_and,Bool.not_false]
    refine callP_q (q_site_apart x.at_ y.at_ (ptIn_W (hpt _ _ hx)) (ptIn_W (hpt _ _ hy)) _) ?_
    simp -implicitDefEqProofs (disch:=first|omega|(simp only [go_sem,seval,encTb_cells,encTb_eq];first|done|omega)) only [go_sem,seval,encTb_cells,encTb_eq]
    refine Wp_cut_at hM rfl 1 (by simp) (by first|done|(simp only [go_sem,seval,encTb_low] <;> first|done|(refine ⟨?_,?_⟩ <;> omega)|omega)) (lowL_mk (by first|done|(simp only [go_sem,seval,encTb_low] <;> first|done|(refine ⟨?_,?_⟩ <;> omega)|omega))) ?_
    simp -implicitDefEqProofs (disch:=first|omega|(simp only [go_sem,seval];first|done|omega)) only [go_sem,seval]
    exact again' (i + 1) (by omega) (by omega) rfl (by rw [hsn];rfl)
  have hij':i = k:=by omega
  subst hij'
  rw [← hss]
  simp -implicitDefEqProofs (disch:=first|omega|(simp only [go_sem,seval,hij,encTb_cells,encTb_eq];first|done|omega)) only [go_sem,seval,hij,encTb_cells,encTb_eq]
  refine Wp_cut_at hM rfl 0 (by simp) (by first|done|(simp only [go_sem,seval,encTb_low] <;> first|done|(refine ⟨?_,?_⟩ <;> omega)|omega)) (lowL_mk (by first|done|(simp only [go_sem,seval,encTb_low] <;> first|done|(refine ⟨?_,?_⟩ <;> omega)|omega))) ?_
  simp -implicitDefEqProofs (disch:=first|omega|(simp only [go_sem,seval];first|done|omega)) only [go_sem,seval]
  exact again' (i + 1) (by omega) (by omega) rfl rfl
theorem q_site_TurnSite_1 (p:Pt) (n:Nat) (hp:ptIn p) (hn:n ≤ 1000) (M:List Blk):ACall F X (.fn 114) [encPt p,.fp [.I n]] M (encPt (trnN n p)) M:=by
  (refine ACall_fn (cf:=L4.c114) rfl rfl fun hM hA => ?_;simp only [L4.c114,zO,zF,zT];rw [mk2 _ (by decide)];simp -implicitDefEqProofs (disch:=first|omega|(simp only [go_sem,seval,encPt_eq];first|done|omega)) only [go_sem,seval,encPt_eq])
  refine loop_mk (α:=Nat) 0 (fun k => k ≤ n) (fun k => M ++ [.row true 2 0 [encPt (trnN k p)],.row true 2 0 [encPt ⟨0,0⟩]]) (fun k => [(2,.op M.length 0 0 0),(3,.op (M.length + 1) 0 0 0),(4,.I n),(5,.I k)]) (fun k => n - k) (Nat.zero_le _) rfl rfl ?_
  intro k hk
  have hw:=trnN_W hp k
  unfold ptIn at hw
  by_cases hlt:k < n
  · simp -implicitDefEqProofs (disch:=first|omega|(simp only [go_sem,seval,hlt,encPt_eq];first|done|omega)) only [go_sem,seval,hlt,encPt_eq]
    exact again' (k + 1) (by omega) (by omega) rfl rfl
  have hkk:k = n:=by omega
  subst hkk
  simp -implicitDefEqProofs (disch:=first|omega|(simp only [go_sem,seval,hlt,encPt_eq];first|done|omega)) only [go_sem,seval,hlt,encPt_eq]
  (all_goals (first|refine post_fin ret_ok hM rfl ?_ ?_|refine post_fin0 ret_ok hM rfl ?_ ?_|refine post_fin normal_ok hM rfl ?_ ?_|refine post_fin0 normal_ok hM rfl ?_ ?_);all_goals first|(simp only [go_sem,seval] <;> first|done|omega)|skip;all_goals (try simp -implicitDefEqProofs (disch:=first|omega|(simp only [go_sem,seval,encPt_eq];first|done|omega)) only [go_sem,seval,encPt_eq]))
theorem q_site_moved {g:FuncId} {cap:List PV} {f:Pt → Pt} (s:Ste) (hl:s.tbs.length ≤ 1048576) (hg:∀ t ∈ s.tbs,∀ M:List Blk,ACall F X (.fn g) (encPt t.at_ :: cap) M (encPt (f t.at_)) M) :
    Q X 113 [encSte s,.fn (.func g) [] cap] (encSte ⟨s.name,s.least,s.tbs.map (mvT f)⟩):=by
  obtain ⟨nm,least,l⟩:=s
  simp only at hl hg ⊢
  have e:encSte ⟨nm,least,l⟩ = .agg [.s (.string nm),.I least,.fs (l.map encTb)]:=rfl
  rw [e]
  clear e
  intro M
  (refine ACall_fn (cf:=L4.c113) rfl rfl fun hM hA => ?_;simp only [L4.c113,zO,zF,zT];rw [mk2 _ (by decide)];simp -implicitDefEqProofs (disch:=first|omega|(simp only [go_sem,seval];first|done|omega)) only [go_sem,seval])
  have okl:=encTb_ok l
  simp -implicitDefEqProofs (disch:=first|omega|(simp only [go_sem,seval,r_copy,copyO_os,copyR_all,okl,List.length_map,List.length_replicate];first|done|omega)) only [go_sem,seval,r_copy,copyO_os,copyR_all,okl,List.length_map,List.length_replicate]
  refine loop_mk (α:=Nat) 0 (fun k => k ≤ l.length) (fun k => M ++ [.row true 3 0 [encSte ⟨nm,least,l⟩],.row true 3 0 [zSte],.row true 3 0 ((mvK f l k).map encTb)])
    (fun k => [(1,.fn (.func g) [] cap),(2,.op M.length 0 0 0),(4,.op (M.length + 1) 0 0 0),(5,.os (M.length + 2) 0 0 l.length),(16,.I l.length),(17,.I k)]) (fun k => l.length - k) (Nat.zero_le _) ?_ rfl ?_
  · rw [mvK_zero];rfl
  intro k hk
  by_cases hlt:k < l.length
  · obtain ⟨x,hx⟩:∃ x,l[k]? = some x:=⟨_,List.getElem?_eq_getElem hlt⟩
    have hgx:=hg x (List.mem_of_getElem? hx)
    have hmx:=mvK_get (f:=f) hx
    have hml:=mvK_len f l k
    have hms:=mvK_set (f:=f) hx
    simp -implicitDefEqProofs (disch:=first|omega|(simp only [go_sem,seval,hlt,hmx,hml,encTb_cells,encTb_eq];first|done|omega)) only [go_sem,seval,hlt,hmx,hml,encTb_cells,encTb_eq]
    refine callP_q (hgx _) ?_
    have hms':((mvK f l k).map encTb).set k (PV.agg [.s (.string x.name),.I (f x.at_).x,.I (f x.at_).y]) = (mvK f l (k + 1)).map encTb:=by
      rw [← hms,List.map_set];rfl
    simp -implicitDefEqProofs (disch:=first|omega|(simp only [go_sem,seval,hlt,hmx,hml,encTb_cells,encTb_eq,encPt_eq,hms'];first|done|omega)) only [go_sem,seval,hlt,hmx,hml,encTb_cells,encTb_eq,encPt_eq,hms']
    have hca:lowL (M.length + 3) cap = True:=eq_true (lowL_mono (by omega) _ hA.2.1.2)
    refine Wp_cut_at hM rfl 3 (by simp) (by first|done|(simp only [go_sem,seval,encTb_low,encSte_low1,zSte_low,hca] <;> first|done|(refine ⟨?_,?_⟩ <;> omega)|omega)) (lowL_mk (by first|done|(simp only [go_sem,seval,encTb_low,encSte_low1,zSte_low,hca] <;> first|done|(refine ⟨?_,?_⟩ <;> omega)|omega))) ?_
    simp -implicitDefEqProofs (disch:=first|omega|(simp only [go_sem,seval];first|done|omega)) only [go_sem,seval]
    exact again' (k + 1) (by omega) (by omega) rfl rfl
  have hkk:k = l.length:=by omega
  subst hkk
  rw [mvK_all f l (Nat.le_refl _)]
  have hz:zSte = .agg [.s (.string ⟨#[]⟩),.I 0,.s (.slice none 0 0)]:=rfl
  have hlw:∀ n:Nat,lowL n (List.map (fun x => encTb (mvT f x)) l) = True:=fun n => eq_true (lowL_map _ _ fun r => by simp [encTb,mvT,PV.low,lowL])
  simp -implicitDefEqProofs (disch:=first|omega|(simp only [go_sem,seval,hlt,List.length_map,encSte_eq,hz,encTb_sized];first|done|omega)) only [go_sem,seval,hlt,List.length_map,encSte_eq,hz,encTb_sized]
  (all_goals (first|refine post_fin ret_ok hM rfl ?_ ?_|refine post_fin0 ret_ok hM rfl ?_ ?_|refine post_fin normal_ok hM rfl ?_ ?_|refine post_fin0 normal_ok hM rfl ?_ ?_);all_goals first|(simp only [go_sem,seval,hlw] <;> first|done|omega)|skip;all_goals (try simp -implicitDefEqProofs (disch:=first|omega|(simp only [go_sem,seval];first|done|omega)) only [go_sem,seval]))
def turnE (s:Ste) (q:Int):Int:=fst0 [chkSte s,rng q 0 3]
def s0:Ste:=⟨⟨#[]⟩,0,[]⟩
theorem encS0:encSte s0 = .agg [.s (.string ⟨#[]⟩),.I 0,.fs []]:=rfl
def mvS (f:Pt → Pt) (s:Ste):Ste:=⟨s.name,s.least,s.tbs.map (mvT f)⟩
theorem all_pt {s:Ste} (h:chkSte s = 0):∀ t ∈ s.tbs,ptIn t.at_:=by
  intro t ht
  obtain ⟨i,hi,h2⟩:=List.mem_iff_getElem.1 ht
  exact tbsIn_pt (chkSte_in h).2.2.2 hi (List.getElem?_eq_some_iff.2 ⟨hi,h2⟩)
theorem q_site_TurnSite (s:Ste) (q:Int) (hl:s.tbs.length ≤ 1048576):Q X 44 [encSte s,.I q] (.tup [encSte (if turnE s q = 0 then mvS (trnN q.toNat) s else s0),.I (turnE s q)]):=by
  have hC:=q_site_CheckSite (X:=X) s hl
  have hq:=q_site_first (X:=X) [chkSte s,rng q 0 3] (by simp)
  have hz:turnE s q = 0 → chkSte s = 0 ∧ rng q 0 3 = 0:=fst0_two
  have hm:chkSte s = 0 ∧ rng q 0 3 = 0 → Q X 113 [encSte s,.fn (.func 114) [] [.fp [.I q]]] (encSte (mvS (trnN q.toNat) s)):=by
    rintro ⟨h1,h2⟩
    rw [rng_ok] at h2
    obtain ⟨n,rfl⟩:∃ n:Nat,q = n:=⟨q.toNat,by omega⟩
    exact q_site_moved s hl (fun t ht M => q_site_TurnSite_1 t.at_ n (all_pt h1 t ht) (by omega) M)
  have e:turnE s q = fst0 [chkSte s,rng q 0 3]:=rfl
  rw [← e] at hq
  clear e
  generalize turnE s q = e at hq hz ⊢
  have es:=encSte_eq s
  have ls:=encSte_low1 (n:=0) s
  have lt:=fun n => encSte_low1 (n:=n) (mvS (trnN q.toNat) s)
  have et:=encSte_eq (mvS (trnN q.toNat) s)
  intro M
  (refine ACall_fn (cf:=L4.c44) rfl rfl fun hM hA => ?_;simp only [L4.c44,zO,zF,zT];rw [mk2 _ (by decide)];simp -implicitDefEqProofs (disch:=first|omega|(simp only [go_sem,seval,es];first|done|omega)) only [go_sem,seval,es])
  refine callP_q (hC _) ?_
  simp -implicitDefEqProofs (disch:=first|omega|(simp only [go_sem,seval,es];first|done|omega)) only [go_sem,seval,es]
  refine callP_q (q_site_checkTurns q _) ?_
  simp -implicitDefEqProofs (disch:=first|omega|(simp only [go_sem,seval];first|done|omega)) only [go_sem,seval]
  refine callP_q (hq _) ?_
  by_cases h0:e = 0
  case neg =>
    rw [if_neg h0]
    simp -implicitDefEqProofs (disch:=first|omega|(simp only [go_sem,seval,h0,encS0];first|done|omega)) only [go_sem,seval,h0,encS0]
    (all_goals (first|refine post_fin ret_ok hM rfl ?_ ?_|refine post_fin0 ret_ok hM rfl ?_ ?_|refine post_fin normal_ok hM rfl ?_ ?_|refine post_fin0 normal_ok hM rfl ?_ ?_);all_goals first|(simp only [go_sem,seval] <;> first|done|omega)|skip;all_goals (try simp -implicitDefEqProofs (disch:=first|omega|(simp only [go_sem,seval];first|done|omega)) only [go_sem,seval]))
  subst h0
  rw [if_pos rfl]
  have hm:=hm (hz rfl)
  generalize mvS (trnN q.toNat) s = s' at lt et hm ⊢
  simp -implicitDefEqProofs (disch:=first|omega|(simp only [go_sem,seval,es];first|done|omega)) only [go_sem,seval,es]
  refine callP_q (hm _) ?_
  simp -implicitDefEqProofs (disch:=first|omega|(simp only [go_sem,seval,encSte_eq];first|done|omega)) only [go_sem,seval,encSte_eq]
  (all_goals (first|refine post_fin ret_ok hM rfl ?_ ?_|refine post_fin0 ret_ok hM rfl ?_ ?_|refine post_fin normal_ok hM rfl ?_ ?_|refine post_fin0 normal_ok hM rfl ?_ ?_);all_goals first|(simp only [go_sem,seval,encTb_low] <;> first|done|omega)|skip;all_goals (try simp -implicitDefEqProofs (disch:=first|omega|(simp only [go_sem,seval,encSte_eq];first|done|omega)) only [go_sem,seval,encSte_eq]))
def stepL:List Pt:=[⟨0,-1⟩,⟨-1,-1⟩,⟨-1,0⟩,⟨-1,1⟩,⟨0,1⟩,⟨1,1⟩,⟨1,0⟩,⟨1,-1⟩]
def stepOf (n:Int):Pt:=if rng n 0 7 = 0 then stepL.getD n.toNat ⟨0,0⟩ else ⟨0,0⟩
theorem q_site_Step (n:Int):Q X 57 [.I n] (.tup [encPt (stepOf n),.I (rng n 0 7)]):=by
  intro M
  (refine ACall_fn (cf:=L4.c57) rfl rfl fun hM hA => ?_;simp only [L4.c57,zO,zF,zT];rw [mk1 _ (by decide)];simp -implicitDefEqProofs (disch:=first|omega|(simp only [go_sem,seval];first|done|omega)) only [go_sem,seval])
  refine callP_q (q_site_within n 0 7 _) ?_
  by_cases h:rng n 0 7 = 0
  case neg =>
    have e:stepOf n = ⟨0,0⟩:=if_neg h
    rw [e]
    simp -implicitDefEqProofs (disch:=first|omega|(simp only [go_sem,seval,h];first|done|omega)) only [go_sem,seval,h]
    (all_goals (first|refine post_fin ret_ok hM rfl ?_ ?_|refine post_fin0 ret_ok hM rfl ?_ ?_|refine post_fin normal_ok hM rfl ?_ ?_|refine post_fin0 normal_ok hM rfl ?_ ?_);all_goals first|(simp only [go_sem,seval] <;> first|done|omega)|skip;all_goals (try simp -implicitDefEqProofs (disch:=first|omega|(simp only [go_sem,seval,encPt_eq];first|done|omega)) only [go_sem,seval,encPt_eq]))
  have h1:=rng_ok.1 h
  rcases (by omega:n = 0 ∨ n = 1 ∨ n = 2 ∨ n = 3 ∨ n = 4 ∨ n = 5 ∨ n = 6 ∨ n = 7) with rfl|rfl|rfl|rfl|rfl|rfl|rfl|rfl
  · have e:stepOf 0 = ⟨0,-1⟩:=by decide
    rw [e,h]
    simp -implicitDefEqProofs (disch:=first|omega|(simp only [go_sem,seval];first|done|omega)) only [go_sem,seval]
    (all_goals (first|refine post_fin ret_ok hM rfl ?_ ?_|refine post_fin0 ret_ok hM rfl ?_ ?_|refine post_fin normal_ok hM rfl ?_ ?_|refine post_fin0 normal_ok hM rfl ?_ ?_);all_goals first|(simp only [go_sem,seval] <;> first|done|omega)|skip;all_goals (try simp -implicitDefEqProofs (disch:=first|omega|(simp only [go_sem,seval,encPt_eq];first|done|omega)) only [go_sem,seval,encPt_eq]))
  · have e:stepOf 1 = ⟨-1,-1⟩:=by decide
    rw [e,h]
    simp -implicitDefEqProofs (disch:=first|omega|(simp only [go_sem,seval];first|done|omega)) only [go_sem,seval]
    (all_goals (first|refine post_fin ret_ok hM rfl ?_ ?_|refine post_fin0 ret_ok hM rfl ?_ ?_|refine post_fin normal_ok hM rfl ?_ ?_|refine post_fin0 normal_ok hM rfl ?_ ?_);all_goals first|(simp only [go_sem,seval] <;> first|done|omega)|skip;all_goals (try simp -implicitDefEqProofs (disch:=first|omega|(simp only [go_sem,seval,encPt_eq];first|done|omega)) only [go_sem,seval,encPt_eq]))
  · have e:stepOf 2 = ⟨-1,0⟩:=by decide
    rw [e,h]
    simp -implicitDefEqProofs (disch:=first|omega|(simp only [go_sem,seval];first|done|omega)) only [go_sem,seval]
    (all_goals (first|refine post_fin ret_ok hM rfl ?_ ?_|refine post_fin0 ret_ok hM rfl ?_ ?_|refine post_fin normal_ok hM rfl ?_ ?_|refine post_fin0 normal_ok hM rfl ?_ ?_);all_goals first|(simp only [go_sem,seval] <;> first|done|omega)|skip;all_goals (try simp -implicitDefEqProofs (disch:=first|omega|(simp only [go_sem,seval,encPt_eq];first|done|omega)) only [go_sem,seval,encPt_eq]))
  · have e:stepOf 3 = ⟨-1,1⟩:=by decide
    rw [e,h]
    simp -implicitDefEqProofs (disch:=first|omega|(simp only [go_sem,seval];first|done|omega)) only [go_sem,seval]
    (all_goals (first|refine post_fin ret_ok hM rfl ?_ ?_|refine post_fin0 ret_ok hM rfl ?_ ?_|refine post_fin normal_ok hM rfl ?_ ?_|refine post_fin0 normal_ok hM rfl ?_ ?_);all_goals first|(simp only [go_sem,seval] <;> first|done|omega)|skip;all_goals (try simp -implicitDefEqProofs (disch:=first|omega|(simp only [go_sem,seval,encPt_eq];first|done|omega)) only [go_sem,seval,encPt_eq]))
  · have e:stepOf 4 = ⟨0,1⟩:=by decide
    rw [e,h]
    simp -implicitDefEqProofs (disch:=first|omega|(simp only [go_sem,seval];first|done|omega)) only [go_sem,seval]
    (all_goals (first|refine post_fin ret_ok hM rfl ?_ ?_|refine post_fin0 ret_ok hM rfl ?_ ?_|refine post_fin normal_ok hM rfl ?_ ?_|refine post_fin0 normal_ok hM rfl ?_ ?_);all_goals first|(simp only [go_sem,seval] <;> first|done|omega)|skip;all_goals (try simp -implicitDefEqProofs (disch:=first|omega|(simp only [go_sem,seval,encPt_eq];first|done|omega)) only [go_sem,seval,encPt_eq]))
  · have e:stepOf 5 = ⟨1,1⟩:=by decide
    rw [e,h]
    simp -implicitDefEqProofs (disch:=first|omega|(simp only [go_sem,seval];first|done|omega)) only [go_sem,seval]
    (all_goals (first|refine post_fin ret_ok hM rfl ?_ ?_|refine post_fin0 ret_ok hM rfl ?_ ?_|refine post_fin normal_ok hM rfl ?_ ?_|refine post_fin0 normal_ok hM rfl ?_ ?_);all_goals first|(simp only [go_sem,seval] <;> first|done|omega)|skip;all_goals (try simp -implicitDefEqProofs (disch:=first|omega|(simp only [go_sem,seval,encPt_eq];first|done|omega)) only [go_sem,seval,encPt_eq]))
  · have e:stepOf 6 = ⟨1,0⟩:=by decide
    rw [e,h]
    simp -implicitDefEqProofs (disch:=first|omega|(simp only [go_sem,seval];first|done|omega)) only [go_sem,seval]
    (all_goals (first|refine post_fin ret_ok hM rfl ?_ ?_|refine post_fin0 ret_ok hM rfl ?_ ?_|refine post_fin normal_ok hM rfl ?_ ?_|refine post_fin0 normal_ok hM rfl ?_ ?_);all_goals first|(simp only [go_sem,seval] <;> first|done|omega)|skip;all_goals (try simp -implicitDefEqProofs (disch:=first|omega|(simp only [go_sem,seval,encPt_eq];first|done|omega)) only [go_sem,seval,encPt_eq]))
  · have e:stepOf 7 = ⟨1,-1⟩:=by decide
    rw [e,h]
    simp -implicitDefEqProofs (disch:=first|omega|(simp only [go_sem,seval];first|done|omega)) only [go_sem,seval]
    (all_goals (first|refine post_fin ret_ok hM rfl ?_ ?_|refine post_fin0 ret_ok hM rfl ?_ ?_|refine post_fin normal_ok hM rfl ?_ ?_|refine post_fin0 normal_ok hM rfl ?_ ?_);all_goals first|(simp only [go_sem,seval] <;> first|done|omega)|skip;all_goals (try simp -implicitDefEqProofs (disch:=first|omega|(simp only [go_sem,seval,encPt_eq];first|done|omega)) only [go_sem,seval,encPt_eq]))
def stepC:List PV:=[.I 0,.I (-1),.I (-1),.I (-1),.I (-1),.I 0,.I (-1),.I 1,.I 0,.I 1,.I 1,.I 1,.I 1,.I 0,.I 1,.I (-1)]
theorem q_site_CheckRose (r:Rse) (hl:r.length = 408):Q X 62 [encRs r] (.I (chkRse r)):=by
  have hc:=cells_mk hl
  have e:encRs r = .agg (r.map .I):=rfl
  rw [e]
  clear e
  generalize r.map PV.I = cs at hc ⊢
  generalize (fun k => (blk r k).map PV.I) = bk at hc
  intro M
  have hz:=z408_I
  have heq:=hc.eq z408 List.length_replicate
  have hzl:(z408.map PV.I).length = 408:=by rw [List.length_map];exact List.length_replicate
  generalize z408.map PV.I = zz at hz heq hzl
  have h51:(List.replicate 51 (Value.int .i64 0)).length = 51:=List.length_replicate
  generalize hz5:List.replicate 51 (Value.int .i64 0) = z5 at h51
  have h5d:(List.map PV.s z5).drop 51 = []:=List.drop_of_length_le (by rw [List.length_map,h51];omega)
  have hcl:=hc.len
  have hct:=hc.tk
  have hvw:=hc.vw
  (refine ACall_fn (cf:=L4.c62) rfl rfl fun hM hA => ?_;simp only [L4.c62,zO,zF,zT];rw [mk1 _ (by decide)];simp -implicitDefEqProofs (disch:=first|omega|(simp only [go_sem,seval,-List.reduceReplicate,hz,hz5,hcl,hct,hzl,hvw,eqsV_agg,heq];first|done|omega)) only [go_sem,seval,-List.reduceReplicate,hz,hz5,hcl,hct,hzl,hvw,eqsV_agg,heq])
  by_cases h0:r = z408
  · have h1:chkRse r = 0:=by rw [h0];exact chkRse_z
    have f0:(r = z408) = True:=eq_true h0
    rw [h1]
    simp -implicitDefEqProofs (disch:=first|omega|(simp only [go_sem,seval,-List.reduceReplicate,f0];first|done|omega)) only [go_sem,seval,-List.reduceReplicate,f0]
    (all_goals (first|refine post_fin ret_ok hM rfl ?_ ?_|refine post_fin0 ret_ok hM rfl ?_ ?_|refine post_fin normal_ok hM rfl ?_ ?_|refine post_fin0 normal_ok hM rfl ?_ ?_);all_goals first|(simp only [go_sem,seval,-List.reduceReplicate] <;> first|done|omega)|skip;all_goals (try simp -implicitDefEqProofs (disch:=first|omega|(simp only [go_sem,seval,-List.reduceReplicate];first|done|omega)) only [go_sem,seval,-List.reduceReplicate]))
  have f0:(r = z408) = False:=eq_false h0
  simp -implicitDefEqProofs (disch:=first|omega|(simp only [go_sem,seval,-List.reduceReplicate,f0,hcl,hct];first|done|omega)) only [go_sem,seval,-List.reduceReplicate,f0,hcl,hct]
  refine loop_mk (α:=Nat) 0 (fun k => k ≤ 8 ∧ chkRse r = fst0 ((r.map fun n => rng n 0 40000).drop (k * 51))) (fun _ => M) (fun k => [(11,.agg cs),(12,.I k)]) (fun k => 8 - k) ⟨by decide,by simp [chkRse]⟩ rfl rfl ?_
  rintro k ⟨hk,hs⟩
  by_cases hlt:k < 8
  case neg =>
    have f1:((k:Int) < 8) = False:=eq_false (by omega)
    simp -implicitDefEqProofs (disch:=first|omega|(simp only [go_sem,seval,-List.reduceReplicate,f1];first|done|omega)) only [go_sem,seval,-List.reduceReplicate,f1]
    (first|refine post_fin ret_ok hM rfl ?_ ?_|refine post_fin0 ret_ok hM rfl ?_ ?_|refine post_fin normal_ok hM rfl ?_ ?_|refine post_fin0 normal_ok hM rfl ?_ ?_)
    · simp -implicitDefEqProofs (disch:=first|omega|(simp only [go_sem,seval,-List.reduceReplicate];first|done|omega)) only [go_sem,seval,-List.reduceReplicate]
      rw [hs,List.drop_of_length_le (by rw [List.length_map,hl];omega)];rfl
    · (simp only [go_sem,seval,-List.reduceReplicate] <;> first|done|omega)
  have f1:((k:Int) < 8) = True:=eq_true (by omega)
  have hix:=hc.idx k hlt
  have hbl:=hc.blen k hlt
  have hbt:=hc.btk k hlt
  have hbo:=hc.bone k
  have hbb:=hc.bvw k
  simp -implicitDefEqProofs (disch:=first|omega|(simp only [go_sem,seval,-List.reduceReplicate,f1,hix,hz5,h51,hbl,hbt,hbo,hbb,putE_agg,List.length_map,h5d,List.append_nil];first|done|omega)) only [go_sem,seval,-List.reduceReplicate,f1,hix,hz5,h51,hbl,hbt,hbo,hbb,putE_agg,List.length_map,h5d,List.append_nil]
  refine loop_mk (α:=Nat) 0 (fun v => v ≤ 51 ∧ chkRse r = fst0 ((r.map fun n => rng n 0 40000).drop (k * 51 + v))) (fun _ => M ++ [.row true 51 0 [.agg (bk k)]]) (fun v => [(11,.agg cs),(12,.I k),(15,.agg (bk k)),(16,.I v)]) (fun v => 51 - v) ⟨by decide,hs⟩ rfl rfl ?_
  rintro v ⟨hv,hs2⟩
  by_cases hvl:v < 51
  · have f2:((v:Int) < 51) = True:=eq_true (by omega)
    obtain ⟨x,hx⟩:∃ x,r[k * 51 + v]? = some x:=⟨_,List.getElem?_eq_getElem (by omega)⟩
    have hbi:=hc.bidx k v x hlt hvl hx
    have hd:=fst0_drop (r.map fun n => rng n 0 40000) (k * 51 + v) (rng x 0 40000) (by rw [List.getElem?_map,hx];rfl)
    simp -implicitDefEqProofs (disch:=first|omega|(simp only [go_sem,seval,-List.reduceReplicate,f2,hbi];first|done|omega)) only [go_sem,seval,-List.reduceReplicate,f2,hbi]
    refine callP_q (q_site_within _ _ _ _) ?_
    by_cases hg:rng x 0 40000 = 0
    · rw [if_pos hg] at hd
      simp -implicitDefEqProofs (disch:=first|omega|(simp only [go_sem,seval,-List.reduceReplicate,hg];first|done|omega)) only [go_sem,seval,-List.reduceReplicate,hg]
      exact again' (v + 1) ⟨by omega,by rw [hs2,hd];rfl⟩ (by omega) rfl rfl
    · rw [if_neg hg] at hd
      simp -implicitDefEqProofs (disch:=first|omega|(simp only [go_sem,seval,-List.reduceReplicate,hg];first|done|omega)) only [go_sem,seval,-List.reduceReplicate,hg]
      (first|refine post_fin ret_ok hM rfl ?_ ?_|refine post_fin0 ret_ok hM rfl ?_ ?_|refine post_fin normal_ok hM rfl ?_ ?_|refine post_fin0 normal_ok hM rfl ?_ ?_)
      · simp -implicitDefEqProofs (disch:=first|omega|(simp only [go_sem,seval,-List.reduceReplicate];first|done|omega)) only [go_sem,seval,-List.reduceReplicate]
        rw [hs2,hd]
      · (simp only [go_sem,seval,-List.reduceReplicate] <;> first|done|omega)
  have f2:((v:Int) < 51) = False:=eq_false (by omega)
  have hv51:v = 51:=by omega
  subst hv51
  have hlo:=hc.low
  have hbw:=hc.blow
  simp -implicitDefEqProofs (disch:=first|omega|(simp only [go_sem,seval,-List.reduceReplicate,f2];first|done|omega)) only [go_sem,seval,-List.reduceReplicate,f2]
  refine Wp_cut_at hM rfl 0 (by simp) (by first|done|(simp only [go_sem,seval,-List.reduceReplicate,hlo,hbw] <;> first|done|(refine ⟨?_,?_⟩ <;> omega)|omega)) (lowL_mk (by first|done|(simp only [go_sem,seval,-List.reduceReplicate,hlo,hbw] <;> first|done|(refine ⟨?_,?_⟩ <;> omega)|omega))) ?_
  simp -implicitDefEqProofs (disch:=first|omega|(simp only [go_sem,seval,-List.reduceReplicate];first|done|omega)) only [go_sem,seval,-List.reduceReplicate]
  exact again' (k + 1) ⟨by omega,by rw [hs2,Nat.succ_mul]⟩ (by omega) rfl rfl
theorem q_ref01_Quarters (r:Rse) (hl:r.length = 408) (h0:chkRse r = 0):Q X 61 [encRs r] (.I (sumR r 408)):=by
  have hc:=cells_mk hl
  have e:encRs r = .agg (r.map .I):=rfl
  rw [e]
  clear e
  generalize r.map PV.I = cs at hc ⊢
  generalize (fun k => (blk r k).map PV.I) = bk at hc
  intro M
  have hcl:=hc.len
  have hct:=hc.tk
  have hvw:=hc.vw
  (refine ACall_fn (cf:=L4.c61) rfl rfl fun hM hA => ?_;simp only [L4.c61,zO,zF,zT];rw [mk1 _ (by decide)];simp -implicitDefEqProofs (disch:=first|omega|(simp only [go_sem,seval,-List.reduceReplicate,hcl,hct,hvw];first|done|omega)) only [go_sem,seval,-List.reduceReplicate,hcl,hct,hvw])
  refine loop_mk (α:=Nat) 0 (fun k => k ≤ 8) (fun _ => M) (fun k => [(1,.fp cs),(3,.I (sumR r (k * 51))),(4,.I k)]) (fun k => 8 - k) (by decide) rfl rfl ?_
  intro k hk
  by_cases hlt:k < 8
  case neg =>
    have f1:((k:Int) < 8) = False:=eq_false (by omega)
    have hk8:k = 8:=by omega
    subst hk8
    simp -implicitDefEqProofs (disch:=first|omega|(simp only [go_sem,seval,-List.reduceReplicate,f1];first|done|omega)) only [go_sem,seval,-List.reduceReplicate,f1]
    (all_goals (first|refine post_fin ret_ok hM rfl ?_ ?_|refine post_fin0 ret_ok hM rfl ?_ ?_|refine post_fin normal_ok hM rfl ?_ ?_|refine post_fin0 normal_ok hM rfl ?_ ?_);all_goals first|(simp only [go_sem,seval,-List.reduceReplicate] <;> first|done|omega)|skip;all_goals (try simp -implicitDefEqProofs (disch:=first|omega|(simp only [go_sem,seval,-List.reduceReplicate];first|done|omega)) only [go_sem,seval,-List.reduceReplicate]))
  have f1:((k:Int) < 8) = True:=eq_true (by omega)
  have f1':(k < 8) = True:=eq_true hlt
  have hdr:=hc.drop k hlt
  have hbl:=hc.blen k hlt
  simp -implicitDefEqProofs (disch:=first|omega|(simp only [go_sem,seval,-List.reduceReplicate,f1];first|done|omega)) only [go_sem,seval,-List.reduceReplicate,f1]
  refine loop_mk (α:=Nat) 0 (fun v => v ≤ 51) (fun _ => M) (fun v => [(1,.fp cs),(3,.I (sumR r (k * 51 + v))),(4,.I k),(5,.I v)]) (fun v => 51 - v) (by decide) rfl rfl ?_
  intro v hv
  by_cases hvl:v < 51
  · have f2:((v:Int) ≤ 50) = True:=eq_true (by omega)
    have f2':(v < 51) = True:=eq_true hvl
    obtain ⟨x,hx⟩:∃ x,r[k * 51 + v]? = some x:=⟨_,List.getElem?_eq_getElem (by omega)⟩
    have hxb:=chkRse_in h0 hx
    have hsb:=sumR_bd h0 (i:=k * 51 + v) (by omega)
    have hss:=sumR_snoc hx
    have hbg:=hc.bget k v x hlt hvl hx
    have hb1:((bk k).drop v).take 1 = [PV.I x]:=by
      obtain ⟨q1,q2⟩:=List.getElem?_eq_some_iff.1 hbg
      rw [List.drop_eq_getElem_cons q1,q2];rfl
    simp -implicitDefEqProofs (disch:=first|omega|(simp only [go_sem,seval,-List.reduceReplicate,f1,f1',f2,f2',hcl,hdr,hbl,hb1,Nat.mul_one];first|done|omega)) only [go_sem,seval,-List.reduceReplicate,f1,f1',f2,f2',hcl,hdr,hbl,hb1,Nat.mul_one]
    exact again' (v + 1) (by omega) (by omega) rfl (by rw [← Nat.add_assoc,hss];rfl)
  have f2:((v:Int) ≤ 50) = False:=eq_false (by omega)
  have hv51:v = 51:=by omega
  subst hv51
  simp -implicitDefEqProofs (disch:=first|omega|(simp only [go_sem,seval,-List.reduceReplicate,f2];first|done|omega)) only [go_sem,seval,-List.reduceReplicate,f2]
  exact again' (k + 1) (by omega) (by omega) rfl (by rw [Nat.succ_mul];rfl)
def trnE (r:Rse) (q:Int):Int:=fst0 [chkRse r,rng q 0 3]
theorem q_site_TurnRose (r:Rse) (q:Int) (hl:r.length = 408):Q X 58 [encRs r,.I q] (.tup [encRs (if trnE r q = 0 then trnR r q.toNat 8 else z408),.I (trnE r q)]):=by
  have hC:=q_site_CheckRose (X:=X) r hl
  have hq:=q_site_first (X:=X) [chkRse r,rng q 0 3] (by simp)
  have hz:trnE r q = 0 → chkRse r = 0 ∧ rng q 0 3 = 0:=fst0_two
  have e:trnE r q = fst0 [chkRse r,rng q 0 3]:=rfl
  rw [← e] at hq
  clear e
  generalize trnE r q = e at hq hz ⊢
  have hc:=cells_mk hl
  have e1:encRs r = .agg (r.map .I):=rfl
  rw [e1] at hC ⊢
  clear e1
  have hbk:∀ k:Nat,(fun k => (blk r k).map PV.I) k = (blk r k).map PV.I:=fun _ => rfl
  generalize r.map PV.I = cs at hc hC ⊢
  generalize (fun k => (blk r k).map PV.I) = bk at hc hbk
  intro M
  have hzz:List.replicate 408 (Value.int .i64 0) = z408.map (Value.int .i64):=by unfold z408;rw [List.map_replicate]
  have hz51:(List.replicate 51 (Value.int .i64 0)).length = 51:=List.length_replicate
  generalize hz5:List.replicate 51 (Value.int .i64 0) = z5 at hz51
  have h5d:(List.map PV.s z5).drop 51 = []:=List.drop_of_length_le (by rw [List.length_map,hz51];omega)
  have hcl:=hc.len
  have hct:=hc.tk
  have hvw:=hc.vw
  have hzI:=z408_I
  have hzl:(List.map PV.I z408).length = 408:=by rw [List.length_map];exact List.length_replicate
  have hzv:=fun M => view1_ints M z408
  have hzo:=ones_I z408
  have hzw:=fun m:Nat => encI_lowm (n:=m) z408
  generalize hZ:List.map PV.I z408 = Z at hzI hzl hzv hzo hzw
  (refine ACall_fn (cf:=L4.c58) rfl rfl fun hM hA => ?_;simp only [L4.c58,zO,zF,zT];rw [mk2 _ (by decide)];simp -implicitDefEqProofs (disch:=first|omega|(simp only [go_sem,seval,-List.reduceReplicate,hzI,hcl,hct,hvw,hzl];first|done|omega)) only [go_sem,seval,-List.reduceReplicate,hzI,hcl,hct,hvw,hzl])
  refine callP_q (hC _) ?_
  simp -implicitDefEqProofs (disch:=first|omega|(simp only [go_sem,seval,-List.reduceReplicate];first|done|omega)) only [go_sem,seval,-List.reduceReplicate]
  refine callP_q (q_site_checkTurns q _) ?_
  simp -implicitDefEqProofs (disch:=first|omega|(simp only [go_sem,seval,-List.reduceReplicate];first|done|omega)) only [go_sem,seval,-List.reduceReplicate]
  refine callP_q (hq _) ?_
  by_cases h0:e = 0
  case neg =>
    have e1:encRs z408 = .agg Z:=by rw [← hZ];rfl
    have hzd:Z.drop 408 = []:=List.drop_of_length_le (by omega)
    have hzt:Z.take 408 = Z:=List.take_of_length_le (by omega)
    rw [if_neg h0,e1]
    simp -implicitDefEqProofs (disch:=first|omega|(simp only [go_sem,seval,-List.reduceReplicate,h0,hzI,hzl,putE_agg,hzo,hzd,hzv,List.append_nil,hzt];first|done|omega)) only [go_sem,seval,-List.reduceReplicate,h0,hzI,hzl,putE_agg,hzo,hzd,hzv,List.append_nil,hzt]
    have hzx:∀ (n:Nat) (M:List Blk),List.map (out1 n M) Z = Z:=by rw [← hZ];exact fun n M => out1_ints n M _
    (first|refine post_fin ret_ok hM rfl ?_ ?_|refine post_fin0 ret_ok hM rfl ?_ ?_|refine post_fin normal_ok hM rfl ?_ ?_|refine post_fin0 normal_ok hM rfl ?_ ?_)
    · simp -implicitDefEqProofs (disch:=first|omega|(simp only [go_sem,seval,-List.reduceReplicate,hzt,hzx];first|done|omega)) only [go_sem,seval,-List.reduceReplicate,hzt,hzx]
    · (simp only [go_sem,seval,-List.reduceReplicate,hzw,hzt,hzx] <;> first|done|omega)
  subst h0
  obtain ⟨g1,g2⟩:=hz rfl
  rw [rng_ok] at g2
  obtain ⟨n,rfl⟩:∃ n:Nat,q = n:=⟨q.toNat,by omega⟩
  rw [if_pos rfl,Int.toNat_natCast]
  have ht:=tells_mk hl n
  have e1:encRs (trnR r n 8) = .agg ((fun k => (trnR r n k).map PV.I) 8):=rfl
  have e2:(fun k => (trnR r n k).map PV.I) 0 = Z:=hZ
  have e3:(fun k => (blk r k).map PV.I) = bk:=by funext k;exact (hbk k).symm
  rw [e1]
  rw [e3] at ht
  clear e1 e3
  generalize (fun k => (trnR r n k).map PV.I) = tk at ht e2 ⊢
  have h2n:(2:Int) * n = ((2 * n:Nat):Int):=by omega
  simp -implicitDefEqProofs (disch:=first|omega|(simp only [go_sem,seval,-List.reduceReplicate,hzI,hzl,hct,hcl,hvw];first|done|omega)) only [go_sem,seval,-List.reduceReplicate,hzI,hzl,hct,hcl,hvw]
  refine loop_mk (α:=Nat) 0 (fun k => k ≤ 8) (fun k => M ++ [.row true 408 0 [.agg Z],.row true 408 0 [.agg (tk k)]]) (fun k => [(1,.I n),(4,.op M.length 0 0 0),(7,.op (M.length + 1) 0 0 0),(20,.agg cs),(21,.I k)]) (fun k => 8 - k) (by decide) (by rw [e2]) rfl ?_
  intro k hk
  have hlo:=hc.low
  have hbw:=hc.blow
  have htw:=ht.low
  have htl:=ht.len k hk
  have hto:=ht.one k
  have htv:=ht.vw
  by_cases hlt:k < 8
  case neg =>
    have f1:((k:Int) < 8) = False:=eq_false (by omega)
    have hk8:k = 8:=by omega
    subst hk8
    have htk:(tk 8).take 408 = tk 8:=List.take_of_length_le (by omega)
    have hzd:Z.drop 408 = []:=List.drop_of_length_le (by omega)
    have hto2:=ht.ow 8
    simp -implicitDefEqProofs (disch:=first|omega|(simp only [go_sem,seval,-List.reduceReplicate,f1,htl,hto,htv,htk,putE_agg,hzl,hzd,List.append_nil];first|done|omega)) only [go_sem,seval,-List.reduceReplicate,f1,htl,hto,htv,htk,putE_agg,hzl,hzd,List.append_nil]
    (first|refine post_fin ret_ok hM rfl ?_ ?_|refine post_fin0 ret_ok hM rfl ?_ ?_|refine post_fin normal_ok hM rfl ?_ ?_|refine post_fin0 normal_ok hM rfl ?_ ?_)
    · simp -implicitDefEqProofs (disch:=first|omega|(simp only [go_sem,seval,-List.reduceReplicate,htk,hto2];first|done|omega)) only [go_sem,seval,-List.reduceReplicate,htk,hto2]
    · (simp only [go_sem,seval,-List.reduceReplicate,htw,htk,hto2] <;> first|done|omega)
  have f1:((k:Int) < 8) = True:=eq_true (by omega)
  have hix:=hc.idx k hlt
  have hbl:=hc.blen k hlt
  have hbt:=hc.btk k hlt
  have hbo:=hc.bone k
  have hbb:=hc.bvw k
  have hstp:=ht.stp k hlt
  unfold setRange at hstp
  rw [hbl,List.append_assoc] at hstp
  have h8:(k + 2 * n) % 8 < 8:=Nat.mod_lt _ (by decide)
  have f80:((8:Int) = 0) = False:=by decide
  have hmd:Int.tmod ((k:Int) + 2 * (n:Int)) 8 = (((k + 2 * n) % 8:Nat):Int):=by
    rw [h2n,← Int.natCast_add];rfl
  have h8t:((k + 2 * n) % 8 < 8) = True:=eq_true h8
  have hlen2:((k + 2 * n) % 8 * 51 + 51 ≤ 408) = True:=eq_true (by omega)
  simp -implicitDefEqProofs (disch:=first|omega|(simp only [go_sem,seval,-List.reduceReplicate,f1,hix,hz5,hz51,hbl,hbt,hbo,hbb,putE_agg,List.length_map,h5d,List.append_nil,f80,hmd,h8t,hlen2,hstp];first|done|omega)) only [go_sem,seval,-List.reduceReplicate,f1,hix,hz5,hz51,hbl,hbt,hbo,hbb,putE_agg,List.length_map,h5d,List.append_nil,f80,hmd,h8t,hlen2,hstp]
  have hlo:=hc.low
  refine Wp_cut_at hM rfl 2 (by simp) (by first|done|(simp only [go_sem,seval,-List.reduceReplicate,hlo,hbw,htw,hzw] <;> first|done|(refine ⟨?_,?_⟩ <;> omega)|omega)) (lowL_mk (by first|done|(simp only [go_sem,seval,-List.reduceReplicate,hlo,hbw,htw,hzw] <;> first|done|(refine ⟨?_,?_⟩ <;> omega)|omega))) ?_
  simp -implicitDefEqProofs (disch:=first|omega|(simp only [go_sem,seval,-List.reduceReplicate];first|done|omega)) only [go_sem,seval,-List.reduceReplicate]
  exact again' (k + 1) (by omega) (by omega) rfl rfl
abbrev Yields2 (X:XRel):=Yields2F F X
def serIn (s:Ser):Prop:=s.samples.length ≤ 40000 ∧ s.gaps.length ≤ 1048576 ∧ ∀ x:Spn,x ∈ s.gaps → 0 ≤ x.fr ∧ x.fr < x.to_ ∧ x.to_ ≤ s.samples.length
theorem q_site_recorded (s:Ser):Q X 123 [encSer s] (.fn (.func 153) [] [.fp (encSer s).cells]):=by
  intro M
  (refine ACall_fn (cf:=L4.c123) rfl rfl fun hM hA => ?_;simp only [L4.c123,zO,zF,zT];rw [mk1 _ (by decide)];simp -implicitDefEqProofs (disch:=first|omega|(simp only [go_sem,seval,encSer_eq];first|done|omega)) only [go_sem,seval,encSer_eq])
  (all_goals (first|refine post_fin ret_ok hM rfl ?_ ?_|refine post_fin0 ret_ok hM rfl ?_ ?_|refine post_fin normal_ok hM rfl ?_ ?_|refine post_fin0 normal_ok hM rfl ?_ ?_);all_goals first|(simp only [go_sem,seval,encF_low,encSpn_low] <;> first|done|omega)|skip;all_goals (try simp -implicitDefEqProofs (disch:=first|omega|(simp only [go_sem,seval];first|done|omega)) only [go_sem,seval]))
theorem rec_run (s:Ser) (hs:serIn s) {i:Nat} {N:Nat → List Blk} {m:Nat} (hm:m ≤ (recP s.samples s.gaps).length) (hN:∀ k,k ≤ m → (N k).length = (N 0).length ∧ lowM (N k).length (N k))
    (hy:∀ k x E,k < m → (recP s.samples s.gaps)[k]? = some x → ACall F X (.yl i) [x.1,x.2] (N k ++ E) (.B true) (N (k + 1) ++ E)) {Ne:List Blk}
    (he:(m = (recP s.samples s.gaps).length ∧ Ne = N m) ∨ ∃ x,(recP s.samples s.gaps)[m]? = some x ∧ (Ne.length = (N 0).length ∧ lowM Ne.length Ne) ∧ ∀ E,ACall F X (.yl i) [x.1,x.2] (N m ++ E) (.B false) (Ne ++ E)) :
    ACall F X (.fn 153) (.yl i :: [.fp (encSer s).cells]) (N 0) (.tup []) Ne:=by
  have hmi:=q_site_missing (X:=X) s hs.1 hs.2.1 hs.2.2
  obtain ⟨nm,st,l,g⟩:=s
  simp only at hm hy he hmi
  have hs1:l.length ≤ 40000:=hs.1
  clear hs
  refine ACall_fn (cf:=c153) rfl rfl fun hM hA => ?_
  have hi:i < (N 0).length:=by simp only [lowL,PV.low] at hA;exact hA.1
  simp only [c153,zO,zF,zT]
  rw [mk2 _ (by decide)]
  simp -implicitDefEqProofs (disch:=first|omega|(simp only [go_sem,seval,encSer_cells];first|done|omega)) only [go_sem,seval,encSer_cells]
  refine callP_q (hmi _) ?_
  have hgl:(goneRow l.length g g.length).length = l.length:=by simp [goneRow]
  simp -implicitDefEqProofs (disch:=first|omega|(simp only [go_sem,seval,encSer_cells];first|done|omega)) only [go_sem,seval,encSer_cells]
  have hbase:recK l g 0 = []:=by simp [recK]
  have hall:(recP l g).length = (recK l g l.length).length:=recP_len l g
  have hNl:∀ k,k ≤ m → lowM (N 0).length (N k):=fun k hk => by have:=hN k hk;rw [← this.1];exact this.2
  refine loop_mk (α:=Nat) 0 (fun k => k ≤ l.length ∧ (recK l g k).length ≤ m) (fun k => N (recK l g k).length)
    (fun k => [(0,.yl i),(3,.fs (goneRow l.length g g.length)),(9,.fs (l.map encF)),(10,.I l.length),(11,.I k)]) (fun k => l.length - k) ⟨Nat.zero_le _,by rw [hbase];exact Nat.zero_le _⟩ (by rw [hbase];rfl) rfl ?_
  rintro k ⟨hk,hkm⟩
  have hgw:=goneRow_low (m:=(N 0).length) l.length g g.length
  by_cases hlt:k < l.length
  case neg =>
    have hkk:k = l.length:=by omega
    subst hkk
    have e:Ne = N m:=by
      rcases he with ⟨_,h⟩|⟨x,h,_⟩
      · exact h
      · have:=(List.getElem?_eq_some_iff.1 h).1;omega
    have e2:(recK l g l.length).length = m:=by
      rcases he with ⟨h,_⟩|⟨x,h,_⟩
      · omega
      · have:=(List.getElem?_eq_some_iff.1 h).1;omega
    rw [e2,e]
    have hk0:=hN m (Nat.le_refl _)
    simp -implicitDefEqProofs (disch:=first|omega|(simp only [go_sem,seval,hlt];first|done|omega)) only [go_sem,seval,hlt]
    refine post_fin0 normal_ok hk0.2 hk0.1.symm ?_ ?_
    · simp -implicitDefEqProofs (disch:=first|omega|(simp only [go_sem,seval];first|done|omega)) only [go_sem,seval]
      rfl
    · (simp only [go_sem,seval] <;> first|done|omega)
  obtain ⟨x,hx⟩:∃ x,l[k]? = some x:=⟨_,List.getElem?_eq_getElem hlt⟩
  have hgg:(goneRow l.length g g.length)[k]? = some (.B (gapAt g k)):=by rw [gone_get hlt,List.take_length]
  have hsn:=recK_snoc (g:=g) hx
  have hk0:=hN _ hkm
  by_cases hg:gapAt g k = true
  · rw [hg] at hgg
    rw [if_pos hg,List.append_nil] at hsn
    simp -implicitDefEqProofs (disch:=first|omega|(simp only [go_sem,seval,hlt,hx,hgg,hgl];first|done|omega)) only [go_sem,seval,hlt,hx,hgg,hgl]
    refine Wp_cutZ hk0.2 hk0.1.symm (lowL_mk ?_) ?_
    · have:i < (N (recK l g k).length).length:=by omega
      simp only [go_sem,seval,this,Nat.add_zero,encF_low,goneRow_low]
    · simp -implicitDefEqProofs (disch:=first|omega|(simp only [go_sem,seval];first|done|omega)) only [go_sem,seval]
      exact again' (k + 1) ⟨by omega,by rw [hsn];exact hkm⟩ (by omega) (by rw [hsn]) rfl
  have hg':gapAt g k = false:=by simpa using hg
  rw [hg'] at hgg
  rw [if_neg hg] at hsn
  have hp:=recP_get hx hg'
  have hsl:(recK l g (k + 1)).length = (recK l g k).length + 1:=by rw [hsn,List.length_append];rfl
  by_cases hcm:(recK l g k).length < m
  · have hk1:=hN ((recK l g k).length + 1) (by omega)
    have hy':=hy _ _ [] hcm hp
    rw [List.append_nil,List.append_nil] at hy'
    simp -implicitDefEqProofs (disch:=first|omega|(simp only [go_sem,seval,hlt,hx,hgg,hgl];first|done|omega)) only [go_sem,seval,hlt,hx,hgg,hgl]
    refine callP_l hy' ?_
    simp -implicitDefEqProofs (disch:=first|omega|(simp only [go_sem,seval];first|done|omega)) only [go_sem,seval]
    refine Wp_cutZ hk1.2 hk1.1.symm (lowL_mk ?_) ?_
    · have:i < (N ((recK l g k).length + 1)).length:=by omega
      simp only [go_sem,seval,this,Nat.add_zero,encF_low,goneRow_low]
    · simp -implicitDefEqProofs (disch:=first|omega|(simp only [go_sem,seval];first|done|omega)) only [go_sem,seval]
      exact again' (k + 1) ⟨by omega,by omega⟩ (by omega) (by rw [hsl]) rfl
  have hcm':(recK l g k).length = m:=by omega
  rcases he with ⟨h1,_⟩|⟨y,h1,h2,h3⟩
  · have:=(List.getElem?_eq_some_iff.1 hp).1;omega
  rw [hcm'] at hp
  rw [hp] at h1
  cases h1
  have h3':=h3 []
  rw [List.append_nil,List.append_nil] at h3'
  rw [hcm']
  simp -implicitDefEqProofs (disch:=first|omega|(simp only [go_sem,seval,hlt,hx,hgg,hgl];first|done|omega)) only [go_sem,seval,hlt,hx,hgg,hgl]
  refine callP_l h3' ?_
  simp -implicitDefEqProofs (disch:=first|omega|(simp only [go_sem,seval];first|done|omega)) only [go_sem,seval]
  refine post_fin0 ret_ok h2.2 h2.1.symm ?_ ?_
  · simp -implicitDefEqProofs (disch:=first|omega|(simp only [go_sem,seval];first|done|omega)) only [go_sem,seval]
    rfl
  · (simp only [go_sem,seval] <;> first|done|omega)
theorem y_recorded (s:Ser) (hs:serIn s):Yields2 X 153 [.fp (encSer s).cells] (recP s.samples s.gaps):=by
  intro i N m hm hN hy
  exact ⟨fun h => rec_run s hs hm hN hy (.inl ⟨h,rfl⟩),fun x N' hx hN' hf => rec_run s hs hm hN hy (.inr ⟨x,hx,hN',hf⟩)⟩
theorem serIn_of {s:Ser} (h:chkSer s = 0):serIn s ∧ (∀ x ∈ s.samples,smpE x = 0):=by
  obtain ⟨nm,st,l,g⟩:=s
  unfold chkSer at h
  simp only at h
  split at h
  · cases h
  · split at h
    · cases h
    · split at h
      · cases h
      · rename_i h3
        split at h
        · rename_i h4;exact absurd h h4
        · rename_i h4
          split at h
          · rename_i h5;exact absurd h h5
          · rename_i h5
            split at h
            · cases h
            · rename_i h6
              have h5:chkSpns g = 0:=Decidable.of_not_not h5
              have h6:chkLast l g = 0:=Decidable.of_not_not h6
              have h4:fst0 (l.map smpE) = 0:=Decidable.of_not_not h4
              refine ⟨⟨by simp only;omega,?_,gaps_in h5 h6⟩,?_⟩
              · have:=(chkSpns_in h5).2;simp only;omega
              · intro x hx
                exact fst0_in0 h4 _ (List.mem_map.2 ⟨x,hx,rfl⟩)
theorem rec_mem {l:List Nat} {g:List Spn} {p:Nat × Nat} (h:p ∈ recOf l g):p.2 ∈ l ∧ p.1 < l.length:=by
  unfold recOf recK at h
  obtain ⟨q,hq,rfl⟩:=List.mem_map.1 h
  have hq:=(List.mem_filter.1 hq).1
  rw [List.take_length] at hq
  obtain ⟨i,hi,h2⟩:=List.mem_iff_getElem.1 hq
  rw [List.getElem_zipIdx] at h2
  rw [← h2]
  simp only [Nat.zero_add]
  rw [List.length_zipIdx] at hi
  exact ⟨List.getElem_mem _,hi⟩
def sumE (s:Ser):Int:=if chkSer s = 0 then (if (sttTo (recOf s.samples s.gaps)).count = 0 then 12 else 0) else chkSer s
def sumOf (s:Ser):Stt:=if chkSer s = 0 then sttTo (recOf s.samples s.gaps) else st0
theorem q_site_units_smp {x:Nat} (h:smpE x = 0):Q X 124 [encF x] (.I (six x)):=by
  obtain ⟨s,m,e,hr⟩:=smp_num h
  have e1:six x = fTr s m (e + 4):=by unfold six;rw [hr]
  have hb:=six_small h
  rw [e1] at hb ⊢
  exact q_site_units hr (by omega)
theorem q_site_Summary (s:Ser) (hl:s.samples.length ≤ 1048576) (hgl:s.gaps.length ≤ 1048576):Q X 64 [encSer s] (.tup [encSt (sumOf s),.I (sumE s)]):=by
  intro M
  have e:=encSer_eq s
  (refine ACall_fn (cf:=L4.c64) rfl rfl fun hM hA => ?_;simp only [L4.c64,zO,zF,zT];rw [mk1 _ (by decide)];simp -implicitDefEqProofs (disch:=first|omega|(simp only [go_sem,seval,e];first|done|omega)) only [go_sem,seval,e])
  refine callP_q (q_site_CheckSeries s hl hgl _) ?_
  unfold sumOf sumE
  by_cases h0:chkSer s = 0
  case neg =>
    rw [if_neg h0,if_neg h0]
    simp -implicitDefEqProofs (disch:=first|omega|(simp only [go_sem,seval,h0];first|done|omega)) only [go_sem,seval,h0]
    (all_goals (first|refine post_fin ret_ok hM rfl ?_ ?_|refine post_fin0 ret_ok hM rfl ?_ ?_|refine post_fin normal_ok hM rfl ?_ ?_|refine post_fin0 normal_ok hM rfl ?_ ?_);all_goals first|(simp only [go_sem,seval] <;> first|done|omega)|skip;all_goals (try simp -implicitDefEqProofs (disch:=first|omega|(simp only [go_sem,seval,encSt_eq,st0];first|done|omega)) only [go_sem,seval,encSt_eq,st0]))
  obtain ⟨hin,hsm⟩:=serIn_of h0
  rw [if_pos h0,if_pos h0,h0]
  simp -implicitDefEqProofs (disch:=first|omega|(simp only [go_sem,seval,e];first|done|omega)) only [go_sem,seval,e]
  refine callP_q (q_site_recorded s _) ?_
  have hrec:∀ p ∈ recOf s.samples s.gaps,smpE p.2 = 0:=fun p hp => hsm _ (rec_mem hp).1
  have hinv:=fun k (hk:k ≤ (recOf s.samples s.gaps).length) => stt_inv hrec hk
  have hrl:(recOf s.samples s.gaps).length ≤ 40000:=Nat.le_trans (rec_len _ _ _) hin.1
  have hlen:=recP_len s.samples s.gaps
  have hy:=y_recorded (X:=X) s hin
  have hsn:=fun (k:Nat) (p:Nat × Nat) (hp:(recOf s.samples s.gaps)[k]? = some p) => sttTo_snoc hp
  simp -implicitDefEqProofs (disch:=first|omega|(simp only [go_sem,seval];first|done|omega)) only [go_sem,seval]
  refine range_pairs hy (fun k => [.row true 4 0 [encSt st0],.row true 4 0 [encSt (sttTo ((recOf s.samples s.gaps).take k))]]) (recP s.samples s.gaps).length (Nat.le_refl _) hM (by simp -implicitDefEqProofs (disch:=first|omega|(simp only [go_sem,seval];first|done|omega)) only [go_sem,seval]) (fun k => rfl) ?_ ?_ ?_ ?_
  · intro k _
    simp only [go_sem,seval,encSt_eq]
    try simp
  · refine (?_:lowL (M.length + (0 + 1 + 1)) _)
    simp only [go_sem,seval,encSer_eq,encF_low,encSpn_low]
    try simp
  · intro k x E L LB hk hx hE
    obtain ⟨p,hp,rfl⟩:∃ p,(recOf s.samples s.gaps)[k]? = some p ∧ (PV.I p.1,encF p.2) = x:=by
      unfold recP at hx;rw [List.getElem?_map] at hx;exact Option.map_eq_some_iff.1 hx
    have hk':k < (recOf s.samples s.gaps).length:=by omega
    have hxs:=hrec p (List.mem_of_getElem? hp)
    have hss:=hsn k p hp
    obtain ⟨i1,⟨i2,i2'⟩,i3⟩:=hinv k (by omega)
    simp only [hss]
    generalize sttTo ((recOf s.samples s.gaps).take k) = t at i1 i2 i2' i3 ⊢
    obtain ⟨c,sm,le,mo⟩:=t
    simp only at i1 i2 i2' i3
    obtain ⟨j,y⟩:=p
    simp only at hxs ⊢
    clear hss hx hsn
    have h6:=six_small hxs
    simp -implicitDefEqProofs (disch:=first|omega|(simp only [go_sem,seval,encSt_eq];first|done|omega)) only [go_sem,seval,encSt_eq]
    refine roundB (by rw [getMj];rfl) ?_
    by_cases h0c:c = 0
    · have m1:=minI_smp hxs hxs
      have m2:=maxI_smp hxs hxs
      simp -implicitDefEqProofs (disch:=first|omega|(simp only [go_sem,seval,h0c,encSt_eq];first|done|omega)) only [go_sem,seval,h0c,encSt_eq]
      refine callP_q (q_site_units_smp hxs _) ?_
      simp -implicitDefEqProofs (disch:=first|omega|(simp only [go_sem,seval,encSt_eq,m1,m2];first|done|omega)) only [go_sem,seval,encSt_eq,m1,m2]
      refine roundX [] ?_
      simp [encSt,sttStep,h0c,st0]
    · obtain ⟨k1,k2⟩:=i3.resolve_left h0c
      have m1:=minI_smp k1 hxs
      have m2:=maxI_smp k2 hxs
      simp -implicitDefEqProofs (disch:=first|omega|(simp only [go_sem,seval,h0c,encSt_eq];first|done|omega)) only [go_sem,seval,h0c,encSt_eq]
      refine callP_q (q_site_units_smp hxs _) ?_
      simp -implicitDefEqProofs (disch:=first|omega|(simp only [go_sem,seval,encSt_eq,m1,m2];first|done|omega)) only [go_sem,seval,encSt_eq,m1,m2]
      refine roundX [] ?_
      simp [encSt,sttStep,h0c,st0]
  · refine .inl ⟨rfl,?_⟩
    have hall:(recOf s.samples s.gaps).take (recP s.samples s.gaps).length = recOf s.samples s.gaps:=List.take_of_length_le (by omega)
    rw [hall]
    generalize sttTo (recOf s.samples s.gaps) = t
    simp -implicitDefEqProofs (disch:=first|omega|(simp only [go_sem,seval,encSt_eq];first|done|omega)) only [go_sem,seval,encSt_eq]
    refine callP_q (q_site_when _ _ _) ?_
    simp -implicitDefEqProofs (disch:=first|omega|(simp only [go_sem,seval,encSt_eq];first|done|omega)) only [go_sem,seval,encSt_eq]
    (all_goals (first|refine post_fin ret_ok hM rfl ?_ ?_|refine post_fin0 ret_ok hM rfl ?_ ?_|refine post_fin normal_ok hM rfl ?_ ?_|refine post_fin0 normal_ok hM rfl ?_ ?_);all_goals first|(simp only [go_sem,seval] <;> first|done|omega)|skip;all_goals (try simp -implicitDefEqProofs (disch:=first|omega|(simp only [go_sem,seval];first|done|omega)) only [go_sem,seval]))
end
end Go.Nac.L4
