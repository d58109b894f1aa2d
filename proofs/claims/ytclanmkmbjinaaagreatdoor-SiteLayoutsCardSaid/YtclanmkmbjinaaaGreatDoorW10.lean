import Derived.Test.YtclanmkmbjinaaaGreatDoorW09
set_option linter.unusedSimpArgs false
set_option linter.unusedVariables false
set_option linter.unnecessarySimpa false
set_option maxRecDepth 10000
namespace Go.Nac.L4
attribute [local congr] b1_congr b2_congr Wp_congr wpOps_congr thenK_congr blockK_congr gK_congr cK_congr
section
variable {X:XRel}
def ItoaX (X:XRel):Prop:=∀ (n:Int) (M:List Blk),-9223372036854775808 ≤ n → n ≤ 9223372036854775807 → X 140 [.I n] M (.s (.string (itoaB n))) M
def encStr (s:ByteArray):PV:=.s (.string s)
def JoinX (X:XRel):Prop:=∀ (l:List ByteArray) (M:List Blk),l.length ≤ 64 → (∀ s ∈ l,s.size ≤ 200) → X 141 [.fs (l.map encStr),.s (.string ⟨#[]⟩)] M (.s (.string (joinB l))) M
theorem itoaB_size (n:Int) (h0:-9223372036854775808 ≤ n) (h1:n ≤ 9223372036854775807):(itoaB n).size ≤ 21:=by
  have:=Lib.itoa_length_le n h0 h1
  show (Lib.itoa n).toArray.size ≤ 21
  simpa using this
theorem nameOk_size {s:ByteArray} (h:nameOk s = true):s.size ≤ 24:=by
  unfold nameOk at h
  simp only [Bool.and_eq_true,decide_eq_true_eq] at h
  exact h.1.2
theorem sz_turbine:(⟨#[116,117,114,98,105,110,101,32]⟩:ByteArray).size = 8:=rfl
theorem sz_sp:(⟨#[32]⟩:ByteArray).size = 1:=rfl
theorem sz_nl:(⟨#[10]⟩:ByteArray).size = 1:=rfl
theorem sz_site:(⟨#[115,105,116,101,32]⟩:ByteArray).size = 5:=rfl
theorem tbTxt_size {t:Tb} (h:nameOk t.name = true) (hp:ptIn t.at_):(tbTxt t).size ≤ 200:=by
  have h1:=nameOk_size h
  unfold ptIn at hp
  have hp1:-1000 ≤ t.x ∧ t.x ≤ 1000 ∧ -1000 ≤ t.y ∧ t.y ≤ 1000:=hp
  have h2:=itoaB_size t.x (by omega) (by omega)
  have h3:=itoaB_size t.y (by omega) (by omega)
  unfold tbTxt
  simp only [ByteArray.size_append,sz_turbine,sz_sp,sz_nl]
  omega
theorem q_site_Print_1 (hI:ItoaX X) (t:Tb) (h:nameOk t.name = true) (hp:ptIn t.at_):Q X 139 [encTb t] (.s (.string (tbTxt t))):=by
  intro M
  have h1:=nameOk_size h
  unfold ptIn at hp
  have hp1:-1000 ≤ t.x ∧ t.x ≤ 1000 ∧ -1000 ≤ t.y ∧ t.y ≤ 1000:=hp
  have h2:=itoaB_size t.x (by omega) (by omega)
  have h3:=itoaB_size t.y (by omega) (by omega)
  have e:tbTxt t = (((((⟨#[116,117,114,98,105,110,101,32]⟩:ByteArray) ++ t.name) ++ ⟨#[32]⟩) ++ itoaB t.x) ++ ⟨#[32]⟩) ++ itoaB t.y ++ ⟨#[10]⟩:=rfl
  rw [e]
  (refine ACall_fn (cf:=L4.c139) rfl rfl fun hM hA => ?_;simp only [L4.c139];rw [mk1 _ (by decide)];simp -implicitDefEqProofs (disch:=first|omega|(simp only [go_sem,seval,encTb_eq,bin_addS,ByteArray.size_append,sz_turbine,sz_sp,sz_nl];first|done|omega)) only [go_sem,seval,encTb_eq,bin_addS,ByteArray.size_append,sz_turbine,sz_sp,sz_nl])
  refine callP_q (ACall_ext (hI t.x _ (by omega) (by omega))) ?_
  simp -implicitDefEqProofs (disch:=first|omega|(simp only [go_sem,seval,encTb_eq,bin_addS,ByteArray.size_append,sz_turbine,sz_sp,sz_nl];first|done|omega)) only [go_sem,seval,encTb_eq,bin_addS,ByteArray.size_append,sz_turbine,sz_sp,sz_nl]
  refine callP_q (ACall_ext (hI t.y _ (by omega) (by omega))) ?_
  simp -implicitDefEqProofs (disch:=first|omega|(simp only [go_sem,seval,bin_addS,ByteArray.size_append,sz_turbine,sz_sp,sz_nl];first|done|omega)) only [go_sem,seval,bin_addS,ByteArray.size_append,sz_turbine,sz_sp,sz_nl]
  (all_goals (first|refine post_fin ret_ok hM rfl ?_ ?_|refine post_fin0 ret_ok hM rfl ?_ ?_|refine post_fin normal_ok hM rfl ?_ ?_|refine post_fin0 normal_ok hM rfl ?_ ?_);all_goals first|(simp only [go_sem,seval] <;> first|done|omega)|skip;all_goals (try simp -implicitDefEqProofs (disch:=first|omega|(simp only [go_sem,seval];first|done|omega)) only [go_sem,seval]))
theorem q_site_mapped_str {g:FuncId} {f:Tb → ByteArray} (l:List Tb) (hl:l.length ≤ 1000000) (hg:∀ x ∈ l,Q X g [encTb x] (.s (.string (f x)))):Q X 138 [.fs (l.map encTb),.fn (.func g) [] []] (.fs ((l.map f).map encStr)):=by
  intro M
  (refine ACall_fn (cf:=L4.c138) rfl rfl fun hM hA => ?_;simp only [L4.c138];rw [mk2 _ (by decide)];simp -implicitDefEqProofs (disch:=first|omega|(simp only [go_sem,seval];first|done|omega)) only [go_sem,seval])
  refine loop_mk (α:=Nat) 0 (fun k => k ≤ l.length) (fun k => M ++ [.row true 1 k (((l.take k).map f).map encStr)])
    (fun k => [(1,.fn (.func g) [] []),(5,.os M.length k 0 k),(8,.fs (l.map encTb)),(9,.I l.length),(10,.I k)]) (fun k => l.length - k) (Nat.zero_le _) rfl rfl ?_
  have hlw:∀ (n:Nat) (L:List Tb),lowL n (List.map (fun x => encStr (f x)) L) = True:=fun n L => eq_true (lowL_map _ _ fun r => by simp [encStr,PV.low])
  have hls:∀ (n:Nat) (x:Tb),(encStr (f x)).low n = True:=fun n x => eq_true (by simp [encStr,PV.low])
  intro k hk
  by_cases hlt:k < l.length
  · obtain ⟨x,h1⟩:∃ x,l[k]? = some x:=⟨_,List.getElem?_eq_getElem hlt⟩
    have h2:k = ((l.take k).map f).length:=by simp;omega
    have h2':(l.take k).length = k:=by simp;omega
    simp -implicitDefEqProofs (disch:=first|omega|(simp only [go_sem,seval,hlt,h1,encTb_cells];first|done|omega)) only [go_sem,seval,hlt,h1,encTb_cells]
    refine callP_l (hg x (List.mem_of_getElem? h1) _) ?_
    simp -implicitDefEqProofs (disch:=first|omega|(simp only [go_sem,seval,encTb_cells];first|done|omega)) only [go_sem,seval,encTb_cells]
    refine Wp_cut_at hM rfl 1 (by simp) (by first|done|(simp only [go_sem,seval,hlw,hls,encTb_low] <;> first|done|(refine ⟨?_,?_⟩ <;> omega)|omega)) (lowL_mk (by first|done|(simp only [go_sem,seval,hlw,hls,encTb_low] <;> first|done|(refine ⟨?_,?_⟩ <;> omega)|omega))) ?_
    simp -implicitDefEqProofs (disch:=first|omega|(simp only [go_sem,seval];first|done|omega)) only [go_sem,seval]
    refine again' (k + 1) (by omega) (by omega) ?_ rfl
    have h3:=take_snoc (f:=fun x => encStr (f x)) h1
    rw [h3];rfl
  · simp -implicitDefEqProofs (disch:=first|omega|(simp only [go_sem,seval,hlt];first|done|omega)) only [go_sem,seval,hlt]
    (first|refine post_fin ret_ok hM rfl ?_ ?_|refine post_fin0 ret_ok hM rfl ?_ ?_|refine post_fin normal_ok hM rfl ?_ ?_|refine post_fin0 normal_ok hM rfl ?_ ?_)
    · simp -implicitDefEqProofs (disch:=first|omega|(simp only [go_sem,seval];first|done|omega)) only [go_sem,seval]
      rw [List.take_of_length_le (by omega)]
    · (simp only [go_sem,seval,hlw] <;> first|done|omega)
theorem q_site_Print (hI:ItoaX X) (hJ:JoinX X) (s:Ste) (hl:s.tbs.length ≤ 1048576):Q X 92 [encSte s] (.tup [.s (.string (if chkSte s = 0 then steTxt s else ⟨#[]⟩)),.I (chkSte s)]):=by
  intro M
  have es:=encSte_eq s
  (refine ACall_fn (cf:=L4.c92) rfl rfl fun hM hA => ?_;simp only [L4.c92];rw [mk1 _ (by decide)];simp -implicitDefEqProofs (disch:=first|omega|(simp only [go_sem,seval,es];first|done|omega)) only [go_sem,seval,es])
  refine callP_q (q_site_CheckSite s hl _) ?_
  by_cases h0:chkSte s = 0
  case neg =>
    rw [if_neg h0]
    generalize chkSte s = ee at h0
    simp -implicitDefEqProofs (disch:=first|omega|(simp only [go_sem,seval,h0];first|done|omega)) only [go_sem,seval,h0]
    (all_goals (first|refine post_fin ret_ok hM rfl ?_ ?_|refine post_fin0 ret_ok hM rfl ?_ ?_|refine post_fin normal_ok hM rfl ?_ ?_|refine post_fin0 normal_ok hM rfl ?_ ?_);all_goals first|(simp only [go_sem,seval] <;> first|done|omega)|skip;all_goals (try simp -implicitDefEqProofs (disch:=first|omega|(simp only [go_sem,seval];first|done|omega)) only [go_sem,seval]))
  rw [if_pos h0,h0]
  obtain ⟨hn,hle,hln,hin⟩:=chkSte_in h0
  have hpt:=all_pt h0
  have hnm:∀ t ∈ s.tbs,nameOk t.name = true:=by
    intro t ht
    obtain ⟨i,hi,h2⟩:=List.mem_iff_getElem.1 ht
    exact (tbE_parts (hin i t hi (List.getElem?_eq_some_iff.2 ⟨hi,h2⟩))).1
  simp -implicitDefEqProofs (disch:=first|omega|(simp only [go_sem,seval,es];first|done|omega)) only [go_sem,seval,es]
  refine callP_q (q_site_mapped_str s.tbs (by omega) (fun x hx => q_site_Print_1 hI x (hnm x hx) (hpt x hx)) _) ?_
  have h1:=nameOk_size hn
  have h2:=itoaB_size s.least (by omega) (by omega)
  simp -implicitDefEqProofs (disch:=first|omega|(simp only [go_sem,seval,bin_addS,ByteArray.size_append,sz_site,sz_sp,sz_nl];first|done|omega)) only [go_sem,seval,bin_addS,ByteArray.size_append,sz_site,sz_sp,sz_nl]
  refine callP_q (ACall_ext (hI s.least _ (by omega) (by omega))) ?_
  simp -implicitDefEqProofs (disch:=first|omega|(simp only [go_sem,seval,bin_addS,ByteArray.size_append,sz_site,sz_sp,sz_nl];first|done|omega)) only [go_sem,seval,bin_addS,ByteArray.size_append,sz_site,sz_sp,sz_nl]
  have hj:=hJ (s.tbs.map tbTxt) M (by rw [List.length_map];exact hln) (by
    intro u hu
    obtain ⟨t,ht,rfl⟩:=List.mem_map.1 hu
    exact tbTxt_size (hnm t ht) (hpt t ht))
  rw [List.map_map] at hj
  have hjs:(joinB (s.tbs.map tbTxt)).size ≤ 100000:=joinB_size (by rw [List.length_map];exact hln) (by
    intro u hu
    obtain ⟨t,ht,rfl⟩:=List.mem_map.1 hu
    exact tbTxt_size (hnm t ht) (hpt t ht))
  refine callP_q (ACall_ext hj) ?_
  have e:steTxt s = ((((⟨#[115,105,116,101,32]⟩:ByteArray) ++ s.name) ++ ⟨#[32]⟩) ++ itoaB s.least ++ ⟨#[10]⟩) ++ joinB (s.tbs.map tbTxt):=rfl
  rw [e]
  simp -implicitDefEqProofs (disch:=first|omega|(simp only [go_sem,seval,bin_addS,ByteArray.size_append,sz_site,sz_sp,sz_nl];first|done|omega)) only [go_sem,seval,bin_addS,ByteArray.size_append,sz_site,sz_sp,sz_nl]
  (all_goals (first|refine post_fin ret_ok hM rfl ?_ ?_|refine post_fin0 ret_ok hM rfl ?_ ?_|refine post_fin normal_ok hM rfl ?_ ?_|refine post_fin0 normal_ok hM rfl ?_ ?_);all_goals first|(simp only [go_sem,seval] <;> first|done|omega)|skip;all_goals (try simp -implicitDefEqProofs (disch:=first|omega|(simp only [go_sem,seval];first|done|omega)) only [go_sem,seval]))
theorem put_run (ns:List Int) (hl:ns.length ≤ 40000) {M0 E:List Blk} {v:Nat} {bs:List PV} (hb:bs.length ≤ 400000) :
    ACall F X (.fn 131) [.fs (ns.map .I),.op (M0.length + 1) 0 0 0] (M0 ++ (.row true 1 v bs :: .row true 1 0 [.os M0.length v 0 bs.length] :: E)) (.tup [])
      (M0 ++ (.row true 1 (v + ns.length) (bs ++ putB ns) :: .row true 1 0 [.os M0.length (v + ns.length) 0 (bs ++ putB ns).length] :: E)):=by
  refine ACall_fn (cf:=c131) rfl rfl fun hM hA => ?_
  simp only [c131]
  rw [mk2 _ (by decide)]
  simp -implicitDefEqProofs (disch:=first|omega|(simp only [go_sem,seval];first|done|omega)) only [go_sem,seval]
  refine loop_mk (α:=Nat) 0 (fun k => k ≤ ns.length) (fun k => M0 ++ (.row true 1 (v + k) (bs ++ putB (ns.take k)) :: .row true 1 0 [.os M0.length (v + k) 0 (bs ++ putB (ns.take k)).length] :: E))
    (fun k => [(1,.op (M0.length + 1) 0 0 0),(5,.fs (ns.map .I)),(6,.I ns.length),(7,.I k)]) (fun k => ns.length - k) (Nat.zero_le _) (by simp [putB]) rfl ?_
  intro k hk
  by_cases hlt:k < ns.length
  · obtain ⟨n,hn⟩:∃ n,ns[k]? = some n:=⟨_,List.getElem?_eq_getElem hlt⟩
    have hsn:=putB_snoc hn
    have hpl:=putB_len (ns.take k)
    have htl:(ns.take k).length = k:=by rw [List.length_take];omega
    have hbl:(bs ++ putB (ns.take k)).length ≤ 560000:=by rw [List.length_append,hpl];omega
    have again:∀ c:List PV,bs ++ putB (ns.take (k + 1)) = c → Again 26 (fun k => k ≤ ns.length) (fun k => M0 ++ (.row true 1 (v + k) (bs ++ putB (ns.take k)) :: .row true 1 0 [.os M0.length (v + k) 0 (bs ++ putB (ns.take k)).length] :: E))
      (fun k => [(1,.op (M0.length + 1) 0 0 0),(5,.fs (ns.map .I)),(6,.I ns.length),(7,.I k)]) (fun k => ns.length - k) k
      (M0 ++ (.row true 1 (v + (k + 1)) c :: .row true 1 0 [.os M0.length (v + (k + 1)) 0 c.length] :: E)) (mk 26 [(1,.op (M0.length + 1) 0 0 0),(5,.fs (ns.map .I)),(6,.I ns.length),(7,.I (k + 1))]):=by
      rintro c rfl
      exact again' (k + 1) (by omega) (by omega) rfl rfl
    rw [hsn,← List.append_assoc] at again
    generalize bs ++ putB (ns.take k) = c at hbl again ⊢
    have hsh:∀ (m:Nat),m ≤ 24 → bin .shr (.s (.int .i64 n)) (.s (.int .u64 m)) = some (.s (.int .i64 (n.fdiv (2 ^ m)))):=by
      intro m hm
      rw [bin_shr (by omega)]
      have:min (m:Int).toNat IntKind.i64.bits = m:=by
        have:IntKind.i64.bits = 64:=rfl
        omega
      rw [this]
    have s1:bin .shr (.s (.int .i64 n)) (.s (.int .u64 24)) = some (.s (.int .i64 (n.fdiv 16777216))):=hsh 24 (by decide)
    have s2:bin .shr (.s (.int .i64 n)) (.s (.int .u64 16)) = some (.s (.int .i64 (n.fdiv 65536))):=hsh 16 (by decide)
    have s3:bin .shr (.s (.int .i64 n)) (.s (.int .u64 8)) = some (.s (.int .i64 (n.fdiv 256))):=hsh 8 (by decide)
    simp -implicitDefEqProofs (disch:=first|omega|(simp only [go_sem,seval,hlt,hn,s1,s2,s3];first|done|omega)) only [go_sem,seval,hlt,hn,s1,s2,s3]
    have h:=again _ rfl
    simp only [List.length_append,be4_eq,List.length_cons,List.length_nil] at h
    exact h
  have hkk:k = ns.length:=by omega
  subst hkk
  rw [List.take_length]
  have hbl:lowL (M0 ++ Blk.row true 1 v bs :: Blk.row true 1 0 [PV.os M0.length v 0 bs.length] :: E).length bs:=hM (Blk.row true 1 v bs) (by simp)
  have hlow:lowM (M0 ++ (Blk.row true 1 (v + ns.length) (bs ++ putB ns) :: Blk.row true 1 0 [.os M0.length (v + ns.length) 0 (bs ++ putB ns).length] :: E)).length (M0 ++ (Blk.row true 1 (v + ns.length) (bs ++ putB ns) :: Blk.row true 1 0 [.os M0.length (v + ns.length) 0 (bs ++ putB ns).length] :: E)):=by
    intro b hb
    have hlen:(M0 ++ (Blk.row true 1 (v + ns.length) (bs ++ putB ns) :: Blk.row true 1 0 [.os M0.length (v + ns.length) 0 (bs ++ putB ns).length] :: E)).length = (M0 ++ Blk.row true 1 v bs :: Blk.row true 1 0 [PV.os M0.length v 0 bs.length] :: E).length:=by simp
    rw [hlen]
    rcases List.mem_append.1 hb with hb|hb
    · exact hM b (by simp [hb])
    · rcases List.mem_cons.1 hb with rfl|hb
      · show lowL _ (bs ++ putB ns)
        rw [lowL_iff]
        intro x hx
        rcases List.mem_append.1 hx with hx|hx
        · exact (lowL_iff _).1 hbl x hx
        · exact (lowL_iff _).1 (of_eq_true (putB_low ns)) x hx
      · rcases List.mem_cons.1 hb with rfl|hb
        · show lowL _ [_]
          simp [lowL,PV.low]
        · exact hM b (by simp [hb])
  simp only [List.length_append] at hlow
  simp -implicitDefEqProofs (disch:=first|omega|(simp only [go_sem,seval,hlt];first|done|omega)) only [go_sem,seval,hlt]
  refine post_fin0 normal_ok (by simpa using hlow) (by simp) ?_ ?_
  · simp -implicitDefEqProofs (disch:=first|omega|(simp only [go_sem,seval];first|done|omega)) only [go_sem,seval]
    rfl
  · (simp only [go_sem,seval] <;> first|done|omega)
def FbitsX (X:XRel):Prop:=∀ (b:Nat) (M:List Blk),X 132 [.s (.float .f32 b)] M (.s (.int .u32 b)) M
theorem q_site_Encode (hF:FbitsX X) (s:Ser) (hl:s.samples.length ≤ 1048576) (hgl:s.gaps.length ≤ 1048576):Q X 88 [encSer s] (.tup [.fs (if chkSer s = 0 then encB s else []),.I (chkSer s)]):=by
  intro M
  have es:=encSer_eq s
  (refine ACall_fn (cf:=L4.c88) rfl rfl fun hM hA => ?_;simp only [L4.c88];rw [mk1 _ (by decide)];simp -implicitDefEqProofs (disch:=first|omega|(simp only [go_sem,seval,es];first|done|omega)) only [go_sem,seval,es])
  refine callP_q (q_site_CheckSeries s hl hgl _) ?_
  by_cases h0:chkSer s = 0
  case neg =>
    rw [if_neg h0]
    generalize chkSer s = ee at h0
    simp -implicitDefEqProofs (disch:=first|omega|(simp only [go_sem,seval,h0];first|done|omega)) only [go_sem,seval,h0]
    (all_goals (first|refine post_fin ret_ok hM rfl ?_ ?_|refine post_fin0 ret_ok hM rfl ?_ ?_|refine post_fin normal_ok hM rfl ?_ ?_|refine post_fin0 normal_ok hM rfl ?_ ?_);all_goals first|(simp only [go_sem,seval] <;> first|done|omega)|skip;all_goals (try simp -implicitDefEqProofs (disch:=first|omega|(simp only [go_sem,seval];first|done|omega)) only [go_sem,seval]))
  rw [if_pos h0,h0]
  obtain ⟨hin,hsm⟩:=serIn_of h0
  have hnm:s.name.size ≤ 24:=by
    unfold chkSer at h0
    split at h0
    · cases h0
    · rename_i hn;exact nameOk_size (by simpa using hn)
  have hbo:=bytesPV_ok s.name
  have hbl:=bytesPV_len s.name
  have hhs:∀ M:List Blk,held M (.s (.string s.name)) = some (bytesPV s.name):=fun _ => held_str
  simp -implicitDefEqProofs (disch:=first|omega|(simp only [go_sem,seval,es,hhs,hbo,hbl];first|done|omega)) only [go_sem,seval,es,hhs,hbo,hbl]
  have hh:(hdrB s).length = 5 + s.name.size:=by
    unfold hdrB
    rw [List.length_append,List.length_append,hbl];rfl
  have hls:=hin.1
  have hgs:s.gaps.length ≤ 1024:=by
    unfold chkSer at h0
    split at h0
    · cases h0
    · split at h0
      · cases h0
      · split at h0
        · cases h0
        · split at h0
          · rename_i h4;exact absurd h0 h4
          · split at h0
            · rename_i h5;exact absurd h0 h5
            · rename_i h5;exact (chkSpns_in (Decidable.of_not_not h5)).2
  have hP:=put_run (X:=X) [s.start,(s.samples.length:Int),(s.gaps.length:Int)] (by simp) (M0:=M) (E:=[]) (v:=2) (bs:=hdrB s) (by omega)
  have hlow:∀ n:Nat,lowL n (hdrB s) = True:=fun n => eq_true (by
    unfold hdrB
    rw [lowL_iff]
    intro x hx
    rcases List.mem_append.1 hx with hx|hx
    · simp only [List.cons_append,List.nil_append,List.mem_cons,List.not_mem_nil,or_false] at hx
      rcases hx with rfl|rfl|rfl|rfl|rfl <;> simp [PV.low]
    · exact (lowL_iff _).1 (of_eq_true (bytesPV_low s.name)) x hx)
  rw [hh] at hP
  refine callP_l hP ?_
  have hcl:∀ (L:List Int) (m:Nat),lowL m (hdrB s ++ putB L) = True:=fun L m => eq_true (by
    rw [lowL_iff]
    intro x hx
    rcases List.mem_append.1 hx with hx|hx
    · exact (lowL_iff _).1 (of_eq_true (hlow m)) x hx
    · exact (lowL_iff _).1 (of_eq_true (putB_low L)) x hx)
  have hC:∀ L:List Int,(hdrB s ++ putB L).length = 5 + s.name.size + 4 * L.length:=fun L => by rw [List.length_append,hh,putB_len]
  have hstep:∀ L N:List Int,hdrB s ++ putB L ++ putB N = hdrB s ++ putB (L ++ N):=fun L N => by rw [List.append_assoc,putB_app]
  have hE:encB s = hdrB s ++ putB ([s.start,(s.samples.length:Int),(s.gaps.length:Int)] ++ gapNs s.gaps ++ bitNs s.samples):=rfl
  generalize encB s = R at hE ⊢
  simp -implicitDefEqProofs (disch:=first|omega|(simp only [go_sem,seval];first|done|omega)) only [go_sem,seval]
  have hb3:([s.start,(s.samples.length:Int),(s.gaps.length:Int)]:List Int).length = 3:=rfl
  generalize [s.start,(s.samples.length:Int),(s.gaps.length:Int)] = base at hb3 hE ⊢
  refine loop_mk (α:=Nat) 0 (fun k => k ≤ s.gaps.length) (fun k => M ++ [.row true 1 (5 + 2 * k) (hdrB s ++ putB (base ++ gapNs (s.gaps.take k))),.row true 1 0 [.os M.length (5 + 2 * k) 0 (hdrB s ++ putB (base ++ gapNs (s.gaps.take k))).length]])
    (fun k => [(1,.fp (encSer s).cells),(5,.op (M.length + 1) 0 0 0),(6,.fn (.func 131) [] [.op (M.length + 1) 0 0 0]),(41,.fs (s.gaps.map encSpn)),(42,.I s.gaps.length),(43,.I k)]) (fun k => s.gaps.length - k) (Nat.zero_le _) ?_ rfl ?_
  · simp [gapNs]
  intro k hk
  by_cases hlt:k < s.gaps.length
  · obtain ⟨g,hg⟩:∃ g,s.gaps[k]? = some g:=⟨_,List.getElem?_eq_getElem hlt⟩
    have hsn:=gapNs_snoc hg
    have hgl2:=gapNs_len (s.gaps.take k)
    have htl:(s.gaps.take k).length = k:=by rw [List.length_take];omega
    have hcl2:(hdrB s ++ putB (base ++ gapNs (s.gaps.take k))).length = 5 + s.name.size + 4 * (3 + 2 * k):=by rw [hC,List.length_append,hb3,hgl2,htl]
    have hP2:=put_run (X:=X) [g.fr,g.to_] (by simp) (M0:=M) (E:=[.row true 2 0 [encSpn g]]) (v:=5 + 2 * k) (bs:=hdrB s ++ putB (base ++ gapNs (s.gaps.take k))) (by omega)
    rw [hstep,List.append_assoc,← hsn] at hP2
    have hlw:=hcl (base ++ gapNs (s.gaps.take (k + 1)))
    generalize hdrB s ++ putB (base ++ gapNs (s.gaps.take k)) = c at hP2 hcl2 ⊢
    simp -implicitDefEqProofs (disch:=first|omega|(simp only [go_sem,seval,hlt,hg,encSpn_cells,encSpn_eq];first|done|omega)) only [go_sem,seval,hlt,hg,encSpn_cells,encSpn_eq]
    refine callP_l hP2 ?_
    simp -implicitDefEqProofs (disch:=first|omega|(simp only [go_sem,seval,hlt,hg,encSpn_cells,encSpn_eq];first|done|omega)) only [go_sem,seval,hlt,hg,encSpn_cells,encSpn_eq]
    have hes:lowL (M.length + 2) (encSer s).cells = True:=by rw [encSer_cells];exact eq_true (by simp [lowL,PV.low,encF_low,encSpn_low])
    refine Wp_cut_at hM rfl 2 (by simp) (by first|done|(simp only [go_sem,seval,hlw,hlow,putB_low,hes,encSpn_low] <;> first|done|(refine ⟨?_,?_⟩ <;> omega)|omega)) (lowL_mk (by first|done|(simp only [go_sem,seval,hlw,hlow,putB_low,hes,encSpn_low] <;> first|done|(refine ⟨?_,?_⟩ <;> omega)|omega))) ?_
    simp -implicitDefEqProofs (disch:=first|omega|(simp only [go_sem,seval];first|done|omega)) only [go_sem,seval]
    exact again' (k + 1) (by omega) (by omega) rfl rfl
  have hkk:k = s.gaps.length:=by omega
  subst hkk
  rw [List.take_length]
  simp -implicitDefEqProofs (disch:=first|omega|(simp only [go_sem,seval,hlt,encSer_cells];first|done|omega)) only [go_sem,seval,hlt,encSer_cells]
  refine loop_mk (α:=Nat) 0 (fun j => j ≤ s.samples.length) (fun j => M ++ [.row true 1 (5 + (2 * s.gaps.length + j)) (hdrB s ++ putB (base ++ gapNs s.gaps ++ bitNs (s.samples.take j))),.row true 1 0 [.os M.length (5 + (2 * s.gaps.length + j)) 0 (hdrB s ++ putB (base ++ gapNs s.gaps ++ bitNs (s.samples.take j))).length]])
    (fun j => [(5,.op (M.length + 1) 0 0 0),(6,.fn (.func 131) [] [.op (M.length + 1) 0 0 0]),(56,.fs (s.samples.map encF)),(57,.I s.samples.length),(58,.I j)]) (fun j => s.samples.length - j) (Nat.zero_le _) ?_ rfl ?_
  · simp [bitNs]
  intro j hj
  by_cases hlt2:j < s.samples.length
  · obtain ⟨x,hx⟩:∃ x,s.samples[j]? = some x:=⟨_,List.getElem?_eq_getElem hlt2⟩
    have hxs:=hsm x (List.mem_of_getElem? hx)
    have hpl:=f_plus0 hxs
    have hbs:bitNs (s.samples.take (j + 1)) = bitNs (s.samples.take j) ++ [IntKind.i64.wrap (plus0 x)]:=by
      unfold bitNs
      exact take_snoc (f:=fun x => IntKind.i64.wrap (plus0 x:Int)) hx
    have hbl2:(bitNs (s.samples.take j)).length = j:=by unfold bitNs;rw [List.length_map,List.length_take];omega
    have hcl2:(hdrB s ++ putB (base ++ gapNs s.gaps ++ bitNs (s.samples.take j))).length = 5 + s.name.size + 4 * (3 + 2 * s.gaps.length + j):=by rw [hC,List.length_append,List.length_append,hb3,gapNs_len,hbl2]
    have hP2:=put_run (X:=X) [IntKind.i64.wrap (plus0 x)] (by simp) (M0:=M) (E:=[]) (v:=5 + (2 * s.gaps.length + j)) (bs:=hdrB s ++ putB (base ++ gapNs s.gaps ++ bitNs (s.samples.take j))) (by omega)
    have hb':base ++ gapNs s.gaps ++ bitNs (s.samples.take j) ++ [IntKind.i64.wrap (plus0 x)] = base ++ gapNs s.gaps ++ bitNs (s.samples.take (j + 1)):=by rw [hbs,List.append_assoc (base ++ gapNs s.gaps)]
    rw [hstep,hb'] at hP2
    have hlw:=hcl (base ++ gapNs s.gaps ++ bitNs (s.samples.take (j + 1)))
    generalize hdrB s ++ putB (base ++ gapNs s.gaps ++ bitNs (s.samples.take j)) = c at hP2 hcl2 ⊢
    simp -implicitDefEqProofs (disch:=first|omega|(simp only [go_sem,seval,hlt2,hx,r_sop,hpl];first|done|omega)) only [go_sem,seval,hlt2,hx,r_sop,hpl]
    refine callP_q (ACall_ext (hF (plus0 x) _)) ?_
    simp -implicitDefEqProofs (disch:=first|omega|(simp only [go_sem,seval];first|done|omega)) only [go_sem,seval]
    refine callP_l hP2 ?_
    simp -implicitDefEqProofs (disch:=first|omega|(simp only [go_sem,seval];first|done|omega)) only [go_sem,seval]
    refine Wp_cut_at hM rfl 2 (by simp) (by first|done|(simp only [go_sem,seval,hlw,hlow,putB_low,encF_low] <;> first|done|(refine ⟨?_,?_⟩ <;> omega)|omega)) (lowL_mk (by first|done|(simp only [go_sem,seval,hlw,hlow,putB_low,encF_low] <;> first|done|(refine ⟨?_,?_⟩ <;> omega)|omega))) ?_
    simp -implicitDefEqProofs (disch:=first|omega|(simp only [go_sem,seval];first|done|omega)) only [go_sem,seval]
    exact again' (j + 1) (by omega) (by omega) rfl rfl
  have hjj:j = s.samples.length:=by omega
  subst hjj
  rw [List.take_length]
  have hlw:=hcl (base ++ gapNs s.gaps ++ bitNs s.samples)
  rw [← hE] at hlw ⊢
  have hRt:R.take R.length = R:=List.take_length
  simp -implicitDefEqProofs (disch:=first|omega|(simp only [go_sem,seval,hlt2];first|done|omega)) only [go_sem,seval,hlt2]
  (first|refine post_fin ret_ok hM rfl ?_ ?_|refine post_fin0 ret_ok hM rfl ?_ ?_|refine post_fin normal_ok hM rfl ?_ ?_|refine post_fin0 normal_ok hM rfl ?_ ?_)
  · simp -implicitDefEqProofs (disch:=first|omega|(simp only [go_sem,seval,hRt];first|done|omega)) only [go_sem,seval,hRt]
  · (simp only [go_sem,seval,hlw,hRt] <;> first|done|omega)
theorem q_law01_farm:Q X 97 [] (encSte farmS):=by
  intro M
  (refine ACall_fn (cf:=L4.c97) rfl rfl fun hM hA => ?_;simp only [L4.c97];rw [mk0];simp -implicitDefEqProofs (disch:=first|omega|(simp only [go_sem,seval,-List.reduceReplicate];first|done|omega)) only [go_sem,seval,-List.reduceReplicate])
  (first|refine post_fin ret_ok hM rfl ?_ ?_|refine post_fin0 ret_ok hM rfl ?_ ?_|refine post_fin normal_ok hM rfl ?_ ?_|refine post_fin0 normal_ok hM rfl ?_ ?_)
  · simp -implicitDefEqProofs (disch:=first|omega|(simp only [go_sem,seval,-List.reduceReplicate];first|done|omega)) only [go_sem,seval,-List.reduceReplicate]
    rfl
  · exact of_eq_true (encSte_low1 farmS)
theorem q_law01_wave:Q X 98 [] (encSer waveS):=by
  intro M
  (refine ACall_fn (cf:=L4.c98) rfl rfl fun hM hA => ?_;simp only [L4.c98];rw [mk0];simp -implicitDefEqProofs (disch:=first|omega|(simp only [go_sem,seval,-List.reduceReplicate];first|done|omega)) only [go_sem,seval,-List.reduceReplicate])
  (first|refine post_fin ret_ok hM rfl ?_ ?_|refine post_fin0 ret_ok hM rfl ?_ ?_|refine post_fin normal_ok hM rfl ?_ ?_|refine post_fin0 normal_ok hM rfl ?_ ?_)
  · simp -implicitDefEqProofs (disch:=first|omega|(simp only [go_sem,seval,-List.reduceReplicate];first|done|omega)) only [go_sem,seval,-List.reduceReplicate]
    rfl
  · exact of_eq_true (encSer_low1 waveS)
theorem aw1 (hS:SortX X):Q X 19 [.fs (([⟨0,5⟩,⟨3,8⟩,⟨9,10⟩]:List Spn).map encSpn)] (.tup [.fs (([⟨0,8⟩,⟨9,10⟩]:List Spn).map encSpn),.I 0]):=by
  have h:=q_site_Canon (X:=X) hS [⟨0,5⟩,⟨3,8⟩,⟨9,10⟩] (by decide)
  rw [show chkAny [⟨0,5⟩,⟨3,8⟩,⟨9,10⟩] = 0 from by decide,if_pos rfl,aw_canon] at h
  exact h
theorem aw2:Q X 21 [.fs (([⟨0,8⟩,⟨9,10⟩]:List Spn).map encSpn)] (.tup [.I 9,.I 0]):=by
  have h:=q_site_Total (X:=X) [⟨0,8⟩,⟨9,10⟩] (by decide)
  rw [show chkSpns [⟨0,8⟩,⟨9,10⟩] = 0 from by decide,if_pos rfl,show totOf [⟨0,8⟩,⟨9,10⟩] = 9 from by decide] at h
  exact h
theorem aw3 (hS:SortX X):Q X 31 [.fs (([⟨0,8⟩,⟨9,10⟩]:List Spn).map encSpn),.fs (([⟨8,9⟩]:List Spn).map encSpn)] (.tup [.fs (([⟨0,10⟩]:List Spn).map encSpn),.I 0]):=by
  have h:=q_site_Join (X:=X) hS [⟨0,8⟩,⟨9,10⟩] [⟨8,9⟩] (by decide) (by decide)
  rw [aw_join] at h
  exact h
theorem aw4:Q X 33 [.fs (([⟨0,10⟩]:List Spn).map encSpn),.fs (([⟨3,5⟩]:List Spn).map encSpn)] (.tup [.fs (([⟨0,3⟩,⟨5,10⟩]:List Spn).map encSpn),.I 0]):=by
  have h:=q_site_Minus (X:=X) [⟨0,10⟩] [⟨3,5⟩] (by decide) (by decide)
  rw [aw_minus] at h
  exact h
theorem aw5:Q X 42 [encSte farmS] (.tup [.I 25,.I 0]):=by
  have h:=q_site_Spacing (X:=X) farmS (by decide)
  rw [show spcE farmS = 0 from by decide,if_pos rfl,farm_spc] at h
  exact h
theorem aw6:Q X 44 [encSte farmS,.I 1] (.tup [encSte (mvS (trnN 1) farmS),.I 0]):=by
  have h:=q_site_TurnSite (X:=X) farmS 1 (by decide)
  rw [show turnE farmS 1 = 0 from by decide,if_pos rfl] at h
  exact h
theorem aw9:Q X 64 [encSer waveS] (.tup [encSt ⟨6,144,1056964608,1077936128⟩,.I 0]):=by
  have h:=q_site_Summary (X:=X) waveS (by decide) (by decide)
  unfold sumOf sumE at h
  rw [if_pos wave_ok,if_pos wave_ok,wave_sum] at h
  exact h
theorem aw7 (hS:SortX X):Q X 57 [.I 2] (.tup [encPt ⟨-1,0⟩,.I 0]):=by
  have h:=q_site_Step (X:=X) 2
  rw [show stepOf 2 = ⟨-1,0⟩ from by decide,show rng 2 0 7 = 0 from by decide] at h
  exact h
theorem aw8 (hS:SortX X):Q X 57 [.I 0] (.tup [encPt ⟨0,-1⟩,.I 0]):=by
  have h:=q_site_Step (X:=X) 0
  rw [show stepOf 0 = ⟨0,-1⟩ from by decide,show rng 0 0 7 = 0 from by decide] at h
  exact h
theorem aw10:Q X 66 [encSer waveS,encF 1065353216,.I 1] (.tup [.fs (([⟨0,1⟩,⟨3,4⟩,⟨5,7⟩]:List Spn).map encSpn),.I 0]):=by
  have h:=q_site_Spells (X:=X) waveS 1065353216 1 (by decide) (by decide)
  unfold spellR spellL at h
  rw [show spellE waveS 1065353216 1 = 0 from by decide +kernel,if_pos rfl,wave_sp1,if_neg (by decide)] at h
  exact h
theorem aw11:Q X 66 [encSer waveS,encF 1065353216,.I 2] (.tup [.fs (([⟨5,7⟩]:List Spn).map encSpn),.I 0]):=by
  have h:=q_site_Spells (X:=X) waveS 1065353216 2 (by decide) (by decide)
  unfold spellR spellL at h
  rw [show spellE waveS 1065353216 2 = 0 from by decide +kernel,if_pos rfl,wave_sp2,if_neg (by decide)] at h
  exact h
def awRo:Rse:=incR (incR z408 7) (2 * 51 + 8)
theorem aw12:Q X 81 [encSer awA,encSer awB] (.tup [encRs awRo,.I 0]):=by
  have h:=q_site_Blown (X:=X) awA awB (by decide) (by decide) (by decide) (by decide)
  unfold blownR at h
  rw [aw_blownE,if_pos rfl,aw_blown] at h
  exact h
theorem aw14 (hI:ItoaX X) (hJ:JoinX X):Q X 92 [encSte farmS] (.tup [.s (.string (steTxt farmS)),.I 0]):=by
  have h:=q_site_Print (X:=X) hI hJ farmS (by decide)
  rw [farm_ok,if_pos rfl] at h
  exact h
theorem aw15 (hF:FbitsX X):Q X 88 [encSer waveS] (.tup [.fs (encB waveS),.I 0]):=by
  have h:=q_site_Encode (X:=X) hF waveS (by decide) (by decide)
  rw [wave_ok,if_pos rfl] at h
  exact h
theorem awRo_len:List.length awRo = 408:=by decide +kernel
theorem awRo_ok:chkRse awRo = 0:=by decide +kernel
theorem aw13:Q X 58 [encRs awRo,.I 1] (.tup [encRs (trnR awRo 1 8),.I 0]):=by
  have h:=q_site_TurnRose (X:=X) awRo 1 awRo_len
  rw [show trnE awRo 1 = 0 from by decide +kernel,if_pos rfl] at h
  exact h
theorem aw16:Q X 61 [encRs awRo] (.I 2):=by
  have h:=q_ref01_Quarters (X:=X) awRo awRo_len awRo_ok
  rw [show sumR awRo 408 = 2 from by decide +kernel] at h
  exact h
theorem at_cell {r:Rse} {i:Nat} {v:Int} (h:(r.drop i).take 1 = [v]):((r.map PV.I).drop i).take 1 = [PV.I v]:=by
  rw [← List.map_drop,← List.map_take,h];rfl
theorem r_7:(awRo.drop 7).take 1 = [1]:=by decide +kernel
theorem r_110:(awRo.drop 110).take 1 = [1]:=by decide +kernel
theorem u_109:((trnR awRo 1 8).drop 109).take 1 = [1]:=by decide +kernel
theorem u_212:((trnR awRo 1 8).drop 212).take 1 = [1]:=by decide +kernel
theorem same_self (l:List Spn) (h:l.length ≤ 1048576):Q X 39 [.fs (l.map encSpn),.fs (l.map encSpn)] (.B true):=by
  have:=q_ref01_SameSpans (X:=X) l l h
  simpa using this
theorem aw_turned:encSte (mvS (trnN 1) farmS) = .agg [.s (.string ⟨#[110,111,114,116,104]⟩),.I 5,.fs [.agg [.s (.string ⟨#[97]⟩),.I 0,.I 0],.agg [.s (.string ⟨#[98]⟩),.I 0,.I (-6)],.agg [.s (.string ⟨#[99]⟩),.I 4,.I (-3)]]]:=rfl
theorem aw_e0:(encB waveS).length = 57:=by decide +kernel
theorem aw_e4:(encB waveS).take 4 = bytesPV ⟨#[87,73,78,68]⟩:=by rfl
theorem aw_es:sized 1 (encB waveS) = true:=by decide +kernel
theorem aw_e29:(encB waveS)[29]? = some (u8 63):=by rfl
theorem aw_e30:(encB waveS)[30]? = some (u8 128):=by rfl
theorem aw_fl:eqCells [SK.flt,SK.flt] [encF 1056964608,encF 1077936128] [PV.s (Value.float FloatKind.f32 1056964608),PV.s (Value.float FloatKind.f32 1077936128)] = some true:=by
  have o1:(FloatKind.f32.format.order 1056964608 1056964608 == some .eq) = true:=by decide
  have o2:(FloatKind.f32.format.order 1077936128 1077936128 == some .eq) = true:=by decide
  rw [eqCells_flt,eqCells_flt,eqCells_nil]
  simp [o1,o2]
set_option maxHeartbeats 2000000 in
theorem q_law01_awake (hS:SortX X) (hI:ItoaX X) (hJ:JoinX X) (hF:FbitsX X):Q X 17 [] (.B true):=by
  intro M
  (refine ACall_fn (cf:=L4.c17) rfl rfl fun hM hA => ?_;simp only [L4.c17];rw [mk0];simp -implicitDefEqProofs (disch:=first|omega|(simp only [go_sem,seval,-List.reduceReplicate];first|done|omega)) only [go_sem,seval,-List.reduceReplicate])
  refine callP_q (aw1 hS _) ?_
  simp -implicitDefEqProofs (disch:=first|omega|(simp only [go_sem,seval,-List.reduceReplicate];first|done|omega)) only [go_sem,seval,-List.reduceReplicate]
  refine callP_q (aw2 _) ?_
  simp -implicitDefEqProofs (disch:=first|omega|(simp only [go_sem,seval,-List.reduceReplicate];first|done|omega)) only [go_sem,seval,-List.reduceReplicate]
  refine callP_q (aw3 hS _) ?_
  simp -implicitDefEqProofs (disch:=first|omega|(simp only [go_sem,seval,-List.reduceReplicate];first|done|omega)) only [go_sem,seval,-List.reduceReplicate]
  refine callP_q (aw4 _) ?_
  simp -implicitDefEqProofs (disch:=first|omega|(simp only [go_sem,seval,-List.reduceReplicate];first|done|omega)) only [go_sem,seval,-List.reduceReplicate]
  refine callP_q (q_law01_farm _) ?_
  simp -implicitDefEqProofs (disch:=first|omega|(simp only [go_sem,seval,-List.reduceReplicate];first|done|omega)) only [go_sem,seval,-List.reduceReplicate]
  refine callP_q (aw5 _) ?_
  simp -implicitDefEqProofs (disch:=first|omega|(simp only [go_sem,seval,-List.reduceReplicate];first|done|omega)) only [go_sem,seval,-List.reduceReplicate]
  refine callP_q (q_law01_farm _) ?_
  simp -implicitDefEqProofs (disch:=first|omega|(simp only [go_sem,seval,-List.reduceReplicate];first|done|omega)) only [go_sem,seval,-List.reduceReplicate]
  refine callP_q (aw6 _) ?_
  simp -implicitDefEqProofs (disch:=first|omega|(simp only [go_sem,seval,-List.reduceReplicate,aw_turned];first|done|omega)) only [go_sem,seval,-List.reduceReplicate,aw_turned]
  refine callP_q (aw7 hS _) ?_
  simp -implicitDefEqProofs (disch:=first|omega|(simp only [go_sem,seval,-List.reduceReplicate,encPt_eq];first|done|omega)) only [go_sem,seval,-List.reduceReplicate,encPt_eq]
  refine callP_q (aw8 hS _) ?_
  simp -implicitDefEqProofs (disch:=first|omega|(simp only [go_sem,seval,-List.reduceReplicate,encPt_eq];first|done|omega)) only [go_sem,seval,-List.reduceReplicate,encPt_eq]
  refine callP_q (q_law01_wave _) ?_
  simp -implicitDefEqProofs (disch:=first|omega|(simp only [go_sem,seval,-List.reduceReplicate];first|done|omega)) only [go_sem,seval,-List.reduceReplicate]
  refine callP_q (aw9 _) ?_
  simp -implicitDefEqProofs (disch:=first|omega|(simp only [go_sem,seval,-List.reduceReplicate,encSt_eq];first|done|omega)) only [go_sem,seval,-List.reduceReplicate,encSt_eq]
  refine callP_q (q_law01_wave _) ?_
  simp -implicitDefEqProofs (disch:=first|omega|(simp only [go_sem,seval,-List.reduceReplicate];first|done|omega)) only [go_sem,seval,-List.reduceReplicate]
  refine callP_q (aw10 _) ?_
  simp -implicitDefEqProofs (disch:=first|omega|(simp only [go_sem,seval,-List.reduceReplicate];first|done|omega)) only [go_sem,seval,-List.reduceReplicate]
  refine callP_q (q_law01_wave _) ?_
  simp -implicitDefEqProofs (disch:=first|omega|(simp only [go_sem,seval,-List.reduceReplicate];first|done|omega)) only [go_sem,seval,-List.reduceReplicate]
  refine callP_q (aw11 _) ?_
  have hzI:=z408_I
  have hzl:(List.map PV.I z408).length = 408:=by rw [List.length_map];exact List.length_replicate
  have hzo:=ones_I z408
  have hzd:(List.map PV.I z408).drop 408 = []:=List.drop_of_length_le (by omega)
  generalize hZ:List.map PV.I z408 = Z at hzI hzl hzo hzd
  simp -implicitDefEqProofs (disch:=first|omega|(simp only [go_sem,seval,-List.reduceReplicate,hzI];first|done|omega)) only [go_sem,seval,-List.reduceReplicate,hzI]
  refine callP_q (aw12 _) ?_
  have hc:=cells_mk awRo_len
  have e12:encRs awRo = .agg (awRo.map PV.I):=rfl
  have h13:=aw13 (X:=X)
  rw [e12] at h13 ⊢
  have hcl:=hc.len
  have hct:=hc.tk
  have hco:=hc.one
  have k7:=at_cell r_7
  have k110:=at_cell r_110
  have h16:=aw16 (X:=X)
  rw [e12] at h16
  generalize awRo.map PV.I = cs at k7 k110 h16 hc hcl hct hco h13 ⊢
  have hcv:=hc.vw
  simp -implicitDefEqProofs (disch:=first|omega|(simp only [go_sem,seval,-List.reduceReplicate,hzI,hzl,hcl,hco,hct,hcv,hzd,putE_agg,List.append_nil];first|done|omega)) only [go_sem,seval,-List.reduceReplicate,hzI,hzl,hcl,hco,hct,hcv,hzd,putE_agg,List.append_nil]
  refine callP_q (h13 _) ?_
  have hc2:=cells_mk (r:=trnR awRo 1 8) (trnR_len awRo_len (Nat.le_refl _))
  have e13:encRs (trnR awRo 1 8) = .agg ((trnR awRo 1 8).map PV.I):=rfl
  rw [e13]
  have hcl2:=hc2.len
  have hct2:=hc2.tk
  have hco2:=hc2.one
  have hcv2:=hc2.vw
  have k109:=at_cell u_109
  have k212:=at_cell u_212
  generalize (trnR awRo 1 8).map PV.I = ds at k109 k212 hc2 hcl2 hct2 hco2 hcv2 ⊢
  simp -implicitDefEqProofs (disch:=first|omega|(simp only [go_sem,seval,-List.reduceReplicate,hzI,hzl,hcl2,hco2,hct2,hcv2,hzd,putE_agg,List.append_nil];first|done|omega)) only [go_sem,seval,-List.reduceReplicate,hzI,hzl,hcl2,hco2,hct2,hcv2,hzd,putE_agg,List.append_nil]
  refine callP_q (q_law01_farm _) ?_
  simp -implicitDefEqProofs (disch:=first|omega|(simp only [go_sem,seval,-List.reduceReplicate];first|done|omega)) only [go_sem,seval,-List.reduceReplicate]
  refine callP_q (aw14 hI hJ _) ?_
  simp -implicitDefEqProofs (disch:=first|omega|(simp only [go_sem,seval,-List.reduceReplicate];first|done|omega)) only [go_sem,seval,-List.reduceReplicate]
  refine callP_q (q_law01_wave _) ?_
  simp -implicitDefEqProofs (disch:=first|omega|(simp only [go_sem,seval,-List.reduceReplicate];first|done|omega)) only [go_sem,seval,-List.reduceReplicate]
  refine callP_q (aw15 hF _) ?_
  have hEl:=aw_e0
  have hE4:=aw_e4
  have hEs:=aw_es
  have hE29:=aw_e29
  have hE30:=aw_e30
  generalize encB waveS = eb at hEl hE4 hEs hE29 hE30 ⊢
  simp -implicitDefEqProofs (disch:=first|omega|(simp only [go_sem,seval,-List.reduceReplicate,aw_turned,hEl];first|done|omega)) only [go_sem,seval,-List.reduceReplicate,aw_turned,hEl]
  refine callP_q (same_self [⟨0,8⟩,⟨9,10⟩] (by decide) _) ?_
  simp -implicitDefEqProofs (disch:=first|omega|(simp only [go_sem,seval,-List.reduceReplicate,aw_turned,hEl];first|done|omega)) only [go_sem,seval,-List.reduceReplicate,aw_turned,hEl]
  refine callP_q (same_self [⟨0,10⟩] (by decide) _) ?_
  simp -implicitDefEqProofs (disch:=first|omega|(simp only [go_sem,seval,-List.reduceReplicate,aw_turned,hEl];first|done|omega)) only [go_sem,seval,-List.reduceReplicate,aw_turned,hEl]
  refine callP_q (same_self [⟨0,3⟩,⟨5,10⟩] (by decide) _) ?_
  have hfl:=aw_fl
  simp -implicitDefEqProofs (disch:=first|omega|(simp only [go_sem,seval,-List.reduceReplicate,aw_turned,hEl,hfl];first|done|omega)) only [go_sem,seval,-List.reduceReplicate,aw_turned,hEl,hfl]
  refine callP_q (same_self [⟨0,1⟩,⟨3,4⟩,⟨5,7⟩] (by decide) _) ?_
  simp -implicitDefEqProofs (disch:=first|omega|(simp only [go_sem,seval,-List.reduceReplicate,aw_turned,hEl,hfl];first|done|omega)) only [go_sem,seval,-List.reduceReplicate,aw_turned,hEl,hfl]
  refine callP_q (same_self [⟨5,7⟩] (by decide) _) ?_
  simp -implicitDefEqProofs (disch:=first|omega|(simp only [go_sem,seval,-List.reduceReplicate,aw_turned,hEl,hfl,k7,k110,k109,k212,hcl,hct,hcv,hcl2];first|done|omega)) only [go_sem,seval,-List.reduceReplicate,aw_turned,hEl,hfl,k7,k110,k109,k212,hcl,hct,hcv,hcl2]
  refine callP_q (h16 _) ?_
  simp -implicitDefEqProofs (disch:=first|omega|(simp only [go_sem,seval,-List.reduceReplicate,aw_turned,aw_print,hEl,hE4,hEs,hE29,hE30,hfl,k7,k110,k109,k212,hcl,hct,hcv,hcl2,hct2,bin_strEq];first|done|omega)) only [go_sem,seval,-List.reduceReplicate,aw_turned,aw_print,hEl,hE4,hEs,hE29,hE30,hfl,k7,k110,k109,k212,hcl,hct,hcv,hcl2,hct2,bin_strEq]
  (all_goals (first|refine post_fin ret_ok hM rfl ?_ ?_|refine post_fin0 ret_ok hM rfl ?_ ?_|refine post_fin normal_ok hM rfl ?_ ?_|refine post_fin0 normal_ok hM rfl ?_ ?_);all_goals first|(simp only [go_sem,seval,-List.reduceReplicate] <;> first|done|omega)|skip;all_goals (try simp -implicitDefEqProofs (disch:=first|omega|(simp only [go_sem,seval,-List.reduceReplicate];first|done|omega)) only [go_sem,seval,-List.reduceReplicate]))
theorem q_number (n e w v:Int) (h:(if w = 0 then e = 0 ∧ n = v else n = 0 ∧ e = w)):Q X 30 [.I n,.I e,.I w,.I v] (.B true):=by
  have:=q_law01_number (X:=X) n e w v
  have e1:(if w = 0 then decide (e = 0) && decide (n = v) else decide (n = 0) && decide (e = w)) = true:=by
    split at h
    · rename_i hw;rw [if_pos hw,decide_eq_true h.1,decide_eq_true h.2];rfl
    · rename_i hw;rw [if_neg hw,decide_eq_true h.1,decide_eq_true h.2];rfl
  rwa [e1] at this
/-- The comparison of spans, and what it calls. -/
def Fc:Prog
  | 148 => some c148
  | 149 => some c149
  | 168 => some c168
  | _ => none
abbrev Qc (f:FuncId) (args:List PV) (r:PV):Prop:=∀ M,ACall Fc (fun _ _ _ _ _ => False) (.fn f) args M r M
theorem qc_isNaN (x:Int):Qc 168 [.I x] (.B false):=by
  intro M
  (refine ACall_fn (cf:=L4.c168) rfl rfl fun hM hA => ?_;simp only [L4.c168];rw [mk1 _ (by decide)];simp -implicitDefEqProofs (disch:=first|omega|(simp only [go_sem,seval];first|done|omega)) only [go_sem,seval])
  (all_goals (first|refine post_fin ret_ok hM rfl ?_ ?_|refine post_fin0 ret_ok hM rfl ?_ ?_|refine post_fin normal_ok hM rfl ?_ ?_|refine post_fin0 normal_ok hM rfl ?_ ?_);all_goals first|(simp only [go_sem,seval] <;> first|done|omega)|skip;all_goals (try simp -implicitDefEqProofs (disch:=first|omega|(simp only [go_sem,seval];first|done|omega)) only [go_sem,seval]))
  all_goals simp
theorem qc_Compare (x y:Int):Qc 149 [.I x,.I y] (.I (if x < y then -1 else if y < x then 1 else 0)):=by
  intro M
  (refine ACall_fn (cf:=L4.c149) rfl rfl fun hM hA => ?_;simp only [L4.c149];rw [mk2 _ (by decide)];simp -implicitDefEqProofs (disch:=first|omega|(simp only [go_sem,seval];first|done|omega)) only [go_sem,seval])
  refine callP_q (qc_isNaN x _) ?_
  simp -implicitDefEqProofs (disch:=first|omega|(simp only [go_sem,seval];first|done|omega)) only [go_sem,seval]
  refine callP_q (qc_isNaN y _) ?_
  simp -implicitDefEqProofs (disch:=first|omega|(simp only [go_sem,seval];first|done|omega)) only [go_sem,seval]
  by_cases h1:x < y
  · simp -implicitDefEqProofs (disch:=first|omega|(simp only [go_sem,seval,h1];first|done|omega)) only [go_sem,seval,h1]
    (all_goals (first|refine post_fin ret_ok hM rfl ?_ ?_|refine post_fin0 ret_ok hM rfl ?_ ?_|refine post_fin normal_ok hM rfl ?_ ?_|refine post_fin0 normal_ok hM rfl ?_ ?_);all_goals first|(simp only [go_sem,seval] <;> first|done|omega)|skip;all_goals (try simp -implicitDefEqProofs (disch:=first|omega|(simp only [go_sem,seval];first|done|omega)) only [go_sem,seval]))
  · by_cases h2:y < x
    · simp -implicitDefEqProofs (disch:=first|omega|(simp only [go_sem,seval,h1,h2];first|done|omega)) only [go_sem,seval,h1,h2]
      (all_goals (first|refine post_fin ret_ok hM rfl ?_ ?_|refine post_fin0 ret_ok hM rfl ?_ ?_|refine post_fin normal_ok hM rfl ?_ ?_|refine post_fin0 normal_ok hM rfl ?_ ?_);all_goals first|(simp only [go_sem,seval] <;> first|done|omega)|skip;all_goals (try simp -implicitDefEqProofs (disch:=first|omega|(simp only [go_sem,seval];first|done|omega)) only [go_sem,seval]))
    · simp -implicitDefEqProofs (disch:=first|omega|(simp only [go_sem,seval,h1,h2];first|done|omega)) only [go_sem,seval,h1,h2]
      (all_goals (first|refine post_fin ret_ok hM rfl ?_ ?_|refine post_fin0 ret_ok hM rfl ?_ ?_|refine post_fin normal_ok hM rfl ?_ ?_|refine post_fin0 normal_ok hM rfl ?_ ?_);all_goals first|(simp only [go_sem,seval] <;> first|done|omega)|skip;all_goals (try simp -implicitDefEqProofs (disch:=first|omega|(simp only [go_sem,seval];first|done|omega)) only [go_sem,seval]))
theorem qc_canon (x y:Spn):Qc 148 [encSpn x,encSpn y] (.I (spnCmp x y)):=by
  intro M
  (refine ACall_fn (cf:=L4.c148) rfl rfl fun hM hA => ?_;simp only [L4.c148];rw [mk2 _ (by decide)];simp -implicitDefEqProofs (disch:=first|omega|(simp only [go_sem,seval,encSpn_eq];first|done|omega)) only [go_sem,seval,encSpn_eq])
  refine callP_q (qc_Compare x.fr y.fr _) ?_
  have e:spnCmp x y = if x.fr < y.fr then -1 else if y.fr < x.fr then 1 else 0:=rfl
  rw [e]
  simp -implicitDefEqProofs (disch:=first|omega|(simp only [go_sem,seval];first|done|omega)) only [go_sem,seval]
  (all_goals (first|refine post_fin ret_ok hM rfl ?_ ?_|refine post_fin0 ret_ok hM rfl ?_ ?_|refine post_fin normal_ok hM rfl ?_ ?_|refine post_fin0 normal_ok hM rfl ?_ ?_);all_goals first|(simp only [go_sem,seval] <;> first|done|omega)|skip;all_goals (try simp -implicitDefEqProofs (disch:=first|omega|(simp only [go_sem,seval];first|done|omega)) only [go_sem,seval]))
theorem q_law01_given (s:Ste) (hl:s.tbs.length ≤ 1048576):Q X 43 [encSte s] (encSte s):=by
  obtain ⟨nm,least,l⟩:=s
  simp only at hl ⊢
  have e:encSte ⟨nm,least,l⟩ = .agg [.s (.string nm),.I least,.fs (l.map encTb)]:=rfl
  rw [e]
  clear e
  intro M
  have hz:zSte = .agg [.s (.string ⟨#[]⟩),.I 0,.s (.slice none 0 0)]:=rfl
  (refine ACall_fn (cf:=L4.c43) rfl rfl fun hM hA => ?_;simp only [L4.c43];rw [mk1 _ (by decide)];simp -implicitDefEqProofs (disch:=first|omega|(simp only [go_sem,seval,ownR_agg];first|done|omega)) only [go_sem,seval,ownR_agg])
  refine loop_mk (α:=Nat) 0 (fun k => k ≤ l.length) (fun k => M ++ [.row true 3 0 [zSte],.row true 3 0 [.agg [.s (.string nm),.I least,.os (M.length + 2) (l.take k).length 0 (l.take k).length]],.row true 3 (l.take k).length ((l.take k).map encTb)])
    (fun k => [(2,.op M.length 0 0 0),(3,.op (M.length + 1) 0 0 0),(12,.fs (l.map encTb)),(13,.I l.length),(14,.I k)]) (fun k => l.length - k) (Nat.zero_le _) rfl rfl ?_
  intro k hk
  by_cases hlt:k < l.length
  · obtain ⟨x,hx⟩:∃ x,l[k]? = some x:=⟨_,List.getElem?_eq_getElem hlt⟩
    have htl:(l.take k).length = k:=by rw [List.length_take];omega
    have hs:l.take (k + 1) = l.take k ++ [x]:=by
      obtain ⟨h3,h4⟩:=List.getElem?_eq_some_iff.1 hx
      rw [List.take_succ_eq_append_getElem h3,h4]
    have again:∀ o:List Tb,l.take (k + 1) = o → Again 26 (fun k => k ≤ l.length) (fun k => M ++ [.row true 3 0 [zSte],.row true 3 0 [.agg [.s (.string nm),.I least,.os (M.length + 2) (l.take k).length 0 (l.take k).length]],.row true 3 (l.take k).length ((l.take k).map encTb)])
      (fun k => [(2,.op M.length 0 0 0),(3,.op (M.length + 1) 0 0 0),(12,.fs (l.map encTb)),(13,.I l.length),(14,.I k)]) (fun k => l.length - k) k
      (M ++ [.row true 3 0 [zSte],.row true 3 0 [.agg [.s (.string nm),.I least,.os (M.length + 2) o.length 0 o.length]],.row true 3 o.length (o.map encTb)]) (mk 26 [(2,.op M.length 0 0 0),(3,.op (M.length + 1) 0 0 0),(12,.fs (l.map encTb)),(13,.I l.length),(14,.I (k + 1))]):=by
      rintro o rfl
      exact again' (k + 1) (by omega) (by omega) rfl rfl
    rw [hs] at again
    clear hs
    generalize l.take k = o at htl again ⊢
    have f0:((k:Int) < l.length) = True:=eq_true (by omega)
    simp -implicitDefEqProofs (disch:=first|omega|(simp only [go_sem,seval,hlt,f0,hx,encTb_cells,encTb_eq];first|done|omega)) only [go_sem,seval,hlt,f0,hx,encTb_cells,encTb_eq]
    refine Wp_cut_at hM rfl 3 (by simp) (by first|done|(simp only [go_sem,seval,encTb_low,zSte_low] <;> first|done|(refine ⟨?_,?_⟩ <;> omega)|omega)) (lowL_mk (by first|done|(simp only [go_sem,seval,encTb_low,zSte_low] <;> first|done|(refine ⟨?_,?_⟩ <;> omega)|omega))) ?_
    simp -implicitDefEqProofs (disch:=first|omega|(simp only [go_sem,seval];first|done|omega)) only [go_sem,seval]
    simpa [encTb] using again _ rfl
  · simp -implicitDefEqProofs (disch:=first|omega|(simp only [go_sem,seval,hlt];first|done|omega)) only [go_sem,seval,hlt]
    rw [List.take_of_length_le (by omega)]
    simp -implicitDefEqProofs (disch:=first|omega|(simp only [go_sem,seval,hz];first|done|omega)) only [go_sem,seval,hz]
    (first|refine post_fin ret_ok hM rfl ?_ ?_|refine post_fin0 ret_ok hM rfl ?_ ?_|refine post_fin normal_ok hM rfl ?_ ?_|refine post_fin0 normal_ok hM rfl ?_ ?_)
    · simp -implicitDefEqProofs (disch:=first|omega|(simp only [go_sem,seval];first|done|omega)) only [go_sem,seval]
      rw [List.take_of_length_le (by rw [List.length_map];omega)]
    · (simp only [go_sem,seval,encTb_low] <;> first|done|omega)
theorem q_law01_own (s:Ste) (hl:s.tbs.length ≤ 1048576):Q X 55 [encSte s] (encSte s):=by
  obtain ⟨nm,least,l⟩:=s
  simp only at hl ⊢
  have e:encSte ⟨nm,least,l⟩ = .agg [.s (.string nm),.I least,.fs (l.map encTb)]:=rfl
  rw [e]
  clear e
  intro M
  have hz:zSte = .agg [.s (.string ⟨#[]⟩),.I 0,.s (.slice none 0 0)]:=rfl
  (refine ACall_fn (cf:=L4.c55) rfl rfl fun hM hA => ?_;simp only [L4.c55];rw [mk1 _ (by decide)];simp -implicitDefEqProofs (disch:=first|omega|(simp only [go_sem,seval,ownR_agg];first|done|omega)) only [go_sem,seval,ownR_agg])
  refine loop_mk (α:=Nat) 0 (fun k => k ≤ l.length) (fun k => M ++ [.row true 3 0 [zSte],.row true 3 0 [.agg [.s (.string nm),.I least,.os (M.length + 2) (l.take k).length 0 (l.take k).length]],.row true 3 (l.take k).length ((l.take k).map encTb)])
    (fun k => [(2,.op M.length 0 0 0),(3,.op (M.length + 1) 0 0 0),(12,.fs (l.map encTb)),(13,.I l.length),(14,.I k)]) (fun k => l.length - k) (Nat.zero_le _) rfl rfl ?_
  intro k hk
  by_cases hlt:k < l.length
  · obtain ⟨x,hx⟩:∃ x,l[k]? = some x:=⟨_,List.getElem?_eq_getElem hlt⟩
    have htl:(l.take k).length = k:=by rw [List.length_take];omega
    have hs:l.take (k + 1) = l.take k ++ [x]:=by
      obtain ⟨h3,h4⟩:=List.getElem?_eq_some_iff.1 hx
      rw [List.take_succ_eq_append_getElem h3,h4]
    have again:∀ o:List Tb,l.take (k + 1) = o → Again 26 (fun k => k ≤ l.length) (fun k => M ++ [.row true 3 0 [zSte],.row true 3 0 [.agg [.s (.string nm),.I least,.os (M.length + 2) (l.take k).length 0 (l.take k).length]],.row true 3 (l.take k).length ((l.take k).map encTb)])
      (fun k => [(2,.op M.length 0 0 0),(3,.op (M.length + 1) 0 0 0),(12,.fs (l.map encTb)),(13,.I l.length),(14,.I k)]) (fun k => l.length - k) k
      (M ++ [.row true 3 0 [zSte],.row true 3 0 [.agg [.s (.string nm),.I least,.os (M.length + 2) o.length 0 o.length]],.row true 3 o.length (o.map encTb)]) (mk 26 [(2,.op M.length 0 0 0),(3,.op (M.length + 1) 0 0 0),(12,.fs (l.map encTb)),(13,.I l.length),(14,.I (k + 1))]):=by
      rintro o rfl
      exact again' (k + 1) (by omega) (by omega) rfl rfl
    rw [hs] at again
    clear hs
    generalize l.take k = o at htl again ⊢
    have f0:((k:Int) < l.length) = True:=eq_true (by omega)
    simp -implicitDefEqProofs (disch:=first|omega|(simp only [go_sem,seval,hlt,f0,hx,encTb_cells,encTb_eq];first|done|omega)) only [go_sem,seval,hlt,f0,hx,encTb_cells,encTb_eq]
    refine Wp_cut_at hM rfl 3 (by simp) (by first|done|(simp only [go_sem,seval,encTb_low,zSte_low] <;> first|done|(refine ⟨?_,?_⟩ <;> omega)|omega)) (lowL_mk (by first|done|(simp only [go_sem,seval,encTb_low,zSte_low] <;> first|done|(refine ⟨?_,?_⟩ <;> omega)|omega))) ?_
    simp -implicitDefEqProofs (disch:=first|omega|(simp only [go_sem,seval];first|done|omega)) only [go_sem,seval]
    simpa [encTb] using again _ rfl
  · simp -implicitDefEqProofs (disch:=first|omega|(simp only [go_sem,seval,hlt];first|done|omega)) only [go_sem,seval,hlt]
    rw [List.take_of_length_le (by omega)]
    simp -implicitDefEqProofs (disch:=first|omega|(simp only [go_sem,seval,hz];first|done|omega)) only [go_sem,seval,hz]
    (first|refine post_fin ret_ok hM rfl ?_ ?_|refine post_fin0 ret_ok hM rfl ?_ ?_|refine post_fin normal_ok hM rfl ?_ ?_|refine post_fin0 normal_ok hM rfl ?_ ?_)
    · simp -implicitDefEqProofs (disch:=first|omega|(simp only [go_sem,seval];first|done|omega)) only [go_sem,seval]
      rw [List.take_of_length_le (by rw [List.length_map];omega)]
    · (simp only [go_sem,seval,encTb_low] <;> first|done|omega)
def shortS (s:Ste):Bool:=decide (s.name.size ≤ 60) && (decide (s.tbs.length ≤ 10) || decide (s.tbs.length = 65)) && s.tbs.all fun t => decide (t.name.size ≤ 60)
theorem q_ref01_ShortSite (s:Ste):Q X 41 [encSte s,.I 10] (.B (shortS s)):=by
  obtain ⟨nm,least,l⟩:=s
  have e:encSte ⟨nm,least,l⟩ = .agg [.s (.string nm),.I least,.fs (l.map encTb)]:=rfl
  rw [e]
  clear e
  unfold shortS
  simp only
  intro M
  by_cases h1:nm.size ≤ 60
  case neg =>
    have f1:((60:Int) < nm.size) = True:=eq_true (by omega)
    (refine ACall_fn (cf:=L4.c41) rfl rfl fun hM hA => ?_;simp only [L4.c41];rw [mk2 _ (by decide)];simp -implicitDefEqProofs (disch:=first|omega|(simp only [go_sem,seval,f1];first|done|omega)) only [go_sem,seval,f1])
    (first|refine post_fin ret_ok hM rfl ?_ ?_|refine post_fin0 ret_ok hM rfl ?_ ?_|refine post_fin normal_ok hM rfl ?_ ?_|refine post_fin0 normal_ok hM rfl ?_ ?_)
    · simp -implicitDefEqProofs (disch:=first|omega|(simp only [go_sem,seval];first|done|omega)) only [go_sem,seval]
      rw [decide_eq_false h1];rfl
    · (simp only [go_sem,seval] <;> first|done|omega)
  have f1:((60:Int) < nm.size) = False:=eq_false (by omega)
  rw [decide_eq_true h1,Bool.true_and]
  by_cases h2:l.length ≤ 10 ∨ l.length = 65
  case neg =>
    have f2:((10:Int) < l.length) = True:=eq_true (by omega)
    have f3:((l.length:Int) = 65) = False:=eq_false (by omega)
    (refine ACall_fn (cf:=L4.c41) rfl rfl fun hM hA => ?_;simp only [L4.c41];rw [mk2 _ (by decide)];simp -implicitDefEqProofs (disch:=first|omega|(simp only [go_sem,seval,f1,f2,f3];first|done|omega)) only [go_sem,seval,f1,f2,f3])
    (first|refine post_fin ret_ok hM rfl ?_ ?_|refine post_fin0 ret_ok hM rfl ?_ ?_|refine post_fin normal_ok hM rfl ?_ ?_|refine post_fin0 normal_ok hM rfl ?_ ?_)
    · simp -implicitDefEqProofs (disch:=first|omega|(simp only [go_sem,seval];first|done|omega)) only [go_sem,seval]
      rw [decide_eq_false (show ¬ l.length ≤ 10 from by omega),decide_eq_false (show ¬ l.length = 65 from by omega)];rfl
    · (simp only [go_sem,seval] <;> first|done|omega)
  have h3:(decide (l.length ≤ 10) || decide (l.length = 65)) = true:=by rcases h2 with h|h <;> simp [h]
  rw [h3,Bool.true_and]
  (refine ACall_fn (cf:=L4.c41) rfl rfl fun hM hA => ?_;simp only [L4.c41];rw [mk2 _ (by decide)];simp -implicitDefEqProofs (disch:=first|omega|(simp only [go_sem,seval,f1];first|done|omega)) only [go_sem,seval,f1])
  have hc:((10:Int) < l.length ∧ ¬ (l.length:Int) = 65) = False:=eq_false (by omega)
  by_cases h4:(10:Int) < l.length
  · have f3:((l.length:Int) = 65) = True:=eq_true (by omega)
    simp -implicitDefEqProofs (disch:=first|omega|(simp only [go_sem,seval,h4,f3];first|done|omega)) only [go_sem,seval,h4,f3]
    refine loop_mk (α:=Nat) 0 (fun k => k ≤ l.length ∧ (l.take k).all (fun t => decide (t.name.size ≤ 60)) = true) (fun _ => M) (fun k => [(2,.fp [.s (.string nm),.I least,.fs (l.map encTb)]),(5,.I k)]) (fun k => l.length - k) ⟨Nat.zero_le _,rfl⟩ rfl rfl ?_
    rintro k ⟨hk,hs⟩
    by_cases hlt:k < l.length
    · obtain ⟨x,hx⟩:∃ x,l[k]? = some x:=⟨_,List.getElem?_eq_getElem hlt⟩
      simp -implicitDefEqProofs (disch:=first|omega|(simp only [go_sem,seval,hlt,hx,encTb_cells,encTb_eq];first|done|omega)) only [go_sem,seval,hlt,hx,encTb_cells,encTb_eq]
      by_cases hn:x.name.size ≤ 60
      · have fn:((60:Int) < x.name.size) = False:=eq_false (by omega)
        simp -implicitDefEqProofs (disch:=first|omega|(simp only [go_sem,seval,fn];first|done|omega)) only [go_sem,seval,fn]
        refine again' (k + 1) ⟨by omega,?_⟩ (by omega) rfl rfl
        obtain ⟨g3,g4⟩:=List.getElem?_eq_some_iff.1 hx
        rw [List.take_succ_eq_append_getElem g3,g4,List.all_append,hs];simp [hn]
      · have fn:((60:Int) < x.name.size) = True:=eq_true (by omega)
        simp -implicitDefEqProofs (disch:=first|omega|(simp only [go_sem,seval,fn];first|done|omega)) only [go_sem,seval,fn]
        (first|refine post_fin ret_ok hM rfl ?_ ?_|refine post_fin0 ret_ok hM rfl ?_ ?_|refine post_fin normal_ok hM rfl ?_ ?_|refine post_fin0 normal_ok hM rfl ?_ ?_)
        · simp -implicitDefEqProofs (disch:=first|omega|(simp only [go_sem,seval];first|done|omega)) only [go_sem,seval]
          congr 1;symm
          rw [List.all_eq_false]
          exact ⟨x,List.mem_of_getElem? hx,by simpa using hn⟩
        · (simp only [go_sem,seval] <;> first|done|omega)
    · simp -implicitDefEqProofs (disch:=first|omega|(simp only [go_sem,seval,hlt];first|done|omega)) only [go_sem,seval,hlt]
      (first|refine post_fin ret_ok hM rfl ?_ ?_|refine post_fin0 ret_ok hM rfl ?_ ?_|refine post_fin normal_ok hM rfl ?_ ?_|refine post_fin0 normal_ok hM rfl ?_ ?_)
      · simp -implicitDefEqProofs (disch:=first|omega|(simp only [go_sem,seval];first|done|omega)) only [go_sem,seval]
        rw [List.take_of_length_le (by omega)] at hs
        rw [hs]
      · (simp only [go_sem,seval] <;> first|done|omega)
  · simp -implicitDefEqProofs (disch:=first|omega|(simp only [go_sem,seval,h4];first|done|omega)) only [go_sem,seval,h4]
    refine loop_mk (α:=Nat) 0 (fun k => k ≤ l.length ∧ (l.take k).all (fun t => decide (t.name.size ≤ 60)) = true) (fun _ => M) (fun k => [(2,.fp [.s (.string nm),.I least,.fs (l.map encTb)]),(5,.I k)]) (fun k => l.length - k) ⟨Nat.zero_le _,rfl⟩ rfl rfl ?_
    rintro k ⟨hk,hs⟩
    by_cases hlt:k < l.length
    · obtain ⟨x,hx⟩:∃ x,l[k]? = some x:=⟨_,List.getElem?_eq_getElem hlt⟩
      simp -implicitDefEqProofs (disch:=first|omega|(simp only [go_sem,seval,hlt,hx,encTb_cells,encTb_eq];first|done|omega)) only [go_sem,seval,hlt,hx,encTb_cells,encTb_eq]
      by_cases hn:x.name.size ≤ 60
      · have fn:((60:Int) < x.name.size) = False:=eq_false (by omega)
        simp -implicitDefEqProofs (disch:=first|omega|(simp only [go_sem,seval,fn];first|done|omega)) only [go_sem,seval,fn]
        refine again' (k + 1) ⟨by omega,?_⟩ (by omega) rfl rfl
        obtain ⟨g3,g4⟩:=List.getElem?_eq_some_iff.1 hx
        rw [List.take_succ_eq_append_getElem g3,g4,List.all_append,hs];simp [hn]
      · have fn:((60:Int) < x.name.size) = True:=eq_true (by omega)
        simp -implicitDefEqProofs (disch:=first|omega|(simp only [go_sem,seval,fn];first|done|omega)) only [go_sem,seval,fn]
        (first|refine post_fin ret_ok hM rfl ?_ ?_|refine post_fin0 ret_ok hM rfl ?_ ?_|refine post_fin normal_ok hM rfl ?_ ?_|refine post_fin0 normal_ok hM rfl ?_ ?_)
        · simp -implicitDefEqProofs (disch:=first|omega|(simp only [go_sem,seval];first|done|omega)) only [go_sem,seval]
          congr 1;symm
          rw [List.all_eq_false]
          exact ⟨x,List.mem_of_getElem? hx,by simpa using hn⟩
        · (simp only [go_sem,seval] <;> first|done|omega)
    · simp -implicitDefEqProofs (disch:=first|omega|(simp only [go_sem,seval,hlt];first|done|omega)) only [go_sem,seval,hlt]
      (first|refine post_fin ret_ok hM rfl ?_ ?_|refine post_fin0 ret_ok hM rfl ?_ ?_|refine post_fin normal_ok hM rfl ?_ ?_|refine post_fin0 normal_ok hM rfl ?_ ?_)
      · simp -implicitDefEqProofs (disch:=first|omega|(simp only [go_sem,seval];first|done|omega)) only [go_sem,seval]
        rw [List.take_of_length_le (by omega)] at hs
        rw [hs]
      · (simp only [go_sem,seval] <;> first|done|omega)
theorem q_ref01_SameSite (a b:Ste) (hl:a.tbs.length ≤ 1048576):Q X 54 [encSte a,encSte b] (.B (decide (a.name = b.name ∧ a.least = b.least ∧ a.tbs = b.tbs))):=by
  obtain ⟨na,la,ta⟩:=a
  obtain ⟨nb,lb,tb⟩:=b
  have e1:encSte ⟨na,la,ta⟩ = .agg [.s (.string na),.I la,.fs (ta.map encTb)]:=rfl
  have e2:encSte ⟨nb,lb,tb⟩ = .agg [.s (.string nb),.I lb,.fs (tb.map encTb)]:=rfl
  rw [e1,e2]
  clear e1 e2
  simp only at hl ⊢
  intro M
  by_cases h1:na = nb
  case neg =>
    (refine ACall_fn (cf:=L4.c54) rfl rfl fun hM hA => ?_;simp only [L4.c54];rw [mk2 _ (by decide)];simp -implicitDefEqProofs (disch:=first|omega|(simp only [go_sem,seval,bin_strNe,h1];first|done|omega)) only [go_sem,seval,bin_strNe,h1])
    (first|refine post_fin ret_ok hM rfl ?_ ?_|refine post_fin0 ret_ok hM rfl ?_ ?_|refine post_fin normal_ok hM rfl ?_ ?_|refine post_fin0 normal_ok hM rfl ?_ ?_)
    · simp -implicitDefEqProofs (disch:=first|omega|(simp only [go_sem,seval];first|done|omega)) only [go_sem,seval]
      simp [h1]
    · (simp only [go_sem,seval] <;> first|done|omega)
  by_cases h2:la = lb
  case neg =>
    (refine ACall_fn (cf:=L4.c54) rfl rfl fun hM hA => ?_;simp only [L4.c54];rw [mk2 _ (by decide)];simp -implicitDefEqProofs (disch:=first|omega|(simp only [go_sem,seval,bin_strNe,h1,h2];first|done|omega)) only [go_sem,seval,bin_strNe,h1,h2])
    (first|refine post_fin ret_ok hM rfl ?_ ?_|refine post_fin0 ret_ok hM rfl ?_ ?_|refine post_fin normal_ok hM rfl ?_ ?_|refine post_fin0 normal_ok hM rfl ?_ ?_)
    · simp -implicitDefEqProofs (disch:=first|omega|(simp only [go_sem,seval];first|done|omega)) only [go_sem,seval]
      simp [h2]
    · (simp only [go_sem,seval] <;> first|done|omega)
  by_cases h3:ta.length = tb.length
  case neg =>
    have f3:((ta.length:Int) = tb.length) = False:=eq_false (by omega)
    (refine ACall_fn (cf:=L4.c54) rfl rfl fun hM hA => ?_;simp only [L4.c54];rw [mk2 _ (by decide)];simp -implicitDefEqProofs (disch:=first|omega|(simp only [go_sem,seval,bin_strNe,h1,h2,f3];first|done|omega)) only [go_sem,seval,bin_strNe,h1,h2,f3])
    (first|refine post_fin ret_ok hM rfl ?_ ?_|refine post_fin0 ret_ok hM rfl ?_ ?_|refine post_fin normal_ok hM rfl ?_ ?_|refine post_fin0 normal_ok hM rfl ?_ ?_)
    · simp -implicitDefEqProofs (disch:=first|omega|(simp only [go_sem,seval];first|done|omega)) only [go_sem,seval]
      have h4:¬ ta = tb:=fun h => h3 (by rw [h])
      simp [h4]
    · (simp only [go_sem,seval] <;> first|done|omega)
  have f3:((ta.length:Int) = tb.length) = True:=eq_true (by omega)
  (refine ACall_fn (cf:=L4.c54) rfl rfl fun hM hA => ?_;simp only [L4.c54];rw [mk2 _ (by decide)];simp -implicitDefEqProofs (disch:=first|omega|(simp only [go_sem,seval,bin_strNe,h1,h2,f3];first|done|omega)) only [go_sem,seval,bin_strNe,h1,h2,f3])
  refine loop_mk (α:=Nat) 0 (fun k => k ≤ ta.length ∧ ta.take k = tb.take k) (fun k => M) (fun k => [(2,.fp [.s (.string na),.I la,.fs (ta.map encTb)]),(3,.fp [.s (.string nb),.I lb,.fs (tb.map encTb)]),(5,.I k)]) (fun k => ta.length - k) ⟨Nat.zero_le _,rfl⟩ rfl (by simp only [h1,h2];rfl) ?_
  rintro k ⟨hk,hs⟩
  by_cases hlt:k < ta.length
  · obtain ⟨x,hx⟩:∃ x,ta[k]? = some x:=⟨_,List.getElem?_eq_getElem hlt⟩
    obtain ⟨y,hy⟩:∃ y,tb[k]? = some y:=⟨_,List.getElem?_eq_getElem (by omega)⟩
    have hlt2:k < tb.length:=by omega
    have heq:eqCells [.str,.int,.int] [.s (.string x.name),.I x.x,.I x.y] [.s (.string y.name),.I y.x,.I y.y] = some (decide (x = y)):=by
      simp only [eqCells,eqSK,Option.bind_some,Option.bind_eq_bind,pure,if_true,ba_beq]
      obtain ⟨n1,x1,y1⟩:=x
      obtain ⟨n2,x2,y2⟩:=y
      by_cases g1:n1 = n2 <;> by_cases g2:x1 = x2 <;> by_cases g3:y1 = y2 <;> simp [g1,g2,g3]
    simp -implicitDefEqProofs (disch:=first|omega|(simp only [go_sem,seval,hlt,hlt2,hx,hy,encTb_cells,encTb_eq,eqsV_agg,heq];first|done|omega)) only [go_sem,seval,hlt,hlt2,hx,hy,encTb_cells,encTb_eq,eqsV_agg,heq]
    by_cases hxy:x = y
    · simp -implicitDefEqProofs (disch:=first|omega|(simp only [go_sem,seval,hxy];first|done|omega)) only [go_sem,seval,hxy]
      refine again' (k + 1) ⟨by omega,?_⟩ (by omega) rfl rfl
      have g1:=take_snoc (f:=id) hx;have g2:=take_snoc (f:=id) hy
      simp only [List.map_id] at g1 g2
      rw [g1,g2,hs,hxy]
    · simp -implicitDefEqProofs (disch:=first|omega|(simp only [go_sem,seval,hxy];first|done|omega)) only [go_sem,seval,hxy]
      (first|refine post_fin ret_ok hM rfl ?_ ?_|refine post_fin0 ret_ok hM rfl ?_ ?_|refine post_fin normal_ok hM rfl ?_ ?_|refine post_fin0 normal_ok hM rfl ?_ ?_)
      · simp -implicitDefEqProofs (disch:=first|omega|(simp only [go_sem,seval];first|done|omega)) only [go_sem,seval]
        have h4:¬ ta = tb:=by
          rintro rfl
          rw [hx] at hy;cases hy;exact hxy rfl
        simp [h4]
      · (simp only [go_sem,seval] <;> first|done|omega)
  · simp -implicitDefEqProofs (disch:=first|omega|(simp only [go_sem,seval,hlt];first|done|omega)) only [go_sem,seval,hlt]
    (first|refine post_fin ret_ok hM rfl ?_ ?_|refine post_fin0 ret_ok hM rfl ?_ ?_|refine post_fin normal_ok hM rfl ?_ ?_|refine post_fin0 normal_ok hM rfl ?_ ?_)
    · simp -implicitDefEqProofs (disch:=first|omega|(simp only [go_sem,seval];first|done|omega)) only [go_sem,seval]
      rw [List.take_of_length_le (by omega),List.take_of_length_le (by omega)] at hs
      simp [h1,h2,hs]
    · (simp only [go_sem,seval] <;> first|done|omega)
def tsM (M:List Blk) (nm:ByteArray) (least:Int) (o:List Tb):List Blk:=M ++ [.row true 3 0 [zSte],.row true 3 0 [.agg [.s (.string nm),.I least,.os (M.length + 2) o.length 0 o.length]],.row true 3 o.length (o.map encTb)]
theorem tsM_eq (M:List Blk) (nm:ByteArray) (least:Int) (o:List Tb):tsM M nm least o = M ++ [.row true 3 0 [zSte],.row true 3 0 [.agg [.s (.string nm),.I least,.os (M.length + 2) o.length 0 o.length]],.row true 3 o.length (o.map encTb)]:=rfl
theorem q_ref01_TurnSite (s:Ste) (n:Nat) (hp:∀ t ∈ s.tbs,ptIn t.at_) (hn:n ≤ 3) (hl:s.tbs.length ≤ 1000000):Q X 51 [encSte s,.I n] (encSte (mvS (trnN n) s)):=by
  obtain ⟨nm,least,l⟩:=s
  simp only at hl hp
  have e:encSte ⟨nm,least,l⟩ = .agg [.s (.string nm),.I least,.fs (l.map encTb)]:=rfl
  have e2:encSte (mvS (trnN n) ⟨nm,least,l⟩) = .agg [.s (.string nm),.I least,.fs ((l.map (mvT (trnN n))).map encTb)]:=rfl
  rw [e,e2]
  clear e e2
  intro M
  have hz:zSte = .agg [.s (.string ⟨#[]⟩),.I 0,.s (.slice none 0 0)]:=rfl
  (refine ACall_fn (cf:=L4.c51) rfl rfl fun hM hA => ?_;simp only [L4.c51];rw [mk2 _ (by decide)];simp -implicitDefEqProofs (disch:=first|omega|(simp only [go_sem,seval,ownR_agg];first|done|omega)) only [go_sem,seval,ownR_agg])
  refine loop_mk (α:=Nat) 0 (fun k => k ≤ l.length) (fun k => tsM M nm least ((l.take k).map (mvT (trnN n))))
    (fun k => [(1,.I n),(2,.fp [.s (.string nm),.I least,.fs (l.map encTb)]),(4,.op M.length 0 0 0),(5,.op (M.length + 1) 0 0 0),(6,.I k)]) (fun k => l.length - k) (Nat.zero_le _) rfl rfl ?_
  intro k hk
  by_cases hlt:k < l.length
  · obtain ⟨x,hx⟩:∃ x,l[k]? = some x:=⟨_,List.getElem?_eq_getElem hlt⟩
    have htl:((l.take k).map (mvT (trnN n))).length = k:=by rw [List.length_map,List.length_take];omega
    have hs:tsM M nm least ((l.take (k + 1)).map (mvT (trnN n))) = tsM M nm least ((l.take k).map (mvT (trnN n)) ++ [mvT (trnN n) x]):=by rw [take_snoc hx]
    have hxp:=hp x (List.mem_of_getElem? hx)
    have hT:=q_ref01_Turned (X:=X) x.at_ n hxp (by omega)
    have hmx:encTb (mvT (trnN n) x) = .agg [.s (.string x.name),.I (trnN n x.at_).x,.I (trnN n x.at_).y]:=rfl
    have hM0:=tsM_eq M nm least ((l.take k).map (mvT (trnN n)))
    have hM1:=tsM_eq M nm least ((l.take k).map (mvT (trnN n)) ++ [mvT (trnN n) x])
    rw [List.map_append,List.map_singleton,hmx,List.length_append,List.length_singleton] at hM1
    have hgo:tsM M nm least ((l.take (k + 1)).map (mvT (trnN n))) = M ++ [.row true 3 0 [zSte],.row true 3 0 [.agg [.s (.string nm),.I least,.os (M.length + 2) (k + 1) 0 (k + 1)]],.row true 3 (k + 1) (((l.take k).map (mvT (trnN n))).map encTb ++ [.agg [.s (.string x.name),.I (trnN n x.at_).x,.I (trnN n x.at_).y]])]:=by
      rw [hs,hM1,htl]
    rw [hM0,htl]
    clear hs hM1 hM0 hmx
    generalize trnN n x.at_ = y at hT hgo
    have hol:(((l.take k).map (mvT (trnN n))).map encTb).length = k:=by rw [List.length_map,htl]
    have hok:∀ m,lowL m (((l.take k).map (mvT (trnN n))).map encTb) = True:=fun m => encTb_low _
    generalize ((l.take k).map (mvT (trnN n))).map encTb = o at hol hok hgo ⊢
    have f0:((k:Int) < l.length) = True:=eq_true (by omega)
    simp -implicitDefEqProofs (disch:=first|omega|(simp only [go_sem,seval,hlt,f0,hx,hol,encTb_cells,encTb_eq];first|done|omega)) only [go_sem,seval,hlt,f0,hx,hol,encTb_cells,encTb_eq]
    refine callP_q (hT _) ?_
    simp -implicitDefEqProofs (disch:=first|omega|(simp only [go_sem,seval,hlt,f0,hx,hol,encTb_cells,encTb_eq,encPt_eq];first|done|omega)) only [go_sem,seval,hlt,f0,hx,hol,encTb_cells,encTb_eq,encPt_eq]
    exact again' (k + 1) (by omega) (by omega) hgo.symm rfl
  · have hM0:=tsM_eq M nm least ((l.take k).map (mvT (trnN n)))
    rw [List.take_of_length_le (by omega)] at hM0
    rw [List.take_of_length_le (by omega),hM0]
    have hol:(((l.map (mvT (trnN n))).map encTb)).take (l.map (mvT (trnN n))).length = ((l.map (mvT (trnN n))).map encTb):=List.take_of_length_le (by simp)
    have hl2:(l.map (mvT (trnN n))).length = ((l.map (mvT (trnN n))).map encTb).length:=by simp
    have hlw:∀ m,lowL m ((l.map (mvT (trnN n))).map encTb) = True:=fun m => encTb_low _
    generalize (l.map (mvT (trnN n))).length = w at hl2 hol ⊢
    generalize hO:(l.map (mvT (trnN n))).map encTb = o at hl2 hol hlw ⊢
    simp -implicitDefEqProofs (disch:=first|omega|(simp only [go_sem,seval,hlt,hz,hol,hl2];first|done|omega)) only [go_sem,seval,hlt,hz,hol,hl2]
    (first|refine post_fin ret_ok hM rfl ?_ ?_|refine post_fin0 ret_ok hM rfl ?_ ?_|refine post_fin normal_ok hM rfl ?_ ?_|refine post_fin0 normal_ok hM rfl ?_ ?_)
    · simp -implicitDefEqProofs (disch:=first|omega|(simp only [go_sem,seval,hol,hl2];first|done|omega)) only [go_sem,seval,hol,hl2]
      rw [List.take_length,← hO,List.map_map];rfl
    · have hlw2:∀ m:Nat,lowL m (List.map (fun x => encTb (mvT (trnN n) x)) l) = True:=fun m => eq_true (lowL_map _ _ fun r => by simp [encTb,mvT,PV.low,lowL])
      (simp only [go_sem,seval,hlw,hlw2] <;> first|done|omega)
/-- A place that is shifted. -/
def shP (b:Pt) (p:Pt):Pt:=⟨p.x + b.x,p.y + b.y⟩
theorem q_site_ShiftSite_1 (b p:Pt) (hb:ptIn b) (hp:ptIn p) (M:List Blk):ACall F X (.fn 116) [encPt p,.fp [.I b.x,.I b.y]] M (encPt (shP b p)) M:=by
  unfold ptIn at hb hp
  have e:encPt (shP b p) = .agg [.I (p.x + b.x),.I (p.y + b.y)]:=rfl
  rw [e]
  (refine ACall_fn (cf:=L4.c116) rfl rfl fun hM hA => ?_;simp only [L4.c116];rw [mk2 _ (by decide)];simp -implicitDefEqProofs (disch:=first|omega|(simp only [go_sem,seval,encPt_eq];first|done|omega)) only [go_sem,seval,encPt_eq])
  (all_goals (first|refine post_fin ret_ok hM rfl ?_ ?_|refine post_fin0 ret_ok hM rfl ?_ ?_|refine post_fin normal_ok hM rfl ?_ ?_|refine post_fin0 normal_ok hM rfl ?_ ?_);all_goals first|(simp only [go_sem,seval] <;> first|done|omega)|skip;all_goals (try simp -implicitDefEqProofs (disch:=first|omega|(simp only [go_sem,seval];first|done|omega)) only [go_sem,seval]))
theorem q_site_ShiftSite_2 (t:Tb):Q X 118 [encTb t] (.I (ptE t.at_)):=by
  have h:=q_site_checkPlace (X:=X) t.at_
  have e:encPt t.at_ = .agg [.I t.x,.I t.y]:=rfl
  rw [e] at h
  generalize ptE t.at_ = v at h ⊢
  intro M
  (refine ACall_fn (cf:=L4.c118) rfl rfl fun hM hA => ?_;simp only [L4.c118];rw [mk1 _ (by decide)];simp -implicitDefEqProofs (disch:=first|omega|(simp only [go_sem,seval,encTb_eq];first|done|omega)) only [go_sem,seval,encTb_eq])
  refine callP_q (h _) ?_
  simp -implicitDefEqProofs (disch:=first|omega|(simp only [go_sem,seval];first|done|omega)) only [go_sem,seval]
  (all_goals (first|refine post_fin ret_ok hM rfl ?_ ?_|refine post_fin0 ret_ok hM rfl ?_ ?_|refine post_fin normal_ok hM rfl ?_ ?_|refine post_fin0 normal_ok hM rfl ?_ ?_);all_goals first|(simp only [go_sem,seval] <;> first|done|omega)|skip;all_goals (try simp -implicitDefEqProofs (disch:=first|omega|(simp only [go_sem,seval];first|done|omega)) only [go_sem,seval]))
theorem q_site_mapped_Tb {g:FuncId} {f:Tb → Int} (l:List Tb) (hl:l.length ≤ 1000000) (hg:∀ x,Q X g [encTb x] (.I (f x))):Q X 117 [.fs (l.map encTb),.fn (.func g) [] []] (.fs ((l.map f).map .I)):=by
  intro M
  (refine ACall_fn (cf:=L4.c117) rfl rfl fun hM hA => ?_;simp only [L4.c117];rw [mk2 _ (by decide)];simp -implicitDefEqProofs (disch:=first|omega|(simp only [go_sem,seval];first|done|omega)) only [go_sem,seval])
  refine loop_mk (α:=Nat) 0 (fun k => k ≤ l.length) (fun k => M ++ [.row true 1 k (((l.take k).map f).map .I)])
    (fun k => [(1,.fn (.func g) [] []),(5,.os M.length k 0 k),(8,.fs (l.map encTb)),(9,.I l.length),(10,.I k)]) (fun k => l.length - k) (Nat.zero_le _) rfl rfl ?_
  intro k hk
  by_cases hlt:k < l.length
  · obtain ⟨x,h1⟩:∃ x,l[k]? = some x:=⟨_,List.getElem?_eq_getElem hlt⟩
    have h2:k = ((l.take k).map f).length:=by simp;omega
    simp -implicitDefEqProofs (disch:=first|omega|(simp only [go_sem,seval,hlt,h1,encTb_cells];first|done|omega)) only [go_sem,seval,hlt,h1,encTb_cells]
    refine callP_l (hg x _) ?_
    simp -implicitDefEqProofs (disch:=first|omega|(simp only [go_sem,seval,encTb_cells];first|done|omega)) only [go_sem,seval,encTb_cells]
    refine Wp_cut_at hM rfl 1 (by simp) (by first|done|(simp only [go_sem,seval,encI_low,encTb_low] <;> first|done|(refine ⟨?_,?_⟩ <;> omega)|omega)) (lowL_mk (by first|done|(simp only [go_sem,seval,encI_low,encTb_low] <;> first|done|(refine ⟨?_,?_⟩ <;> omega)|omega))) ?_
    simp -implicitDefEqProofs (disch:=first|omega|(simp only [go_sem,seval];first|done|omega)) only [go_sem,seval]
    refine again' (k + 1) (by omega) (by omega) ?_ rfl
    have h3:=take_snoc (f:=fun x => PV.I (f x)) h1
    rw [h3]
  · simp -implicitDefEqProofs (disch:=first|omega|(simp only [go_sem,seval,hlt];first|done|omega)) only [go_sem,seval,hlt]
    (first|refine post_fin ret_ok hM rfl ?_ ?_|refine post_fin0 ret_ok hM rfl ?_ ?_|refine post_fin normal_ok hM rfl ?_ ?_|refine post_fin0 normal_ok hM rfl ?_ ?_)
    · simp -implicitDefEqProofs (disch:=first|omega|(simp only [go_sem,seval];first|done|omega)) only [go_sem,seval]
      rw [List.take_of_length_le (by omega)]
    · (simp only [go_sem,seval,encI_low] <;> first|done|omega)
/-- The error of a site that is shifted. -/
def shE (b:Pt) (s:Ste):Int:=fst0 (s.tbs.map fun t => ptE (shP b t.at_))
def shR (b:Pt) (s:Ste):Ste × Int :=
  if ¬ fst0 [chkSte s,ptE b] = 0 then (s0,fst0 [chkSte s,ptE b]) else if shE b s = 0 then (mvS (shP b) s,0) else (s0,shE b s)
theorem q_site_ShiftSite (s:Ste) (b:Pt) (hl:s.tbs.length ≤ 1000000):Q X 45 [encSte s,encPt b] (.tup [encSte (shR b s).1,.I (shR b s).2]):=by
  have hC:=q_site_CheckSite (X:=X) s (by omega)
  have hP:=q_site_checkPlace (X:=X) b
  have hq:=q_site_first (X:=X) [chkSte s,ptE b] (by simp)
  have hm:fst0 [chkSte s,ptE b] = 0 → Q X 113 [encSte s,.fn (.func 116) [] [.fp [.I b.x,.I b.y]]] (encSte (mvS (shP b) s)):=by
    intro h
    obtain ⟨h1,h2⟩:=fst0_two h
    have hb:=ptE_in h2
    exact q_site_moved s (by omega) (fun t ht M => q_site_ShiftSite_1 b t.at_ hb (all_pt h1 t ht) M)
  have hmap:=q_site_mapped_Tb (X:=X) (f:=fun t => ptE t.at_) (s.tbs.map (mvT (shP b))) (by rw [List.length_map];omega) (fun t => q_site_ShiftSite_2 t)
  have hq2:=q_site_first (X:=X) ((s.tbs.map (mvT (shP b))).map fun t => ptE t.at_) (by rw [List.length_map,List.length_map];omega)
  have e2:fst0 ((s.tbs.map (mvT (shP b))).map fun t => ptE t.at_) = shE b s:=by unfold shE;rw [List.map_map];rfl
  rw [e2] at hq2
  have es:=encSte_eq s
  have eb:=encPt_eq b
  unfold shR
  generalize fst0 [chkSte s,ptE b] = e1 at hq hm
  generalize chkSte s = v1 at hC hq
  generalize ptE b = v2 at hP hq
  generalize shE b s = e3 at hq2
  have em:encSte (mvS (shP b) s) = .agg [.s (.string s.name),.I s.least,.fs ((s.tbs.map (mvT (shP b))).map encTb)]:=rfl
  have hlw:∀ n,(encSte (mvS (shP b) s)).low n = True:=fun n => encSte_low1 (n:=n) _
  have ls:=fun n => encSte_low1 (n:=n) s
  clear e2
  generalize mvS (shP b) s = s' at em hm hlw
  generalize (s.tbs.map (mvT (shP b))).map (fun t => ptE t.at_) = errs at hmap hq2
  generalize s.tbs.map (mvT (shP b)) = l' at em hmap
  rw [eb] at hP ⊢
  rw [em] at hm hlw
  intro M
  have hz:zSte = .agg [.s (.string ⟨#[]⟩),.I 0,.s (.slice none 0 0)]:=rfl
  (refine ACall_fn (cf:=L4.c45) rfl rfl fun hM hA => ?_;simp only [L4.c45];rw [mk2 _ (by decide)];simp -implicitDefEqProofs (disch:=first|omega|(simp only [go_sem,seval,es];first|done|omega)) only [go_sem,seval,es])
  refine callP_q (hC _) ?_
  simp -implicitDefEqProofs (disch:=first|omega|(simp only [go_sem,seval,es];first|done|omega)) only [go_sem,seval,es]
  refine callP_q (hP _) ?_
  simp -implicitDefEqProofs (disch:=first|omega|(simp only [go_sem,seval];first|done|omega)) only [go_sem,seval]
  refine callP_q (hq _) ?_
  by_cases h0:e1 = 0
  case neg =>
    rw [if_pos h0]
    simp -implicitDefEqProofs (disch:=first|omega|(simp only [go_sem,seval,h0,encS0];first|done|omega)) only [go_sem,seval,h0,encS0]
    (all_goals (first|refine post_fin ret_ok hM rfl ?_ ?_|refine post_fin0 ret_ok hM rfl ?_ ?_|refine post_fin normal_ok hM rfl ?_ ?_|refine post_fin0 normal_ok hM rfl ?_ ?_);all_goals first|(simp only [go_sem,seval] <;> first|done|omega)|skip;all_goals (try simp -implicitDefEqProofs (disch:=first|omega|(simp only [go_sem,seval,encS0];first|done|omega)) only [go_sem,seval,encS0]))
  subst h0
  rw [if_neg (by simp)]
  simp -implicitDefEqProofs (disch:=first|omega|(simp only [go_sem,seval,es];first|done|omega)) only [go_sem,seval,es]
  rw [es] at hm
  refine callP_q (hm rfl _) ?_
  simp -implicitDefEqProofs (disch:=first|omega|(simp only [go_sem,seval];first|done|omega)) only [go_sem,seval]
  refine callP_q (hmap _) ?_
  simp -implicitDefEqProofs (disch:=first|omega|(simp only [go_sem,seval];first|done|omega)) only [go_sem,seval]
  refine callP_q (hq2 _) ?_
  by_cases h3:e3 = 0
  · subst h3
    rw [if_pos rfl,em]
    simp -implicitDefEqProofs (disch:=first|omega|(simp only [go_sem,seval];first|done|omega)) only [go_sem,seval]
    (all_goals (first|refine post_fin ret_ok hM rfl ?_ ?_|refine post_fin0 ret_ok hM rfl ?_ ?_|refine post_fin normal_ok hM rfl ?_ ?_|refine post_fin0 normal_ok hM rfl ?_ ?_);all_goals first|(simp only [go_sem,seval,encTb_low] <;> first|done|omega)|skip;all_goals (try simp -implicitDefEqProofs (disch:=first|omega|(simp only [go_sem,seval];first|done|omega)) only [go_sem,seval]))
  · rw [if_neg h3,encS0]
    simp -implicitDefEqProofs (disch:=first|omega|(simp only [go_sem,seval,h3];first|done|omega)) only [go_sem,seval,h3]
    (all_goals (first|refine post_fin ret_ok hM rfl ?_ ?_|refine post_fin0 ret_ok hM rfl ?_ ?_|refine post_fin normal_ok hM rfl ?_ ?_|refine post_fin0 normal_ok hM rfl ?_ ?_);all_goals first|(simp only [go_sem,seval] <;> first|done|omega)|skip;all_goals (try simp -implicitDefEqProofs (disch:=first|omega|(simp only [go_sem,seval];first|done|omega)) only [go_sem,seval]))
theorem q_ref01_ShiftSite (s:Ste) (b:Pt) (hp:∀ t ∈ s.tbs,ptIn t.at_) (hb:ptIn b) (hl:s.tbs.length ≤ 1000000):Q X 52 [encSte s,encPt b] (.tup [encSte (if shE b s = 0 then mvS (shP b) s else s0),.I (shE b s)]):=by
  obtain ⟨nm,least,l⟩:=s
  simp only at hl hp
  have e:encSte ⟨nm,least,l⟩ = .agg [.s (.string nm),.I least,.fs (l.map encTb)]:=rfl
  have e2:encSte (mvS (shP b) ⟨nm,least,l⟩) = .agg [.s (.string nm),.I least,.fs ((l.map (mvT (shP b))).map encTb)]:=rfl
  have e3:shE b ⟨nm,least,l⟩ = fst0 (l.map fun t => ptE (shP b t.at_)):=rfl
  have e4:encSte (if shE b ⟨nm,least,l⟩ = 0 then mvS (shP b) ⟨nm,least,l⟩ else s0) = if shE b ⟨nm,least,l⟩ = 0 then encSte (mvS (shP b) ⟨nm,least,l⟩) else encSte s0:=by split <;> rfl
  rw [e,e4,e2,e3,encS0,encPt_eq]
  clear e e2 e3 e4
  intro M
  have hz:zSte = .agg [.s (.string ⟨#[]⟩),.I 0,.s (.slice none 0 0)]:=rfl
  (refine ACall_fn (cf:=L4.c52) rfl rfl fun hM hA => ?_;simp only [L4.c52];rw [mk2 _ (by decide)];simp -implicitDefEqProofs (disch:=first|omega|(simp only [go_sem,seval,ownR_agg];first|done|omega)) only [go_sem,seval,ownR_agg])
  refine loop_mk (α:=Nat) 0 (fun k => k ≤ l.length ∧ fst0 (l.map fun t => ptE (shP b t.at_)) = fst0 ((l.map fun t => ptE (shP b t.at_)).drop k)) (fun k => tsM M nm least ((l.take k).map (mvT (shP b))))
    (fun k => [(2,.fp [.s (.string nm),.I least,.fs (l.map encTb)]),(3,.fp [.I b.x,.I b.y]),(4,.op M.length 0 0 0),(6,.op (M.length + 1) 0 0 0),(7,.I k)]) (fun k => l.length - k) ⟨Nat.zero_le _,rfl⟩ rfl rfl ?_
  rintro k ⟨hk,hse⟩
  by_cases hlt:k < l.length
  · obtain ⟨x,hx⟩:∃ x,l[k]? = some x:=⟨_,List.getElem?_eq_getElem hlt⟩
    have htl:((l.take k).map (mvT (shP b))).length = k:=by rw [List.length_map,List.length_take];omega
    have hs:tsM M nm least ((l.take (k + 1)).map (mvT (shP b))) = tsM M nm least ((l.take k).map (mvT (shP b)) ++ [mvT (shP b) x]):=by rw [take_snoc hx]
    have hxp:=hp x (List.mem_of_getElem? hx)
    have hC:=q_ref01_CheckPoint (X:=X) (shP b x.at_)
    have hd:=fst0_drop (l.map fun t => ptE (shP b t.at_)) k (ptE (shP b x.at_)) (by rw [List.getElem?_map,hx];rfl)
    have hv:=ptE_v (shP b x.at_)
    have ec:encPt (shP b x.at_) = .agg [.I (x.x + b.x),.I (x.y + b.y)]:=rfl
    rw [ec] at hC
    generalize ptE (shP b x.at_) = v at hC hd hv
    have hmx:encTb (mvT (shP b) x) = .agg [.s (.string x.name),.I (x.x + b.x),.I (x.y + b.y)]:=rfl
    have hM0:=tsM_eq M nm least ((l.take k).map (mvT (shP b)))
    have hM1:=tsM_eq M nm least ((l.take k).map (mvT (shP b)) ++ [mvT (shP b) x])
    rw [List.map_append,List.map_singleton,hmx,List.length_append,List.length_singleton] at hM1
    have hgo:tsM M nm least ((l.take (k + 1)).map (mvT (shP b))) = M ++ [.row true 3 0 [zSte],.row true 3 0 [.agg [.s (.string nm),.I least,.os (M.length + 2) (k + 1) 0 (k + 1)]],.row true 3 (k + 1) (((l.take k).map (mvT (shP b))).map encTb ++ [.agg [.s (.string x.name),.I (x.x + b.x),.I (x.y + b.y)]])]:=by
      rw [hs,hM1,htl]
    rw [hM0,htl]
    clear hs hM1 hM0 hmx
    have hol:(((l.take k).map (mvT (shP b))).map encTb).length = k:=by rw [List.length_map,htl]
    have hok:∀ m,lowL m (((l.take k).map (mvT (shP b))).map encTb) = True:=fun m => encTb_low _
    generalize ((l.take k).map (mvT (shP b))).map encTb = o at hol hok hgo ⊢
    have f0:((k:Int) < l.length) = True:=eq_true (by omega)
    unfold ptIn at hxp hb
    have b1:-1000 ≤ x.x ∧ x.x ≤ 1000 ∧ -1000 ≤ x.y ∧ x.y ≤ 1000:=hxp
    simp -implicitDefEqProofs (disch:=first|omega|(simp only [go_sem,seval,hlt,f0,hx,hol,encTb_cells,encTb_eq];first|done|omega)) only [go_sem,seval,hlt,f0,hx,hol,encTb_cells,encTb_eq]
    refine ⟨by simp [pairsOk,okPair,apartL,refs,refs1],?_⟩
    refine callP_q (hC _) ?_
    rcases hv with rfl|rfl
    · rw [if_pos rfl] at hd
      simp -implicitDefEqProofs (disch:=first|omega|(simp only [go_sem,seval,hlt,f0,hx,hol,encTb_cells,encTb_eq];first|done|omega)) only [go_sem,seval,hlt,f0,hx,hol,encTb_cells,encTb_eq]
      refine Wp_cut_at hM rfl 3 (by simp) (by first|done|(simp only [go_sem,seval,hok,encTb_low,zSte_low] <;> first|done|(refine ⟨?_,?_⟩ <;> omega)|omega)) (lowL_mk (by first|done|(simp only [go_sem,seval,hok,encTb_low,zSte_low] <;> first|done|(refine ⟨?_,?_⟩ <;> omega)|omega))) ?_
      simp -implicitDefEqProofs (disch:=first|omega|(simp only [go_sem,seval];first|done|omega)) only [go_sem,seval]
      exact again' (k + 1) ⟨by omega,by rw [hse,hd]⟩ (by omega) hgo.symm rfl
    · rw [if_neg (by decide)] at hd
      have f3:((3:Int) = 0) = False:=by decide
      rw [hse,hd]
      simp -implicitDefEqProofs (disch:=first|omega|(simp only [go_sem,seval,f3,hz];first|done|omega)) only [go_sem,seval,f3,hz]
      (all_goals (first|refine post_fin ret_ok hM rfl ?_ ?_|refine post_fin0 ret_ok hM rfl ?_ ?_|refine post_fin normal_ok hM rfl ?_ ?_|refine post_fin0 normal_ok hM rfl ?_ ?_);all_goals first|(simp only [go_sem,seval] <;> first|done|omega)|skip;all_goals (try simp -implicitDefEqProofs (disch:=first|omega|(simp only [go_sem,seval];first|done|omega)) only [go_sem,seval]))
  · have hM0:=tsM_eq M nm least ((l.take k).map (mvT (shP b)))
    rw [List.take_of_length_le (by omega)] at hM0
    rw [List.take_of_length_le (by omega),hM0]
    have h0:fst0 (l.map fun t => ptE (shP b t.at_)) = 0:=by rw [hse,List.drop_of_length_le (by simp;omega)];rfl
    rw [h0,if_pos rfl]
    have hol:(((l.map (mvT (shP b))).map encTb)).take (l.map (mvT (shP b))).length = ((l.map (mvT (shP b))).map encTb):=List.take_of_length_le (by simp)
    have hl2:(l.map (mvT (shP b))).length = ((l.map (mvT (shP b))).map encTb).length:=by simp
    have hlw:∀ m,lowL m ((l.map (mvT (shP b))).map encTb) = True:=fun m => encTb_low _
    generalize (l.map (mvT (shP b))).length = w at hl2 hol ⊢
    generalize hO:(l.map (mvT (shP b))).map encTb = o at hl2 hol hlw ⊢
    simp -implicitDefEqProofs (disch:=first|omega|(simp only [go_sem,seval,hlt,hz,hol,hl2];first|done|omega)) only [go_sem,seval,hlt,hz,hol,hl2]
    (first|refine post_fin ret_ok hM rfl ?_ ?_|refine post_fin0 ret_ok hM rfl ?_ ?_|refine post_fin normal_ok hM rfl ?_ ?_|refine post_fin0 normal_ok hM rfl ?_ ?_)
    · simp -implicitDefEqProofs (disch:=first|omega|(simp only [go_sem,seval,hol,hl2];first|done|omega)) only [go_sem,seval,hol,hl2]
      rw [List.take_length,← hO,List.map_map];rfl
    · have hlw2:∀ m:Nat,lowL m (List.map (fun x => encTb (mvT (shP b) x)) l) = True:=fun m => eq_true (lowL_map _ _ fun r => by simp [encTb,mvT,PV.low,lowL])
      (simp only [go_sem,seval,hlw,hlw2] <;> first|done|omega)
theorem q_Same (a:Ste) (hl:a.tbs.length ≤ 1048576):Q X 54 [encSte a,encSte a] (.B true):=by
  have:=q_ref01_SameSite (X:=X) a a hl
  rwa [decide_eq_true ⟨rfl,rfl,rfl⟩] at this
set_option maxHeartbeats 1000000 in
theorem q_law01_SiteLayouts (hW:Q X 17 [] (.B true)) (s:Ste) (q:Int) (b:Pt):Q X 6 [encSte s,.I q,encPt b] (.B true):=by
  have es:=encSte_eq s
  have eb:=encPt_eq b
  have hSh:=q_ref01_ShortSite (X:=X) s
  by_cases hs:shortS s = true
  case neg =>
    have hs:shortS s = false:=by simpa using hs
    rw [hs] at hSh
    rw [es] at hSh ⊢
    rw [eb]
    intro M
    (refine ACall_fn (cf:=L4.c6) rfl rfl fun hM hA => ?_;simp only [L4.c6];rw [mk3 _ (by decide)];simp -implicitDefEqProofs (disch:=first|omega|(simp only [go_sem,seval];first|done|omega)) only [go_sem,seval])
    refine callP_q (hW _) ?_
    simp -implicitDefEqProofs (disch:=first|omega|(simp only [go_sem,seval];first|done|omega)) only [go_sem,seval]
    refine callP_q (hSh _) ?_
    simp -implicitDefEqProofs (disch:=first|omega|(simp only [go_sem,seval];first|done|omega)) only [go_sem,seval]
    refine callP_q (hW _) ?_
    simp -implicitDefEqProofs (disch:=first|omega|(simp only [go_sem,seval];first|done|omega)) only [go_sem,seval]
    (all_goals (first|refine post_fin ret_ok hM rfl ?_ ?_|refine post_fin0 ret_ok hM rfl ?_ ?_|refine post_fin normal_ok hM rfl ?_ ?_|refine post_fin0 normal_ok hM rfl ?_ ?_);all_goals first|(simp only [go_sem,seval] <;> first|done|omega)|skip;all_goals (try simp -implicitDefEqProofs (disch:=first|omega|(simp only [go_sem,seval];first|done|omega)) only [go_sem,seval]))
  rw [hs] at hSh
  have hl:s.tbs.length ≤ 65:=by
    unfold shortS at hs
    simp only [Bool.and_eq_true,Bool.or_eq_true,decide_eq_true_eq] at hs
    omega
  clear hs
  have hG:=q_law01_given (X:=X) s (by omega)
  have hSp:=q_site_Spacing (X:=X) s (by omega)
  have hT:=q_site_TurnSite (X:=X) s q (by omega)
  have hSf:=q_site_ShiftSite (X:=X) s b (by omega)
  have hC:=q_ref01_CheckSite (X:=X) s (by omega)
  have hD:=q_site_CheckSite (X:=X) s (by omega)
  have hR:=q_ref01_CheckRange (X:=X) q 0 3
  have hP:=q_ref01_CheckPoint (X:=X) b
  have hq1:=q_law01_first (X:=X) [chkSte s,if s.tbs.length < 2 then 7 else 0] (by simp)
  have hq2:=q_law01_first (X:=X) [chkSte s,rng q 0 3] (by simp)
  have hq3:=q_law01_first (X:=X) [chkSte s,ptE b] (by simp)
  have c1:spcE s = 0 → Q X 50 [encSte s] (.I (spcOf s.tbs)):=by
    intro h
    obtain ⟨h1,h2⟩:=fst0_two h
    refine q_ref01_Spacing s (all_pt h1) ?_ (by omega)
    by_cases h3:s.tbs.length < 2
    · rw [if_pos h3] at h2;cases h2
    · omega
  have c2:turnE s q = 0 → Q X 51 [encSte s,.I q] (encSte (mvS (trnN q.toNat) s)):=by
    intro h
    obtain ⟨h1,h2⟩:=fst0_two h
    have h3:=rng_ok.1 h2
    obtain ⟨n,rfl⟩:∃ n:Nat,q = n:=⟨q.toNat,by omega⟩
    exact q_ref01_TurnSite s n (all_pt h1) (by omega) (by omega)
  have c3:fst0 [chkSte s,ptE b] = 0 → Q X 52 [encSte s,encPt b] (.tup [encSte (shR b s).1,.I (shR b s).2]):=by
    intro h
    obtain ⟨h1,h2⟩:=fst0_two h
    have:=q_ref01_ShiftSite (X:=X) s b (all_pt h1) (ptE_in h2) (by omega)
    have e:shR b s = (if shE b s = 0 then mvS (shP b) s else s0,shE b s):=by
      unfold shR
      rw [if_neg (by rw [h];simp)]
      by_cases h4:shE b s = 0
      · rw [if_pos h4,if_pos h4,h4]
      · rw [if_neg h4,if_neg h4]
    rw [e]
    exact this
  have c4:¬ fst0 [chkSte s,ptE b] = 0 → shR b s = (s0,fst0 [chkSte s,ptE b]):=by
    intro h;unfold shR;rw [if_pos h]
  have hl7:((if s.tbs.length < 2 then 7 else 0:Int)) = if (s.tbs.length:Int) < 2 then 7 else 0:=by
    by_cases h3:s.tbs.length < 2
    · rw [if_pos h3,if_pos (by omega)]
    · rw [if_neg h3,if_neg (by omega)]
  have e1:spcE s = fst0 [chkSte s,if s.tbs.length < 2 then 7 else 0]:=rfl
  have e2:turnE s q = fst0 [chkSte s,rng q 0 3]:=rfl
  rw [← e1] at hq1
  rw [← e2] at hq2
  clear e1 e2
  have t1:encSte (if turnE s q = 0 then mvS (trnN q.toNat) s else s0) = if turnE s q = 0 then encSte (mvS (trnN q.toNat) s) else encSte s0:=by split <;> rfl
  rw [t1] at hT
  clear t1
  have tl:(mvS (trnN q.toNat) s).tbs.length ≤ 1048576:=by show (s.tbs.map _).length ≤ _;rw [List.length_map];omega
  have sl:(shR b s).1.tbs.length ≤ 1048576:=by
    unfold shR
    split
    · exact Nat.zero_le _
    · split
      · show (s.tbs.map _).length ≤ _;rw [List.length_map];omega
      · exact Nat.zero_le _
  have hO0:=q_law01_own (X:=X) s0 (by decide)
  have hS0:=q_Same (X:=X) s0 (by decide)
  rw [encS0] at hO0 hS0
  have hO1:=q_law01_own (X:=X) (mvS (trnN q.toNat) s) tl
  have hS1:=q_Same (X:=X) (mvS (trnN q.toNat) s) tl
  have hO2:=q_law01_own (X:=X) (shR b s).1 sl
  have hS2:=q_Same (X:=X) (shR b s).1 sl
  rw [encSte_eq (mvS (trnN q.toNat) s)] at hO1 hS1 c2
  rw [encSte_eq (shR b s).1] at hO2 hS2 hSf c3
  obtain ⟨nT,lT,xT,hT',hOT,hST,hrT,hzT,lwT⟩:∃ (nT:ByteArray) (lT:Int) (xT:List PV),Q X 44 [encSte s,.I q] (.tup [.agg [.s (.string nT),.I lT,.fs xT],.I (turnE s q)]) ∧
      Q X 55 [.agg [.s (.string nT),.I lT,.fs xT]] (.agg [.s (.string nT),.I lT,.fs xT]) ∧ Q X 54 [.agg [.s (.string nT),.I lT,.fs xT],.agg [.s (.string nT),.I lT,.fs xT]] (.B true) ∧
      (turnE s q = 0 → Q X 51 [encSte s,.I q] (.agg [.s (.string nT),.I lT,.fs xT])) ∧ (¬ turnE s q = 0 → nT = ⟨#[]⟩ ∧ lT = 0 ∧ xT = []) ∧ ∀ m,lowL m xT = True:=by
    by_cases h:turnE s q = 0
    · rw [if_pos h,encSte_eq (mvS (trnN q.toNat) s)] at hT
      exact ⟨_,_,_,hT,hO1,hS1,c2,fun h2 => absurd h h2,fun m => encTb_low _⟩
    · rw [if_neg h,encS0] at hT
      exact ⟨_,_,_,hT,hO0,hS0,fun h2 => absurd h2 h,fun _ => ⟨rfl,rfl,rfl⟩,fun m => lowL_nil⟩
  have hzS:¬ fst0 [chkSte s,ptE b] = 0 → (shR b s).1.name = ⟨#[]⟩ ∧ (shR b s).1.least = 0 ∧ (shR b s).1.tbs.map encTb = [] ∧ (shR b s).2 = fst0 [chkSte s,ptE b]:=by
    intro h;rw [c4 h];exact ⟨rfl,rfl,rfl,rfl⟩
  have lwS:∀ m,lowL m ((shR b s).1.tbs.map encTb) = True:=fun m => encTb_low _
  have ls:=fun m => encTb_low (n:=m) s.tbs
  have lnm:(s.tbs.map encTb).length = s.tbs.length:=List.length_map _
  clear hT hO1 hS1 c2 c4 hO0 hS0 tl sl hS2
  have hS2:=q_Same (X:=X) (shR b s).1 (by
    unfold shR
    split
    · exact Nat.zero_le _
    · split
      · show (s.tbs.map _).length ≤ _;rw [List.length_map];omega
      · exact Nat.zero_le _)
  rw [encSte_eq (shR b s).1] at hS2
  rw [es] at hSh hG hSp hT' hSf hC hD c1 hrT c3 ⊢
  rw [eb] at hSf hP c3 ⊢
  generalize hv1:turnE s q = v1 at *
  generalize hv2:spcE s = v2 at *
  generalize hv3:fst0 [chkSte s,ptE b] = v3 at *
  generalize chkSte s = v4 at *
  generalize spcOf s.tbs = v5 at *
  generalize ptE b = v6 at *
  generalize rng q 0 3 = v7 at *
  generalize (shR b s).2 = v8 at *
  generalize (shR b s).1.name = nS at *
  generalize (shR b s).1.least = lS at *
  generalize (shR b s).1.tbs.map encTb = xS at *
  generalize s.name = nm at *
  generalize s.least = least at *
  generalize hx:s.tbs.map encTb = xs at *
  generalize s.tbs.length = w at *
  clear hv1 hv2 hv3 es eb hx
  have hW7:=q_law01_when (X:=X) (decide ((w:Int) < 2)) 7
  have hw7:(if decide ((w:Int) < 2) = true then 7 else 0:Int) = if w < 2 then 7 else 0:=by rw [hl7];simp
  rw [hw7] at hW7
  clear hl7 hw7
  generalize (if w < 2 then 7 else 0:Int) = v9 at *
  have hz:zSte = .agg [.s (.string ⟨#[]⟩),.I 0,.s (.slice none 0 0)]:=rfl
  intro M
  (refine ACall_fn (cf:=L4.c6) rfl rfl fun hM hA => ?_;simp only [L4.c6];rw [mk3 _ (by decide)];simp -implicitDefEqProofs (disch:=first|omega|(simp only [go_sem,seval];first|done|omega)) only [go_sem,seval])
  refine callP_q (hW _) ?_
  simp -implicitDefEqProofs (disch:=first|omega|(simp only [go_sem,seval];first|done|omega)) only [go_sem,seval]
  refine callP_q (hSh _) ?_
  simp -implicitDefEqProofs (disch:=first|omega|(simp only [go_sem,seval];first|done|omega)) only [go_sem,seval]
  refine callP_q (hG _) ?_
  simp -implicitDefEqProofs (disch:=first|omega|(simp only [go_sem,seval];first|done|omega)) only [go_sem,seval]
  refine callP_q (hSp _) ?_
  simp -implicitDefEqProofs (disch:=first|omega|(simp only [go_sem,seval];first|done|omega)) only [go_sem,seval]
  refine callP_q (hG _) ?_
  simp -implicitDefEqProofs (disch:=first|omega|(simp only [go_sem,seval];first|done|omega)) only [go_sem,seval]
  refine callP_q (hT' _) ?_
  simp -implicitDefEqProofs (disch:=first|omega|(simp only [go_sem,seval];first|done|omega)) only [go_sem,seval]
  refine pcallP_q hG ?_ ?_
  · (simp only [go_sem,seval,ls] <;> first|done|omega)
  simp -implicitDefEqProofs (disch:=first|omega|(simp only [go_sem,seval];first|done|omega)) only [go_sem,seval]
  refine pcallP_q hSf ?_ ?_
  · (simp only [go_sem,seval,ls] <;> first|done|omega)
  simp -implicitDefEqProofs (disch:=first|omega|(simp only [go_sem,seval];first|done|omega)) only [go_sem,seval]
  refine ⟨by simp [pairsOk,okPair,apartL,refs,refs1],?_⟩
  refine callP_q (hC _) ?_
  simp -implicitDefEqProofs (disch:=first|omega|(simp only [go_sem,seval,lnm];first|done|omega)) only [go_sem,seval,lnm]
  refine callP_q (hW7 _) ?_
  simp -implicitDefEqProofs (disch:=first|omega|(simp only [go_sem,seval];first|done|omega)) only [go_sem,seval]
  refine callP_q (hq1 _) ?_
  simp -implicitDefEqProofs (disch:=first|omega|(simp only [go_sem,seval];first|done|omega)) only [go_sem,seval]
  refine callP_q (hR _) ?_
  simp -implicitDefEqProofs (disch:=first|omega|(simp only [go_sem,seval];first|done|omega)) only [go_sem,seval]
  refine callP_q (hq2 _) ?_
  simp -implicitDefEqProofs (disch:=first|omega|(simp only [go_sem,seval];first|done|omega)) only [go_sem,seval]
  refine callP_q (hP _) ?_
  simp -implicitDefEqProofs (disch:=first|omega|(simp only [go_sem,seval];first|done|omega)) only [go_sem,seval]
  refine callP_q (hq3 _) ?_
  have hn:Q X 30 [.I (if v2 = 0 then v5 else 0),.I v2,.I v2,.I (if v2 = 0 then v5 else 0)] (.B true):=q_number _ _ _ _ (by split <;> simp [*])
  by_cases k1:v2 = 0
  · subst k1
    rw [if_pos rfl] at hn
    by_cases k2:v1 = 0
    · subst k2
      by_cases k3:v3 = 0
      · subst k3
        simp -implicitDefEqProofs (disch:=first|omega|(simp only [go_sem,seval];first|done|omega)) only [go_sem,seval]
        repeat' (first|(refine callP_q (c1 rfl _) ?_;(try simp -implicitDefEqProofs (disch:=first|omega|(simp only [go_sem,seval];first|done|omega)) only [go_sem,seval]))|(refine callP_q (hrT rfl _) ?_;(try simp -implicitDefEqProofs (disch:=first|omega|(simp only [go_sem,seval];first|done|omega)) only [go_sem,seval]))|(refine callP_q (c3 rfl _) ?_;(try simp -implicitDefEqProofs (disch:=first|omega|(simp only [go_sem,seval];first|done|omega)) only [go_sem,seval]))|(refine callP_q (hG _) ?_;(try simp -implicitDefEqProofs (disch:=first|omega|(simp only [go_sem,seval];first|done|omega)) only [go_sem,seval]))|(refine callP_q (hD _) ?_;(try simp -implicitDefEqProofs (disch:=first|omega|(simp only [go_sem,seval];first|done|omega)) only [go_sem,seval]))|(refine callP_q (hn _) ?_;(try simp -implicitDefEqProofs (disch:=first|omega|(simp only [go_sem,seval];first|done|omega)) only [go_sem,seval]))|(refine callP_q (hOT _) ?_;(try simp -implicitDefEqProofs (disch:=first|omega|(simp only [go_sem,seval];first|done|omega)) only [go_sem,seval]))|(refine callP_q (hST _) ?_;(try simp -implicitDefEqProofs (disch:=first|omega|(simp only [go_sem,seval];first|done|omega)) only [go_sem,seval]))|(refine callP_q (hO2 _) ?_;(try simp -implicitDefEqProofs (disch:=first|omega|(simp only [go_sem,seval];first|done|omega)) only [go_sem,seval]))|(refine callP_q (hS2 _) ?_;(try simp -implicitDefEqProofs (disch:=first|omega|(simp only [go_sem,seval];first|done|omega)) only [go_sem,seval]))|(refine cK_cases ?_ ?_ <;> intro hc <;> (try simp only [decide_eq_true_eq,decide_eq_false_iff_not,Classical.not_not,Bool.not_eq_true,Bool.not_eq_true',Bool.not_eq_false',Bool.false_or,Bool.or_false,Bool.true_or,Bool.or_true,Bool.false_and,Bool.and_false,Bool.true_and,Bool.and_true] at hc) <;> (try simp -implicitDefEqProofs (disch:=first|omega|(simp only [go_sem,seval,hc];first|done|omega)) only [go_sem,seval,hc]))|(refine gK_cases ?_ ?_ <;> intro hc <;> (try simp only [decide_eq_true_eq,decide_eq_false_iff_not,Classical.not_not,Bool.not_eq_true,Bool.not_eq_true',Bool.not_eq_false',Bool.false_or,Bool.or_false,Bool.true_or,Bool.or_true,Bool.false_and,Bool.and_false,Bool.true_and,Bool.and_true] at hc) <;> (try simp -implicitDefEqProofs (disch:=first|omega|(simp only [go_sem,seval,hc];first|done|omega)) only [go_sem,seval,hc])))
        (all_goals (first|refine post_fin ret_ok hM rfl ?_ ?_|refine post_fin0 ret_ok hM rfl ?_ ?_|refine post_fin normal_ok hM rfl ?_ ?_|refine post_fin0 normal_ok hM rfl ?_ ?_);all_goals first|(simp only [go_sem,seval] <;> first|done|omega)|skip;all_goals (try simp -implicitDefEqProofs (disch:=first|omega|(simp only [go_sem,seval];first|done|omega)) only [go_sem,seval]))
      · obtain ⟨rfl,rfl,rfl,rfl⟩:=hzS k3
        simp -implicitDefEqProofs (disch:=first|omega|(simp only [go_sem,seval,k3];first|done|omega)) only [go_sem,seval,k3]
        repeat' (first|(refine callP_q (c1 rfl _) ?_;(try simp -implicitDefEqProofs (disch:=first|omega|(simp only [go_sem,seval,k3];first|done|omega)) only [go_sem,seval,k3]))|(refine callP_q (hrT rfl _) ?_;(try simp -implicitDefEqProofs (disch:=first|omega|(simp only [go_sem,seval,k3];first|done|omega)) only [go_sem,seval,k3]))|(refine callP_q (hG _) ?_;(try simp -implicitDefEqProofs (disch:=first|omega|(simp only [go_sem,seval,k3];first|done|omega)) only [go_sem,seval,k3]))|(refine callP_q (hD _) ?_;(try simp -implicitDefEqProofs (disch:=first|omega|(simp only [go_sem,seval,k3];first|done|omega)) only [go_sem,seval,k3]))|(refine callP_q (hn _) ?_;(try simp -implicitDefEqProofs (disch:=first|omega|(simp only [go_sem,seval,k3];first|done|omega)) only [go_sem,seval,k3]))|(refine callP_q (hOT _) ?_;(try simp -implicitDefEqProofs (disch:=first|omega|(simp only [go_sem,seval,k3];first|done|omega)) only [go_sem,seval,k3]))|(refine callP_q (hST _) ?_;(try simp -implicitDefEqProofs (disch:=first|omega|(simp only [go_sem,seval,k3];first|done|omega)) only [go_sem,seval,k3]))|(refine callP_q (hO2 _) ?_;(try simp -implicitDefEqProofs (disch:=first|omega|(simp only [go_sem,seval,k3];first|done|omega)) only [go_sem,seval,k3]))|(refine callP_q (hS2 _) ?_;(try simp -implicitDefEqProofs (disch:=first|omega|(simp only [go_sem,seval,k3];first|done|omega)) only [go_sem,seval,k3]))|(refine cK_cases ?_ ?_ <;> intro hc <;> (try simp only [decide_eq_true_eq,decide_eq_false_iff_not,Classical.not_not,Bool.not_eq_true,Bool.not_eq_true',Bool.not_eq_false',Bool.false_or,Bool.or_false,Bool.true_or,Bool.or_true,Bool.false_and,Bool.and_false,Bool.true_and,Bool.and_true] at hc) <;> (try simp -implicitDefEqProofs (disch:=first|omega|(simp only [go_sem,seval,k3,hc];first|done|omega)) only [go_sem,seval,k3,hc]))|(refine gK_cases ?_ ?_ <;> intro hc <;> (try simp only [decide_eq_true_eq,decide_eq_false_iff_not,Classical.not_not,Bool.not_eq_true,Bool.not_eq_true',Bool.not_eq_false',Bool.false_or,Bool.or_false,Bool.true_or,Bool.or_true,Bool.false_and,Bool.and_false,Bool.true_and,Bool.and_true] at hc) <;> (try simp -implicitDefEqProofs (disch:=first|omega|(simp only [go_sem,seval,k3,hc];first|done|omega)) only [go_sem,seval,k3,hc])))
        (all_goals (first|refine post_fin ret_ok hM rfl ?_ ?_|refine post_fin0 ret_ok hM rfl ?_ ?_|refine post_fin normal_ok hM rfl ?_ ?_|refine post_fin0 normal_ok hM rfl ?_ ?_);all_goals first|(simp only [go_sem,seval] <;> first|done|omega)|skip;all_goals (try simp -implicitDefEqProofs (disch:=first|omega|(simp only [go_sem,seval];first|done|omega)) only [go_sem,seval]))
    · obtain ⟨rfl,rfl,rfl⟩:=hzT k2
      by_cases k3:v3 = 0
      · subst k3
        simp -implicitDefEqProofs (disch:=first|omega|(simp only [go_sem,seval,k2];first|done|omega)) only [go_sem,seval,k2]
        repeat' (first|(refine callP_q (c1 rfl _) ?_;(try simp -implicitDefEqProofs (disch:=first|omega|(simp only [go_sem,seval,k2];first|done|omega)) only [go_sem,seval,k2]))|(refine callP_q (c3 rfl _) ?_;(try simp -implicitDefEqProofs (disch:=first|omega|(simp only [go_sem,seval,k2];first|done|omega)) only [go_sem,seval,k2]))|(refine callP_q (hG _) ?_;(try simp -implicitDefEqProofs (disch:=first|omega|(simp only [go_sem,seval,k2];first|done|omega)) only [go_sem,seval,k2]))|(refine callP_q (hD _) ?_;(try simp -implicitDefEqProofs (disch:=first|omega|(simp only [go_sem,seval,k2];first|done|omega)) only [go_sem,seval,k2]))|(refine callP_q (hn _) ?_;(try simp -implicitDefEqProofs (disch:=first|omega|(simp only [go_sem,seval,k2];first|done|omega)) only [go_sem,seval,k2]))|(refine callP_q (hOT _) ?_;(try simp -implicitDefEqProofs (disch:=first|omega|(simp only [go_sem,seval,k2];first|done|omega)) only [go_sem,seval,k2]))|(refine callP_q (hST _) ?_;(try simp -implicitDefEqProofs (disch:=first|omega|(simp only [go_sem,seval,k2];first|done|omega)) only [go_sem,seval,k2]))|(refine callP_q (hO2 _) ?_;(try simp -implicitDefEqProofs (disch:=first|omega|(simp only [go_sem,seval,k2];first|done|omega)) only [go_sem,seval,k2]))|(refine callP_q (hS2 _) ?_;(try simp -implicitDefEqProofs (disch:=first|omega|(simp only [go_sem,seval,k2];first|done|omega)) only [go_sem,seval,k2]))|(refine cK_cases ?_ ?_ <;> intro hc <;> (try simp only [decide_eq_true_eq,decide_eq_false_iff_not,Classical.not_not,Bool.not_eq_true,Bool.not_eq_true',Bool.not_eq_false',Bool.false_or,Bool.or_false,Bool.true_or,Bool.or_true,Bool.false_and,Bool.and_false,Bool.true_and,Bool.and_true] at hc) <;> (try simp -implicitDefEqProofs (disch:=first|omega|(simp only [go_sem,seval,k2,hc];first|done|omega)) only [go_sem,seval,k2,hc]))|(refine gK_cases ?_ ?_ <;> intro hc <;> (try simp only [decide_eq_true_eq,decide_eq_false_iff_not,Classical.not_not,Bool.not_eq_true,Bool.not_eq_true',Bool.not_eq_false',Bool.false_or,Bool.or_false,Bool.true_or,Bool.or_true,Bool.false_and,Bool.and_false,Bool.true_and,Bool.and_true] at hc) <;> (try simp -implicitDefEqProofs (disch:=first|omega|(simp only [go_sem,seval,k2,hc];first|done|omega)) only [go_sem,seval,k2,hc])))
        (all_goals (first|refine post_fin ret_ok hM rfl ?_ ?_|refine post_fin0 ret_ok hM rfl ?_ ?_|refine post_fin normal_ok hM rfl ?_ ?_|refine post_fin0 normal_ok hM rfl ?_ ?_);all_goals first|(simp only [go_sem,seval] <;> first|done|omega)|skip;all_goals (try simp -implicitDefEqProofs (disch:=first|omega|(simp only [go_sem,seval];first|done|omega)) only [go_sem,seval]))
      · obtain ⟨rfl,rfl,rfl,rfl⟩:=hzS k3
        simp -implicitDefEqProofs (disch:=first|omega|(simp only [go_sem,seval,k2,k3];first|done|omega)) only [go_sem,seval,k2,k3]
        repeat' (first|(refine callP_q (c1 rfl _) ?_;(try simp -implicitDefEqProofs (disch:=first|omega|(simp only [go_sem,seval,k2,k3];first|done|omega)) only [go_sem,seval,k2,k3]))|(refine callP_q (hG _) ?_;(try simp -implicitDefEqProofs (disch:=first|omega|(simp only [go_sem,seval,k2,k3];first|done|omega)) only [go_sem,seval,k2,k3]))|(refine callP_q (hD _) ?_;(try simp -implicitDefEqProofs (disch:=first|omega|(simp only [go_sem,seval,k2,k3];first|done|omega)) only [go_sem,seval,k2,k3]))|(refine callP_q (hn _) ?_;(try simp -implicitDefEqProofs (disch:=first|omega|(simp only [go_sem,seval,k2,k3];first|done|omega)) only [go_sem,seval,k2,k3]))|(refine callP_q (hOT _) ?_;(try simp -implicitDefEqProofs (disch:=first|omega|(simp only [go_sem,seval,k2,k3];first|done|omega)) only [go_sem,seval,k2,k3]))|(refine callP_q (hST _) ?_;(try simp -implicitDefEqProofs (disch:=first|omega|(simp only [go_sem,seval,k2,k3];first|done|omega)) only [go_sem,seval,k2,k3]))|(refine callP_q (hO2 _) ?_;(try simp -implicitDefEqProofs (disch:=first|omega|(simp only [go_sem,seval,k2,k3];first|done|omega)) only [go_sem,seval,k2,k3]))|(refine callP_q (hS2 _) ?_;(try simp -implicitDefEqProofs (disch:=first|omega|(simp only [go_sem,seval,k2,k3];first|done|omega)) only [go_sem,seval,k2,k3]))|(refine cK_cases ?_ ?_ <;> intro hc <;> (try simp only [decide_eq_true_eq,decide_eq_false_iff_not,Classical.not_not,Bool.not_eq_true,Bool.not_eq_true',Bool.not_eq_false',Bool.false_or,Bool.or_false,Bool.true_or,Bool.or_true,Bool.false_and,Bool.and_false,Bool.true_and,Bool.and_true] at hc) <;> (try simp -implicitDefEqProofs (disch:=first|omega|(simp only [go_sem,seval,k2,k3,hc];first|done|omega)) only [go_sem,seval,k2,k3,hc]))|(refine gK_cases ?_ ?_ <;> intro hc <;> (try simp only [decide_eq_true_eq,decide_eq_false_iff_not,Classical.not_not,Bool.not_eq_true,Bool.not_eq_true',Bool.not_eq_false',Bool.false_or,Bool.or_false,Bool.true_or,Bool.or_true,Bool.false_and,Bool.and_false,Bool.true_and,Bool.and_true] at hc) <;> (try simp -implicitDefEqProofs (disch:=first|omega|(simp only [go_sem,seval,k2,k3,hc];first|done|omega)) only [go_sem,seval,k2,k3,hc])))
        (all_goals (first|refine post_fin ret_ok hM rfl ?_ ?_|refine post_fin0 ret_ok hM rfl ?_ ?_|refine post_fin normal_ok hM rfl ?_ ?_|refine post_fin0 normal_ok hM rfl ?_ ?_);all_goals first|(simp only [go_sem,seval] <;> first|done|omega)|skip;all_goals (try simp -implicitDefEqProofs (disch:=first|omega|(simp only [go_sem,seval];first|done|omega)) only [go_sem,seval]))
  · rw [if_neg k1] at hn
    by_cases k2:v1 = 0
    · subst k2
      by_cases k3:v3 = 0
      · subst k3
        simp -implicitDefEqProofs (disch:=first|omega|(simp only [go_sem,seval,k1];first|done|omega)) only [go_sem,seval,k1]
        repeat' (first|(refine callP_q (hrT rfl _) ?_;(try simp -implicitDefEqProofs (disch:=first|omega|(simp only [go_sem,seval,k1];first|done|omega)) only [go_sem,seval,k1]))|(refine callP_q (c3 rfl _) ?_;(try simp -implicitDefEqProofs (disch:=first|omega|(simp only [go_sem,seval,k1];first|done|omega)) only [go_sem,seval,k1]))|(refine callP_q (hG _) ?_;(try simp -implicitDefEqProofs (disch:=first|omega|(simp only [go_sem,seval,k1];first|done|omega)) only [go_sem,seval,k1]))|(refine callP_q (hD _) ?_;(try simp -implicitDefEqProofs (disch:=first|omega|(simp only [go_sem,seval,k1];first|done|omega)) only [go_sem,seval,k1]))|(refine callP_q (hn _) ?_;(try simp -implicitDefEqProofs (disch:=first|omega|(simp only [go_sem,seval,k1];first|done|omega)) only [go_sem,seval,k1]))|(refine callP_q (hOT _) ?_;(try simp -implicitDefEqProofs (disch:=first|omega|(simp only [go_sem,seval,k1];first|done|omega)) only [go_sem,seval,k1]))|(refine callP_q (hST _) ?_;(try simp -implicitDefEqProofs (disch:=first|omega|(simp only [go_sem,seval,k1];first|done|omega)) only [go_sem,seval,k1]))|(refine callP_q (hO2 _) ?_;(try simp -implicitDefEqProofs (disch:=first|omega|(simp only [go_sem,seval,k1];first|done|omega)) only [go_sem,seval,k1]))|(refine callP_q (hS2 _) ?_;(try simp -implicitDefEqProofs (disch:=first|omega|(simp only [go_sem,seval,k1];first|done|omega)) only [go_sem,seval,k1]))|(refine cK_cases ?_ ?_ <;> intro hc <;> (try simp only [decide_eq_true_eq,decide_eq_false_iff_not,Classical.not_not,Bool.not_eq_true,Bool.not_eq_true',Bool.not_eq_false',Bool.false_or,Bool.or_false,Bool.true_or,Bool.or_true,Bool.false_and,Bool.and_false,Bool.true_and,Bool.and_true] at hc) <;> (try simp -implicitDefEqProofs (disch:=first|omega|(simp only [go_sem,seval,k1,hc];first|done|omega)) only [go_sem,seval,k1,hc]))|(refine gK_cases ?_ ?_ <;> intro hc <;> (try simp only [decide_eq_true_eq,decide_eq_false_iff_not,Classical.not_not,Bool.not_eq_true,Bool.not_eq_true',Bool.not_eq_false',Bool.false_or,Bool.or_false,Bool.true_or,Bool.or_true,Bool.false_and,Bool.and_false,Bool.true_and,Bool.and_true] at hc) <;> (try simp -implicitDefEqProofs (disch:=first|omega|(simp only [go_sem,seval,k1,hc];first|done|omega)) only [go_sem,seval,k1,hc])))
        (all_goals (first|refine post_fin ret_ok hM rfl ?_ ?_|refine post_fin0 ret_ok hM rfl ?_ ?_|refine post_fin normal_ok hM rfl ?_ ?_|refine post_fin0 normal_ok hM rfl ?_ ?_);all_goals first|(simp only [go_sem,seval] <;> first|done|omega)|skip;all_goals (try simp -implicitDefEqProofs (disch:=first|omega|(simp only [go_sem,seval];first|done|omega)) only [go_sem,seval]))
      · obtain ⟨rfl,rfl,rfl,rfl⟩:=hzS k3
        simp -implicitDefEqProofs (disch:=first|omega|(simp only [go_sem,seval,k1,k3];first|done|omega)) only [go_sem,seval,k1,k3]
        repeat' (first|(refine callP_q (hrT rfl _) ?_;(try simp -implicitDefEqProofs (disch:=first|omega|(simp only [go_sem,seval,k1,k3];first|done|omega)) only [go_sem,seval,k1,k3]))|(refine callP_q (hG _) ?_;(try simp -implicitDefEqProofs (disch:=first|omega|(simp only [go_sem,seval,k1,k3];first|done|omega)) only [go_sem,seval,k1,k3]))|(refine callP_q (hD _) ?_;(try simp -implicitDefEqProofs (disch:=first|omega|(simp only [go_sem,seval,k1,k3];first|done|omega)) only [go_sem,seval,k1,k3]))|(refine callP_q (hn _) ?_;(try simp -implicitDefEqProofs (disch:=first|omega|(simp only [go_sem,seval,k1,k3];first|done|omega)) only [go_sem,seval,k1,k3]))|(refine callP_q (hOT _) ?_;(try simp -implicitDefEqProofs (disch:=first|omega|(simp only [go_sem,seval,k1,k3];first|done|omega)) only [go_sem,seval,k1,k3]))|(refine callP_q (hST _) ?_;(try simp -implicitDefEqProofs (disch:=first|omega|(simp only [go_sem,seval,k1,k3];first|done|omega)) only [go_sem,seval,k1,k3]))|(refine callP_q (hO2 _) ?_;(try simp -implicitDefEqProofs (disch:=first|omega|(simp only [go_sem,seval,k1,k3];first|done|omega)) only [go_sem,seval,k1,k3]))|(refine callP_q (hS2 _) ?_;(try simp -implicitDefEqProofs (disch:=first|omega|(simp only [go_sem,seval,k1,k3];first|done|omega)) only [go_sem,seval,k1,k3]))|(refine cK_cases ?_ ?_ <;> intro hc <;> (try simp only [decide_eq_true_eq,decide_eq_false_iff_not,Classical.not_not,Bool.not_eq_true,Bool.not_eq_true',Bool.not_eq_false',Bool.false_or,Bool.or_false,Bool.true_or,Bool.or_true,Bool.false_and,Bool.and_false,Bool.true_and,Bool.and_true] at hc) <;> (try simp -implicitDefEqProofs (disch:=first|omega|(simp only [go_sem,seval,k1,k3,hc];first|done|omega)) only [go_sem,seval,k1,k3,hc]))|(refine gK_cases ?_ ?_ <;> intro hc <;> (try simp only [decide_eq_true_eq,decide_eq_false_iff_not,Classical.not_not,Bool.not_eq_true,Bool.not_eq_true',Bool.not_eq_false',Bool.false_or,Bool.or_false,Bool.true_or,Bool.or_true,Bool.false_and,Bool.and_false,Bool.true_and,Bool.and_true] at hc) <;> (try simp -implicitDefEqProofs (disch:=first|omega|(simp only [go_sem,seval,k1,k3,hc];first|done|omega)) only [go_sem,seval,k1,k3,hc])))
        (all_goals (first|refine post_fin ret_ok hM rfl ?_ ?_|refine post_fin0 ret_ok hM rfl ?_ ?_|refine post_fin normal_ok hM rfl ?_ ?_|refine post_fin0 normal_ok hM rfl ?_ ?_);all_goals first|(simp only [go_sem,seval] <;> first|done|omega)|skip;all_goals (try simp -implicitDefEqProofs (disch:=first|omega|(simp only [go_sem,seval];first|done|omega)) only [go_sem,seval]))
    · obtain ⟨rfl,rfl,rfl⟩:=hzT k2
      by_cases k3:v3 = 0
      · subst k3
        simp -implicitDefEqProofs (disch:=first|omega|(simp only [go_sem,seval,k1,k2];first|done|omega)) only [go_sem,seval,k1,k2]
        repeat' (first|(refine callP_q (c3 rfl _) ?_;(try simp -implicitDefEqProofs (disch:=first|omega|(simp only [go_sem,seval,k1,k2];first|done|omega)) only [go_sem,seval,k1,k2]))|(refine callP_q (hG _) ?_;(try simp -implicitDefEqProofs (disch:=first|omega|(simp only [go_sem,seval,k1,k2];first|done|omega)) only [go_sem,seval,k1,k2]))|(refine callP_q (hD _) ?_;(try simp -implicitDefEqProofs (disch:=first|omega|(simp only [go_sem,seval,k1,k2];first|done|omega)) only [go_sem,seval,k1,k2]))|(refine callP_q (hn _) ?_;(try simp -implicitDefEqProofs (disch:=first|omega|(simp only [go_sem,seval,k1,k2];first|done|omega)) only [go_sem,seval,k1,k2]))|(refine callP_q (hOT _) ?_;(try simp -implicitDefEqProofs (disch:=first|omega|(simp only [go_sem,seval,k1,k2];first|done|omega)) only [go_sem,seval,k1,k2]))|(refine callP_q (hST _) ?_;(try simp -implicitDefEqProofs (disch:=first|omega|(simp only [go_sem,seval,k1,k2];first|done|omega)) only [go_sem,seval,k1,k2]))|(refine callP_q (hO2 _) ?_;(try simp -implicitDefEqProofs (disch:=first|omega|(simp only [go_sem,seval,k1,k2];first|done|omega)) only [go_sem,seval,k1,k2]))|(refine callP_q (hS2 _) ?_;(try simp -implicitDefEqProofs (disch:=first|omega|(simp only [go_sem,seval,k1,k2];first|done|omega)) only [go_sem,seval,k1,k2]))|(refine cK_cases ?_ ?_ <;> intro hc <;> (try simp only [decide_eq_true_eq,decide_eq_false_iff_not,Classical.not_not,Bool.not_eq_true,Bool.not_eq_true',Bool.not_eq_false',Bool.false_or,Bool.or_false,Bool.true_or,Bool.or_true,Bool.false_and,Bool.and_false,Bool.true_and,Bool.and_true] at hc) <;> (try simp -implicitDefEqProofs (disch:=first|omega|(simp only [go_sem,seval,k1,k2,hc];first|done|omega)) only [go_sem,seval,k1,k2,hc]))|(refine gK_cases ?_ ?_ <;> intro hc <;> (try simp only [decide_eq_true_eq,decide_eq_false_iff_not,Classical.not_not,Bool.not_eq_true,Bool.not_eq_true',Bool.not_eq_false',Bool.false_or,Bool.or_false,Bool.true_or,Bool.or_true,Bool.false_and,Bool.and_false,Bool.true_and,Bool.and_true] at hc) <;> (try simp -implicitDefEqProofs (disch:=first|omega|(simp only [go_sem,seval,k1,k2,hc];first|done|omega)) only [go_sem,seval,k1,k2,hc])))
        (all_goals (first|refine post_fin ret_ok hM rfl ?_ ?_|refine post_fin0 ret_ok hM rfl ?_ ?_|refine post_fin normal_ok hM rfl ?_ ?_|refine post_fin0 normal_ok hM rfl ?_ ?_);all_goals first|(simp only [go_sem,seval] <;> first|done|omega)|skip;all_goals (try simp -implicitDefEqProofs (disch:=first|omega|(simp only [go_sem,seval];first|done|omega)) only [go_sem,seval]))
      · obtain ⟨rfl,rfl,rfl,rfl⟩:=hzS k3
        simp -implicitDefEqProofs (disch:=first|omega|(simp only [go_sem,seval,k1,k2,k3];first|done|omega)) only [go_sem,seval,k1,k2,k3]
        repeat' (first|(refine callP_q (hG _) ?_;(try simp -implicitDefEqProofs (disch:=first|omega|(simp only [go_sem,seval,k1,k2,k3];first|done|omega)) only [go_sem,seval,k1,k2,k3]))|(refine callP_q (hD _) ?_;(try simp -implicitDefEqProofs (disch:=first|omega|(simp only [go_sem,seval,k1,k2,k3];first|done|omega)) only [go_sem,seval,k1,k2,k3]))|(refine callP_q (hn _) ?_;(try simp -implicitDefEqProofs (disch:=first|omega|(simp only [go_sem,seval,k1,k2,k3];first|done|omega)) only [go_sem,seval,k1,k2,k3]))|(refine callP_q (hOT _) ?_;(try simp -implicitDefEqProofs (disch:=first|omega|(simp only [go_sem,seval,k1,k2,k3];first|done|omega)) only [go_sem,seval,k1,k2,k3]))|(refine callP_q (hST _) ?_;(try simp -implicitDefEqProofs (disch:=first|omega|(simp only [go_sem,seval,k1,k2,k3];first|done|omega)) only [go_sem,seval,k1,k2,k3]))|(refine callP_q (hO2 _) ?_;(try simp -implicitDefEqProofs (disch:=first|omega|(simp only [go_sem,seval,k1,k2,k3];first|done|omega)) only [go_sem,seval,k1,k2,k3]))|(refine callP_q (hS2 _) ?_;(try simp -implicitDefEqProofs (disch:=first|omega|(simp only [go_sem,seval,k1,k2,k3];first|done|omega)) only [go_sem,seval,k1,k2,k3]))|(refine cK_cases ?_ ?_ <;> intro hc <;> (try simp only [decide_eq_true_eq,decide_eq_false_iff_not,Classical.not_not,Bool.not_eq_true,Bool.not_eq_true',Bool.not_eq_false',Bool.false_or,Bool.or_false,Bool.true_or,Bool.or_true,Bool.false_and,Bool.and_false,Bool.true_and,Bool.and_true] at hc) <;> (try simp -implicitDefEqProofs (disch:=first|omega|(simp only [go_sem,seval,k1,k2,k3,hc];first|done|omega)) only [go_sem,seval,k1,k2,k3,hc]))|(refine gK_cases ?_ ?_ <;> intro hc <;> (try simp only [decide_eq_true_eq,decide_eq_false_iff_not,Classical.not_not,Bool.not_eq_true,Bool.not_eq_true',Bool.not_eq_false',Bool.false_or,Bool.or_false,Bool.true_or,Bool.or_true,Bool.false_and,Bool.and_false,Bool.true_and,Bool.and_true] at hc) <;> (try simp -implicitDefEqProofs (disch:=first|omega|(simp only [go_sem,seval,k1,k2,k3,hc];first|done|omega)) only [go_sem,seval,k1,k2,k3,hc])))
        (all_goals (first|refine post_fin ret_ok hM rfl ?_ ?_|refine post_fin0 ret_ok hM rfl ?_ ?_|refine post_fin normal_ok hM rfl ?_ ?_|refine post_fin0 normal_ok hM rfl ?_ ?_);all_goals first|(simp only [go_sem,seval] <;> first|done|omega)|skip;all_goals (try simp -implicitDefEqProofs (disch:=first|omega|(simp only [go_sem,seval];first|done|omega)) only [go_sem,seval]))
end
end Go.Nac.L4
