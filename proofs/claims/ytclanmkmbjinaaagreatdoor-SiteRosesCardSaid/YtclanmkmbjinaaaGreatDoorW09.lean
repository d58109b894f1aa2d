import Derived.Test.YtclanmkmbjinaaaGreatDoorW08
set_option linter.unusedSimpArgs false
set_option linter.unusedVariables false
set_option linter.unnecessarySimpa false
set_option maxRecDepth 10000
namespace Go.Nac.L4
attribute [local congr] b1_congr b2_congr Wp_congr wpOps_congr thenK_congr blockK_congr gK_congr cK_congr
section
variable {X:XRel}
theorem put_run (ns:List Int) (hl:ns.length ≤ 40000) {M0 E:List Blk} {v:Nat} {bs:List PV} (hb:bs.length ≤ 400000) :
    ACall F X (.fn 131) [.fs (ns.map .I),.op (M0.length + 1) 0 0 0] (M0 ++ (.row true 1 v bs :: .row true 1 0 [.os M0.length v 0 bs.length] :: E)) (.tup [])
      (M0 ++ (.row true 1 (v + ns.length) (bs ++ putB ns) :: .row true 1 0 [.os M0.length (v + ns.length) 0 (bs ++ putB ns).length] :: E)):=by
  refine ACall_fn (cf:=c131) rfl rfl fun hM hA => ?_
  simp only [c131,zO,zF,zT]
  rw [mk2 _ (by decide)]
  simp -implicitDefEqProofs (disch:=first|omega|(simp only [go_sem,seval];first|done|omega)) only [go_sem,seval]
  refine loop_mk (α:=Nat) 0 (fun k => k ≤ ns.length) (fun k => M0 ++ (.row true 1 (v + k) (bs ++ putB (ns.take k)) :: .row true 1 0 [.os M0.length (v + k) 0 (bs ++ putB (ns.take k)).length] :: E))
    (fun k => [(1,.op (M0.length + 1) 0 0 0),(5,.fs (ns.map .I)),(6,.I ns.length),(7,.I k)]) (fun k => ns.length - k) (Nat.zero_le _) (by simp [putB]) rfl ?_
  intro k hk
  by_cases hlt:k < ns.length
  · obtain ⟨n,hn⟩:∃ n,ns[k]? = some n:=⟨_,List.getElem?_eq_getElem hlt⟩
    have hsn:=putB_snoc hn
    have hpl:=putB_len (ns.take k)
    have htl:(ns.take k).length = k:=by rw [List.length_take];omega
    have hbl:(bs ++ putB (ns.take k)).length ≤ 560000:=by rw [List.length_append,hpl];omega
    have again:∀ c:List PV,bs ++ putB (ns.take (k + 1)) = c → Again 26 (fun k => k ≤ ns.length) (fun k => M0 ++ (.row true 1 (v + k) (bs ++ putB (ns.take k)) :: .row true 1 0 [.os M0.length (v + k) 0 (bs ++ putB (ns.take k)).length] :: E))
      (fun k => [(1,.op (M0.length + 1) 0 0 0),(5,.fs (ns.map .I)),(6,.I ns.length),(7,.I k)]) (fun k => ns.length - k) k
      (M0 ++ (.row true 1 (v + (k + 1)) c :: .row true 1 0 [.os M0.length (v + (k + 1)) 0 c.length] :: E)) (mk 26 [(1,.op (M0.length + 1) 0 0 0),(5,.fs (ns.map .I)),(6,.I ns.length),(7,.I (k + 1))]):=by
      rintro c rfl
      exact again' (k + 1) (by omega) (by omega) rfl rfl
    rw [hsn,← List.append_assoc] at again
    generalize bs ++ putB (ns.take k) = c at hbl again ⊢
    have hsh:∀ (m:Nat),m ≤ 24 → bin .shr (.s (.int .i64 n)) (.s (.int .u64 m)) = some (.s (.int .i64 (n.fdiv (2 ^ m)))):=by
      intro m hm
      rw [bin_shr (by omega)]
      have:min (m:Int).toNat IntKind.i64.bits = m:=by
        have:IntKind.i64.bits = 64:=rfl
        omega
      rw [this]
    have s1:bin .shr (.s (.int .i64 n)) (.s (.int .u64 24)) = some (.s (.int .i64 (n.fdiv 16777216))):=hsh 24 (by decide)
    have s2:bin .shr (.s (.int .i64 n)) (.s (.int .u64 16)) = some (.s (.int .i64 (n.fdiv 65536))):=hsh 16 (by decide)
    have s3:bin .shr (.s (.int .i64 n)) (.s (.int .u64 8)) = some (.s (.int .i64 (n.fdiv 256))):=hsh 8 (by decide)
    simp -implicitDefEqProofs (disch:=first|omega|(simp only [go_sem,seval,hlt,hn,s1,s2,s3];first|done|omega)) only [go_sem,seval,hlt,hn,s1,s2,s3]
    have h:=again _ rfl
    simp only [List.length_append,be4_eq,List.length_cons,List.length_nil] at h
    exact h
  have hkk:k = ns.length:=by omega
  subst hkk
  rw [List.take_length]
  have hbl:lowL (M0 ++ Blk.row true 1 v bs :: Blk.row true 1 0 [PV.os M0.length v 0 bs.length] :: E).length bs:=hM (Blk.row true 1 v bs) (by simp)
  have hlow:lowM (M0 ++ (Blk.row true 1 (v + ns.length) (bs ++ putB ns) :: Blk.row true 1 0 [.os M0.length (v + ns.length) 0 (bs ++ putB ns).length] :: E)).length (M0 ++ (Blk.row true 1 (v + ns.length) (bs ++ putB ns) :: Blk.row true 1 0 [.os M0.length (v + ns.length) 0 (bs ++ putB ns).length] :: E)):=by
    intro b hb
    have hlen:(M0 ++ (Blk.row true 1 (v + ns.length) (bs ++ putB ns) :: Blk.row true 1 0 [.os M0.length (v + ns.length) 0 (bs ++ putB ns).length] :: E)).length = (M0 ++ Blk.row true 1 v bs :: Blk.row true 1 0 [PV.os M0.length v 0 bs.length] :: E).length:=by simp
    rw [hlen]
    rcases List.mem_append.1 hb with hb|hb
    · exact hM b (by simp [hb])
    · rcases List.mem_cons.1 hb with rfl|hb
      · show lowL _ (bs ++ putB ns)
        rw [lowL_iff]
        intro x hx
        rcases List.mem_append.1 hx with hx|hx
        · exact (lowL_iff _).1 hbl x hx
        · exact (lowL_iff _).1 (of_eq_true (putB_low ns)) x hx
      · rcases List.mem_cons.1 hb with rfl|hb
        · show lowL _ [_]
          simp [lowL,PV.low]
        · exact hM b (by simp [hb])
  simp only [List.length_append] at hlow
  simp -implicitDefEqProofs (disch:=first|omega|(simp only [go_sem,seval,hlt];first|done|omega)) only [go_sem,seval,hlt]
  refine post_fin0 normal_ok (by simpa using hlow) (by simp) ?_ ?_
  · simp -implicitDefEqProofs (disch:=first|omega|(simp only [go_sem,seval];first|done|omega)) only [go_sem,seval]
    rfl
  · (simp only [go_sem,seval] <;> first|done|omega)
def FbitsX (X:XRel):Prop:=∀ (b:Nat) (M:List Blk),X 132 [.s (.float .f32 b)] M (.s (.int .u32 b)) M
theorem q_site_Encode (hF:FbitsX X) (s:Ser) (hl:s.samples.length ≤ 1048576) (hgl:s.gaps.length ≤ 1048576):Q X 88 [encSer s] (.tup [.fs (if chkSer s = 0 then encB s else []),.I (chkSer s)]):=by
  intro M
  have es:=encSer_eq s
  (refine ACall_fn (cf:=L4.c88) rfl rfl fun hM hA => ?_;simp only [L4.c88,zO,zF,zT];rw [mk1 _ (by decide)];simp -implicitDefEqProofs (disch:=first|omega|(simp only [go_sem,seval,es];first|done|omega)) only [go_sem,seval,es])
  refine callP_q (q_site_CheckSeries s hl hgl _) ?_
  by_cases h0:chkSer s = 0
  case neg =>
    rw [if_neg h0]
    generalize chkSer s = ee at h0
    simp -implicitDefEqProofs (disch:=first|omega|(simp only [go_sem,seval,h0];first|done|omega)) only [go_sem,seval,h0]
    (all_goals (first|refine post_fin ret_ok hM rfl ?_ ?_|refine post_fin0 ret_ok hM rfl ?_ ?_|refine post_fin normal_ok hM rfl ?_ ?_|refine post_fin0 normal_ok hM rfl ?_ ?_);all_goals first|(simp only [go_sem,seval] <;> first|done|omega)|skip;all_goals (try simp -implicitDefEqProofs (disch:=first|omega|(simp only [go_sem,seval];first|done|omega)) only [go_sem,seval]))
  rw [if_pos h0,h0]
  obtain ⟨hin,hsm⟩:=serIn_of h0
  have hnm:s.name.size ≤ 24:=by
    unfold chkSer at h0
    split at h0
    · cases h0
    · rename_i hn;exact nameOk_size (by simpa using hn)
  have hbo:=bytesPV_ok s.name
  have hbl:=bytesPV_len s.name
  have hhs:∀ M:List Blk,held M (.s (.string s.name)) = some (bytesPV s.name):=fun _ => held_str
  simp -implicitDefEqProofs (disch:=first|omega|(simp only [go_sem,seval,es,hhs,hbo,hbl];first|done|omega)) only [go_sem,seval,es,hhs,hbo,hbl]
  have hh:(hdrB s).length = 5 + s.name.size:=by
    unfold hdrB
    rw [List.length_append,List.length_append,hbl];rfl
  have hls:=hin.1
  have hgs:s.gaps.length ≤ 1024:=by
    unfold chkSer at h0
    split at h0
    · cases h0
    · split at h0
      · cases h0
      · split at h0
        · cases h0
        · split at h0
          · rename_i h4;exact absurd h0 h4
          · split at h0
            · rename_i h5;exact absurd h0 h5
            · rename_i h5;exact (chkSpns_in (Decidable.of_not_not h5)).2
  have hP:=put_run (X:=X) [s.start,(s.samples.length:Int),(s.gaps.length:Int)] (by simp) (M0:=M) (E:=[]) (v:=2) (bs:=hdrB s) (by omega)
  have hlow:∀ n:Nat,lowL n (hdrB s) = True:=fun n => eq_true (by
    unfold hdrB
    rw [lowL_iff]
    intro x hx
    rcases List.mem_append.1 hx with hx|hx
    · simp only [List.cons_append,List.nil_append,List.mem_cons,List.not_mem_nil,or_false] at hx
      rcases hx with rfl|rfl|rfl|rfl|rfl <;> simp [PV.low]
    · exact (lowL_iff _).1 (of_eq_true (bytesPV_low s.name)) x hx)
  rw [hh] at hP
  refine callP_l hP ?_
  have hcl:∀ (L:List Int) (m:Nat),lowL m (hdrB s ++ putB L) = True:=fun L m => eq_true (by
    rw [lowL_iff]
    intro x hx
    rcases List.mem_append.1 hx with hx|hx
    · exact (lowL_iff _).1 (of_eq_true (hlow m)) x hx
    · exact (lowL_iff _).1 (of_eq_true (putB_low L)) x hx)
  have hC:∀ L:List Int,(hdrB s ++ putB L).length = 5 + s.name.size + 4 * L.length:=fun L => by rw [List.length_append,hh,putB_len]
  have hstep:∀ L N:List Int,hdrB s ++ putB L ++ putB N = hdrB s ++ putB (L ++ N):=fun L N => by rw [List.append_assoc,putB_app]
  have hE:encB s = hdrB s ++ putB ([s.start,(s.samples.length:Int),(s.gaps.length:Int)] ++ gapNs s.gaps ++ bitNs s.samples):=rfl
  generalize encB s = R at hE ⊢
  simp -implicitDefEqProofs (disch:=first|omega|(simp only [go_sem,seval];first|done|omega)) only [go_sem,seval]
  have hb3:([s.start,(s.samples.length:Int),(s.gaps.length:Int)]:List Int).length = 3:=rfl
  generalize [s.start,(s.samples.length:Int),(s.gaps.length:Int)] = base at hb3 hE ⊢
  refine loop_mk (α:=Nat) 0 (fun k => k ≤ s.gaps.length) (fun k => M ++ [.row true 1 (5 + 2 * k) (hdrB s ++ putB (base ++ gapNs (s.gaps.take k))),.row true 1 0 [.os M.length (5 + 2 * k) 0 (hdrB s ++ putB (base ++ gapNs (s.gaps.take k))).length]])
    (fun k => [(1,.fp (encSer s).cells),(5,.op (M.length + 1) 0 0 0),(6,.fn (.func 131) [] [.op (M.length + 1) 0 0 0]),(41,.fs (s.gaps.map encSpn)),(42,.I s.gaps.length),(43,.I k)]) (fun k => s.gaps.length - k) (Nat.zero_le _) ?_ rfl ?_
  · simp [gapNs]
  intro k hk
  by_cases hlt:k < s.gaps.length
  · obtain ⟨g,hg⟩:∃ g,s.gaps[k]? = some g:=⟨_,List.getElem?_eq_getElem hlt⟩
    have hsn:=gapNs_snoc hg
    have hgl2:=gapNs_len (s.gaps.take k)
    have htl:(s.gaps.take k).length = k:=by rw [List.length_take];omega
    have hcl2:(hdrB s ++ putB (base ++ gapNs (s.gaps.take k))).length = 5 + s.name.size + 4 * (3 + 2 * k):=by rw [hC,List.length_append,hb3,hgl2,htl]
    have hP2:=put_run (X:=X) [g.fr,g.to_] (by simp) (M0:=M) (E:=[.row true 2 0 [encSpn g]]) (v:=5 + 2 * k) (bs:=hdrB s ++ putB (base ++ gapNs (s.gaps.take k))) (by omega)
    rw [hstep,List.append_assoc,← hsn] at hP2
    have hlw:=hcl (base ++ gapNs (s.gaps.take (k + 1)))
    generalize hdrB s ++ putB (base ++ gapNs (s.gaps.take k)) = c at hP2 hcl2 ⊢
    simp -implicitDefEqProofs (disch:=first|omega|(simp only [go_sem,seval,hlt,hg,encSpn_cells,encSpn_eq];first|done|omega)) only [go_sem,seval,hlt,hg,encSpn_cells,encSpn_eq]
    refine callP_l hP2 ?_
    simp -implicitDefEqProofs (disch:=first|omega|(simp only [go_sem,seval,hlt,hg,encSpn_cells,encSpn_eq];first|done|omega)) only [go_sem,seval,hlt,hg,encSpn_cells,encSpn_eq]
    have hes:lowL (M.length + 2) (encSer s).cells = True:=by rw [encSer_cells];exact eq_true (by simp [lowL,PV.low,encF_low,encSpn_low])
    refine Wp_cut_at hM rfl 2 (by simp) (by first|done|(simp only [go_sem,seval,hlw,hlow,putB_low,hes,encSpn_low] <;> first|done|(refine ⟨?_,?_⟩ <;> omega)|omega)) (lowL_mk (by first|done|(simp only [go_sem,seval,hlw,hlow,putB_low,hes,encSpn_low] <;> first|done|(refine ⟨?_,?_⟩ <;> omega)|omega))) ?_
    simp -implicitDefEqProofs (disch:=first|omega|(simp only [go_sem,seval];first|done|omega)) only [go_sem,seval]
    exact again' (k + 1) (by omega) (by omega) rfl rfl
  have hkk:k = s.gaps.length:=by omega
  subst hkk
  rw [List.take_length]
  simp -implicitDefEqProofs (disch:=first|omega|(simp only [go_sem,seval,hlt,encSer_cells];first|done|omega)) only [go_sem,seval,hlt,encSer_cells]
  refine loop_mk (α:=Nat) 0 (fun j => j ≤ s.samples.length) (fun j => M ++ [.row true 1 (5 + (2 * s.gaps.length + j)) (hdrB s ++ putB (base ++ gapNs s.gaps ++ bitNs (s.samples.take j))),.row true 1 0 [.os M.length (5 + (2 * s.gaps.length + j)) 0 (hdrB s ++ putB (base ++ gapNs s.gaps ++ bitNs (s.samples.take j))).length]])
    (fun j => [(5,.op (M.length + 1) 0 0 0),(6,.fn (.func 131) [] [.op (M.length + 1) 0 0 0]),(56,.fs (s.samples.map encF)),(57,.I s.samples.length),(58,.I j)]) (fun j => s.samples.length - j) (Nat.zero_le _) ?_ rfl ?_
  · simp [bitNs]
  intro j hj
  by_cases hlt2:j < s.samples.length
  · obtain ⟨x,hx⟩:∃ x,s.samples[j]? = some x:=⟨_,List.getElem?_eq_getElem hlt2⟩
    have hxs:=hsm x (List.mem_of_getElem? hx)
    have hpl:=f_plus0 hxs
    have hbs:bitNs (s.samples.take (j + 1)) = bitNs (s.samples.take j) ++ [IntKind.i64.wrap (plus0 x)]:=by
      unfold bitNs
      exact take_snoc (f:=fun x => IntKind.i64.wrap (plus0 x:Int)) hx
    have hbl2:(bitNs (s.samples.take j)).length = j:=by unfold bitNs;rw [List.length_map,List.length_take];omega
    have hcl2:(hdrB s ++ putB (base ++ gapNs s.gaps ++ bitNs (s.samples.take j))).length = 5 + s.name.size + 4 * (3 + 2 * s.gaps.length + j):=by rw [hC,List.length_append,List.length_append,hb3,gapNs_len,hbl2]
    have hP2:=put_run (X:=X) [IntKind.i64.wrap (plus0 x)] (by simp) (M0:=M) (E:=[]) (v:=5 + (2 * s.gaps.length + j)) (bs:=hdrB s ++ putB (base ++ gapNs s.gaps ++ bitNs (s.samples.take j))) (by omega)
    have hb':base ++ gapNs s.gaps ++ bitNs (s.samples.take j) ++ [IntKind.i64.wrap (plus0 x)] = base ++ gapNs s.gaps ++ bitNs (s.samples.take (j + 1)):=by rw [hbs,List.append_assoc (base ++ gapNs s.gaps)]
    rw [hstep,hb'] at hP2
    have hlw:=hcl (base ++ gapNs s.gaps ++ bitNs (s.samples.take (j + 1)))
    generalize hdrB s ++ putB (base ++ gapNs s.gaps ++ bitNs (s.samples.take j)) = c at hP2 hcl2 ⊢
    simp -implicitDefEqProofs (disch:=first|omega|(simp only [go_sem,seval,hlt2,hx,r_sop,hpl];first|done|omega)) only [go_sem,seval,hlt2,hx,r_sop,hpl]
    refine callP_q (ACall_ext (hF (plus0 x) _)) ?_
    simp -implicitDefEqProofs (disch:=first|omega|(simp only [go_sem,seval];first|done|omega)) only [go_sem,seval]
    refine callP_l hP2 ?_
    simp -implicitDefEqProofs (disch:=first|omega|(simp only [go_sem,seval];first|done|omega)) only [go_sem,seval]
    refine Wp_cut_at hM rfl 2 (by simp) (by first|done|(simp only [go_sem,seval,hlw,hlow,putB_low,encF_low] <;> first|done|(refine ⟨?_,?_⟩ <;> omega)|omega)) (lowL_mk (by first|done|(simp only [go_sem,seval,hlw,hlow,putB_low,encF_low] <;> first|done|(refine ⟨?_,?_⟩ <;> omega)|omega))) ?_
    simp -implicitDefEqProofs (disch:=first|omega|(simp only [go_sem,seval];first|done|omega)) only [go_sem,seval]
    exact again' (j + 1) (by omega) (by omega) rfl rfl
  have hjj:j = s.samples.length:=by omega
  subst hjj
  rw [List.take_length]
  have hlw:=hcl (base ++ gapNs s.gaps ++ bitNs s.samples)
  rw [← hE] at hlw ⊢
  have hRt:R.take R.length = R:=List.take_length
  simp -implicitDefEqProofs (disch:=first|omega|(simp only [go_sem,seval,hlt2];first|done|omega)) only [go_sem,seval,hlt2]
  (first|refine post_fin ret_ok hM rfl ?_ ?_|refine post_fin0 ret_ok hM rfl ?_ ?_|refine post_fin normal_ok hM rfl ?_ ?_|refine post_fin0 normal_ok hM rfl ?_ ?_)
  · simp -implicitDefEqProofs (disch:=first|omega|(simp only [go_sem,seval,hRt];first|done|omega)) only [go_sem,seval,hRt]
  · (simp only [go_sem,seval,hlw,hRt] <;> first|done|omega)
theorem q_law01_farm:Q X 97 [] (encSte farmS):=by
  intro M
  (refine ACall_fn (cf:=L4.c97) rfl rfl fun hM hA => ?_;simp only [L4.c97,zO,zF,zT];rw [mk0];simp -implicitDefEqProofs (disch:=first|omega|(simp only [go_sem,seval,-List.reduceReplicate];first|done|omega)) only [go_sem,seval,-List.reduceReplicate])
  (first|refine post_fin ret_ok hM rfl ?_ ?_|refine post_fin0 ret_ok hM rfl ?_ ?_|refine post_fin normal_ok hM rfl ?_ ?_|refine post_fin0 normal_ok hM rfl ?_ ?_)
  · simp -implicitDefEqProofs (disch:=first|omega|(simp only [go_sem,seval,-List.reduceReplicate];first|done|omega)) only [go_sem,seval,-List.reduceReplicate]
    rfl
  · exact of_eq_true (encSte_low1 farmS)
theorem q_law01_wave:Q X 98 [] (encSer waveS):=by
  intro M
  (refine ACall_fn (cf:=L4.c98) rfl rfl fun hM hA => ?_;simp only [L4.c98,zO,zF,zT];rw [mk0];simp -implicitDefEqProofs (disch:=first|omega|(simp only [go_sem,seval,-List.reduceReplicate];first|done|omega)) only [go_sem,seval,-List.reduceReplicate])
  (first|refine post_fin ret_ok hM rfl ?_ ?_|refine post_fin0 ret_ok hM rfl ?_ ?_|refine post_fin normal_ok hM rfl ?_ ?_|refine post_fin0 normal_ok hM rfl ?_ ?_)
  · simp -implicitDefEqProofs (disch:=first|omega|(simp only [go_sem,seval,-List.reduceReplicate];first|done|omega)) only [go_sem,seval,-List.reduceReplicate]
    rfl
  · exact of_eq_true (encSer_low1 waveS)
theorem aw1 (hS:SortX X):Q X 19 [.fs (([⟨0,5⟩,⟨3,8⟩,⟨9,10⟩]:List Spn).map encSpn)] (.tup [.fs (([⟨0,8⟩,⟨9,10⟩]:List Spn).map encSpn),.I 0]):=by
  have h:=q_site_Canon (X:=X) hS [⟨0,5⟩,⟨3,8⟩,⟨9,10⟩] (by decide)
  rw [show chkAny [⟨0,5⟩,⟨3,8⟩,⟨9,10⟩] = 0 from by decide,if_pos rfl,aw_canon] at h
  exact h
theorem aw2:Q X 21 [.fs (([⟨0,8⟩,⟨9,10⟩]:List Spn).map encSpn)] (.tup [.I 9,.I 0]):=by
  have h:=q_site_Total (X:=X) [⟨0,8⟩,⟨9,10⟩] (by decide)
  rw [show chkSpns [⟨0,8⟩,⟨9,10⟩] = 0 from by decide,if_pos rfl,show totOf [⟨0,8⟩,⟨9,10⟩] = 9 from by decide] at h
  exact h
theorem aw3 (hS:SortX X):Q X 31 [.fs (([⟨0,8⟩,⟨9,10⟩]:List Spn).map encSpn),.fs (([⟨8,9⟩]:List Spn).map encSpn)] (.tup [.fs (([⟨0,10⟩]:List Spn).map encSpn),.I 0]):=by
  have h:=q_site_Join (X:=X) hS [⟨0,8⟩,⟨9,10⟩] [⟨8,9⟩] (by decide) (by decide)
  rw [aw_join] at h
  exact h
theorem aw4:Q X 33 [.fs (([⟨0,10⟩]:List Spn).map encSpn),.fs (([⟨3,5⟩]:List Spn).map encSpn)] (.tup [.fs (([⟨0,3⟩,⟨5,10⟩]:List Spn).map encSpn),.I 0]):=by
  have h:=q_site_Minus (X:=X) [⟨0,10⟩] [⟨3,5⟩] (by decide) (by decide)
  rw [aw_minus] at h
  exact h
theorem aw5:Q X 42 [encSte farmS] (.tup [.I 25,.I 0]):=by
  have h:=q_site_Spacing (X:=X) farmS (by decide)
  rw [show spcE farmS = 0 from by decide,if_pos rfl,farm_spc] at h
  exact h
theorem aw6:Q X 44 [encSte farmS,.I 1] (.tup [encSte (mvS (trnN 1) farmS),.I 0]):=by
  have h:=q_site_TurnSite (X:=X) farmS 1 (by decide)
  rw [show turnE farmS 1 = 0 from by decide,if_pos rfl] at h
  exact h
theorem aw9:Q X 64 [encSer waveS] (.tup [encSt ⟨6,144,1056964608,1077936128⟩,.I 0]):=by
  have h:=q_site_Summary (X:=X) waveS (by decide) (by decide)
  unfold sumOf sumE at h
  rw [if_pos wave_ok,if_pos wave_ok,wave_sum] at h
  exact h
theorem aw7 (hS:SortX X):Q X 57 [.I 2] (.tup [encPt ⟨-1,0⟩,.I 0]):=by
  have h:=q_site_Step (X:=X) 2
  rw [show stepOf 2 = ⟨-1,0⟩ from by decide,show rng 2 0 7 = 0 from by decide] at h
  exact h
theorem aw8 (hS:SortX X):Q X 57 [.I 0] (.tup [encPt ⟨0,-1⟩,.I 0]):=by
  have h:=q_site_Step (X:=X) 0
  rw [show stepOf 0 = ⟨0,-1⟩ from by decide,show rng 0 0 7 = 0 from by decide] at h
  exact h
theorem aw10:Q X 66 [encSer waveS,encF 1065353216,.I 1] (.tup [.fs (([⟨0,1⟩,⟨3,4⟩,⟨5,7⟩]:List Spn).map encSpn),.I 0]):=by
  have h:=q_site_Spells (X:=X) waveS 1065353216 1 (by decide) (by decide)
  unfold spellR spellL at h
  rw [show spellE waveS 1065353216 1 = 0 from by decide +kernel,if_pos rfl,wave_sp1,if_neg (by decide)] at h
  exact h
theorem aw11:Q X 66 [encSer waveS,encF 1065353216,.I 2] (.tup [.fs (([⟨5,7⟩]:List Spn).map encSpn),.I 0]):=by
  have h:=q_site_Spells (X:=X) waveS 1065353216 2 (by decide) (by decide)
  unfold spellR spellL at h
  rw [show spellE waveS 1065353216 2 = 0 from by decide +kernel,if_pos rfl,wave_sp2,if_neg (by decide)] at h
  exact h
def awRo:Rse:=incR (incR z408 7) (2 * 51 + 8)
theorem aw12:Q X 81 [encSer awA,encSer awB] (.tup [encRs awRo,.I 0]):=by
  have h:=q_site_Blown (X:=X) awA awB (by decide) (by decide) (by decide) (by decide)
  unfold blownR at h
  rw [aw_blownE,if_pos rfl,aw_blown] at h
  exact h
theorem aw14 (hI:ItoaX X) (hJ:JoinX X):Q X 92 [encSte farmS] (.tup [.s (.string (steTxt farmS)),.I 0]):=by
  have h:=q_site_Print (X:=X) hI hJ farmS (by decide)
  rw [farm_ok,if_pos rfl] at h
  exact h
theorem aw15 (hF:FbitsX X):Q X 88 [encSer waveS] (.tup [.fs (encB waveS),.I 0]):=by
  have h:=q_site_Encode (X:=X) hF waveS (by decide) (by decide)
  rw [wave_ok,if_pos rfl] at h
  exact h
theorem awRo_len:List.length awRo = 408:=by decide +kernel
theorem awRo_ok:chkRse awRo = 0:=by decide +kernel
theorem aw13:Q X 58 [encRs awRo,.I 1] (.tup [encRs (trnR awRo 1 8),.I 0]):=by
  have h:=q_site_TurnRose (X:=X) awRo 1 awRo_len
  rw [show trnE awRo 1 = 0 from by decide +kernel,if_pos rfl] at h
  exact h
theorem aw16:Q X 61 [encRs awRo] (.I 2):=by
  have h:=q_ref01_Quarters (X:=X) awRo awRo_len awRo_ok
  rw [show sumR awRo 408 = 2 from by decide +kernel] at h
  exact h
theorem at_cell {r:Rse} {i:Nat} {v:Int} (h:(r.drop i).take 1 = [v]):((r.map PV.I).drop i).take 1 = [PV.I v]:=by
  rw [← List.map_drop,← List.map_take,h];rfl
theorem r_7:(awRo.drop 7).take 1 = [1]:=by decide +kernel
theorem r_110:(awRo.drop 110).take 1 = [1]:=by decide +kernel
theorem u_109:((trnR awRo 1 8).drop 109).take 1 = [1]:=by decide +kernel
theorem u_212:((trnR awRo 1 8).drop 212).take 1 = [1]:=by decide +kernel
theorem same_self (l:List Spn) (h:l.length ≤ 1048576):Q X 39 [.fs (l.map encSpn),.fs (l.map encSpn)] (.B true):=by
  have:=q_ref01_SameSpans (X:=X) l l h
  simpa using this
theorem aw_turned:encSte (mvS (trnN 1) farmS) = .agg [.s (.string ⟨#[110,111,114,116,104]⟩),.I 5,.fs [.agg [.s (.string ⟨#[97]⟩),.I 0,.I 0],.agg [.s (.string ⟨#[98]⟩),.I 0,.I (-6)],.agg [.s (.string ⟨#[99]⟩),.I 4,.I (-3)]]]:=rfl
theorem aw_e0:(encB waveS).length = 57:=by decide +kernel
theorem aw_e4:(encB waveS).take 4 = bytesPV ⟨#[87,73,78,68]⟩:=by rfl
theorem aw_es:sized 1 (encB waveS) = true:=by decide +kernel
theorem aw_e29:(encB waveS)[29]? = some (u8 63):=by rfl
theorem aw_e30:(encB waveS)[30]? = some (u8 128):=by rfl
theorem aw_fl:eqCells [SK.flt,SK.flt] [encF 1056964608,encF 1077936128] [PV.s (Value.float FloatKind.f32 1056964608),PV.s (Value.float FloatKind.f32 1077936128)] = some true:=by
  have o1:(FloatKind.f32.format.order 1056964608 1056964608 == some .eq) = true:=by decide
  have o2:(FloatKind.f32.format.order 1077936128 1077936128 == some .eq) = true:=by decide
  rw [eqCells_flt,eqCells_flt,eqCells_nil]
  simp [o1,o2]
set_option maxHeartbeats 2000000 in
theorem q_law01_awake (hS:SortX X) (hI:ItoaX X) (hJ:JoinX X) (hF:FbitsX X):Q X 17 [] (.B true):=by
  intro M
  (refine ACall_fn (cf:=L4.c17) rfl rfl fun hM hA => ?_;simp only [L4.c17,zO,zF,zT];rw [mk0];simp -implicitDefEqProofs (disch:=first|omega|(simp only [go_sem,seval,-List.reduceReplicate];first|done|omega)) only [go_sem,seval,-List.reduceReplicate])
  refine callP_q (aw1 hS _) ?_
  simp -implicitDefEqProofs (disch:=first|omega|(simp only [go_sem,seval,-List.reduceReplicate];first|done|omega)) only [go_sem,seval,-List.reduceReplicate]
  refine callP_q (aw2 _) ?_
  simp -implicitDefEqProofs (disch:=first|omega|(simp only [go_sem,seval,-List.reduceReplicate];first|done|omega)) only [go_sem,seval,-List.reduceReplicate]
  refine callP_q (aw3 hS _) ?_
  simp -implicitDefEqProofs (disch:=first|omega|(simp only [go_sem,seval,-List.reduceReplicate];first|done|omega)) only [go_sem,seval,-List.reduceReplicate]
  refine callP_q (aw4 _) ?_
  simp -implicitDefEqProofs (disch:=first|omega|(simp only [go_sem,seval,-List.reduceReplicate];first|done|omega)) only [go_sem,seval,-List.reduceReplicate]
  refine callP_q (q_law01_farm _) ?_
  simp -implicitDefEqProofs (disch:=first|omega|(simp only [go_sem,seval,-List.reduceReplicate];first|done|omega)) only [go_sem,seval,-List.reduceReplicate]
  refine callP_q (aw5 _) ?_
  simp -implicitDefEqProofs (disch:=first|omega|(simp only [go_sem,seval,-List.reduceReplicate];first|done|omega)) only [go_sem,seval,-List.reduceReplicate]
  refine callP_q (q_law01_farm _) ?_
  simp -implicitDefEqProofs (disch:=first|omega|(simp only [go_sem,seval,-List.reduceReplicate];first|done|omega)) only [go_sem,seval,-List.reduceReplicate]
  refine callP_q (aw6 _) ?_
  simp -implicitDefEqProofs (disch:=first|omega|(simp only [go_sem,seval,-List.reduceReplicate,aw_turned];first|done|omega)) only [go_sem,seval,-List.reduceReplicate,aw_turned]
  refine callP_q (aw7 hS _) ?_
  simp -implicitDefEqProofs (disch:=first|omega|(simp only [go_sem,seval,-List.reduceReplicate,encPt_eq];first|done|omega)) only [go_sem,seval,-List.reduceReplicate,encPt_eq]
  refine callP_q (aw8 hS _) ?_
  simp -implicitDefEqProofs (disch:=first|omega|(simp only [go_sem,seval,-List.reduceReplicate,encPt_eq];first|done|omega)) only [go_sem,seval,-List.reduceReplicate,encPt_eq]
  refine callP_q (q_law01_wave _) ?_
  simp -implicitDefEqProofs (disch:=first|omega|(simp only [go_sem,seval,-List.reduceReplicate];first|done|omega)) only [go_sem,seval,-List.reduceReplicate]
  refine callP_q (aw9 _) ?_
  simp -implicitDefEqProofs (disch:=first|omega|(simp only [go_sem,seval,-List.reduceReplicate,encSt_eq];first|done|omega)) only [go_sem,seval,-List.reduceReplicate,encSt_eq]
  refine callP_q (q_law01_wave _) ?_
  simp -implicitDefEqProofs (disch:=first|omega|(simp only [go_sem,seval,-List.reduceReplicate];first|done|omega)) only [go_sem,seval,-List.reduceReplicate]
  refine callP_q (aw10 _) ?_
  simp -implicitDefEqProofs (disch:=first|omega|(simp only [go_sem,seval,-List.reduceReplicate];first|done|omega)) only [go_sem,seval,-List.reduceReplicate]
  refine callP_q (q_law01_wave _) ?_
  simp -implicitDefEqProofs (disch:=first|omega|(simp only [go_sem,seval,-List.reduceReplicate];first|done|omega)) only [go_sem,seval,-List.reduceReplicate]
  refine callP_q (aw11 _) ?_
  have hzI:=z408_I
  have hzl:(List.map PV.I z408).length = 408:=by rw [List.length_map];exact List.length_replicate
  have hzo:=ones_I z408
  have hzd:(List.map PV.I z408).drop 408 = []:=List.drop_of_length_le (by omega)
  generalize hZ:List.map PV.I z408 = Z at hzI hzl hzo hzd
  simp -implicitDefEqProofs (disch:=first|omega|(simp only [go_sem,seval,-List.reduceReplicate,hzI];first|done|omega)) only [go_sem,seval,-List.reduceReplicate,hzI]
  refine callP_q (aw12 _) ?_
  have hc:=cells_mk awRo_len
  have e12:encRs awRo = .agg (awRo.map PV.I):=rfl
  have h13:=aw13 (X:=X)
  rw [e12] at h13 ⊢
  have hcl:=hc.len
  have hct:=hc.tk
  have hco:=hc.one
  have k7:=at_cell r_7
  have k110:=at_cell r_110
  have h16:=aw16 (X:=X)
  rw [e12] at h16
  generalize awRo.map PV.I = cs at k7 k110 h16 hc hcl hct hco h13 ⊢
  have hcv:=hc.vw
  simp -implicitDefEqProofs (disch:=first|omega|(simp only [go_sem,seval,-List.reduceReplicate,hzI,hzl,hcl,hco,hct,hcv,hzd,putE_agg,List.append_nil];first|done|omega)) only [go_sem,seval,-List.reduceReplicate,hzI,hzl,hcl,hco,hct,hcv,hzd,putE_agg,List.append_nil]
  refine callP_q (h13 _) ?_
  have hc2:=cells_mk (r:=trnR awRo 1 8) (trnR_len awRo_len (Nat.le_refl _))
  have e13:encRs (trnR awRo 1 8) = .agg ((trnR awRo 1 8).map PV.I):=rfl
  rw [e13]
  have hcl2:=hc2.len
  have hct2:=hc2.tk
  have hco2:=hc2.one
  have hcv2:=hc2.vw
  have k109:=at_cell u_109
  have k212:=at_cell u_212
  generalize (trnR awRo 1 8).map PV.I = ds at k109 k212 hc2 hcl2 hct2 hco2 hcv2 ⊢
  simp -implicitDefEqProofs (disch:=first|omega|(simp only [go_sem,seval,-List.reduceReplicate,hzI,hzl,hcl2,hco2,hct2,hcv2,hzd,putE_agg,List.append_nil];first|done|omega)) only [go_sem,seval,-List.reduceReplicate,hzI,hzl,hcl2,hco2,hct2,hcv2,hzd,putE_agg,List.append_nil]
  refine callP_q (q_law01_farm _) ?_
  simp -implicitDefEqProofs (disch:=first|omega|(simp only [go_sem,seval,-List.reduceReplicate];first|done|omega)) only [go_sem,seval,-List.reduceReplicate]
  refine callP_q (aw14 hI hJ _) ?_
  simp -implicitDefEqProofs (disch:=first|omega|(simp only [go_sem,seval,-List.reduceReplicate];first|done|omega)) only [go_sem,seval,-List.reduceReplicate]
  refine callP_q (q_law01_wave _) ?_
  simp -implicitDefEqProofs (disch:=first|omega|(simp only [go_sem,seval,-List.reduceReplicate];first|done|omega)) only [go_sem,seval,-List.reduceReplicate]
  refine callP_q (aw15 hF _) ?_
  have hEl:=aw_e0
  have hE4:=aw_e4
  have hEs:=aw_es
  have hE29:=aw_e29
  have hE30:=aw_e30
  generalize encB waveS = eb at hEl hE4 hEs hE29 hE30 ⊢
  simp -implicitDefEqProofs (disch:=first|omega|(simp only [go_sem,seval,-List.reduceReplicate,aw_turned,hEl];first|done|omega)) only [go_sem,seval,-List.reduceReplicate,aw_turned,hEl]
  refine callP_q (same_self [⟨0,8⟩,⟨9,10⟩] (by decide) _) ?_
  simp -implicitDefEqProofs (disch:=first|omega|(simp only [go_sem,seval,-List.reduceReplicate,aw_turned,hEl];first|done|omega)) only [go_sem,seval,-List.reduceReplicate,aw_turned,hEl]
  refine callP_q (same_self [⟨0,10⟩] (by decide) _) ?_
  simp -implicitDefEqProofs (disch:=first|omega|(simp only [go_sem,seval,-List.reduceReplicate,aw_turned,hEl];first|done|omega)) only [go_sem,seval,-List.reduceReplicate,aw_turned,hEl]
  refine callP_q (same_self [⟨0,3⟩,⟨5,10⟩] (by decide) _) ?_
  have hfl:=aw_fl
  simp -implicitDefEqProofs (disch:=first|omega|(simp only [go_sem,seval,-List.reduceReplicate,aw_turned,hEl,hfl];first|done|omega)) only [go_sem,seval,-List.reduceReplicate,aw_turned,hEl,hfl]
  refine callP_q (same_self [⟨0,1⟩,⟨3,4⟩,⟨5,7⟩] (by decide) _) ?_
  simp -implicitDefEqProofs (disch:=first|omega|(simp only [go_sem,seval,-List.reduceReplicate,aw_turned,hEl,hfl];first|done|omega)) only [go_sem,seval,-List.reduceReplicate,aw_turned,hEl,hfl]
  refine callP_q (same_self [⟨5,7⟩] (by decide) _) ?_
  simp -implicitDefEqProofs (disch:=first|omega|(simp only [go_sem,seval,-List.reduceReplicate,aw_turned,hEl,hfl,k7,k110,k109,k212,hcl,hct,hcv,hcl2];first|done|omega)) only [go_sem,seval,-List.reduceReplicate,aw_turned,hEl,hfl,k7,k110,k109,k212,hcl,hct,hcv,hcl2]
  refine callP_q (h16 _) ?_
  simp -implicitDefEqProofs (disch:=first|omega|(simp only [go_sem,seval,-List.reduceReplicate,aw_turned,aw_print,hEl,hE4,hEs,hE29,hE30,hfl,k7,k110,k109,k212,hcl,hct,hcv,hcl2,hct2,bin_strEq];first|done|omega)) only [go_sem,seval,-List.reduceReplicate,aw_turned,aw_print,hEl,hE4,hEs,hE29,hE30,hfl,k7,k110,k109,k212,hcl,hct,hcv,hcl2,hct2,bin_strEq]
  (all_goals (first|refine post_fin ret_ok hM rfl ?_ ?_|refine post_fin0 ret_ok hM rfl ?_ ?_|refine post_fin normal_ok hM rfl ?_ ?_|refine post_fin0 normal_ok hM rfl ?_ ?_);all_goals first|(simp only [go_sem,seval,-List.reduceReplicate] <;> first|done|omega)|skip;all_goals (try simp -implicitDefEqProofs (disch:=first|omega|(simp only [go_sem,seval,-List.reduceReplicate];first|done|omega)) only [go_sem,seval,-List.reduceReplicate]))
theorem q_number (n e w v:Int) (h:(if w = 0 then e = 0 ∧ n = v else n = 0 ∧ e = w)):Q X 30 [.I n,.I e,.I w,.I v] (.B true):=by
  have:=q_law01_number (X:=X) n e w v
  have e1:(if w = 0 then decide (e = 0) && decide (n = v) else decide (n = 0) && decide (e = w)) = true:=by
    split at h
    · rename_i hw;rw [if_pos hw,decide_eq_true h.1,decide_eq_true h.2];rfl
    · rename_i hw;rw [if_neg hw,decide_eq_true h.1,decide_eq_true h.2];rfl
  rwa [e1] at this
def Fc:Prog
  | 148 => some c148
  | 149 => some c149
  | 168 => some c168
  | _ => none
abbrev Qc (f:FuncId) (args:List PV) (r:PV):Prop:=∀ M,ACall Fc (fun _ _ _ _ _ => False) (.fn f) args M r M
theorem qc_isNaN (x:Int):Qc 168 [.I x] (.B false):=by
  intro M
  (refine ACall_fn (cf:=L4.c168) rfl rfl fun hM hA => ?_;simp only [L4.c168,zO,zF,zT];rw [mk1 _ (by decide)];simp -implicitDefEqProofs (disch:=first|omega|(simp only [go_sem,seval];first|done|omega)) only [go_sem,seval])
  (all_goals (first|refine post_fin ret_ok hM rfl ?_ ?_|refine post_fin0 ret_ok hM rfl ?_ ?_|refine post_fin normal_ok hM rfl ?_ ?_|refine post_fin0 normal_ok hM rfl ?_ ?_);all_goals first|(simp only [go_sem,seval] <;> first|done|omega)|skip;all_goals (try simp -implicitDefEqProofs (disch:=first|omega|(simp only [go_sem,seval];first|done|omega)) only [go_sem,seval]))
  all_goals simp
theorem qc_Compare (x y:Int):Qc 149 [.I x,.I y] (.I (if x < y then -1 else if y < x then 1 else 0)):=by
  intro M
  (refine ACall_fn (cf:=L4.c149) rfl rfl fun hM hA => ?_;simp only [L4.c149,zO,zF,zT];rw [mk2 _ (by decide)];simp -implicitDefEqProofs (disch:=first|omega|(simp only [go_sem,seval];first|done|omega)) only [go_sem,seval])
  refine callP_q (qc_isNaN x _) ?_
  simp -implicitDefEqProofs (disch:=first|omega|(simp only [go_sem,seval];first|done|omega)) only [go_sem,seval]
  refine callP_q (qc_isNaN y _) ?_
  simp -implicitDefEqProofs (disch:=first|omega|(simp only [go_sem,seval];first|done|omega)) only [go_sem,seval]
  by_cases h1:x < y
  · simp -implicitDefEqProofs (disch:=first|omega|(simp only [go_sem,seval,h1];first|done|omega)) only [go_sem,seval,h1]
    (all_goals (first|refine post_fin ret_ok hM rfl ?_ ?_|refine post_fin0 ret_ok hM rfl ?_ ?_|refine post_fin normal_ok hM rfl ?_ ?_|refine post_fin0 normal_ok hM rfl ?_ ?_);all_goals first|(simp only [go_sem,seval] <;> first|done|omega)|skip;all_goals (try simp -implicitDefEqProofs (disch:=first|omega|(simp only [go_sem,seval];first|done|omega)) only [go_sem,seval]))
  · by_cases h2:y < x
    · simp -implicitDefEqProofs (disch:=first|omega|(simp only [go_sem,seval,h1,h2];first|done|omega)) only [go_sem,seval,h1,h2]
      (all_goals (first|refine post_fin ret_ok hM rfl ?_ ?_|refine post_fin0 ret_ok hM rfl ?_ ?_|refine post_fin normal_ok hM rfl ?_ ?_|refine post_fin0 normal_ok hM rfl ?_ ?_);all_goals first|(simp only [go_sem,seval] <;> first|done|omega)|skip;all_goals (try simp -implicitDefEqProofs (disch:=first|omega|(simp only [go_sem,seval];first|done|omega)) only [go_sem,seval]))
    · simp -implicitDefEqProofs (disch:=first|omega|(simp only [go_sem,seval,h1,h2];first|done|omega)) only [go_sem,seval,h1,h2]
      (all_goals (first|refine post_fin ret_ok hM rfl ?_ ?_|refine post_fin0 ret_ok hM rfl ?_ ?_|refine post_fin normal_ok hM rfl ?_ ?_|refine post_fin0 normal_ok hM rfl ?_ ?_);all_goals first|(simp only [go_sem,seval] <;> first|done|omega)|skip;all_goals (try simp -implicitDefEqProofs (disch:=first|omega|(simp only [go_sem,seval];first|done|omega)) only [go_sem,seval]))
theorem qc_canon (x y:Spn):Qc 148 [encSpn x,encSpn y] (.I (spnCmp x y)):=by
  intro M
  (refine ACall_fn (cf:=L4.c148) rfl rfl fun hM hA => ?_;simp only [L4.c148,zO,zF,zT];rw [mk2 _ (by decide)];simp -implicitDefEqProofs (disch:=first|omega|(simp only [go_sem,seval,encSpn_eq];first|done|omega)) only [go_sem,seval,encSpn_eq])
  refine callP_q (qc_Compare x.fr y.fr _) ?_
  have e:spnCmp x y = if x.fr < y.fr then -1 else if y.fr < x.fr then 1 else 0:=rfl
  rw [e]
  simp -implicitDefEqProofs (disch:=first|omega|(simp only [go_sem,seval];first|done|omega)) only [go_sem,seval]
  (all_goals (first|refine post_fin ret_ok hM rfl ?_ ?_|refine post_fin0 ret_ok hM rfl ?_ ?_|refine post_fin normal_ok hM rfl ?_ ?_|refine post_fin0 normal_ok hM rfl ?_ ?_);all_goals first|(simp only [go_sem,seval] <;> first|done|omega)|skip;all_goals (try simp -implicitDefEqProofs (disch:=first|omega|(simp only [go_sem,seval];first|done|omega)) only [go_sem,seval]))
theorem q_ref01_CheckRose (r:Rse) (hl:r.length = 408):Q X 56 [encRs r] (.I (chkRse r)):=by
  have hc:=cells_mk hl
  have e:encRs r = .agg (r.map .I):=rfl
  rw [e]
  clear e
  generalize r.map PV.I = cs at hc ⊢
  generalize (fun k => (blk r k).map PV.I) = bk at hc
  intro M
  have hcl:=hc.len
  have hct:=hc.tk
  have hvw:=hc.vw
  (refine ACall_fn (cf:=L4.c56) rfl rfl fun hM hA => ?_;simp only [L4.c56,zO,zF,zT];rw [mk1 _ (by decide)];simp -implicitDefEqProofs (disch:=first|omega|(simp only [go_sem,seval,-List.reduceReplicate,hcl,hct,hvw];first|done|omega)) only [go_sem,seval,-List.reduceReplicate,hcl,hct,hvw])
  refine loop_mk (α:=Nat) 0 (fun k => k ≤ 8 ∧ chkRse r = fst0 ((r.map fun n => rng n 0 40000).drop (k * 51))) (fun _ => M) (fun k => [(1,.fp cs),(3,.I k)]) (fun k => 8 - k) ⟨by decide,by simp [chkRse]⟩ rfl rfl ?_
  rintro k ⟨hk,hs⟩
  by_cases hlt:k < 8
  case neg =>
    have f1:((k:Int) < 8) = False:=eq_false (by omega)
    simp -implicitDefEqProofs (disch:=first|omega|(simp only [go_sem,seval,-List.reduceReplicate,f1];first|done|omega)) only [go_sem,seval,-List.reduceReplicate,f1]
    (first|refine post_fin ret_ok hM rfl ?_ ?_|refine post_fin0 ret_ok hM rfl ?_ ?_|refine post_fin normal_ok hM rfl ?_ ?_|refine post_fin0 normal_ok hM rfl ?_ ?_)
    · simp -implicitDefEqProofs (disch:=first|omega|(simp only [go_sem,seval,-List.reduceReplicate];first|done|omega)) only [go_sem,seval,-List.reduceReplicate]
      rw [hs,List.drop_of_length_le (by rw [List.length_map,hl];omega)];rfl
    · (simp only [go_sem,seval,-List.reduceReplicate] <;> first|done|omega)
  have f1:((k:Int) < 8) = True:=eq_true (by omega)
  have f1':(k < 8) = True:=eq_true hlt
  have hdr:=hc.drop k hlt
  have hbl:=hc.blen k hlt
  simp -implicitDefEqProofs (disch:=first|omega|(simp only [go_sem,seval,-List.reduceReplicate,f1];first|done|omega)) only [go_sem,seval,-List.reduceReplicate,f1]
  refine loop_mk (α:=Nat) 0 (fun v => v ≤ 51 ∧ chkRse r = fst0 ((r.map fun n => rng n 0 40000).drop (k * 51 + v))) (fun _ => M) (fun v => [(1,.fp cs),(3,.I k),(4,.I v)]) (fun v => 51 - v) ⟨by decide,hs⟩ rfl rfl ?_
  rintro v ⟨hv,hs2⟩
  by_cases hvl:v < 51
  · have f2:((v:Int) ≤ 50) = True:=eq_true (by omega)
    have f2':(v < 51) = True:=eq_true hvl
    obtain ⟨x,hx⟩:∃ x,r[k * 51 + v]? = some x:=⟨_,List.getElem?_eq_getElem (by omega)⟩
    have hd:=fst0_drop (r.map fun n => rng n 0 40000) (k * 51 + v) (rng x 0 40000) (by rw [List.getElem?_map,hx];rfl)
    have hbg:=hc.bget k v x hlt hvl hx
    have hb1:((bk k).drop v).take 1 = [PV.I x]:=by
      obtain ⟨q1,q2⟩:=List.getElem?_eq_some_iff.1 hbg
      rw [List.drop_eq_getElem_cons q1,q2];rfl
    simp -implicitDefEqProofs (disch:=first|omega|(simp only [go_sem,seval,-List.reduceReplicate,f1,f1',f2,f2',hcl,hdr,hbl,hb1,Nat.mul_one];first|done|omega)) only [go_sem,seval,-List.reduceReplicate,f1,f1',f2,f2',hcl,hdr,hbl,hb1,Nat.mul_one]
    refine callP_q (q_ref01_CheckRange _ _ _ _) ?_
    by_cases hg:rng x 0 40000 = 0
    · rw [if_pos hg] at hd
      simp -implicitDefEqProofs (disch:=first|omega|(simp only [go_sem,seval,-List.reduceReplicate,hg];first|done|omega)) only [go_sem,seval,-List.reduceReplicate,hg]
      exact again' (v + 1) ⟨by omega,by rw [hs2,hd];rfl⟩ (by omega) rfl rfl
    · rw [if_neg hg] at hd
      have h3:=(rng_cases x 0 40000).resolve_left hg
      simp -implicitDefEqProofs (disch:=first|omega|(simp only [go_sem,seval,-List.reduceReplicate,hg];first|done|omega)) only [go_sem,seval,-List.reduceReplicate,hg]
      (first|refine post_fin ret_ok hM rfl ?_ ?_|refine post_fin0 ret_ok hM rfl ?_ ?_|refine post_fin normal_ok hM rfl ?_ ?_|refine post_fin0 normal_ok hM rfl ?_ ?_)
      · simp -implicitDefEqProofs (disch:=first|omega|(simp only [go_sem,seval,-List.reduceReplicate];first|done|omega)) only [go_sem,seval,-List.reduceReplicate]
        rw [hs2,hd,h3]
      · (simp only [go_sem,seval,-List.reduceReplicate] <;> first|done|omega)
  have f2:((v:Int) ≤ 50) = False:=eq_false (by omega)
  have hv51:v = 51:=by omega
  subst hv51
  simp -implicitDefEqProofs (disch:=first|omega|(simp only [go_sem,seval,-List.reduceReplicate,f2];first|done|omega)) only [go_sem,seval,-List.reduceReplicate,f2]
  exact again' (k + 1) ⟨by omega,by rw [hs2,Nat.succ_mul]⟩ (by omega) rfl rfl
theorem q_ref01_TurnRose (r:Rse) (n:Nat) (hn:n ≤ 3) (hl:r.length = 408):Q X 60 [encRs r,.I n] (encRs (trnR r n 8)):=by
  have hc:=cells_mk hl
  have ht:=tells_mk hl n
  have e1:encRs r = .agg (r.map .I):=rfl
  have e2:encRs (trnR r n 8) = .agg ((fun k => (trnR r n k).map PV.I) 8):=rfl
  have e3:(fun k => (trnR r n k).map PV.I) 0 = List.map PV.I z408:=rfl
  rw [e1,e2]
  clear e1 e2
  generalize r.map PV.I = cs at hc ⊢
  generalize (fun k => (blk r k).map PV.I) = bk at hc ht
  generalize (fun k => (trnR r n k).map PV.I) = tk at ht e3 ⊢
  intro M
  have hcl:=hc.len
  have hct:=hc.tk
  have hvw:=hc.vw
  have hzI:=z408_I
  have hzl:(List.map PV.I z408).length = 408:=by rw [List.length_map];exact List.length_replicate
  have hzo:=ones_I z408
  have hzw:=fun m:Nat => encI_lowm (n:=m) z408
  generalize hZ:List.map PV.I z408 = Z at hzI hzl hzo hzw e3
  have hzd:Z.drop 408 = []:=List.drop_of_length_le (by omega)
  (refine ACall_fn (cf:=L4.c60) rfl rfl fun hM hA => ?_;simp only [L4.c60,zO,zF,zT];rw [mk2 _ (by decide)];simp -implicitDefEqProofs (disch:=first|omega|(simp only [go_sem,seval,-List.reduceReplicate,hzI,hcl,hct,hvw,hzl];first|done|omega)) only [go_sem,seval,-List.reduceReplicate,hzI,hcl,hct,hvw,hzl])
  refine loop_mk (α:=Nat) 0 (fun k => k ≤ 8) (fun k => M ++ [.row true 408 0 [.agg Z],.row true 408 0 [.agg (tk k)]]) (fun k => [(1,.I n),(2,.fp cs),(4,.op M.length 0 0 0),(5,.op (M.length + 1) 0 0 0),(6,.I k)]) (fun k => 8 - k) (by decide) (by rw [e3]) rfl ?_
  intro k hk
  have htw:=ht.low
  have htl:=ht.len k hk
  have hto:=ht.one k
  have htv:=ht.vw
  by_cases hlt:k < 8
  case neg =>
    have f1:((k:Int) < 8) = False:=eq_false (by omega)
    have hk8:k = 8:=by omega
    subst hk8
    have htk:(tk 8).take 408 = tk 8:=List.take_of_length_le (by omega)
    have hto2:=ht.ow 8
    simp -implicitDefEqProofs (disch:=first|omega|(simp only [go_sem,seval,-List.reduceReplicate,f1,htl,hto,htv,htk,putE_agg,hzl,hzd,List.append_nil];first|done|omega)) only [go_sem,seval,-List.reduceReplicate,f1,htl,hto,htv,htk,putE_agg,hzl,hzd,List.append_nil]
    (first|refine post_fin ret_ok hM rfl ?_ ?_|refine post_fin0 ret_ok hM rfl ?_ ?_|refine post_fin normal_ok hM rfl ?_ ?_|refine post_fin0 normal_ok hM rfl ?_ ?_)
    · simp -implicitDefEqProofs (disch:=first|omega|(simp only [go_sem,seval,-List.reduceReplicate,htk,hto2];first|done|omega)) only [go_sem,seval,-List.reduceReplicate,htk,hto2]
    · (simp only [go_sem,seval,-List.reduceReplicate,htw,htk,hto2] <;> first|done|omega)
  have f1:((k:Int) < 8) = True:=eq_true (by omega)
  have f1':(k < 8) = True:=eq_true hlt
  have hdr:=hc.drop k hlt
  have hbl:=hc.blen k hlt
  have hbt:=hc.btk k hlt
  have hbo:=hc.bone k
  have hbb:=hc.bvw k
  have hstp:=ht.stp k hlt
  unfold setRange at hstp
  rw [hbl,List.append_assoc] at hstp
  have h8:(k + 2 * n) % 8 < 8:=Nat.mod_lt _ (by decide)
  have f80:((8:Int) = 0) = False:=by decide
  have h2n:(2:Int) * n = ((2 * n:Nat):Int):=by omega
  have hmd:Int.tmod ((k:Int) + 2 * (n:Int)) 8 = (((k + 2 * n) % 8:Nat):Int):=by
    rw [h2n,← Int.natCast_add];rfl
  have h8t:((k + 2 * n) % 8 < 8) = True:=eq_true h8
  have hlen2:((k + 2 * n) % 8 * 51 + 51 ≤ 408) = True:=eq_true (by omega)
  simp -implicitDefEqProofs (disch:=first|omega|(simp only [go_sem,seval,-List.reduceReplicate,f1,f1',hcl,hdr,hbl,hbt,hbo,hbb,htl,hto,putE_agg,f80,hmd,h8t,hlen2,hstp];first|done|omega)) only [go_sem,seval,-List.reduceReplicate,f1,f1',hcl,hdr,hbl,hbt,hbo,hbb,htl,hto,putE_agg,f80,hmd,h8t,hlen2,hstp]
  exact again' (k + 1) (by omega) (by omega) rfl rfl
theorem q_site_Quarters (r:Rse) (hl:r.length = 408):Q X 59 [encRs r] (.tup [.I (if chkRse r = 0 then sumR r 408 else 0),.I (chkRse r)]):=by
  have hC:=q_site_CheckRose (X:=X) r hl
  have h0i:=fun (h:chkRse r = 0) (i:Nat) (x:Int) (hx:r[i]? = some x) => chkRse_in h hx
  have h0b:=fun (h:chkRse r = 0) (i:Nat) (hi:i ≤ r.length) => sumR_bd h hi
  generalize chkRse r = e at hC h0i h0b ⊢
  have hc:=cells_mk hl
  have e1:encRs r = .agg (r.map .I):=rfl
  rw [e1] at hC ⊢
  clear e1
  generalize r.map PV.I = cs at hc hC ⊢
  generalize (fun k => (blk r k).map PV.I) = bk at hc
  intro M
  have h51:(List.replicate 51 (Value.int .i64 0)).length = 51:=List.length_replicate
  generalize hz5:List.replicate 51 (Value.int .i64 0) = z5 at h51
  have h5d:(List.map PV.s z5).drop 51 = []:=List.drop_of_length_le (by rw [List.length_map,h51];omega)
  have hcl:=hc.len
  have hct:=hc.tk
  have hvw:=hc.vw
  (refine ACall_fn (cf:=L4.c59) rfl rfl fun hM hA => ?_;simp only [L4.c59,zO,zF,zT];rw [mk1 _ (by decide)];simp -implicitDefEqProofs (disch:=first|omega|(simp only [go_sem,seval,-List.reduceReplicate,hz5,hcl,hct,hvw];first|done|omega)) only [go_sem,seval,-List.reduceReplicate,hz5,hcl,hct,hvw])
  refine callP_q (hC _) ?_
  by_cases h0:e = 0
  case neg =>
    rw [if_neg h0]
    simp -implicitDefEqProofs (disch:=first|omega|(simp only [go_sem,seval,-List.reduceReplicate,h0];first|done|omega)) only [go_sem,seval,-List.reduceReplicate,h0]
    (all_goals (first|refine post_fin ret_ok hM rfl ?_ ?_|refine post_fin0 ret_ok hM rfl ?_ ?_|refine post_fin normal_ok hM rfl ?_ ?_|refine post_fin0 normal_ok hM rfl ?_ ?_);all_goals first|(simp only [go_sem,seval,-List.reduceReplicate] <;> first|done|omega)|skip;all_goals (try simp -implicitDefEqProofs (disch:=first|omega|(simp only [go_sem,seval,-List.reduceReplicate];first|done|omega)) only [go_sem,seval,-List.reduceReplicate]))
  subst h0
  rw [if_pos rfl]
  simp -implicitDefEqProofs (disch:=first|omega|(simp only [go_sem,seval,-List.reduceReplicate,hcl,hct];first|done|omega)) only [go_sem,seval,-List.reduceReplicate,hcl,hct]
  refine loop_mk (α:=Nat) 0 (fun k => k ≤ 8) (fun _ => M) (fun k => [(5,.I (sumR r (k * 51))),(15,.agg cs),(16,.I k)]) (fun k => 8 - k) (by decide) rfl rfl ?_
  intro k hk
  by_cases hlt:k < 8
  case neg =>
    have f1:((k:Int) < 8) = False:=eq_false (by omega)
    have hk8:k = 8:=by omega
    subst hk8
    simp -implicitDefEqProofs (disch:=first|omega|(simp only [go_sem,seval,-List.reduceReplicate,f1];first|done|omega)) only [go_sem,seval,-List.reduceReplicate,f1]
    (all_goals (first|refine post_fin ret_ok hM rfl ?_ ?_|refine post_fin0 ret_ok hM rfl ?_ ?_|refine post_fin normal_ok hM rfl ?_ ?_|refine post_fin0 normal_ok hM rfl ?_ ?_);all_goals first|(simp only [go_sem,seval,-List.reduceReplicate] <;> first|done|omega)|skip;all_goals (try simp -implicitDefEqProofs (disch:=first|omega|(simp only [go_sem,seval,-List.reduceReplicate];first|done|omega)) only [go_sem,seval,-List.reduceReplicate]))
  have f1:((k:Int) < 8) = True:=eq_true (by omega)
  have hix:=hc.idx k hlt
  have hbl:=hc.blen k hlt
  have hbt:=hc.btk k hlt
  have hbo:=hc.bone k
  have hbb:=hc.bvw k
  simp -implicitDefEqProofs (disch:=first|omega|(simp only [go_sem,seval,-List.reduceReplicate,f1,hix,hz5,h51,hbl,hbt,hbo,hbb,putE_agg,List.length_map,h5d,List.append_nil];first|done|omega)) only [go_sem,seval,-List.reduceReplicate,f1,hix,hz5,h51,hbl,hbt,hbo,hbb,putE_agg,List.length_map,h5d,List.append_nil]
  refine loop_mk (α:=Nat) 0 (fun v => v ≤ 51) (fun _ => M ++ [.row true 51 0 [.agg (bk k)]]) (fun v => [(5,.I (sumR r (k * 51 + v))),(15,.agg cs),(16,.I k),(19,.agg (bk k)),(20,.I v)]) (fun v => 51 - v) (by decide) rfl rfl ?_
  intro v hv
  by_cases hvl:v < 51
  · have f2:((v:Int) < 51) = True:=eq_true (by omega)
    obtain ⟨x,hx⟩:∃ x,r[k * 51 + v]? = some x:=⟨_,List.getElem?_eq_getElem (by omega)⟩
    have hbi:=hc.bidx k v x hlt hvl hx
    have hxb:=h0i rfl _ _ hx
    have hsb:=h0b rfl (k * 51 + v) (by omega)
    have hss:=sumR_snoc hx
    simp -implicitDefEqProofs (disch:=first|omega|(simp only [go_sem,seval,-List.reduceReplicate,f2,hbi];first|done|omega)) only [go_sem,seval,-List.reduceReplicate,f2,hbi]
    exact again' (v + 1) (by omega) (by omega) rfl (by rw [← Nat.add_assoc,hss];rfl)
  have f2:((v:Int) < 51) = False:=eq_false (by omega)
  have hv51:v = 51:=by omega
  subst hv51
  have hlo:=hc.low
  have hbw:=hc.blow
  simp -implicitDefEqProofs (disch:=first|omega|(simp only [go_sem,seval,-List.reduceReplicate,f2];first|done|omega)) only [go_sem,seval,-List.reduceReplicate,f2]
  refine Wp_cut_at hM rfl 0 (by simp) (by first|done|(simp only [go_sem,seval,-List.reduceReplicate,hlo,hbw] <;> first|done|(refine ⟨?_,?_⟩ <;> omega)|omega)) (lowL_mk (by first|done|(simp only [go_sem,seval,-List.reduceReplicate,hlo,hbw] <;> first|done|(refine ⟨?_,?_⟩ <;> omega)|omega))) ?_
  simp -implicitDefEqProofs (disch:=first|omega|(simp only [go_sem,seval,-List.reduceReplicate];first|done|omega)) only [go_sem,seval,-List.reduceReplicate]
  exact again' (k + 1) (by omega) (by omega) rfl (by rw [Nat.succ_mul];rfl)
theorem q_law01_SiteRoses (hW:Q X 17 [] (.B true)) (r:Rse) (q:Int) (hl:r.length = 408):Q X 8 [encRs r,.I q] (.B true):=by
  have hT:=q_site_TurnRose (X:=X) r q hl
  have hQ:=q_site_Quarters (X:=X) r hl
  have hC:=q_ref01_CheckRose (X:=X) r hl
  have hD:=q_site_CheckRose (X:=X) r hl
  have hR:=fun h => q_ref01_Quarters (X:=X) r hl h
  have hq:=q_law01_first (X:=X) [chkRse r,rng q 0 3] (by simp)
  have hz:trnE r q = 0 → chkRse r = 0 ∧ rng q 0 3 = 0:=fst0_two
  have e:trnE r q = fst0 [chkRse r,rng q 0 3]:=rfl
  rw [← e] at hq
  clear e
  have hN:trnE r q = 0 → Q X 60 [encRs r,.I q] (encRs (trnR r q.toNat 8)):=by
    intro h
    have h3:=rng_ok.1 (hz h).2
    obtain ⟨n,rfl⟩:∃ n:Nat,q = n:=⟨q.toNat,by omega⟩
    exact q_ref01_TurnRose r n (by omega) hl
  have hv:=rng_cases q 0 3
  generalize trnE r q = e at hT hq hz hN
  generalize chkRse r = c at hQ hC hD hR hq hz
  generalize sumR r 408 = sm at hQ hR
  have hc:=cells_mk hl
  have e1:encRs r = .agg (r.map .I):=rfl
  rw [e1] at hT hQ hC hD hR hN ⊢
  clear e1
  generalize r.map PV.I = cs at hT hQ hC hD hR hN hc ⊢
  have htl:trnR r q.toNat 8 = trnR r q.toNat 8:=rfl
  have hct2:=cells_mk (r:=trnR r q.toNat 8) (trnR_len hl (Nat.le_refl _))
  have hcz:=cells_mk (r:=z408) List.length_replicate
  have hzI:=z408_I
  have e2:encRs (trnR r q.toNat 8) = .agg ((trnR r q.toNat 8).map .I):=rfl
  have e3:encRs z408 = .agg (z408.map .I):=rfl
  have hq1:=hct2.eq (trnR r q.toNat 8) (trnR_len hl (Nat.le_refl _))
  have hq0:=hcz.eq z408 List.length_replicate
  rw [decide_eq_true rfl] at hq1 hq0
  rw [e2] at hN
  have hT':Q X 58 [.agg cs,.I q] (.tup [.agg (if e = 0 then (trnR r q.toNat 8).map .I else z408.map .I),.I e]):=by
    by_cases h:e = 0
    · rw [if_pos h] at hT ⊢;exact hT
    · rw [if_neg h] at hT ⊢;exact hT
  clear hT e2 e3
  generalize (trnR r q.toNat 8).map PV.I = ts at hT' hN hct2 hq1
  generalize z408.map PV.I = Z at hT' hcz hzI hq0
  clear htl
  intro M
  have hcl:=hc.len
  have hctk:=hc.tk
  have hvw:=hc.vw
  have tl:=hct2.len
  have tt:=hct2.tk
  have to:=hct2.one
  have tv:=hct2.vw
  have zl:=hcz.len
  have zt:=hcz.tk
  have zo:=hcz.one
  have zv:=hcz.vw
  have td:ts.drop 408 = []:=List.drop_of_length_le (by omega)
  have zd:Z.drop 408 = []:=List.drop_of_length_le (by omega)
  (refine ACall_fn (cf:=L4.c8) rfl rfl fun hM hA => ?_;simp only [L4.c8,zO,zF,zT];rw [mk2 _ (by decide)];simp -implicitDefEqProofs (disch:=first|omega|(simp only [go_sem,seval,-List.reduceReplicate,hzI,hcl,hctk,hvw];first|done|omega)) only [go_sem,seval,-List.reduceReplicate,hzI,hcl,hctk,hvw])
  refine callP_q (hT' _) ?_
  by_cases h0:e = 0
  · obtain ⟨g1,g2⟩:=hz h0
    subst h0
    rw [if_pos rfl]
    rw [g1] at hQ hC hD hq
    rw [if_pos rfl] at hQ
    rw [g2] at hq
    simp -implicitDefEqProofs (disch:=first|omega|(simp only [go_sem,seval,-List.reduceReplicate,hzI,hcl,hctk,hvw,tl,tt,to,tv,td,zl,zo,zd,putE_agg,List.append_nil];first|done|omega)) only [go_sem,seval,-List.reduceReplicate,hzI,hcl,hctk,hvw,tl,tt,to,tv,td,zl,zo,zd,putE_agg,List.append_nil]
    refine callP_q (hQ _) ?_
    simp -implicitDefEqProofs (disch:=first|omega|(simp only [go_sem,seval,-List.reduceReplicate,hcl,hctk,hvw];first|done|omega)) only [go_sem,seval,-List.reduceReplicate,hcl,hctk,hvw]
    refine callP_q (hC _) ?_
    simp -implicitDefEqProofs (disch:=first|omega|(simp only [go_sem,seval,-List.reduceReplicate,hcl,hctk,hvw];first|done|omega)) only [go_sem,seval,-List.reduceReplicate,hcl,hctk,hvw]
    refine callP_q (q_ref01_CheckRange _ _ _ _) ?_
    simp -implicitDefEqProofs (disch:=first|omega|(simp only [go_sem,seval,-List.reduceReplicate,g2];first|done|omega)) only [go_sem,seval,-List.reduceReplicate,g2]
    refine callP_q (hq _) ?_
    simp -implicitDefEqProofs (disch:=first|omega|(simp only [go_sem,seval,-List.reduceReplicate,hzI,hcl,hctk,hvw];first|done|omega)) only [go_sem,seval,-List.reduceReplicate,hzI,hcl,hctk,hvw]
    refine callP_q (hN rfl _) ?_
    simp -implicitDefEqProofs (disch:=first|omega|(simp only [go_sem,seval,-List.reduceReplicate,hcl,hctk,hvw,tl,tt,to,tv,td,zl,zo,zd,putE_agg,List.append_nil];first|done|omega)) only [go_sem,seval,-List.reduceReplicate,hcl,hctk,hvw,tl,tt,to,tv,td,zl,zo,zd,putE_agg,List.append_nil]
    refine callP_q (hR g1 _) ?_
    simp -implicitDefEqProofs (disch:=first|omega|(simp only [go_sem,seval,-List.reduceReplicate,hcl,hctk,hvw];first|done|omega)) only [go_sem,seval,-List.reduceReplicate,hcl,hctk,hvw]
    refine callP_q (hD _) ?_
    simp -implicitDefEqProofs (disch:=first|omega|(simp only [go_sem,seval,-List.reduceReplicate,hcl,hctk,hvw,tl,tt,to,tv,td,zl,zo,zd,eqsV_agg,hq1];first|done|omega)) only [go_sem,seval,-List.reduceReplicate,hcl,hctk,hvw,tl,tt,to,tv,td,zl,zo,zd,eqsV_agg,hq1]
    refine callP_q (q_number _ 0 0 _ (by simp) _) ?_
    simp -implicitDefEqProofs (disch:=first|omega|(simp only [go_sem,seval,-List.reduceReplicate];first|done|omega)) only [go_sem,seval,-List.reduceReplicate]
    refine callP_q (hW _) ?_
    simp -implicitDefEqProofs (disch:=first|omega|(simp only [go_sem,seval,-List.reduceReplicate];first|done|omega)) only [go_sem,seval,-List.reduceReplicate]
    (all_goals (first|refine post_fin ret_ok hM rfl ?_ ?_|refine post_fin0 ret_ok hM rfl ?_ ?_|refine post_fin normal_ok hM rfl ?_ ?_|refine post_fin0 normal_ok hM rfl ?_ ?_);all_goals first|(simp only [go_sem,seval,-List.reduceReplicate] <;> first|done|omega)|skip;all_goals (try simp -implicitDefEqProofs (disch:=first|omega|(simp only [go_sem,seval,-List.reduceReplicate];first|done|omega)) only [go_sem,seval,-List.reduceReplicate]))
  rw [if_neg h0]
  by_cases hc0:c = 0
  · subst hc0
    rw [if_pos rfl] at hQ
    simp -implicitDefEqProofs (disch:=first|omega|(simp only [go_sem,seval,-List.reduceReplicate,hzI,hcl,hctk,hvw,zl,zt,zo,zv,zd,putE_agg,List.append_nil];first|done|omega)) only [go_sem,seval,-List.reduceReplicate,hzI,hcl,hctk,hvw,zl,zt,zo,zv,zd,putE_agg,List.append_nil]
    refine callP_q (hQ _) ?_
    simp -implicitDefEqProofs (disch:=first|omega|(simp only [go_sem,seval,-List.reduceReplicate,hcl,hctk,hvw];first|done|omega)) only [go_sem,seval,-List.reduceReplicate,hcl,hctk,hvw]
    refine callP_q (hC _) ?_
    simp -implicitDefEqProofs (disch:=first|omega|(simp only [go_sem,seval,-List.reduceReplicate,hcl,hctk,hvw];first|done|omega)) only [go_sem,seval,-List.reduceReplicate,hcl,hctk,hvw]
    refine callP_q (q_ref01_CheckRange _ _ _ _) ?_
    simp -implicitDefEqProofs (disch:=first|omega|(simp only [go_sem,seval,-List.reduceReplicate];first|done|omega)) only [go_sem,seval,-List.reduceReplicate]
    refine callP_q (hq _) ?_
    simp -implicitDefEqProofs (disch:=first|omega|(simp only [go_sem,seval,-List.reduceReplicate,hzI,hcl,hctk,hvw,h0];first|done|omega)) only [go_sem,seval,-List.reduceReplicate,hzI,hcl,hctk,hvw,h0]
    refine callP_q (hR rfl _) ?_
    simp -implicitDefEqProofs (disch:=first|omega|(simp only [go_sem,seval,-List.reduceReplicate,hcl,hctk,hvw];first|done|omega)) only [go_sem,seval,-List.reduceReplicate,hcl,hctk,hvw]
    refine callP_q (hD _) ?_
    simp -implicitDefEqProofs (disch:=first|omega|(simp only [go_sem,seval,-List.reduceReplicate,hcl,hctk,hvw,zl,zt,zo,zv,zd,eqsV_agg,hq0];first|done|omega)) only [go_sem,seval,-List.reduceReplicate,hcl,hctk,hvw,zl,zt,zo,zv,zd,eqsV_agg,hq0]
    refine callP_q (q_number _ 0 0 _ (by simp) _) ?_
    simp -implicitDefEqProofs (disch:=first|omega|(simp only [go_sem,seval,-List.reduceReplicate];first|done|omega)) only [go_sem,seval,-List.reduceReplicate]
    refine callP_q (hW _) ?_
    simp -implicitDefEqProofs (disch:=first|omega|(simp only [go_sem,seval,-List.reduceReplicate];first|done|omega)) only [go_sem,seval,-List.reduceReplicate]
    (all_goals (first|refine post_fin ret_ok hM rfl ?_ ?_|refine post_fin0 ret_ok hM rfl ?_ ?_|refine post_fin normal_ok hM rfl ?_ ?_|refine post_fin0 normal_ok hM rfl ?_ ?_);all_goals first|(simp only [go_sem,seval,-List.reduceReplicate] <;> first|done|omega)|skip;all_goals (try simp -implicitDefEqProofs (disch:=first|omega|(simp only [go_sem,seval,-List.reduceReplicate];first|done|omega)) only [go_sem,seval,-List.reduceReplicate]))
  rw [if_neg hc0] at hQ
  simp -implicitDefEqProofs (disch:=first|omega|(simp only [go_sem,seval,-List.reduceReplicate,hzI,hcl,hctk,hvw,zl,zt,zo,zv,zd,putE_agg,List.append_nil];first|done|omega)) only [go_sem,seval,-List.reduceReplicate,hzI,hcl,hctk,hvw,zl,zt,zo,zv,zd,putE_agg,List.append_nil]
  refine callP_q (hQ _) ?_
  simp -implicitDefEqProofs (disch:=first|omega|(simp only [go_sem,seval,-List.reduceReplicate,hcl,hctk,hvw];first|done|omega)) only [go_sem,seval,-List.reduceReplicate,hcl,hctk,hvw]
  refine callP_q (hC _) ?_
  simp -implicitDefEqProofs (disch:=first|omega|(simp only [go_sem,seval,-List.reduceReplicate,hcl,hctk,hvw];first|done|omega)) only [go_sem,seval,-List.reduceReplicate,hcl,hctk,hvw]
  refine callP_q (q_ref01_CheckRange _ _ _ _) ?_
  simp -implicitDefEqProofs (disch:=first|omega|(simp only [go_sem,seval,-List.reduceReplicate];first|done|omega)) only [go_sem,seval,-List.reduceReplicate]
  refine callP_q (hq _) ?_
  simp -implicitDefEqProofs (disch:=first|omega|(simp only [go_sem,seval,-List.reduceReplicate,hzI,hcl,hctk,hvw,h0,hc0];first|done|omega)) only [go_sem,seval,-List.reduceReplicate,hzI,hcl,hctk,hvw,h0,hc0]
  refine callP_q (hD _) ?_
  simp -implicitDefEqProofs (disch:=first|omega|(simp only [go_sem,seval,-List.reduceReplicate,hcl,hctk,hvw,zl,zt,zo,zv,zd,eqsV_agg,hq0];first|done|omega)) only [go_sem,seval,-List.reduceReplicate,hcl,hctk,hvw,zl,zt,zo,zv,zd,eqsV_agg,hq0]
  refine callP_q (q_number 0 c c 0 (by simp [hc0]) _) ?_
  simp -implicitDefEqProofs (disch:=first|omega|(simp only [go_sem,seval,-List.reduceReplicate];first|done|omega)) only [go_sem,seval,-List.reduceReplicate]
  refine callP_q (hW _) ?_
  simp -implicitDefEqProofs (disch:=first|omega|(simp only [go_sem,seval,-List.reduceReplicate];first|done|omega)) only [go_sem,seval,-List.reduceReplicate]
  (all_goals (first|refine post_fin ret_ok hM rfl ?_ ?_|refine post_fin0 ret_ok hM rfl ?_ ?_|refine post_fin normal_ok hM rfl ?_ ?_|refine post_fin0 normal_ok hM rfl ?_ ?_);all_goals first|(simp only [go_sem,seval,-List.reduceReplicate] <;> first|done|omega)|skip;all_goals (try simp -implicitDefEqProofs (disch:=first|omega|(simp only [go_sem,seval,-List.reduceReplicate];first|done|omega)) only [go_sem,seval,-List.reduceReplicate]))
end
end Go.Nac.L4
