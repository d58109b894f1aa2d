import Derived.Test.YtclanmkmbjinaaaGreatDoorW09
import Derived.Laws.FloatBits
set_option linter.unusedSimpArgs false
set_option linter.unusedVariables false
set_option linter.unnecessarySimpa false
set_option maxRecDepth 10000
namespace Go.Nac.L4
attribute [local congr] b1_congr b2_congr Wp_congr wpOps_congr thenK_congr blockK_congr gK_congr cK_congr
section
variable {X:XRel}
theorem put_run (ns:List Int) (hl:ns.length ≤ 40000) {M0 E:List Blk} {v:Nat} {bs:List PV} (hb:bs.length ≤ 400000) :
    ACall F X (.fn 131) [.fs (ns.map .I),.op (M0.length + 1) 0 0 0] (M0 ++ (.row true 1 v bs :: .row true 1 0 [.os M0.length v 0 bs.length] :: E)) (.tup [])
      (M0 ++ (.row true 1 (v + ns.length) (bs ++ putB ns) :: .row true 1 0 [.os M0.length (v + ns.length) 0 (bs ++ putB ns).length] :: E)):=by
  refine ACall_fn (cf:=c131) rfl rfl fun hM hA => ?_
  simp only [c131,zO,zF,zT]
  rw [mk2 _ (by decide)]
  simp -implicitDefEqProofs (disch:=first|omega|(simp only [go_sem,seval];first|done|omega)) only [go_sem,seval]
  refine loop_mk (α:=Nat) 0 (fun k => k ≤ ns.length) (fun k => M0 ++ (.row true 1 (v + k) (bs ++ putB (ns.take k)) :: .row true 1 0 [.os M0.length (v + k) 0 (bs ++ putB (ns.take k)).length] :: E))
    (fun k => [(1,.op (M0.length + 1) 0 0 0),(5,.fs (ns.map .I)),(6,.I ns.length),(7,.I k)]) (fun k => ns.length - k) (Nat.zero_le _) (by simp [putB]) rfl ?_
  intro k hk
  by_cases hlt:k < ns.length
  · obtain ⟨n,hn⟩:∃ n,ns[k]? = some n:=⟨_,List.getElem?_eq_getElem hlt⟩
    have hsn:=putB_snoc hn
    have hpl:=putB_len (ns.take k)
    have htl:(ns.take k).length = k:=by rw [List.length_take];omega
    have hbl:(bs ++ putB (ns.take k)).length ≤ 560000:=by rw [List.length_append,hpl];omega
    have again:∀ c:List PV,bs ++ putB (ns.take (k + 1)) = c → Again 26 (fun k => k ≤ ns.length) (fun k => M0 ++ (.row true 1 (v + k) (bs ++ putB (ns.take k)) :: .row true 1 0 [.os M0.length (v + k) 0 (bs ++ putB (ns.take k)).length] :: E))
      (fun k => [(1,.op (M0.length + 1) 0 0 0),(5,.fs (ns.map .I)),(6,.I ns.length),(7,.I k)]) (fun k => ns.length - k) k
      (M0 ++ (.row true 1 (v + (k + 1)) c :: .row true 1 0 [.os M0.length (v + (k + 1)) 0 c.length] :: E)) (mk 26 [(1,.op (M0.length + 1) 0 0 0),(5,.fs (ns.map .I)),(6,.I ns.length),(7,.I (k + 1))]):=by
      rintro c rfl
      exact again' (k + 1) (by omega) (by omega) rfl rfl
    rw [hsn,← List.append_assoc] at again
    generalize bs ++ putB (ns.take k) = c at hbl again ⊢
    have hsh:∀ (m:Nat),m ≤ 24 → bin .shr (.s (.int .i64 n)) (.s (.int .u64 m)) = some (.s (.int .i64 (n.fdiv (2 ^ m)))):=by
      intro m hm
      rw [bin_shr (by omega)]
      have:min (m:Int).toNat IntKind.i64.bits = m:=by
        have:IntKind.i64.bits = 64:=rfl
        omega
      rw [this]
    have s1:bin .shr (.s (.int .i64 n)) (.s (.int .u64 24)) = some (.s (.int .i64 (n.fdiv 16777216))):=hsh 24 (by decide)
    have s2:bin .shr (.s (.int .i64 n)) (.s (.int .u64 16)) = some (.s (.int .i64 (n.fdiv 65536))):=hsh 16 (by decide)
    have s3:bin .shr (.s (.int .i64 n)) (.s (.int .u64 8)) = some (.s (.int .i64 (n.fdiv 256))):=hsh 8 (by decide)
    simp -implicitDefEqProofs (disch:=first|omega|(simp only [go_sem,seval,hlt,hn,s1,s2,s3];first|done|omega)) only [go_sem,seval,hlt,hn,s1,s2,s3]
    have h:=again _ rfl
    simp only [List.length_append,be4_eq,List.length_cons,List.length_nil] at h
    exact h
  have hkk:k = ns.length:=by omega
  subst hkk
  rw [List.take_length]
  have hbl:lowL (M0 ++ Blk.row true 1 v bs :: Blk.row true 1 0 [PV.os M0.length v 0 bs.length] :: E).length bs:=hM (Blk.row true 1 v bs) (by simp)
  have hlow:lowM (M0 ++ (Blk.row true 1 (v + ns.length) (bs ++ putB ns) :: Blk.row true 1 0 [.os M0.length (v + ns.length) 0 (bs ++ putB ns).length] :: E)).length (M0 ++ (Blk.row true 1 (v + ns.length) (bs ++ putB ns) :: Blk.row true 1 0 [.os M0.length (v + ns.length) 0 (bs ++ putB ns).length] :: E)):=by
    intro b hb
    have hlen:(M0 ++ (Blk.row true 1 (v + ns.length) (bs ++ putB ns) :: Blk.row true 1 0 [.os M0.length (v + ns.length) 0 (bs ++ putB ns).length] :: E)).length = (M0 ++ Blk.row true 1 v bs :: Blk.row true 1 0 [PV.os M0.length v 0 bs.length] :: E).length:=by simp
    rw [hlen]
    rcases List.mem_append.1 hb with hb|hb
    · exact hM b (by simp [hb])
    · rcases List.mem_cons.1 hb with rfl|hb
      · show lowL _ (bs ++ putB ns)
        rw [lowL_iff]
        intro x hx
        rcases List.mem_append.1 hx with hx|hx
        · exact (lowL_iff _).1 hbl x hx
        · exact (lowL_iff _).1 (of_eq_true (putB_low ns)) x hx
      · rcases List.mem_cons.1 hb with rfl|hb
        · show lowL _ [_]
          simp [lowL,PV.low]
        · exact hM b (by simp [hb])
  simp only [List.length_append] at hlow
  simp -implicitDefEqProofs (disch:=first|omega|(simp only [go_sem,seval,hlt];first|done|omega)) only [go_sem,seval,hlt]
  refine post_fin0 normal_ok (by simpa using hlow) (by simp) ?_ ?_
  · simp -implicitDefEqProofs (disch:=first|omega|(simp only [go_sem,seval];first|done|omega)) only [go_sem,seval]
    rfl
  · (simp only [go_sem,seval] <;> first|done|omega)
def FbitsX (X:XRel):Prop:=∀ (b:Nat) (M:List Blk),X 132 [.s (.float .f32 b)] M (.s (.int .u32 b)) M
theorem q_site_Encode (hF:FbitsX X) (s:Ser) (hl:s.samples.length ≤ 1048576) (hgl:s.gaps.length ≤ 1048576):Q X 88 [encSer s] (.tup [.fs (if chkSer s = 0 then encB s else []),.I (chkSer s)]):=by
  intro M
  have es:=encSer_eq s
  (refine ACall_fn (cf:=L4.c88) rfl rfl fun hM hA => ?_;simp only [L4.c88,zO,zF,zT];rw [mk1 _ (by decide)];simp -implicitDefEqProofs (disch:=first|omega|(simp only [go_sem,seval,es];first|done|omega)) only [go_sem,seval,es])
  refine callP_q (q_site_CheckSeries s hl hgl _) ?_
  by_cases h0:chkSer s = 0
  case neg =>
    rw [if_neg h0]
    generalize chkSer s = ee at h0
    simp -implicitDefEqProofs (disch:=first|omega|(simp only [go_sem,seval,h0];first|done|omega)) only [go_sem,seval,h0]
    (all_goals (first|refine post_fin ret_ok hM rfl ?_ ?_|refine post_fin0 ret_ok hM rfl ?_ ?_|refine post_fin normal_ok hM rfl ?_ ?_|refine post_fin0 normal_ok hM rfl ?_ ?_);all_goals first|(simp only [go_sem,seval] <;> first|done|omega)|skip;all_goals (try simp -implicitDefEqProofs (disch:=first|omega|(simp only [go_sem,seval];first|done|omega)) only [go_sem,seval]))
  rw [if_pos h0,h0]
  obtain ⟨hin,hsm⟩:=serIn_of h0
  have hnm:s.name.size ≤ 24:=by
    unfold chkSer at h0
    split at h0
    · cases h0
    · rename_i hn;exact nameOk_size (by simpa using hn)
  have hbo:=bytesPV_ok s.name
  have hbl:=bytesPV_len s.name
  have hhs:∀ M:List Blk,held M (.s (.string s.name)) = some (bytesPV s.name):=fun _ => held_str
  simp -implicitDefEqProofs (disch:=first|omega|(simp only [go_sem,seval,es,hhs,hbo,hbl];first|done|omega)) only [go_sem,seval,es,hhs,hbo,hbl]
  have hh:(hdrB s).length = 5 + s.name.size:=by
    unfold hdrB
    rw [List.length_append,List.length_append,hbl];rfl
  have hls:=hin.1
  have hgs:s.gaps.length ≤ 1024:=by
    unfold chkSer at h0
    split at h0
    · cases h0
    · split at h0
      · cases h0
      · split at h0
        · cases h0
        · split at h0
          · rename_i h4;exact absurd h0 h4
          · split at h0
            · rename_i h5;exact absurd h0 h5
            · rename_i h5;exact (chkSpns_in (Decidable.of_not_not h5)).2
  have hP:=put_run (X:=X) [s.start,(s.samples.length:Int),(s.gaps.length:Int)] (by simp) (M0:=M) (E:=[]) (v:=2) (bs:=hdrB s) (by omega)
  have hlow:∀ n:Nat,lowL n (hdrB s) = True:=fun n => eq_true (by
    unfold hdrB
    rw [lowL_iff]
    intro x hx
    rcases List.mem_append.1 hx with hx|hx
    · simp only [List.cons_append,List.nil_append,List.mem_cons,List.not_mem_nil,or_false] at hx
      rcases hx with rfl|rfl|rfl|rfl|rfl <;> simp [PV.low]
    · exact (lowL_iff _).1 (of_eq_true (bytesPV_low s.name)) x hx)
  rw [hh] at hP
  refine callP_l hP ?_
  have hcl:∀ (L:List Int) (m:Nat),lowL m (hdrB s ++ putB L) = True:=fun L m => eq_true (by
    rw [lowL_iff]
    intro x hx
    rcases List.mem_append.1 hx with hx|hx
    · exact (lowL_iff _).1 (of_eq_true (hlow m)) x hx
    · exact (lowL_iff _).1 (of_eq_true (putB_low L)) x hx)
  have hC:∀ L:List Int,(hdrB s ++ putB L).length = 5 + s.name.size + 4 * L.length:=fun L => by rw [List.length_append,hh,putB_len]
  have hstep:∀ L N:List Int,hdrB s ++ putB L ++ putB N = hdrB s ++ putB (L ++ N):=fun L N => by rw [List.append_assoc,putB_app]
  have hE:encB s = hdrB s ++ putB ([s.start,(s.samples.length:Int),(s.gaps.length:Int)] ++ gapNs s.gaps ++ bitNs s.samples):=rfl
  generalize encB s = R at hE ⊢
  simp -implicitDefEqProofs (disch:=first|omega|(simp only [go_sem,seval];first|done|omega)) only [go_sem,seval]
  have hb3:([s.start,(s.samples.length:Int),(s.gaps.length:Int)]:List Int).length = 3:=rfl
  generalize [s.start,(s.samples.length:Int),(s.gaps.length:Int)] = base at hb3 hE ⊢
  refine loop_mk (α:=Nat) 0 (fun k => k ≤ s.gaps.length) (fun k => M ++ [.row true 1 (5 + 2 * k) (hdrB s ++ putB (base ++ gapNs (s.gaps.take k))),.row true 1 0 [.os M.length (5 + 2 * k) 0 (hdrB s ++ putB (base ++ gapNs (s.gaps.take k))).length]])
    (fun k => [(1,.fp (encSer s).cells),(5,.op (M.length + 1) 0 0 0),(6,.fn (.func 131) [] [.op (M.length + 1) 0 0 0]),(41,.fs (s.gaps.map encSpn)),(42,.I s.gaps.length),(43,.I k)]) (fun k => s.gaps.length - k) (Nat.zero_le _) ?_ rfl ?_
  · simp [gapNs]
  intro k hk
  by_cases hlt:k < s.gaps.length
  · obtain ⟨g,hg⟩:∃ g,s.gaps[k]? = some g:=⟨_,List.getElem?_eq_getElem hlt⟩
    have hsn:=gapNs_snoc hg
    have hgl2:=gapNs_len (s.gaps.take k)
    have htl:(s.gaps.take k).length = k:=by rw [List.length_take];omega
    have hcl2:(hdrB s ++ putB (base ++ gapNs (s.gaps.take k))).length = 5 + s.name.size + 4 * (3 + 2 * k):=by rw [hC,List.length_append,hb3,hgl2,htl]
    have hP2:=put_run (X:=X) [g.fr,g.to_] (by simp) (M0:=M) (E:=[.row true 2 0 [encSpn g]]) (v:=5 + 2 * k) (bs:=hdrB s ++ putB (base ++ gapNs (s.gaps.take k))) (by omega)
    rw [hstep,List.append_assoc,← hsn] at hP2
    have hlw:=hcl (base ++ gapNs (s.gaps.take (k + 1)))
    generalize hdrB s ++ putB (base ++ gapNs (s.gaps.take k)) = c at hP2 hcl2 ⊢
    simp -implicitDefEqProofs (disch:=first|omega|(simp only [go_sem,seval,hlt,hg,encSpn_cells,encSpn_eq];first|done|omega)) only [go_sem,seval,hlt,hg,encSpn_cells,encSpn_eq]
    refine callP_l hP2 ?_
    simp -implicitDefEqProofs (disch:=first|omega|(simp only [go_sem,seval,hlt,hg,encSpn_cells,encSpn_eq];first|done|omega)) only [go_sem,seval,hlt,hg,encSpn_cells,encSpn_eq]
    have hes:lowL (M.length + 2) (encSer s).cells = True:=by rw [encSer_cells];exact eq_true (by simp [lowL,PV.low,encF_low,encSpn_low])
    refine Wp_cut_at hM rfl 2 (by simp) (by first|done|(simp only [go_sem,seval,hlw,hlow,putB_low,hes,encSpn_low] <;> first|done|(refine ⟨?_,?_⟩ <;> omega)|omega)) (lowL_mk (by first|done|(simp only [go_sem,seval,hlw,hlow,putB_low,hes,encSpn_low] <;> first|done|(refine ⟨?_,?_⟩ <;> omega)|omega))) ?_
    simp -implicitDefEqProofs (disch:=first|omega|(simp only [go_sem,seval];first|done|omega)) only [go_sem,seval]
    exact again' (k + 1) (by omega) (by omega) rfl rfl
  have hkk:k = s.gaps.length:=by omega
  subst hkk
  rw [List.take_length]
  simp -implicitDefEqProofs (disch:=first|omega|(simp only [go_sem,seval,hlt,encSer_cells];first|done|omega)) only [go_sem,seval,hlt,encSer_cells]
  refine loop_mk (α:=Nat) 0 (fun j => j ≤ s.samples.length) (fun j => M ++ [.row true 1 (5 + (2 * s.gaps.length + j)) (hdrB s ++ putB (base ++ gapNs s.gaps ++ bitNs (s.samples.take j))),.row true 1 0 [.os M.length (5 + (2 * s.gaps.length + j)) 0 (hdrB s ++ putB (base ++ gapNs s.gaps ++ bitNs (s.samples.take j))).length]])
    (fun j => [(5,.op (M.length + 1) 0 0 0),(6,.fn (.func 131) [] [.op (M.length + 1) 0 0 0]),(56,.fs (s.samples.map encF)),(57,.I s.samples.length),(58,.I j)]) (fun j => s.samples.length - j) (Nat.zero_le _) ?_ rfl ?_
  · simp [bitNs]
  intro j hj
  by_cases hlt2:j < s.samples.length
  · obtain ⟨x,hx⟩:∃ x,s.samples[j]? = some x:=⟨_,List.getElem?_eq_getElem hlt2⟩
    have hxs:=hsm x (List.mem_of_getElem? hx)
    have hpl:=f_plus0 hxs
    have hbs:bitNs (s.samples.take (j + 1)) = bitNs (s.samples.take j) ++ [IntKind.i64.wrap (plus0 x)]:=by
      unfold bitNs
      exact take_snoc (f:=fun x => IntKind.i64.wrap (plus0 x:Int)) hx
    have hbl2:(bitNs (s.samples.take j)).length = j:=by unfold bitNs;rw [List.length_map,List.length_take];omega
    have hcl2:(hdrB s ++ putB (base ++ gapNs s.gaps ++ bitNs (s.samples.take j))).length = 5 + s.name.size + 4 * (3 + 2 * s.gaps.length + j):=by rw [hC,List.length_append,List.length_append,hb3,gapNs_len,hbl2]
    have hP2:=put_run (X:=X) [IntKind.i64.wrap (plus0 x)] (by simp) (M0:=M) (E:=[]) (v:=5 + (2 * s.gaps.length + j)) (bs:=hdrB s ++ putB (base ++ gapNs s.gaps ++ bitNs (s.samples.take j))) (by omega)
    have hb':base ++ gapNs s.gaps ++ bitNs (s.samples.take j) ++ [IntKind.i64.wrap (plus0 x)] = base ++ gapNs s.gaps ++ bitNs (s.samples.take (j + 1)):=by rw [hbs,List.append_assoc (base ++ gapNs s.gaps)]
    rw [hstep,hb'] at hP2
    have hlw:=hcl (base ++ gapNs s.gaps ++ bitNs (s.samples.take (j + 1)))
    generalize hdrB s ++ putB (base ++ gapNs s.gaps ++ bitNs (s.samples.take j)) = c at hP2 hcl2 ⊢
    simp -implicitDefEqProofs (disch:=first|omega|(simp only [go_sem,seval,hlt2,hx,r_sop,hpl];first|done|omega)) only [go_sem,seval,hlt2,hx,r_sop,hpl]
    refine callP_q (ACall_ext (hF (plus0 x) _)) ?_
    simp -implicitDefEqProofs (disch:=first|omega|(simp only [go_sem,seval];first|done|omega)) only [go_sem,seval]
    refine callP_l hP2 ?_
    simp -implicitDefEqProofs (disch:=first|omega|(simp only [go_sem,seval];first|done|omega)) only [go_sem,seval]
    refine Wp_cut_at hM rfl 2 (by simp) (by first|done|(simp only [go_sem,seval,hlw,hlow,putB_low,encF_low] <;> first|done|(refine ⟨?_,?_⟩ <;> omega)|omega)) (lowL_mk (by first|done|(simp only [go_sem,seval,hlw,hlow,putB_low,encF_low] <;> first|done|(refine ⟨?_,?_⟩ <;> omega)|omega))) ?_
    simp -implicitDefEqProofs (disch:=first|omega|(simp only [go_sem,seval];first|done|omega)) only [go_sem,seval]
    exact again' (j + 1) (by omega) (by omega) rfl rfl
  have hjj:j = s.samples.length:=by omega
  subst hjj
  rw [List.take_length]
  have hlw:=hcl (base ++ gapNs s.gaps ++ bitNs s.samples)
  rw [← hE] at hlw ⊢
  have hRt:R.take R.length = R:=List.take_length
  simp -implicitDefEqProofs (disch:=first|omega|(simp only [go_sem,seval,hlt2];first|done|omega)) only [go_sem,seval,hlt2]
  (first|refine post_fin ret_ok hM rfl ?_ ?_|refine post_fin0 ret_ok hM rfl ?_ ?_|refine post_fin normal_ok hM rfl ?_ ?_|refine post_fin0 normal_ok hM rfl ?_ ?_)
  · simp -implicitDefEqProofs (disch:=first|omega|(simp only [go_sem,seval,hRt];first|done|omega)) only [go_sem,seval,hRt]
  · (simp only [go_sem,seval,hlw,hRt] <;> first|done|omega)
theorem q_law01_farm:Q X 97 [] (encSte farmS):=by
  intro M
  (refine ACall_fn (cf:=L4.c97) rfl rfl fun hM hA => ?_;simp only [L4.c97,zO,zF,zT];rw [mk0];simp -implicitDefEqProofs (disch:=first|omega|(simp only [go_sem,seval,-List.reduceReplicate];first|done|omega)) only [go_sem,seval,-List.reduceReplicate])
  (first|refine post_fin ret_ok hM rfl ?_ ?_|refine post_fin0 ret_ok hM rfl ?_ ?_|refine post_fin normal_ok hM rfl ?_ ?_|refine post_fin0 normal_ok hM rfl ?_ ?_)
  · simp -implicitDefEqProofs (disch:=first|omega|(simp only [go_sem,seval,-List.reduceReplicate];first|done|omega)) only [go_sem,seval,-List.reduceReplicate]
    rfl
  · exact of_eq_true (encSte_low1 farmS)
theorem q_law01_wave:Q X 98 [] (encSer waveS):=by
  intro M
  (refine ACall_fn (cf:=L4.c98) rfl rfl fun hM hA => ?_;simp only [L4.c98,zO,zF,zT];rw [mk0];simp -implicitDefEqProofs (disch:=first|omega|(simp only [go_sem,seval,-List.reduceReplicate];first|done|omega)) only [go_sem,seval,-List.reduceReplicate])
  (first|refine post_fin ret_ok hM rfl ?_ ?_|refine post_fin0 ret_ok hM rfl ?_ ?_|refine post_fin normal_ok hM rfl ?_ ?_|refine post_fin0 normal_ok hM rfl ?_ ?_)
  · simp -implicitDefEqProofs (disch:=first|omega|(simp only [go_sem,seval,-List.reduceReplicate];first|done|omega)) only [go_sem,seval,-List.reduceReplicate]
    rfl
  · exact of_eq_true (encSer_low1 waveS)
theorem aw1 (hS:SortX X):Q X 19 [.fs (([⟨0,5⟩,⟨3,8⟩,⟨9,10⟩]:List Spn).map encSpn)] (.tup [.fs (([⟨0,8⟩,⟨9,10⟩]:List Spn).map encSpn),.I 0]):=by
  have h:=q_site_Canon (X:=X) hS [⟨0,5⟩,⟨3,8⟩,⟨9,10⟩] (by decide)
  rw [show chkAny [⟨0,5⟩,⟨3,8⟩,⟨9,10⟩] = 0 from by decide,if_pos rfl,aw_canon] at h
  exact h
theorem aw2:Q X 21 [.fs (([⟨0,8⟩,⟨9,10⟩]:List Spn).map encSpn)] (.tup [.I 9,.I 0]):=by
  have h:=q_site_Total (X:=X) [⟨0,8⟩,⟨9,10⟩] (by decide)
  rw [show chkSpns [⟨0,8⟩,⟨9,10⟩] = 0 from by decide,if_pos rfl,show totOf [⟨0,8⟩,⟨9,10⟩] = 9 from by decide] at h
  exact h
theorem aw3 (hS:SortX X):Q X 31 [.fs (([⟨0,8⟩,⟨9,10⟩]:List Spn).map encSpn),.fs (([⟨8,9⟩]:List Spn).map encSpn)] (.tup [.fs (([⟨0,10⟩]:List Spn).map encSpn),.I 0]):=by
  have h:=q_site_Join (X:=X) hS [⟨0,8⟩,⟨9,10⟩] [⟨8,9⟩] (by decide) (by decide)
  rw [aw_join] at h
  exact h
theorem aw4:Q X 33 [.fs (([⟨0,10⟩]:List Spn).map encSpn),.fs (([⟨3,5⟩]:List Spn).map encSpn)] (.tup [.fs (([⟨0,3⟩,⟨5,10⟩]:List Spn).map encSpn),.I 0]):=by
  have h:=q_site_Minus (X:=X) [⟨0,10⟩] [⟨3,5⟩] (by decide) (by decide)
  rw [aw_minus] at h
  exact h
theorem aw5:Q X 42 [encSte farmS] (.tup [.I 25,.I 0]):=by
  have h:=q_site_Spacing (X:=X) farmS (by decide)
  rw [show spcE farmS = 0 from by decide,if_pos rfl,farm_spc] at h
  exact h
theorem aw6:Q X 44 [encSte farmS,.I 1] (.tup [encSte (mvS (trnN 1) farmS),.I 0]):=by
  have h:=q_site_TurnSite (X:=X) farmS 1 (by decide)
  rw [show turnE farmS 1 = 0 from by decide,if_pos rfl] at h
  exact h
theorem aw9:Q X 64 [encSer waveS] (.tup [encSt ⟨6,144,1056964608,1077936128⟩,.I 0]):=by
  have h:=q_site_Summary (X:=X) waveS (by decide) (by decide)
  unfold sumOf sumE at h
  rw [if_pos wave_ok,if_pos wave_ok,wave_sum] at h
  exact h
theorem aw7 (hS:SortX X):Q X 57 [.I 2] (.tup [encPt ⟨-1,0⟩,.I 0]):=by
  have h:=q_site_Step (X:=X) 2
  rw [show stepOf 2 = ⟨-1,0⟩ from by decide,show rng 2 0 7 = 0 from by decide] at h
  exact h
theorem aw8 (hS:SortX X):Q X 57 [.I 0] (.tup [encPt ⟨0,-1⟩,.I 0]):=by
  have h:=q_site_Step (X:=X) 0
  rw [show stepOf 0 = ⟨0,-1⟩ from by decide,show rng 0 0 7 = 0 from by decide] at h
  exact h
theorem aw10:Q X 66 [encSer waveS,encF 1065353216,.I 1] (.tup [.fs (([⟨0,1⟩,⟨3,4⟩,⟨5,7⟩]:List Spn).map encSpn),.I 0]):=by
  have h:=q_site_Spells (X:=X) waveS 1065353216 1 (by decide) (by decide)
  unfold spellR spellL at h
  rw [show spellE waveS 1065353216 1 = 0 from by decide +kernel,if_pos rfl,wave_sp1,if_neg (by decide)] at h
  exact h
theorem aw11:Q X 66 [encSer waveS,encF 1065353216,.I 2] (.tup [.fs (([⟨5,7⟩]:List Spn).map encSpn),.I 0]):=by
  have h:=q_site_Spells (X:=X) waveS 1065353216 2 (by decide) (by decide)
  unfold spellR spellL at h
  rw [show spellE waveS 1065353216 2 = 0 from by decide +kernel,if_pos rfl,wave_sp2,if_neg (by decide)] at h
  exact h
def awRo:Rse:=incR (incR z408 7) (2 * 51 + 8)
theorem aw12:Q X 81 [encSer awA,encSer awB] (.tup [encRs awRo,.I 0]):=by
  have h:=q_site_Blown (X:=X) awA awB (by decide) (by decide) (by decide) (by decide)
  unfold blownR at h
  rw [aw_blownE,if_pos rfl,aw_blown] at h
  exact h
theorem aw14 (hI:ItoaX X) (hJ:JoinX X):Q X 92 [encSte farmS] (.tup [.s (.string (steTxt farmS)),.I 0]):=by
  have h:=q_site_Print (X:=X) hI hJ farmS (by decide)
  rw [farm_ok,if_pos rfl] at h
  exact h
theorem aw15 (hF:FbitsX X):Q X 88 [encSer waveS] (.tup [.fs (encB waveS),.I 0]):=by
  have h:=q_site_Encode (X:=X) hF waveS (by decide) (by decide)
  rw [wave_ok,if_pos rfl] at h
  exact h
theorem awRo_len:List.length awRo = 408:=by decide +kernel
theorem awRo_ok:chkRse awRo = 0:=by decide +kernel
theorem aw13:Q X 58 [encRs awRo,.I 1] (.tup [encRs (trnR awRo 1 8),.I 0]):=by
  have h:=q_site_TurnRose (X:=X) awRo 1 awRo_len
  rw [show trnE awRo 1 = 0 from by decide +kernel,if_pos rfl] at h
  exact h
theorem aw16:Q X 61 [encRs awRo] (.I 2):=by
  have h:=q_ref01_Quarters (X:=X) awRo awRo_len awRo_ok
  rw [show sumR awRo 408 = 2 from by decide +kernel] at h
  exact h
theorem at_cell {r:Rse} {i:Nat} {v:Int} (h:(r.drop i).take 1 = [v]):((r.map PV.I).drop i).take 1 = [PV.I v]:=by
  rw [← List.map_drop,← List.map_take,h];rfl
theorem r_7:(awRo.drop 7).take 1 = [1]:=by decide +kernel
theorem r_110:(awRo.drop 110).take 1 = [1]:=by decide +kernel
theorem u_109:((trnR awRo 1 8).drop 109).take 1 = [1]:=by decide +kernel
theorem u_212:((trnR awRo 1 8).drop 212).take 1 = [1]:=by decide +kernel
theorem same_self (l:List Spn) (h:l.length ≤ 1048576):Q X 39 [.fs (l.map encSpn),.fs (l.map encSpn)] (.B true):=by
  have:=q_ref01_SameSpans (X:=X) l l h
  simpa using this
theorem aw_turned:encSte (mvS (trnN 1) farmS) = .agg [.s (.string ⟨#[110,111,114,116,104]⟩),.I 5,.fs [.agg [.s (.string ⟨#[97]⟩),.I 0,.I 0],.agg [.s (.string ⟨#[98]⟩),.I 0,.I (-6)],.agg [.s (.string ⟨#[99]⟩),.I 4,.I (-3)]]]:=rfl
theorem aw_e0:(encB waveS).length = 57:=by decide +kernel
theorem aw_e4:(encB waveS).take 4 = bytesPV ⟨#[87,73,78,68]⟩:=by rfl
theorem aw_es:sized 1 (encB waveS) = true:=by decide +kernel
theorem aw_e29:(encB waveS)[29]? = some (u8 63):=by rfl
theorem aw_e30:(encB waveS)[30]? = some (u8 128):=by rfl
theorem aw_fl:eqCells [SK.flt,SK.flt] [encF 1056964608,encF 1077936128] [PV.s (Value.float FloatKind.f32 1056964608),PV.s (Value.float FloatKind.f32 1077936128)] = some true:=by
  have o1:(FloatKind.f32.format.order 1056964608 1056964608 == some .eq) = true:=by decide
  have o2:(FloatKind.f32.format.order 1077936128 1077936128 == some .eq) = true:=by decide
  rw [eqCells_flt,eqCells_flt,eqCells_nil]
  simp [o1,o2]
set_option maxHeartbeats 2000000 in
theorem q_law01_awake (hS:SortX X) (hI:ItoaX X) (hJ:JoinX X) (hF:FbitsX X):Q X 17 [] (.B true):=by
  intro M
  (refine ACall_fn (cf:=L4.c17) rfl rfl fun hM hA => ?_;simp only [L4.c17,zO,zF,zT];rw [mk0];simp -implicitDefEqProofs (disch:=first|omega|(simp only [go_sem,seval,-List.reduceReplicate];first|done|omega)) only [go_sem,seval,-List.reduceReplicate])
  refine callP_q (aw1 hS _) ?_
  simp -implicitDefEqProofs (disch:=first|omega|(simp only [go_sem,seval,-List.reduceReplicate];first|done|omega)) only [go_sem,seval,-List.reduceReplicate]
  refine callP_q (aw2 _) ?_
  simp -implicitDefEqProofs (disch:=first|omega|(simp only [go_sem,seval,-List.reduceReplicate];first|done|omega)) only [go_sem,seval,-List.reduceReplicate]
  refine callP_q (aw3 hS _) ?_
  simp -implicitDefEqProofs (disch:=first|omega|(simp only [go_sem,seval,-List.reduceReplicate];first|done|omega)) only [go_sem,seval,-List.reduceReplicate]
  refine callP_q (aw4 _) ?_
  simp -implicitDefEqProofs (disch:=first|omega|(simp only [go_sem,seval,-List.reduceReplicate];first|done|omega)) only [go_sem,seval,-List.reduceReplicate]
  refine callP_q (q_law01_farm _) ?_
  simp -implicitDefEqProofs (disch:=first|omega|(simp only [go_sem,seval,-List.reduceReplicate];first|done|omega)) only [go_sem,seval,-List.reduceReplicate]
  refine callP_q (aw5 _) ?_
  simp -implicitDefEqProofs (disch:=first|omega|(simp only [go_sem,seval,-List.reduceReplicate];first|done|omega)) only [go_sem,seval,-List.reduceReplicate]
  refine callP_q (q_law01_farm _) ?_
  simp -implicitDefEqProofs (disch:=first|omega|(simp only [go_sem,seval,-List.reduceReplicate];first|done|omega)) only [go_sem,seval,-List.reduceReplicate]
  refine callP_q (aw6 _) ?_
  simp -implicitDefEqProofs (disch:=first|omega|(simp only [go_sem,seval,-List.reduceReplicate,aw_turned];first|done|omega)) only [go_sem,seval,-List.reduceReplicate,aw_turned]
  refine callP_q (aw7 hS _) ?_
  simp -implicitDefEqProofs (disch:=first|omega|(simp only [go_sem,seval,-List.reduceReplicate,encPt_eq];first|done|omega)) only [go_sem,seval,-List.reduceReplicate,encPt_eq]
  refine callP_q (aw8 hS _) ?_
  simp -implicitDefEqProofs (disch:=first|omega|(simp only [go_sem,seval,-List.reduceReplicate,encPt_eq];first|done|omega)) only [go_sem,seval,-List.reduceReplicate,encPt_eq]
  refine callP_q (q_law01_wave _) ?_
  simp -implicitDefEqProofs (disch:=first|omega|(simp only [go_sem,seval,-List.reduceReplicate];first|done|omega)) only [go_sem,seval,-List.reduceReplicate]
  refine callP_q (aw9 _) ?_
  simp -implicitDefEqProofs (disch:=first|omega|(simp only [go_sem,seval,-List.reduceReplicate,encSt_eq];first|done|omega)) only [go_sem,seval,-List.reduceReplicate,encSt_eq]
  refine callP_q (q_law01_wave _) ?_
  simp -implicitDefEqProofs (disch:=first|omega|(simp only [go_sem,seval,-List.reduceReplicate];first|done|omega)) only [go_sem,seval,-List.reduceReplicate]
  refine callP_q (aw10 _) ?_
  simp -implicitDefEqProofs (disch:=first|omega|(simp only [go_sem,seval,-List.reduceReplicate];first|done|omega)) only [go_sem,seval,-List.reduceReplicate]
  refine callP_q (q_law01_wave _) ?_
  simp -implicitDefEqProofs (disch:=first|omega|(simp only [go_sem,seval,-List.reduceReplicate];first|done|omega)) only [go_sem,seval,-List.reduceReplicate]
  refine callP_q (aw11 _) ?_
  have hzI:=z408_I
  have hzl:(List.map PV.I z408).length = 408:=by rw [List.length_map];exact List.length_replicate
  have hzo:=ones_I z408
  have hzd:(List.map PV.I z408).drop 408 = []:=List.drop_of_length_le (by omega)
  generalize hZ:List.map PV.I z408 = Z at hzI hzl hzo hzd
  simp -implicitDefEqProofs (disch:=first|omega|(simp only [go_sem,seval,-List.reduceReplicate,hzI];first|done|omega)) only [go_sem,seval,-List.reduceReplicate,hzI]
  refine callP_q (aw12 _) ?_
  have hc:=cells_mk awRo_len
  have e12:encRs awRo = .agg (awRo.map PV.I):=rfl
  have h13:=aw13 (X:=X)
  rw [e12] at h13 ⊢
  have hcl:=hc.len
  have hct:=hc.tk
  have hco:=hc.one
  have k7:=at_cell r_7
  have k110:=at_cell r_110
  have h16:=aw16 (X:=X)
  rw [e12] at h16
  generalize awRo.map PV.I = cs at k7 k110 h16 hc hcl hct hco h13 ⊢
  have hcv:=hc.vw
  simp -implicitDefEqProofs (disch:=first|omega|(simp only [go_sem,seval,-List.reduceReplicate,hzI,hzl,hcl,hco,hct,hcv,hzd,putE_agg,List.append_nil];first|done|omega)) only [go_sem,seval,-List.reduceReplicate,hzI,hzl,hcl,hco,hct,hcv,hzd,putE_agg,List.append_nil]
  refine callP_q (h13 _) ?_
  have hc2:=cells_mk (r:=trnR awRo 1 8) (trnR_len awRo_len (Nat.le_refl _))
  have e13:encRs (trnR awRo 1 8) = .agg ((trnR awRo 1 8).map PV.I):=rfl
  rw [e13]
  have hcl2:=hc2.len
  have hct2:=hc2.tk
  have hco2:=hc2.one
  have hcv2:=hc2.vw
  have k109:=at_cell u_109
  have k212:=at_cell u_212
  generalize (trnR awRo 1 8).map PV.I = ds at k109 k212 hc2 hcl2 hct2 hco2 hcv2 ⊢
  simp -implicitDefEqProofs (disch:=first|omega|(simp only [go_sem,seval,-List.reduceReplicate,hzI,hzl,hcl2,hco2,hct2,hcv2,hzd,putE_agg,List.append_nil];first|done|omega)) only [go_sem,seval,-List.reduceReplicate,hzI,hzl,hcl2,hco2,hct2,hcv2,hzd,putE_agg,List.append_nil]
  refine callP_q (q_law01_farm _) ?_
  simp -implicitDefEqProofs (disch:=first|omega|(simp only [go_sem,seval,-List.reduceReplicate];first|done|omega)) only [go_sem,seval,-List.reduceReplicate]
  refine callP_q (aw14 hI hJ _) ?_
  simp -implicitDefEqProofs (disch:=first|omega|(simp only [go_sem,seval,-List.reduceReplicate];first|done|omega)) only [go_sem,seval,-List.reduceReplicate]
  refine callP_q (q_law01_wave _) ?_
  simp -implicitDefEqProofs (disch:=first|omega|(simp only [go_sem,seval,-List.reduceReplicate];first|done|omega)) only [go_sem,seval,-List.reduceReplicate]
  refine callP_q (aw15 hF _) ?_
  have hEl:=aw_e0
  have hE4:=aw_e4
  have hEs:=aw_es
  have hE29:=aw_e29
  have hE30:=aw_e30
  generalize encB waveS = eb at hEl hE4 hEs hE29 hE30 ⊢
  simp -implicitDefEqProofs (disch:=first|omega|(simp only [go_sem,seval,-List.reduceReplicate,aw_turned,hEl];first|done|omega)) only [go_sem,seval,-List.reduceReplicate,aw_turned,hEl]
  refine callP_q (same_self [⟨0,8⟩,⟨9,10⟩] (by decide) _) ?_
  simp -implicitDefEqProofs (disch:=first|omega|(simp only [go_sem,seval,-List.reduceReplicate,aw_turned,hEl];first|done|omega)) only [go_sem,seval,-List.reduceReplicate,aw_turned,hEl]
  refine callP_q (same_self [⟨0,10⟩] (by decide) _) ?_
  simp -implicitDefEqProofs (disch:=first|omega|(simp only [go_sem,seval,-List.reduceReplicate,aw_turned,hEl];first|done|omega)) only [go_sem,seval,-List.reduceReplicate,aw_turned,hEl]
  refine callP_q (same_self [⟨0,3⟩,⟨5,10⟩] (by decide) _) ?_
  have hfl:=aw_fl
  simp -implicitDefEqProofs (disch:=first|omega|(simp only [go_sem,seval,-List.reduceReplicate,aw_turned,hEl,hfl];first|done|omega)) only [go_sem,seval,-List.reduceReplicate,aw_turned,hEl,hfl]
  refine callP_q (same_self [⟨0,1⟩,⟨3,4⟩,⟨5,7⟩] (by decide) _) ?_
  simp -implicitDefEqProofs (disch:=first|omega|(simp only [go_sem,seval,-List.reduceReplicate,aw_turned,hEl,hfl];first|done|omega)) only [go_sem,seval,-List.reduceReplicate,aw_turned,hEl,hfl]
  refine callP_q (same_self [⟨5,7⟩] (by decide) _) ?_
  simp -implicitDefEqProofs (disch:=first|omega|(simp only [go_sem,seval,-List.reduceReplicate,aw_turned,hEl,hfl,k7,k110,k109,k212,hcl,hct,hcv,hcl2];first|done|omega)) only [go_sem,seval,-List.reduceReplicate,aw_turned,hEl,hfl,k7,k110,k109,k212,hcl,hct,hcv,hcl2]
  refine callP_q (h16 _) ?_
  simp -implicitDefEqProofs (disch:=first|omega|(simp only [go_sem,seval,-List.reduceReplicate,aw_turned,aw_print,hEl,hE4,hEs,hE29,hE30,hfl,k7,k110,k109,k212,hcl,hct,hcv,hcl2,hct2,bin_strEq];first|done|omega)) only [go_sem,seval,-List.reduceReplicate,aw_turned,aw_print,hEl,hE4,hEs,hE29,hE30,hfl,k7,k110,k109,k212,hcl,hct,hcv,hcl2,hct2,bin_strEq]
  (all_goals (first|refine post_fin ret_ok hM rfl ?_ ?_|refine post_fin0 ret_ok hM rfl ?_ ?_|refine post_fin normal_ok hM rfl ?_ ?_|refine post_fin0 normal_ok hM rfl ?_ ?_);all_goals first|(simp only [go_sem,seval,-List.reduceReplicate] <;> first|done|omega)|skip;all_goals (try simp -implicitDefEqProofs (disch:=first|omega|(simp only [go_sem,seval,-List.reduceReplicate];first|done|omega)) only [go_sem,seval,-List.reduceReplicate]))
def Fc:Prog
  | 148 => some c148
  | 149 => some c149
  | 168 => some c168
  | _ => none
abbrev Qc (f:FuncId) (args:List PV) (r:PV):Prop:=∀ M,ACall Fc (fun _ _ _ _ _ => False) (.fn f) args M r M
theorem qc_isNaN (x:Int):Qc 168 [.I x] (.B false):=by
  intro M
  (refine ACall_fn (cf:=L4.c168) rfl rfl fun hM hA => ?_;simp only [L4.c168,zO,zF,zT];rw [mk1 _ (by decide)];simp -implicitDefEqProofs (disch:=first|omega|(simp only [go_sem,seval];first|done|omega)) only [go_sem,seval])
  (all_goals (first|refine post_fin ret_ok hM rfl ?_ ?_|refine post_fin0 ret_ok hM rfl ?_ ?_|refine post_fin normal_ok hM rfl ?_ ?_|refine post_fin0 normal_ok hM rfl ?_ ?_);all_goals first|(simp only [go_sem,seval] <;> first|done|omega)|skip;all_goals (try simp -implicitDefEqProofs (disch:=first|omega|(simp only [go_sem,seval];first|done|omega)) only [go_sem,seval]))
  all_goals simp
theorem qc_Compare (x y:Int):Qc 149 [.I x,.I y] (.I (if x < y then -1 else if y < x then 1 else 0)):=by
  intro M
  (refine ACall_fn (cf:=L4.c149) rfl rfl fun hM hA => ?_;simp only [L4.c149,zO,zF,zT];rw [mk2 _ (by decide)];simp -implicitDefEqProofs (disch:=first|omega|(simp only [go_sem,seval];first|done|omega)) only [go_sem,seval])
  refine callP_q (qc_isNaN x _) ?_
  simp -implicitDefEqProofs (disch:=first|omega|(simp only [go_sem,seval];first|done|omega)) only [go_sem,seval]
  refine callP_q (qc_isNaN y _) ?_
  simp -implicitDefEqProofs (disch:=first|omega|(simp only [go_sem,seval];first|done|omega)) only [go_sem,seval]
  by_cases h1:x < y
  · simp -implicitDefEqProofs (disch:=first|omega|(simp only [go_sem,seval,h1];first|done|omega)) only [go_sem,seval,h1]
    (all_goals (first|refine post_fin ret_ok hM rfl ?_ ?_|refine post_fin0 ret_ok hM rfl ?_ ?_|refine post_fin normal_ok hM rfl ?_ ?_|refine post_fin0 normal_ok hM rfl ?_ ?_);all_goals first|(simp only [go_sem,seval] <;> first|done|omega)|skip;all_goals (try simp -implicitDefEqProofs (disch:=first|omega|(simp only [go_sem,seval];first|done|omega)) only [go_sem,seval]))
  · by_cases h2:y < x
    · simp -implicitDefEqProofs (disch:=first|omega|(simp only [go_sem,seval,h1,h2];first|done|omega)) only [go_sem,seval,h1,h2]
      (all_goals (first|refine post_fin ret_ok hM rfl ?_ ?_|refine post_fin0 ret_ok hM rfl ?_ ?_|refine post_fin normal_ok hM rfl ?_ ?_|refine post_fin0 normal_ok hM rfl ?_ ?_);all_goals first|(simp only [go_sem,seval] <;> first|done|omega)|skip;all_goals (try simp -implicitDefEqProofs (disch:=first|omega|(simp only [go_sem,seval];first|done|omega)) only [go_sem,seval]))
    · simp -implicitDefEqProofs (disch:=first|omega|(simp only [go_sem,seval,h1,h2];first|done|omega)) only [go_sem,seval,h1,h2]
      (all_goals (first|refine post_fin ret_ok hM rfl ?_ ?_|refine post_fin0 ret_ok hM rfl ?_ ?_|refine post_fin normal_ok hM rfl ?_ ?_|refine post_fin0 normal_ok hM rfl ?_ ?_);all_goals first|(simp only [go_sem,seval] <;> first|done|omega)|skip;all_goals (try simp -implicitDefEqProofs (disch:=first|omega|(simp only [go_sem,seval];first|done|omega)) only [go_sem,seval]))
theorem qc_canon (x y:Spn):Qc 148 [encSpn x,encSpn y] (.I (spnCmp x y)):=by
  intro M
  (refine ACall_fn (cf:=L4.c148) rfl rfl fun hM hA => ?_;simp only [L4.c148,zO,zF,zT];rw [mk2 _ (by decide)];simp -implicitDefEqProofs (disch:=first|omega|(simp only [go_sem,seval,encSpn_eq];first|done|omega)) only [go_sem,seval,encSpn_eq])
  refine callP_q (qc_Compare x.fr y.fr _) ?_
  have e:spnCmp x y = if x.fr < y.fr then -1 else if y.fr < x.fr then 1 else 0:=rfl
  rw [e]
  simp -implicitDefEqProofs (disch:=first|omega|(simp only [go_sem,seval];first|done|omega)) only [go_sem,seval]
  (all_goals (first|refine post_fin ret_ok hM rfl ?_ ?_|refine post_fin0 ret_ok hM rfl ?_ ?_|refine post_fin normal_ok hM rfl ?_ ?_|refine post_fin0 normal_ok hM rfl ?_ ?_);all_goals first|(simp only [go_sem,seval] <;> first|done|omega)|skip;all_goals (try simp -implicitDefEqProofs (disch:=first|omega|(simp only [go_sem,seval];first|done|omega)) only [go_sem,seval]))
end
end Go.Nac.L4
namespace Go.Nac.L4
attribute [local congr] b1_congr b2_congr Wp_congr wpOps_congr thenK_congr blockK_congr gK_congr cK_congr
section
variable {X:XRel}
open Ieee
theorem q_law01_series (s:Ser) (hl:s.samples.length ≤ 1000000) (hgl:s.gaps.length ≤ 1000000):Q X 65 [encSer s] (encSer s):=by
  have es:=encSer_eq s
  have ok1:=encF_ok s.samples
  have ln1:(s.samples.map encF).length = s.samples.length:=by simp
  have hs:=q_site_spans (X:=X) s.gaps hgl
  have lw1:∀ m,lowL m (s.samples.map encF) = True:=fun m => encF_low _
  have lw2:∀ m,lowL m (s.gaps.map encSpn) = True:=fun m => encSpn_low _
  rw [es]
  intro M
  (refine ACall_fn (cf:=L4.c65) rfl rfl fun hM hA => ?_;simp only [L4.c65,zO,zF,zT];rw [mk1 _ (by decide)];simp -implicitDefEqProofs (disch:=first|omega|(simp only [go_sem,seval,ok1,ln1];first|done|omega)) only [go_sem,seval,ok1,ln1])
  refine callP_q (hs _) ?_
  simp -implicitDefEqProofs (disch:=first|omega|(simp only [go_sem,seval,r_fzbuild,fzs_os,fzs_s,fzs_nil,ln1];first|done|omega)) only [go_sem,seval,r_fzbuild,fzs_os,fzs_s,fzs_nil,ln1]
  refine ⟨by simp [pairsOk,okPair,apartL,refs,refs1],?_⟩
  (first|refine post_fin ret_ok hM rfl ?_ ?_|refine post_fin0 ret_ok hM rfl ?_ ?_|refine post_fin normal_ok hM rfl ?_ ?_|refine post_fin0 normal_ok hM rfl ?_ ?_)
  · simp -implicitDefEqProofs (disch:=first|omega|(simp only [go_sem,seval,ln1];first|done|omega)) only [go_sem,seval,ln1]
  · (simp only [go_sem,seval,lw1,lw2] <;> first|done|omega)
def recQ (l:List Nat) (g:List Spn) (k:Nat):List (Nat × Nat):=(recK l g k).map p0
def sumQ (s:Ser):Stt:=sttTo (recQ s.samples s.gaps s.samples.length)
end
end Go.Nac.L4
namespace Go.Nac.L4
attribute [local congr] b1_congr b2_congr Wp_congr wpOps_congr thenK_congr blockK_congr gK_congr cK_congr
section
variable {X:XRel}
theorem short_len {s:Ser} (h:shortB s = true):s.samples.length ≤ 40001 ∧ s.gaps.length ≤ 1025:=by
  unfold shortB at h
  simp only [Bool.and_eq_true,Bool.or_eq_true,decide_eq_true_eq] at h
  omega
theorem q_law01_told (s:Ser):Q X 86 [encSer s] (encSer s):=by
  have es:=encSer_eq s
  have lw1:∀ m,lowL m (s.samples.map encF) = True:=fun m => encF_low _
  have lw2:∀ m,lowL m (s.gaps.map encSpn) = True:=fun m => encSpn_low _
  rw [es]
  intro M
  (refine ACall_fn (cf:=L4.c86) rfl rfl fun hM hA => ?_;simp only [L4.c86,zO,zF,zT];rw [mk1 _ (by decide)];simp -implicitDefEqProofs (disch:=first|omega|(simp only [go_sem,seval];first|done|omega)) only [go_sem,seval])
  (first|refine post_fin ret_ok hM rfl ?_ ?_|refine post_fin0 ret_ok hM rfl ?_ ?_|refine post_fin normal_ok hM rfl ?_ ?_|refine post_fin0 normal_ok hM rfl ?_ ?_)
  · simp -implicitDefEqProofs (disch:=first|omega|(simp only [go_sem,seval];first|done|omega)) only [go_sem,seval]
  · (simp only [go_sem,seval,lw1,lw2] <;> first|done|omega)
theorem q_ref01_SameSamples (a b:List Nat) (ha:∀ x ∈ a,smpE x = 0) (hb:∀ x ∈ b,smpE x = 0) (hl:a.length ≤ 1048576):Q X 130 [.fs (a.map encF),.fs (b.map encF)] (.B (decide (a.map fOf = b.map fOf))):=by
  intro M
  by_cases h1:a.length = b.length
  case neg =>
    have f1:((a.length:Int) = b.length) = False:=eq_false (by omega)
    have h2:¬ a.map fOf = b.map fOf:=fun h => h1 (by simpa using congrArg List.length h)
    (refine ACall_fn (cf:=L4.c130) rfl rfl fun hM hA => ?_;simp only [L4.c130,zO,zF,zT];rw [mk2 _ (by decide)];simp -implicitDefEqProofs (disch:=first|omega|(simp only [go_sem,seval,f1];first|done|omega)) only [go_sem,seval,f1])
    (first|refine post_fin ret_ok hM rfl ?_ ?_|refine post_fin0 ret_ok hM rfl ?_ ?_|refine post_fin normal_ok hM rfl ?_ ?_|refine post_fin0 normal_ok hM rfl ?_ ?_)
    · simp -implicitDefEqProofs (disch:=first|omega|(simp only [go_sem,seval];first|done|omega)) only [go_sem,seval]
      rw [decide_eq_false h2]
    · (simp only [go_sem,seval] <;> first|done|omega)
  have f1:((a.length:Int) = b.length) = True:=eq_true (by omega)
  (refine ACall_fn (cf:=L4.c130) rfl rfl fun hM hA => ?_;simp only [L4.c130,zO,zF,zT];rw [mk2 _ (by decide)];simp -implicitDefEqProofs (disch:=first|omega|(simp only [go_sem,seval,f1];first|done|omega)) only [go_sem,seval,f1])
  refine loop_mk (α:=Nat) 0 (fun k => k ≤ a.length ∧ (a.take k).map fOf = (b.take k).map fOf) (fun k => M) (fun k => [(0,.fs (a.map encF)),(1,.fs (b.map encF)),(5,.I k)]) (fun k => a.length - k) ⟨Nat.zero_le _,rfl⟩ rfl rfl ?_
  rintro k ⟨hk,hs⟩
  by_cases hlt:k < a.length
  · obtain ⟨x,hx⟩:∃ x,a[k]? = some x:=⟨_,List.getElem?_eq_getElem hlt⟩
    obtain ⟨y,hy⟩:∃ y,b[k]? = some y:=⟨_,List.getElem?_eq_getElem (by omega)⟩
    have hlt2:k < b.length:=by omega
    have hne:=f_neq (smp_isNum (ha x (List.mem_of_getElem? hx))) (smp_isNum (hb y (List.mem_of_getElem? hy)))
    by_cases hxy:fOf x = fOf y
    · rw [decide_eq_false (by simp [hxy])] at hne
      simp -implicitDefEqProofs (disch:=first|omega|(simp only [go_sem,seval,hlt,hlt2,hx,hy,r_sop,hne];first|done|omega)) only [go_sem,seval,hlt,hlt2,hx,hy,r_sop,hne]
      refine again' (k + 1) ⟨by omega,?_⟩ (by omega) rfl rfl
      rw [take_snoc hx,take_snoc hy,hs,hxy]
    · rw [decide_eq_true hxy] at hne
      simp -implicitDefEqProofs (disch:=first|omega|(simp only [go_sem,seval,hlt,hlt2,hx,hy,r_sop,hne];first|done|omega)) only [go_sem,seval,hlt,hlt2,hx,hy,r_sop,hne]
      (first|refine post_fin ret_ok hM rfl ?_ ?_|refine post_fin0 ret_ok hM rfl ?_ ?_|refine post_fin normal_ok hM rfl ?_ ?_|refine post_fin0 normal_ok hM rfl ?_ ?_)
      · simp -implicitDefEqProofs (disch:=first|omega|(simp only [go_sem,seval];first|done|omega)) only [go_sem,seval]
        rw [decide_eq_false]
        intro h
        have:=congrArg (·[k]?) h
        simp only [List.getElem?_map,hx,hy,Option.map_some,Option.some.injEq] at this
        exact hxy this
      · (simp only [go_sem,seval] <;> first|done|omega)
  · simp -implicitDefEqProofs (disch:=first|omega|(simp only [go_sem,seval,hlt];first|done|omega)) only [go_sem,seval,hlt]
    rw [List.take_of_length_le (by omega),List.take_of_length_le (by omega)] at hs
    (first|refine post_fin ret_ok hM rfl ?_ ?_|refine post_fin0 ret_ok hM rfl ?_ ?_|refine post_fin normal_ok hM rfl ?_ ?_|refine post_fin0 normal_ok hM rfl ?_ ?_)
    · simp -implicitDefEqProofs (disch:=first|omega|(simp only [go_sem,seval];first|done|omega)) only [go_sem,seval]
      rw [decide_eq_true hs]
    · (simp only [go_sem,seval] <;> first|done|omega)
theorem q_ref01_SameSeries (a b:Ser) (ha:∀ x ∈ a.samples,smpE x = 0) (hb:∀ x ∈ b.samples,smpE x = 0) (hl:a.samples.length ≤ 1048576) (hg:a.gaps.length ≤ 1048576) :
    Q X 85 [encSer a,encSer b] (.B (decide (a.name = b.name) && (decide (a.start = b.start) && (decide (a.samples.map fOf = b.samples.map fOf) && decide (a.gaps = b.gaps))))):=by
  have h1:=q_ref01_SameSamples (X:=X) a.samples b.samples ha hb hl
  have h2:=q_ref01_SameSpans (X:=X) a.gaps b.gaps hg
  rw [encSer_eq,encSer_eq]
  generalize decide (a.samples.map fOf = b.samples.map fOf) = u at *
  generalize decide (a.gaps = b.gaps) = v at *
  intro M
  by_cases g1:a.name = b.name
  · by_cases g2:a.start = b.start
    · (refine ACall_fn (cf:=L4.c85) rfl rfl fun hM hA => ?_;simp only [L4.c85,zO,zF,zT];rw [mk2 _ (by decide)];simp -implicitDefEqProofs (disch:=first|omega|(simp only [go_sem,seval,bin_strEq,g1,g2];first|done|omega)) only [go_sem,seval,bin_strEq,g1,g2])
      cases u
      · repeat' (first|(refine callP_q (h1 _) ?_;(try simp -implicitDefEqProofs (disch:=first|omega|(simp only [go_sem,seval];first|done|omega)) only [go_sem,seval]))|(refine callP_q (h2 _) ?_;(try simp -implicitDefEqProofs (disch:=first|omega|(simp only [go_sem,seval];first|done|omega)) only [go_sem,seval]))|(refine cK_cases ?_ ?_ <;> intro hc <;> (try simp only [decide_eq_true_eq,decide_eq_false_iff_not,Classical.not_not,Bool.not_eq_true,Bool.not_eq_true',Bool.not_eq_false',Bool.false_or,Bool.or_false,Bool.true_or,Bool.or_true,Bool.false_and,Bool.and_false,Bool.true_and,Bool.and_true] at hc) <;> (try simp -implicitDefEqProofs (disch:=first|omega|(simp only [go_sem,seval,hc];first|done|omega)) only [go_sem,seval,hc]))|(refine gK_cases ?_ ?_ <;> intro hc <;> (try simp only [decide_eq_true_eq,decide_eq_false_iff_not,Classical.not_not,Bool.not_eq_true,Bool.not_eq_true',Bool.not_eq_false',Bool.false_or,Bool.or_false,Bool.true_or,Bool.or_true,Bool.false_and,Bool.and_false,Bool.true_and,Bool.and_true] at hc) <;> (try simp -implicitDefEqProofs (disch:=first|omega|(simp only [go_sem,seval,hc];first|done|omega)) only [go_sem,seval,hc])))
        (all_goals (first|refine post_fin ret_ok hM rfl ?_ ?_|refine post_fin0 ret_ok hM rfl ?_ ?_|refine post_fin normal_ok hM rfl ?_ ?_|refine post_fin0 normal_ok hM rfl ?_ ?_);all_goals first|(simp only [go_sem,seval] <;> first|done|omega)|skip;all_goals (try simp -implicitDefEqProofs (disch:=first|omega|(simp only [go_sem,seval];first|done|omega)) only [go_sem,seval]))
        all_goals simp
      · repeat' (first|(refine callP_q (h1 _) ?_;(try simp -implicitDefEqProofs (disch:=first|omega|(simp only [go_sem,seval];first|done|omega)) only [go_sem,seval]))|(refine callP_q (h2 _) ?_;(try simp -implicitDefEqProofs (disch:=first|omega|(simp only [go_sem,seval];first|done|omega)) only [go_sem,seval]))|(refine cK_cases ?_ ?_ <;> intro hc <;> (try simp only [decide_eq_true_eq,decide_eq_false_iff_not,Classical.not_not,Bool.not_eq_true,Bool.not_eq_true',Bool.not_eq_false',Bool.false_or,Bool.or_false,Bool.true_or,Bool.or_true,Bool.false_and,Bool.and_false,Bool.true_and,Bool.and_true] at hc) <;> (try simp -implicitDefEqProofs (disch:=first|omega|(simp only [go_sem,seval,hc];first|done|omega)) only [go_sem,seval,hc]))|(refine gK_cases ?_ ?_ <;> intro hc <;> (try simp only [decide_eq_true_eq,decide_eq_false_iff_not,Classical.not_not,Bool.not_eq_true,Bool.not_eq_true',Bool.not_eq_false',Bool.false_or,Bool.or_false,Bool.true_or,Bool.or_true,Bool.false_and,Bool.and_false,Bool.true_and,Bool.and_true] at hc) <;> (try simp -implicitDefEqProofs (disch:=first|omega|(simp only [go_sem,seval,hc];first|done|omega)) only [go_sem,seval,hc])))
        (all_goals (first|refine post_fin ret_ok hM rfl ?_ ?_|refine post_fin0 ret_ok hM rfl ?_ ?_|refine post_fin normal_ok hM rfl ?_ ?_|refine post_fin0 normal_ok hM rfl ?_ ?_);all_goals first|(simp only [go_sem,seval] <;> first|done|omega)|skip;all_goals (try simp -implicitDefEqProofs (disch:=first|omega|(simp only [go_sem,seval];first|done|omega)) only [go_sem,seval]))
        all_goals simp
    · (refine ACall_fn (cf:=L4.c85) rfl rfl fun hM hA => ?_;simp only [L4.c85,zO,zF,zT];rw [mk2 _ (by decide)];simp -implicitDefEqProofs (disch:=first|omega|(simp only [go_sem,seval,bin_strEq,g1,g2];first|done|omega)) only [go_sem,seval,bin_strEq,g1,g2])
      (all_goals (first|refine post_fin ret_ok hM rfl ?_ ?_|refine post_fin0 ret_ok hM rfl ?_ ?_|refine post_fin normal_ok hM rfl ?_ ?_|refine post_fin0 normal_ok hM rfl ?_ ?_);all_goals first|(simp only [go_sem,seval] <;> first|done|omega)|skip;all_goals (try simp -implicitDefEqProofs (disch:=first|omega|(simp only [go_sem,seval];first|done|omega)) only [go_sem,seval]))
      all_goals simp [g2]
  · (refine ACall_fn (cf:=L4.c85) rfl rfl fun hM hA => ?_;simp only [L4.c85,zO,zF,zT];rw [mk2 _ (by decide)];simp -implicitDefEqProofs (disch:=first|omega|(simp only [go_sem,seval,bin_strEq,g1];first|done|omega)) only [go_sem,seval,bin_strEq,g1])
    (all_goals (first|refine post_fin ret_ok hM rfl ?_ ?_|refine post_fin0 ret_ok hM rfl ?_ ?_|refine post_fin normal_ok hM rfl ?_ ?_|refine post_fin0 normal_ok hM rfl ?_ ?_);all_goals first|(simp only [go_sem,seval] <;> first|done|omega)|skip;all_goals (try simp -implicitDefEqProofs (disch:=first|omega|(simp only [go_sem,seval];first|done|omega)) only [go_sem,seval]))
    all_goals simp [g1]
theorem gaps_40 {a:Ser} (h:chkSer a = 0):spOk a.gaps ∧ a.gaps.length ≤ 1024 ∧ Can a.gaps ∧ ∀ x ∈ a.gaps,0 ≤ x.fr ∧ x.fr < x.to_ ∧ x.to_ ≤ a.samples.length:=by
  have h0:=h
  obtain ⟨hin,_⟩:=serIn_of h
  have hc:chkSpns a.gaps = 0:=by
    rw [chkSer_eq] at h
    split at h
    · unfold serB at h
      split at h
      · rename_i h1;exact absurd h h1
      · split at h
        · rename_i h1;exact absurd h h1
        · rename_i h1;exact Decidable.of_not_not h1
    · rename_i h1;exact absurd h h1
  obtain ⟨c1,c2⟩:=chkSpns_can.1 hc
  exact ⟨c2.ok,c1,c2,hin.2.2⟩
def FrombX (X:XRel):Prop:=∀ (u:Nat) (M:List Blk),X 135 [.s (.int .u32 u)] M (.s (.float .f32 u)) M
theorem q_bytes_Equal (a b:List UInt8):Q X 156 [.fs (a.map bt),.fs (b.map bt)] (.B (decide (a = b))):=by
  intro M
  have h1:=strOf_bt a
  have h2:=strOf_bt b
  have e:bin .eql (.s (.string ⟨a.toArray⟩)) (.s (.string ⟨b.toArray⟩)) = some (.B (decide (a = b))):=by
    rw [bin_strEq,show decide ((⟨a.toArray⟩:ByteArray) = ⟨b.toArray⟩) = decide (a = b) from decide_eq_decide.2 ⟨fun h => by injection h with h;simpa using congrArg Array.toList h,fun h => by rw [h]⟩]
  (refine ACall_fn (cf:=L4.c156) rfl rfl fun hM hA => ?_;simp only [L4.c156,zO,zF,zT];rw [mk2 _ (by decide)];simp -implicitDefEqProofs (disch:=first|omega|(simp only [go_sem,seval,h1,h2,e];first|done|omega)) only [go_sem,seval,h1,h2,e])
  (all_goals (first|refine post_fin ret_ok hM rfl ?_ ?_|refine post_fin0 ret_ok hM rfl ?_ ?_|refine post_fin normal_ok hM rfl ?_ ?_|refine post_fin0 normal_ok hM rfl ?_ ?_);all_goals first|(simp only [go_sem,seval] <;> first|done|omega)|skip;all_goals (try simp -implicitDefEqProofs (disch:=first|omega|(simp only [go_sem,seval];first|done|omega)) only [go_sem,seval]))
theorem q_bytes_HasPrefix (a b:List UInt8) (ha:a.length ≤ 4000000) (hb:b.length ≤ 4000000):Q X 133 [.fs (a.map bt),.fs (b.map bt)] (.B (decide (a.take b.length = b))):=by
  intro M
  by_cases h:b.length ≤ a.length
  · have e1:((a.length:Int) ≥ b.length) = True:=eq_true (by omega)
    have e2:(a.map bt).take b.length = (a.take b.length).map bt:=(List.map_take).symm
    have e3:=bt_sized a
    (refine ACall_fn (cf:=L4.c133) rfl rfl fun hM hA => ?_;simp only [L4.c133,zO,zF,zT];rw [mk2 _ (by decide)];simp -implicitDefEqProofs (disch:=first|omega|(simp only [go_sem,seval,e1,h,e2,e3];first|done|omega)) only [go_sem,seval,e1,h,e2,e3])
    refine callP_q (q_bytes_Equal _ _ _) ?_
    simp -implicitDefEqProofs (disch:=first|omega|(simp only [go_sem,seval];first|done|omega)) only [go_sem,seval]
    (all_goals (first|refine post_fin ret_ok hM rfl ?_ ?_|refine post_fin0 ret_ok hM rfl ?_ ?_|refine post_fin normal_ok hM rfl ?_ ?_|refine post_fin0 normal_ok hM rfl ?_ ?_);all_goals first|(simp only [go_sem,seval] <;> first|done|omega)|skip;all_goals (try simp -implicitDefEqProofs (disch:=first|omega|(simp only [go_sem,seval];first|done|omega)) only [go_sem,seval]))
  · have e1:((a.length:Int) ≥ b.length) = False:=eq_false (by omega)
    have e2:(a.take b.length = b) = False:=eq_false (fun hh => h (by rw [← hh,List.length_take];omega))
    (refine ACall_fn (cf:=L4.c133) rfl rfl fun hM hA => ?_;simp only [L4.c133,zO,zF,zT];rw [mk2 _ (by decide)];simp -implicitDefEqProofs (disch:=first|omega|(simp only [go_sem,seval,e1,e2];first|done|omega)) only [go_sem,seval,e1,e2])
    (all_goals (first|refine post_fin ret_ok hM rfl ?_ ?_|refine post_fin0 ret_ok hM rfl ?_ ?_|refine post_fin normal_ok hM rfl ?_ ?_|refine post_fin0 normal_ok hM rfl ?_ ?_);all_goals first|(simp only [go_sem,seval] <;> first|done|omega)|skip;all_goals (try simp -implicitDefEqProofs (disch:=first|omega|(simp only [go_sem,seval];first|done|omega)) only [go_sem,seval]))
def nk (a b c d:UInt8):Nat → Nat
  | 0 => 0
  | 1 => a.toNat
  | 2 => a.toNat * 256 + b.toNat
  | 3 => (a.toNat * 256 + b.toNat) * 256 + c.toNat
  | _ => ((a.toNat * 256 + b.toNat) * 256 + c.toNat) * 256 + d.toNat
theorem number_run (l:List UInt8) (h:4 ≤ l.length) (hl:l.length ≤ 4000000) {M0:List Blk} :
    ACall F X (.fn 134) [.op M0.length 0 0 0] (M0 ++ [.row true 1 0 [.agg [.fs (l.map bt)]]]) (.I (num4 l)) (M0 ++ [.row true 1 0 [.agg [.fs ((l.drop 4).map bt)]]]):=by
  obtain ⟨a,b,c,d,t,rfl⟩:=four_of h
  have hn:num4 (a :: b :: c :: d :: t) = nk a b c d 4:=rfl
  rw [hn]
  have la:=u8_lt a
  have lb:=u8_lt b
  have lc:=u8_lt c
  have ld:=u8_lt d
  have ht:(t.length:Int) + 1 + 1 + 1 + 1 ≤ 4000000:=by simp at hl;omega
  have lt_:∀ m,lowL m (t.map bt) = True:=fun m => bt_low t
  refine ACall_fn (cf:=c134) rfl rfl fun hM hA => ?_
  simp only [c134,zO,zF,zT]
  rw [mk1 _ (by decide)]
  have lz:=bt_sized (a :: b :: c :: d :: t)
  simp only [List.map_cons,bt_eq] at lz
  have htk:(t.map bt).take t.length = t.map bt:=List.take_of_length_le (by simp)
  have hs:∀ k,k < 4 → bin .shl (.s (.int .i64 (nk a b c d k))) (.s (.int .u64 8)) = some (.I ((nk a b c d k * 256:Nat):Int)):=by
    intro k hk
    rw [bin_shl (by decide)]
    have e1:min (8:Int).toNat IntKind.i64.bits = 8:=rfl
    have e2:nk a b c d k < 4294967296:=by
      unfold nk
      split <;> omega
    have e3:((nk a b c d k:Nat):Int) * 2 ^ 8 = ((nk a b c d k * 256:Nat):Int):=by omega
    rw [e1,e3,wrap_in ⟨by omega,by omega⟩]
  have ho0:bin .or (.I ((nk a b c d 0 * 256:Nat):Int)) (.I a.toNat) = some (.I (nk a b c d 1)):=(or_byte (by simp [nk]) la).trans (by simp [nk])
  have ho1:bin .or (.I ((nk a b c d 1 * 256:Nat):Int)) (.I b.toNat) = some (.I (nk a b c d 2)):=(or_byte (by simp [nk];omega) lb).trans (by simp [nk])
  have ho2:bin .or (.I ((nk a b c d 2 * 256:Nat):Int)) (.I c.toNat) = some (.I (nk a b c d 3)):=(or_byte (by simp [nk];omega) lc).trans (by simp [nk])
  have ho3:bin .or (.I ((nk a b c d 3 * 256:Nat):Int)) (.I d.toNat) = some (.I (nk a b c d 4)):=(or_byte (by simp [nk];omega) ld).trans (by simp [nk])
  have hs0:=hs 0 (by decide)
  have hs1:=hs 1 (by decide)
  have hs2:=hs 2 (by decide)
  have hs3:=hs 3 (by decide)
  have hi0:∀ x y z u:PV,idxaV 4 1 none (.agg [x,y,z,u]) (some 0) = some x:=fun _ _ _ _ => rfl
  have hi1:∀ x y z u:PV,idxaV 4 1 none (.agg [x,y,z,u]) (some 1) = some y:=fun _ _ _ _ => rfl
  have hi2:∀ x y z u:PV,idxaV 4 1 none (.agg [x,y,z,u]) (some 2) = some z:=fun _ _ _ _ => rfl
  have hi3:∀ x y z u:PV,idxaV 4 1 none (.agg [x,y,z,u]) (some 3) = some u:=fun _ _ _ _ => rfl
  simp -implicitDefEqProofs (disch:=first|omega|(simp only [go_sem,seval,bt_eq,lz,htk];first|done|omega)) only [go_sem,seval,bt_eq,lz,htk]
  refine loop_mk (α:=Nat) 0 (fun k => k ≤ 4) (fun _ => M0 ++ [.row true 1 0 [.agg [.fs (t.map bt)]],.row true 4 0 [.agg [.s (.int .u8 a.toNat),.s (.int .u8 b.toNat),.s (.int .u8 c.toNat),.s (.int .u8 d.toNat)]]])
    (fun k => [(4,.I (nk a b c d k)),(22,.agg [.s (.int .u8 a.toNat),.s (.int .u8 b.toNat),.s (.int .u8 c.toNat),.s (.int .u8 d.toNat)]),(23,.I k)]) (fun k => 4 - k) (by decide) rfl rfl ?_
  intro k hk
  rcases (by omega:k = 0 ∨ k = 1 ∨ k = 2 ∨ k = 3 ∨ k = 4) with rfl|rfl|rfl|rfl|rfl
  · simp -implicitDefEqProofs (disch:=first|omega|(simp only [go_sem,seval,hs0,ho0,hi0];first|done|omega)) only [go_sem,seval,hs0,ho0,hi0]
    exact again' 1 (by omega) (by omega) rfl rfl
  · simp -implicitDefEqProofs (disch:=first|omega|(simp only [go_sem,seval,hs1,ho1,hi1];first|done|omega)) only [go_sem,seval,hs1,ho1,hi1]
    exact again' 2 (by omega) (by omega) rfl rfl
  · simp -implicitDefEqProofs (disch:=first|omega|(simp only [go_sem,seval,hs2,ho2,hi2];first|done|omega)) only [go_sem,seval,hs2,ho2,hi2]
    exact again' 3 (by omega) (by omega) rfl rfl
  · simp -implicitDefEqProofs (disch:=first|omega|(simp only [go_sem,seval,hs3,ho3,hi3];first|done|omega)) only [go_sem,seval,hs3,ho3,hi3]
    exact again' 4 (by omega) (by omega) rfl rfl
  · simp -implicitDefEqProofs (disch:=first|omega|(simp only [go_sem,seval];first|done|omega)) only [go_sem,seval]
    have e:∀ x y:Blk,M0 ++ [x,y] = (M0 ++ [x]) ++ [y]:=fun x y => by simp
    have hlow:lowM (M0 ++ [Blk.row true 1 0 [.agg [.fs (t.map bt)]]]).length (M0 ++ [Blk.row true 1 0 [.agg [.fs (t.map bt)]]]):=by
      intro b hb
      rcases List.mem_append.1 hb with hb|hb
      · have:=hM b (by simp [hb])
        simpa using this
      · rw [List.mem_singleton] at hb
        subst hb
        show lowL _ [_]
        simp [lowL,PV.low,lt_]
    rw [e]
    refine post_fin ret_ok hlow (by simp) ?_ ?_
    · simp -implicitDefEqProofs (disch:=first|omega|(simp only [go_sem,seval];first|done|omega)) only [go_sem,seval]
    · (simp only [go_sem,seval] <;> first|done|omega)
theorem wrap32 {n:Int} (h:0 ≤ n ∧ n < 4294967296):IntKind.u32.wrap n = n:=by
  have e:IntKind.u32.wrap n = n % 4294967296:=rfl
  rw [e];omega
theorem number5 (l:List UInt8) (h:4 ≤ l.length) (hl:l.length ≤ 4000000) {M:List Blk} {a b c d e:Blk} :
    ACall F X (.fn 134) [.op (M.length + 5) 0 0 0] (M ++ [a,b,c,d,e,.row true 1 0 [.agg [.fs (l.map bt)]]]) (.I (num4 l)) (M ++ [a,b,c,d,e,.row true 1 0 [.agg [.fs ((l.drop 4).map bt)]]]):=by
  have:=number_run (X:=X) l h hl (M0:=M ++ [a,b,c,d,e])
  have e1:(M ++ [a,b,c,d,e]).length = M.length + 5:=by simp
  have e2:∀ x:Blk,(M ++ [a,b,c,d,e]) ++ [x] = M ++ [a,b,c,d,e,x]:=fun x => by simp
  rw [e1,e2,e2] at this
  exact this
theorem number5f (l:List UInt8) (h:4 ≤ l.length) (hl:l.length ≤ 4000000) {M:List Blk} {a b c d e:Blk} (N:List Blk) (h1:N.length = (M ++ [a,b,c,d,e,.row true 1 0 [.agg [.fs (l.map bt)]]]).length)
    (h2:N[M.length + 5]? = (M ++ [a,b,c,d,e,.row true 1 0 [.agg [.fs (l.map bt)]]])[M.length + 5]?) :
    ACall F X (.fn 134) ([.op (M.length + 5) 0 0 0] ++ [] ++ []) N (.I (num4 l)) (N.set (M.length + 5) (.row true 1 0 [.agg [.fs ((l.drop 4).map bt)]])):=by
  have h3:(M ++ [a,b,c,d,e,.row true 1 0 [.agg [.fs (l.map bt)]]])[M.length + 5]? = some (.row true 1 0 [.agg [.fs (l.map bt)]]):=by rw [getMj];rfl
  rw [h3] at h2
  have h4:N.length = M.length + 6:=by rw [h1];simp
  have h5:(N.take (M.length + 5)).length = M.length + 5:=by rw [List.length_take];omega
  have h6:N = N.take (M.length + 5) ++ [.row true 1 0 [.agg [.fs (l.map bt)]]]:=by
    obtain ⟨g1,g2⟩:=List.getElem?_eq_some_iff.1 h2
    have:=List.take_succ_eq_append_getElem g1
    rw [g2,List.take_of_length_le (by omega)] at this
    exact this
  have:=number_run (X:=X) l h hl (M0:=N.take (M.length + 5))
  rw [h5,← h6] at this
  have h7:N.set (M.length + 5) (.row true 1 0 [.agg [.fs ((l.drop 4).map bt)]]) = N.take (M.length + 5) ++ [.row true 1 0 [.agg [.fs ((l.drop 4).map bt)]]]:=by
    generalize N.take (M.length + 5) = K at h5 h6
    rw [h6,← h5,setM0]
    rfl
  rw [h7]
  exact this
theorem q_site_Decode (hB:FrombX X) (b:List UInt8) (hl:b.length ≤ 100000):Q X 89 [.fs (b.map bt)] (.tup [encSer (decS b),.I (dE b)]):=by
  intro M
  have hp:=fun N => q_bytes_HasPrefix (X:=X) b [87,73,78,68] (by omega) (by decide) N
  have ew:([87,73,78,68]:List UInt8).map bt = [.s (.int .u8 87),.s (.int .u8 73),.s (.int .u8 78),.s (.int .u8 68)]:=rfl
  have e4:([87,73,78,68]:List UInt8).length = 4:=rfl
  rw [ew,e4] at hp
  clear ew e4
  have h1:((4000000:Int) < b.length) = False:=eq_false (by omega)
  have q0:=fun (l:List Int) hl N => q_site_first (X:=X) l hl N
  by_cases c5:b.length < 5
  · have f5:((b.length:Int) < 5) = True:=eq_true (by omega)
    have hd:dE b = 29:=by
      have:dE0 b = 29:=by unfold dE0;rw [if_neg (by omega),if_pos c5]
      unfold dE;rw [this];rfl
    have hs:decS b = ⟨⟨#[]⟩,0,[],[]⟩:=by unfold decS;rw [hd];rfl
    rw [hd,hs,encSer_eq]
    (refine ACall_fn (cf:=L4.c89) rfl rfl fun hM hA => ?_;simp only [L4.c89,zO,zF,zT];rw [mk1 _ (by decide)];simp -implicitDefEqProofs (disch:=first|omega|(simp only [go_sem,seval,h1];first|done|omega)) only [go_sem,seval,h1])
    refine callP_q (q_site_when _ _ _) ?_
    simp -implicitDefEqProofs (disch:=first|omega|(simp only [go_sem,seval];first|done|omega)) only [go_sem,seval]
    refine callP_q (q_site_when _ _ _) ?_
    simp -implicitDefEqProofs (disch:=first|omega|(simp only [go_sem,seval,f5];first|done|omega)) only [go_sem,seval,f5]
    refine callP_q (hp _) ?_
    simp -implicitDefEqProofs (disch:=first|omega|(simp only [go_sem,seval];first|done|omega)) only [go_sem,seval]
    refine callP_q (q_site_when _ _ _) ?_
    simp -implicitDefEqProofs (disch:=first|omega|(simp only [go_sem,seval];first|done|omega)) only [go_sem,seval]
    refine callP_q (q0 [_,_,_] (by simp) _) ?_
    simp only [fst0]
    simp -implicitDefEqProofs (disch:=first|omega|(simp only [go_sem,seval,f5];first|done|omega)) only [go_sem,seval,f5]
    (all_goals (first|refine post_fin ret_ok hM rfl ?_ ?_|refine post_fin0 ret_ok hM rfl ?_ ?_|refine post_fin normal_ok hM rfl ?_ ?_|refine post_fin0 normal_ok hM rfl ?_ ?_);all_goals first|(simp only [go_sem,seval] <;> first|done|omega)|skip;all_goals (try simp -implicitDefEqProofs (disch:=first|omega|(simp only [go_sem,seval];first|done|omega)) only [go_sem,seval]))
  have f5:((b.length:Int) < 5) = False:=eq_false (by omega)
  by_cases cW:b.take 4 = [87,73,78,68]
  case neg =>
    have hd:dE b = 1:=by
      have:dE0 b = 1:=by unfold dE0;rw [if_neg (by omega),if_neg c5,if_pos cW]
      unfold dE;rw [this];rfl
    have hs:decS b = ⟨⟨#[]⟩,0,[],[]⟩:=by unfold decS;rw [hd];rfl
    rw [hd,hs,encSer_eq]
    (refine ACall_fn (cf:=L4.c89) rfl rfl fun hM hA => ?_;simp only [L4.c89,zO,zF,zT];rw [mk1 _ (by decide)];simp -implicitDefEqProofs (disch:=first|omega|(simp only [go_sem,seval,h1];first|done|omega)) only [go_sem,seval,h1])
    refine callP_q (q_site_when _ _ _) ?_
    simp -implicitDefEqProofs (disch:=first|omega|(simp only [go_sem,seval];first|done|omega)) only [go_sem,seval]
    refine callP_q (q_site_when _ _ _) ?_
    simp -implicitDefEqProofs (disch:=first|omega|(simp only [go_sem,seval,f5];first|done|omega)) only [go_sem,seval,f5]
    refine callP_q (hp _) ?_
    simp -implicitDefEqProofs (disch:=first|omega|(simp only [go_sem,seval,cW];first|done|omega)) only [go_sem,seval,cW]
    refine callP_q (q_site_when _ _ _) ?_
    simp -implicitDefEqProofs (disch:=first|omega|(simp only [go_sem,seval,cW];first|done|omega)) only [go_sem,seval,cW]
    refine callP_q (q0 [_,_,_] (by simp) _) ?_
    simp only [fst0]
    simp -implicitDefEqProofs (disch:=first|omega|(simp only [go_sem,seval,f5];first|done|omega)) only [go_sem,seval,f5]
    (all_goals (first|refine post_fin ret_ok hM rfl ?_ ?_|refine post_fin0 ret_ok hM rfl ?_ ?_|refine post_fin normal_ok hM rfl ?_ ?_|refine post_fin0 normal_ok hM rfl ?_ ?_);all_goals first|(simp only [go_sem,seval] <;> first|done|omega)|skip;all_goals (try simp -implicitDefEqProofs (disch:=first|omega|(simp only [go_sem,seval];first|done|omega)) only [go_sem,seval]))
  have hd0:dE0 b = 0:=by unfold dE0;rw [if_neg (by omega),if_neg c5,if_neg (fun h => h cW)]
  obtain ⟨c,hc⟩:∃ c,b[4]? = some c:=⟨_,List.getElem?_eq_getElem (by omega)⟩
  have hn:nmN b = c.toNat:=by unfold nmN;rw [hc];rfl
  have hcl:=u8_lt c
  (refine ACall_fn (cf:=L4.c89) rfl rfl fun hM hA => ?_;simp only [L4.c89,zO,zF,zT];rw [mk1 _ (by decide)];simp -implicitDefEqProofs (disch:=first|omega|(simp only [go_sem,seval,h1];first|done|omega)) only [go_sem,seval,h1])
  refine callP_q (q_site_when _ _ _) ?_
  simp -implicitDefEqProofs (disch:=first|omega|(simp only [go_sem,seval];first|done|omega)) only [go_sem,seval]
  refine callP_q (q_site_when _ _ _) ?_
  simp -implicitDefEqProofs (disch:=first|omega|(simp only [go_sem,seval,f5];first|done|omega)) only [go_sem,seval,f5]
  refine callP_q (hp _) ?_
  simp -implicitDefEqProofs (disch:=first|omega|(simp only [go_sem,seval,cW];first|done|omega)) only [go_sem,seval,cW]
  refine callP_q (q_site_when _ _ _) ?_
  simp -implicitDefEqProofs (disch:=first|omega|(simp only [go_sem,seval,cW];first|done|omega)) only [go_sem,seval,cW]
  refine callP_q (q0 [_,_,_] (by simp) _) ?_
  simp only [fst0]
  simp -implicitDefEqProofs (disch:=first|omega|(simp only [go_sem,seval,f5,hc,bt_eq];first|done|omega)) only [go_sem,seval,f5,hc,bt_eq]
  by_cases cL:b.length < 17 + c.toNat
  · have fL:((b.length:Int) < 5 + c.toNat + 12) = True:=eq_true (by omega)
    have hd:dE b = 29:=by unfold dE;rw [hd0,if_neg (fun h => h rfl),hn,if_pos cL]
    have hs:decS b = ⟨⟨#[]⟩,0,[],[]⟩:=by unfold decS;rw [hd];rfl
    rw [hd,hs,encSer_eq]
    simp -implicitDefEqProofs (disch:=first|omega|(simp only [go_sem,seval,fL];first|done|omega)) only [go_sem,seval,fL]
    (all_goals (first|refine post_fin ret_ok hM rfl ?_ ?_|refine post_fin0 ret_ok hM rfl ?_ ?_|refine post_fin normal_ok hM rfl ?_ ?_|refine post_fin0 normal_ok hM rfl ?_ ?_);all_goals first|(simp only [go_sem,seval] <;> first|done|omega)|skip;all_goals (try simp -implicitDefEqProofs (disch:=first|omega|(simp only [go_sem,seval];first|done|omega)) only [go_sem,seval]))
  have fL:((b.length:Int) < 5 + c.toNat + 12) = False:=eq_false (by omega)
  have lz:=bt_sized b
  have e1:(b.map bt).drop 5 = (b.drop 5).map bt:=List.map_drop.symm
  have e2:((b.drop 5).map bt).take c.toNat = ((b.drop 5).take c.toNat).map bt:=List.map_take.symm
  have e3:=strOf_bt ((b.drop 5).take c.toNat)
  have g1:((0:Int) ≤ 5 + c.toNat) = True:=eq_true (by omega)
  have g2:(5 + (c.toNat:Int)).toNat = 5 + c.toNat:=by omega
  have g3:5 + c.toNat ≤ b.length:=by omega
  have g4:5 + c.toNat - 5 = c.toNat:=by omega
  have hbd:dBody b = b.drop (5 + c.toNat):=by unfold dBody;rw [hn]
  have hbl:(dBody b).length = b.length - (5 + c.toNat):=by rw [hbd,List.length_drop]
  have e5:(b.map bt).drop (5 + c.toNat) = (dBody b).map bt:=by rw [hbd];exact List.map_drop.symm
  have e6:((dBody b).map bt).take (b.length - (5 + c.toNat)) = (dBody b).map bt:=List.take_of_length_le (by rw [List.length_map];omega)
  simp -implicitDefEqProofs (disch:=first|omega|(simp only [go_sem,seval,fL,lz,e1,e2,e3,g1,g2,g3,g4,e5,e6,ownR_agg];first|done|omega)) only [go_sem,seval,fL,lz,e1,e2,e3,g1,g2,g3,g4,e5,e6,ownR_agg]
  obtain ⟨B,hB0⟩:∃ B,B = dBody b:=⟨_,rfl⟩
  obtain ⟨T,hT0⟩:∃ T,T = dTail b:=⟨_,rfl⟩
  have hBT:B.drop 12 = T:=by rw [hB0,hT0];rfl
  obtain ⟨g,hg0⟩:∃ g,g = dG b:=⟨_,rfl⟩
  obtain ⟨m,hm0⟩:∃ m,m = dM b:=⟨_,rfl⟩
  have hg1:num4 (B.drop 8) = g:=by rw [hB0,hg0];rfl
  have hm1:num4 (B.drop 4) = m:=by rw [hB0,hm0];rfl
  have hg2:g < 4294967296:=hg1 ▸ num4_lt _
  have hm2:m < 4294967296:=hm1 ▸ num4_lt _
  have hst:=num4_lt B
  have hBl:12 ≤ B.length:=by rw [hB0,hbl];omega
  have hBl2:B.length ≤ 100000:=by rw [hB0,hbl];omega
  have hTl:T.length = B.length - 12:=by rw [← hBT,List.length_drop]
  rw [← hB0]
  have n1:=@number5 X B (by omega) (by omega)
  have n2:=@number5 X (B.drop 4) (by rw [List.length_drop];omega) (by rw [List.length_drop];omega)
  have n3:=@number5 X (B.drop 8) (by rw [List.length_drop];omega) (by rw [List.length_drop];omega)
  rw [List.drop_drop] at n2 n3
  rw [hm1] at n2
  rw [hg1,hBT] at n3
  refine callP_l n1 ?_
  simp -implicitDefEqProofs (disch:=first|omega|(simp only [go_sem,seval];first|done|omega)) only [go_sem,seval]
  refine callP_l n2 ?_
  simp -implicitDefEqProofs (disch:=first|omega|(simp only [go_sem,seval];first|done|omega)) only [go_sem,seval]
  refine callP_l n3 ?_
  simp -implicitDefEqProofs (disch:=first|omega|(simp only [go_sem,seval];first|done|omega)) only [go_sem,seval]
  have hdr:dSer b = ⟨⟨((b.drop 5).take c.toNat).toArray⟩,num4 B,smpL (T.drop (8 * g)) m,gapL T g⟩:=by unfold dSer;rw [hn,← hB0,← hT0,← hg0,← hm0]
  have hd1:dE b = if T.length < 8 * g + 4 * m then 29 else if T.length ≠ 8 * g + 4 * m then 2 else if 2147483648 ∈ smpL (T.drop (8 * g)) m then 1 else chkSer (dSer b):=by
    unfold dE
    rw [hd0,if_neg (fun h => h rfl),hn,if_neg cL,← hT0,← hg0,← hm0,hdr]
  clear n1 n2 n3
  generalize hnm:(⟨((b.drop 5).take c.toNat).toArray⟩:ByteArray) = nm at hdr ⊢
  generalize num4 B = st at hdr hst ⊢
  by_cases cE:T.length = 8 * g + 4 * m
  case neg =>
    have fE:((T.length:Int) = g * 8 + m * 4) = False:=eq_false (by omega)
    by_cases cT:T.length < 8 * g + 4 * m
    · have fT:((T.length:Int) < g * 8 + m * 4) = True:=eq_true (by omega)
      have hd:dE b = 29:=by rw [hd1,if_pos cT]
      have hs:decS b = ⟨⟨#[]⟩,0,[],[]⟩:=by unfold decS;rw [hd];rfl
      rw [hd,hs,encSer_eq]
      simp -implicitDefEqProofs (disch:=first|omega|(simp only [go_sem,seval,fE];first|done|omega)) only [go_sem,seval,fE]
      refine callP_q (q_site_when _ _ _) ?_
      simp -implicitDefEqProofs (disch:=first|omega|(simp only [go_sem,seval,fT];first|done|omega)) only [go_sem,seval,fT]
      refine callP_q (q0 [_,_] (by simp) _) ?_
      simp only [fst0]
      simp -implicitDefEqProofs (disch:=first|omega|(simp only [go_sem,seval,fT];first|done|omega)) only [go_sem,seval,fT]
      (all_goals (first|refine post_fin ret_ok hM rfl ?_ ?_|refine post_fin0 ret_ok hM rfl ?_ ?_|refine post_fin normal_ok hM rfl ?_ ?_|refine post_fin0 normal_ok hM rfl ?_ ?_);all_goals first|(simp only [go_sem,seval] <;> first|done|omega)|skip;all_goals (try simp -implicitDefEqProofs (disch:=first|omega|(simp only [go_sem,seval];first|done|omega)) only [go_sem,seval]))
    · have fT:((T.length:Int) < g * 8 + m * 4) = False:=eq_false (by omega)
      have hd:dE b = 2:=by rw [hd1,if_neg cT,if_pos cE]
      have hs:decS b = ⟨⟨#[]⟩,0,[],[]⟩:=by unfold decS;rw [hd];rfl
      rw [hd,hs,encSer_eq]
      simp -implicitDefEqProofs (disch:=first|omega|(simp only [go_sem,seval,fE];first|done|omega)) only [go_sem,seval,fE]
      refine callP_q (q_site_when _ _ _) ?_
      simp -implicitDefEqProofs (disch:=first|omega|(simp only [go_sem,seval,fT];first|done|omega)) only [go_sem,seval,fT]
      refine callP_q (q0 [_,_] (by simp) _) ?_
      simp only [fst0]
      simp -implicitDefEqProofs (disch:=first|omega|(simp only [go_sem,seval,fT];first|done|omega)) only [go_sem,seval,fT]
      (all_goals (first|refine post_fin ret_ok hM rfl ?_ ?_|refine post_fin0 ret_ok hM rfl ?_ ?_|refine post_fin normal_ok hM rfl ?_ ?_|refine post_fin0 normal_ok hM rfl ?_ ?_);all_goals first|(simp only [go_sem,seval] <;> first|done|omega)|skip;all_goals (try simp -implicitDefEqProofs (disch:=first|omega|(simp only [go_sem,seval];first|done|omega)) only [go_sem,seval]))
  have fE:((T.length:Int) = g * 8 + m * 4) = True:=eq_true (by omega)
  simp -implicitDefEqProofs (disch:=first|omega|(simp only [go_sem,seval,fE];first|done|omega)) only [go_sem,seval,fE]
  have lT:∀ n,lowL n (T.map bt) = True:=fun n => bt_low T
  have ld:∀ n k,lowL n ((T.drop k).map bt) = True:=fun n k => bt_low _
  refine loop_mk (α:=Nat) 0 (fun k => k ≤ g) (fun k => M ++ [.row true 4 0 [.agg [.s (.string ⟨#[]⟩),.I 0,.s (.slice none 0 0),.s (.slice none 0 0)]],.row false 1 0 [.s (.int .u8 87),.s (.int .u8 73),.s (.int .u8 78),.s (.int .u8 68)],
      .row true 4 0 [.agg [.s (.string nm),.I st,.os (M.length + 3) 0 0 0,.os (M.length + 4) k 0 k]],.row true 1 0 [],.row true 2 k ((gapL T k).map encSpn),.row true 1 0 [.agg [.fs ((T.drop (8 * k)).map bt)]]])
    (fun k => [(2,.op M.length 0 0 0),(6,.op (M.length + 2) 0 0 0),(8,.fn (.func 134) [.op (M.length + 5) 0 0 0] []),(9,.I m),(90,.I g),(91,.I k)]) (fun k => g - k) (Nat.zero_le _) rfl rfl ?_
  intro k hk
  by_cases hlt:k < g
  · have n1:=@number5 X (T.drop (8 * k)) (by rw [List.length_drop];omega) (by rw [List.length_drop];omega)
    have n2:=@number5f X (T.drop (8 * k + 4)) (by rw [List.length_drop];omega) (by rw [List.length_drop];omega)
    rw [List.drop_drop] at n1 n2
    have hsn:=gapL_snoc T k
    have l1:=num4_lt (T.drop (8 * k))
    have l2:=num4_lt (T.drop (8 * k + 4))
    have hgl:=gapL_len T k
    simp -implicitDefEqProofs (disch:=first|omega|(simp only [go_sem,seval,hlt];first|done|omega)) only [go_sem,seval,hlt]
    refine callP_l n1 ?_
    simp -implicitDefEqProofs (disch:=first|omega|(simp only [go_sem,seval];first|done|omega)) only [go_sem,seval]
    refine fcallP_q n2 rfl (by simp [lowL]) ?_
    have e8:8 * k + 4 + 4 = 8 * (k + 1):=by omega
    simp -implicitDefEqProofs (disch:=first|omega|(simp only [go_sem,seval,e8,encSpn_cells,encSpn_eq];first|done|omega)) only [go_sem,seval,e8,encSpn_cells,encSpn_eq]
    refine ⟨by simp [pairsOk,okPair,apartL,refs,refs1],?_⟩
    refine Wp_cut_at hM rfl 6 (by simp) (by first|done|(simp only [go_sem,seval,encSpn_low,ld,bt_low] <;> first|done|(refine ⟨?_,?_⟩ <;> omega)|omega)) (lowL_mk (by first|done|(simp only [go_sem,seval,encSpn_low,ld,bt_low] <;> first|done|(refine ⟨?_,?_⟩ <;> omega)|omega))) ?_
    simp -implicitDefEqProofs (disch:=first|omega|(simp only [go_sem,seval];first|done|omega)) only [go_sem,seval]
    exact again' (k + 1) (by omega) (by omega) (by rw [hsn];simp;rfl) rfl
  have hkk:k = g:=by omega
  subst hkk
  have hgl:=gapL_len T k
  obtain ⟨U,hU⟩:∃ U,U = T.drop (8 * k):=⟨_,rfl⟩
  have hUl:U.length = 4 * m:=by rw [hU,List.length_drop];omega
  rw [← hU] at hd1 hdr ⊢
  have ldU:∀ n j,lowL n ((U.drop j).map bt) = True:=fun n j => bt_low _
  have lgs:∀ n,lowL n ((gapL T k).map encSpn) = True:=fun n => encSpn_low _
  have lgM:lowM (M.length + 6) [.row true 2 k ((gapL T k).map encSpn)]:=by (simp only [go_sem,seval,lgs] <;> first|done|omega)
  generalize hG:(gapL T k) = G at hgl lgs ⊢
  simp -implicitDefEqProofs (disch:=first|omega|(simp only [go_sem,seval,hlt];first|done|omega)) only [go_sem,seval,hlt]
  refine loop_mk (α:=Nat) 0 (fun j => j ≤ m ∧ 2147483648 ∉ smpL U j) (fun j => M ++ [.row true 4 0 [.agg [.s (.string ⟨#[]⟩),.I 0,.s (.slice none 0 0),.s (.slice none 0 0)]],.row false 1 0 [.s (.int .u8 87),.s (.int .u8 73),.s (.int .u8 78),.s (.int .u8 68)],
      .row true 4 0 [.agg [.s (.string nm),.I st,.os (M.length + 3) j 0 j,.os (M.length + 4) k 0 k]],.row true 1 j ((smpL U j).map encF),.row true 2 k (G.map encSpn),.row true 1 0 [.agg [.fs ((U.drop (4 * j)).map bt)]]])
    (fun j => [(2,.op M.length 0 0 0),(6,.op (M.length + 2) 0 0 0),(8,.fn (.func 134) [.op (M.length + 5) 0 0 0] []),(105,.I m),(106,.I j)]) (fun j => m - j) ⟨Nat.zero_le _,by simp [smpL]⟩ rfl rfl ?_
  rintro j ⟨hj,hno⟩
  by_cases hlt2:j < m
  · have n1:=@number5 X (U.drop (4 * j)) (by rw [List.length_drop];omega) (by rw [List.length_drop];omega)
    rw [List.drop_drop] at n1
    have e8:4 * j + 4 = 4 * (j + 1):=by omega
    rw [e8] at n1
    have hsn:=smpL_snoc U j
    have l1:=num4_lt (U.drop (4 * j))
    have hsl:=smpL_len U j
    obtain ⟨u,hu⟩:∃ u,u = num4 (U.drop (4 * j)):=⟨_,rfl⟩
    rw [← hu] at n1 hsn l1
    have hw:IntKind.u32.wrap (u:Int) = u:=wrap32 (by omega)
    simp -implicitDefEqProofs (disch:=first|omega|(simp only [go_sem,seval,hlt2];first|done|omega)) only [go_sem,seval,hlt2]
    refine callP_l n1 ?_
    simp -implicitDefEqProofs (disch:=first|omega|(simp only [go_sem,seval,hw];first|done|omega)) only [go_sem,seval,hw]
    by_cases hz:u = 2147483648
    · have fz:((u:Int) = 2147483648) = True:=eq_true (by omega)
      have hin:2147483648 ∈ smpL U m:=by
        unfold smpL
        rw [List.mem_map]
        exact ⟨j,List.mem_range.2 hlt2,by rw [← hu];exact hz⟩
      have hd:dE b = 1:=by rw [hd1,if_neg (by omega),if_neg (fun h => h cE),if_pos hin]
      have hs:decS b = ⟨⟨#[]⟩,0,[],[]⟩:=by unfold decS;rw [hd];rfl
      rw [hd,hs,encSer_eq]
      simp -implicitDefEqProofs (disch:=first|omega|(simp only [go_sem,seval,fz];first|done|omega)) only [go_sem,seval,fz]
      (all_goals (first|refine post_fin ret_ok hM rfl ?_ ?_|refine post_fin0 ret_ok hM rfl ?_ ?_|refine post_fin normal_ok hM rfl ?_ ?_|refine post_fin0 normal_ok hM rfl ?_ ?_);all_goals first|(simp only [go_sem,seval] <;> first|done|omega)|skip;all_goals (try simp -implicitDefEqProofs (disch:=first|omega|(simp only [go_sem,seval];first|done|omega)) only [go_sem,seval]))
    have fz:((u:Int) = 2147483648) = False:=eq_false (by omega)
    simp -implicitDefEqProofs (disch:=first|omega|(simp only [go_sem,seval,fz];first|done|omega)) only [go_sem,seval,fz]
    refine callP_q (ACall_ext (hB u _)) ?_
    simp -implicitDefEqProofs (disch:=first|omega|(simp only [go_sem,seval];first|done|omega)) only [go_sem,seval]
    refine Wp_cut_at hM rfl 6 (by simp) (by first|done|(simp only [go_sem,seval,encSpn_low,ldU,encF_low] <;> first|done|(refine ⟨?_,?_⟩ <;> omega)|omega)) (lowL_mk (by first|done|(simp only [go_sem,seval,encSpn_low,ldU,encF_low] <;> first|done|(refine ⟨?_,?_⟩ <;> omega)|omega))) ?_
    simp -implicitDefEqProofs (disch:=first|omega|(simp only [go_sem,seval];first|done|omega)) only [go_sem,seval]
    refine again' (j + 1) ⟨by omega,?_⟩ (by omega) (by rw [hsn];simp) rfl
    rw [hsn]
    simp only [List.mem_append,List.mem_singleton,not_or]
    exact ⟨hno,fun h => hz h.symm⟩
  have hjj:j = m:=by omega
  subst hjj
  have hdr2:dSer b = ⟨nm,st,smpL U j,G⟩:=by rw [hdr,hG]
  have hd:dE b = chkSer (dSer b):=by rw [hd1,if_neg (by omega),if_neg (fun h => h cE),if_neg hno]
  have hC:=q_site_CheckSeries (X:=X) (dSer b) (by rw [hdr2];show (smpL U j).length ≤ _;rw [smpL_len];omega) (by rw [hdr2];show G.length ≤ _;omega)
  rw [← hd] at hC
  unfold decS
  rw [hdr2,encSer_eq] at hC
  rw [hdr2]
  have hsl:=smpL_len U j
  generalize smpL U j = S at hC hsl ⊢
  simp only at hC
  have lS:∀ n,lowL n (S.map encF) = True:=fun n => encF_low _
  simp -implicitDefEqProofs (disch:=first|omega|(simp only [go_sem,seval,hlt2,r_fzload,frzC_s,frzC_os,frzC_nil];first|done|omega)) only [go_sem,seval,hlt2,r_fzload,frzC_s,frzC_os,frzC_nil]
  refine callP_q (hC _) ?_
  have tS:(S.map encF).take j = S.map encF:=List.take_of_length_le (by rw [List.length_map];omega)
  have tG:(G.map encSpn).take k = G.map encSpn:=List.take_of_length_le (by rw [List.length_map];omega)
  by_cases hz:dE b = 0
  · rw [if_pos hz,encSer_eq,hz]
    simp -implicitDefEqProofs (disch:=first|omega|(simp only [go_sem,seval,tS,tG];first|done|omega)) only [go_sem,seval,tS,tG]
    (first|refine post_fin ret_ok hM rfl ?_ ?_|refine post_fin0 ret_ok hM rfl ?_ ?_|refine post_fin normal_ok hM rfl ?_ ?_|refine post_fin0 normal_ok hM rfl ?_ ?_)
    · simp -implicitDefEqProofs (disch:=first|omega|(simp only [go_sem,seval,tS,tG];first|done|omega)) only [go_sem,seval,tS,tG]
    · (simp only [go_sem,seval,lS,lgs] <;> first|done|omega)
  · rw [if_neg hz,encSer_eq]
    generalize dE b = ee at hz
    simp -implicitDefEqProofs (disch:=first|omega|(simp only [go_sem,seval,hz];first|done|omega)) only [go_sem,seval,hz]
    (all_goals (first|refine post_fin ret_ok hM rfl ?_ ?_|refine post_fin0 ret_ok hM rfl ?_ ?_|refine post_fin normal_ok hM rfl ?_ ?_|refine post_fin0 normal_ok hM rfl ?_ ?_);all_goals first|(simp only [go_sem,seval] <;> first|done|omega)|skip;all_goals (try simp -implicitDefEqProofs (disch:=first|omega|(simp only [go_sem,seval];first|done|omega)) only [go_sem,seval]))
theorem q_ref01_Number4 (l:List UInt8) (h:4 ≤ l.length):Q X 137 [.fs (l.map bt)] (.s (.int .u32 (num4 l))):=by
  obtain ⟨a,b,c,d,t,rfl⟩:=four_of h
  have hn:num4 (a :: b :: c :: d :: t) = ((a.toNat * 256 + b.toNat) * 256 + c.toNat) * 256 + d.toNat:=rfl
  rw [hn]
  have la:=u8_lt a
  have lb:=u8_lt b
  have lc:=u8_lt c
  have ld:=u8_lt d
  have w:∀ n:Int,0 ≤ n ∧ n < 4294967296 → IntKind.u32.wrap n = n:=fun n h => wrap32 h
  have s1:bin .shl (.s (.int .u32 a.toNat)) (.s (.int .u64 24)) = some (.s (.int .u32 (a.toNat * 16777216))):=by
    rw [bin_shl (by decide),show min (24:Int).toNat IntKind.u32.bits = 24 from rfl,w _ (by omega)];rfl
  have s2:bin .shl (.s (.int .u32 b.toNat)) (.s (.int .u64 16)) = some (.s (.int .u32 (b.toNat * 65536))):=by
    rw [bin_shl (by decide),show min (16:Int).toNat IntKind.u32.bits = 16 from rfl,w _ (by omega)];rfl
  have s3:bin .shl (.s (.int .u32 c.toNat)) (.s (.int .u64 8)) = some (.s (.int .u32 (c.toNat * 256))):=by
    rw [bin_shl (by decide),show min (8:Int).toNat IntKind.u32.bits = 8 from rfl,w _ (by omega)];rfl
  have wa:=w a.toNat (by omega)
  have wb:=w b.toNat (by omega)
  have wc:=w c.toNat (by omega)
  have wd:=w d.toNat (by omega)
  have w1:=w ((a.toNat:Int) * 16777216 + b.toNat * 65536) (by omega)
  have w2:=w ((a.toNat:Int) * 16777216 + b.toNat * 65536 + c.toNat * 256) (by omega)
  have w3:=w ((a.toNat:Int) * 16777216 + b.toNat * 65536 + c.toNat * 256 + d.toNat) (by omega)
  have e:(((((a.toNat * 256 + b.toNat) * 256 + c.toNat) * 256 + d.toNat:Nat)):Int) = (a.toNat:Int) * 16777216 + b.toNat * 65536 + c.toNat * 256 + d.toNat:=by omega
  rw [e]
  intro M
  (refine ACall_fn (cf:=L4.c137) rfl rfl fun hM hA => ?_;simp only [L4.c137,zO,zF,zT];rw [mk1 _ (by decide)];simp -implicitDefEqProofs (disch:=first|omega|(simp only [go_sem,seval,bt_eq,s1,s2,s3,wa,wb,wc,wd,w1,w2,w3];first|done|omega)) only [go_sem,seval,bt_eq,s1,s2,s3,wa,wb,wc,wd,w1,w2,w3])
  (all_goals (first|refine post_fin ret_ok hM rfl ?_ ?_|refine post_fin0 ret_ok hM rfl ?_ ?_|refine post_fin normal_ok hM rfl ?_ ?_|refine post_fin0 normal_ok hM rfl ?_ ?_);all_goals first|(simp only [go_sem,seval] <;> first|done|omega)|skip;all_goals (try simp -implicitDefEqProofs (disch:=first|omega|(simp only [go_sem,seval];first|done|omega)) only [go_sem,seval]))
theorem q_ref01_Decode (hX:FloorX X) (hB:FrombX X) (b:List UInt8) (hl:b.length ≤ 100000):Q X 91 [.fs (b.map bt)] (.tup [encSer (decS b),.I (dE b)]):=by
  intro M
  have lz:=bt_sized b
  have h1:((4000000:Int) < b.length) = False:=eq_false (by omega)
  by_cases c5:b.length < 5
  · have f5:((b.length:Int) < 5) = True:=eq_true (by omega)
    have hd:dE b = 29:=by
      have:dE0 b = 29:=by unfold dE0;rw [if_neg (by omega),if_pos c5]
      unfold dE;rw [this];rfl
    have hs:decS b = ⟨⟨#[]⟩,0,[],[]⟩:=by unfold decS;rw [hd];rfl
    rw [hd,hs,encSer_eq]
    (refine ACall_fn (cf:=L4.c91) rfl rfl fun hM hA => ?_;simp only [L4.c91,zO,zF,zT];rw [mk1 _ (by decide)];simp -implicitDefEqProofs (disch:=first|omega|(simp only [go_sem,seval,h1,f5];first|done|omega)) only [go_sem,seval,h1,f5])
    (all_goals (first|refine post_fin ret_ok hM rfl ?_ ?_|refine post_fin0 ret_ok hM rfl ?_ ?_|refine post_fin normal_ok hM rfl ?_ ?_|refine post_fin0 normal_ok hM rfl ?_ ?_);all_goals first|(simp only [go_sem,seval] <;> first|done|omega)|skip;all_goals (try simp -implicitDefEqProofs (disch:=first|omega|(simp only [go_sem,seval];first|done|omega)) only [go_sem,seval]))
  have f5:((b.length:Int) < 5) = False:=eq_false (by omega)
  have g4:4 ≤ b.length:=by omega
  have m4:(b.map bt).take 4 = (b.take 4).map bt:=List.map_take.symm
  have s4:=strOf_bt (b.take 4)
  have hW:((⟨(b.take 4).toArray⟩:ByteArray) = ⟨#[87,73,78,68]⟩) = (b.take 4 = [87,73,78,68]):=by
    apply propext
    constructor
    · intro h
      injection h with h
      have:=congrArg Array.toList h
      simpa using this
    · intro h;rw [h]
  by_cases cW:b.take 4 = [87,73,78,68]
  case neg =>
    have hd:dE b = 1:=by
      have:dE0 b = 1:=by unfold dE0;rw [if_neg (by omega),if_neg c5,if_pos cW]
      unfold dE;rw [this];rfl
    have hs:decS b = ⟨⟨#[]⟩,0,[],[]⟩:=by unfold decS;rw [hd];rfl
    rw [hd,hs,encSer_eq]
    (refine ACall_fn (cf:=L4.c91) rfl rfl fun hM hA => ?_;simp only [L4.c91,zO,zF,zT];rw [mk1 _ (by decide)];simp -implicitDefEqProofs (disch:=first|omega|(simp only [go_sem,seval,h1,f5,lz,g4,m4,s4,bin_strNe,hW,cW];first|done|omega)) only [go_sem,seval,h1,f5,lz,g4,m4,s4,bin_strNe,hW,cW])
    (all_goals (first|refine post_fin ret_ok hM rfl ?_ ?_|refine post_fin0 ret_ok hM rfl ?_ ?_|refine post_fin normal_ok hM rfl ?_ ?_|refine post_fin0 normal_ok hM rfl ?_ ?_);all_goals first|(simp only [go_sem,seval] <;> first|done|omega)|skip;all_goals (try simp -implicitDefEqProofs (disch:=first|omega|(simp only [go_sem,seval];first|done|omega)) only [go_sem,seval]))
  have hd0:dE0 b = 0:=by unfold dE0;rw [if_neg (by omega),if_neg c5,if_neg (fun h => h cW)]
  obtain ⟨c,hc⟩:∃ c,b[4]? = some c:=⟨_,List.getElem?_eq_getElem (by omega)⟩
  have hn:nmN b = c.toNat:=by unfold nmN;rw [hc];rfl
  have hcl:=u8_lt c
  have sW:strOf [.s (.int .u8 87),.s (.int .u8 73),.s (.int .u8 78),.s (.int .u8 68)] = some ⟨#[87,73,78,68]⟩:=rfl
  (refine ACall_fn (cf:=L4.c91) rfl rfl fun hM hA => ?_;simp only [L4.c91,zO,zF,zT];rw [mk1 _ (by decide)];simp -implicitDefEqProofs (disch:=first|omega|(simp only [go_sem,seval,h1,f5,lz,g4,m4,sW,bin_strNe,cW,hc,bt_eq];first|done|omega)) only [go_sem,seval,h1,f5,lz,g4,m4,sW,bin_strNe,cW,hc,bt_eq])
  by_cases cL:b.length < 17 + c.toNat
  · have fL:((b.length:Int) < 5 + c.toNat + 12) = True:=eq_true (by omega)
    have hd:dE b = 29:=by unfold dE;rw [hd0,if_neg (fun h => h rfl),hn,if_pos cL]
    have hs:decS b = ⟨⟨#[]⟩,0,[],[]⟩:=by unfold decS;rw [hd];rfl
    rw [hd,hs,encSer_eq]
    simp -implicitDefEqProofs (disch:=first|omega|(simp only [go_sem,seval,fL];first|done|omega)) only [go_sem,seval,fL]
    (all_goals (first|refine post_fin ret_ok hM rfl ?_ ?_|refine post_fin0 ret_ok hM rfl ?_ ?_|refine post_fin normal_ok hM rfl ?_ ?_|refine post_fin0 normal_ok hM rfl ?_ ?_);all_goals first|(simp only [go_sem,seval] <;> first|done|omega)|skip;all_goals (try simp -implicitDefEqProofs (disch:=first|omega|(simp only [go_sem,seval];first|done|omega)) only [go_sem,seval]))
  have fL:((b.length:Int) < 5 + c.toNat + 12) = False:=eq_false (by omega)
  have e1:(b.map bt).drop 5 = (b.drop 5).map bt:=List.map_drop.symm
  have e2:((b.drop 5).map bt).take c.toNat = ((b.drop 5).take c.toNat).map bt:=List.map_take.symm
  have e3:=strOf_bt ((b.drop 5).take c.toNat)
  have g1:((0:Int) ≤ 5 + c.toNat) = True:=eq_true (by omega)
  have g2:(5 + (c.toNat:Int)).toNat = 5 + c.toNat:=by omega
  have g3:5 + c.toNat ≤ b.length:=by omega
  have g5:5 + c.toNat - 5 = c.toNat:=by omega
  have hbd:dBody b = b.drop (5 + c.toNat):=by unfold dBody;rw [hn]
  have hbl:(dBody b).length = b.length - (5 + c.toNat):=by rw [hbd,List.length_drop]
  have e5:(b.map bt).drop (5 + c.toNat) = (dBody b).map bt:=by rw [hbd];exact List.map_drop.symm
  have e6:((dBody b).map bt).take (b.length - (5 + c.toNat)) = (dBody b).map bt:=List.take_of_length_le (by rw [List.length_map];omega)
  obtain ⟨B,hB0⟩:∃ B,B = dBody b:=⟨_,rfl⟩
  obtain ⟨T,hT0⟩:∃ T,T = dTail b:=⟨_,rfl⟩
  have hBT:B.drop 12 = T:=by rw [hB0,hT0];rfl
  obtain ⟨g,hg0⟩:∃ g,g = dG b:=⟨_,rfl⟩
  obtain ⟨m,hm0⟩:∃ m,m = dM b:=⟨_,rfl⟩
  have hg1:num4 (B.drop 8) = g:=by rw [hB0,hg0];rfl
  have hm1:num4 (B.drop 4) = m:=by rw [hB0,hm0];rfl
  have hg2:g < 4294967296:=hg1 ▸ num4_lt _
  have hm2:m < 4294967296:=hm1 ▸ num4_lt _
  have hst:=num4_lt B
  have hBl:12 ≤ B.length:=by rw [hB0,hbl];omega
  have hBl2:B.length ≤ 100000:=by rw [hB0,hbl];omega
  have hTl:T.length = B.length - 12:=by rw [← hBT,List.length_drop]
  rw [← hB0] at hbl e5 e6
  have n1:=q_ref01_Number4 (X:=X) B (by omega)
  have n2:=q_ref01_Number4 (X:=X) (B.drop 4) (by rw [List.length_drop];omega)
  have n3:=q_ref01_Number4 (X:=X) (B.drop 8) (by rw [List.length_drop];omega)
  rw [hm1] at n2
  rw [hg1] at n3
  have lzB:=bt_sized B
  have d4:(B.map bt).drop 4 = (B.drop 4).map bt:=List.map_drop.symm
  have d8:(B.map bt).drop 8 = (B.drop 8).map bt:=List.map_drop.symm
  have d12:(B.map bt).drop 12 = T.map bt:=by rw [← hBT];exact List.map_drop.symm
  have t4:((B.drop 4).map bt).take (B.length - 4) = (B.drop 4).map bt:=List.take_of_length_le (by rw [List.length_map,List.length_drop];omega)
  have t8:((B.drop 8).map bt).take (B.length - 8) = (B.drop 8).map bt:=List.take_of_length_le (by rw [List.length_map,List.length_drop];omega)
  have t12:(T.map bt).take (B.length - 12) = T.map bt:=List.take_of_length_le (by rw [List.length_map];omega)
  have gB4:4 ≤ B.length:=by omega
  have gB8:8 ≤ B.length:=by omega
  simp -implicitDefEqProofs (disch:=first|omega|(simp only [go_sem,seval,fL,lz,e1,e2,e3,g1,g2,g3,g5,e5,e6,ownR_agg,lzB,d4,t4,gB4];first|done|omega)) only [go_sem,seval,fL,lz,e1,e2,e3,g1,g2,g3,g5,e5,e6,ownR_agg,lzB,d4,t4,gB4]
  refine callP_q (n2 _) ?_
  simp -implicitDefEqProofs (disch:=first|omega|(simp only [go_sem,seval,lzB,d8,t8,gB8];first|done|omega)) only [go_sem,seval,lzB,d8,t8,gB8]
  refine callP_q (n3 _) ?_
  simp -implicitDefEqProofs (disch:=first|omega|(simp only [go_sem,seval];first|done|omega)) only [go_sem,seval]
  refine callP_q (n1 _) ?_
  simp -implicitDefEqProofs (disch:=first|omega|(simp only [go_sem,seval];first|done|omega)) only [go_sem,seval]
  have hdr:dSer b = ⟨⟨((b.drop 5).take c.toNat).toArray⟩,num4 B,smpL (T.drop (8 * g)) m,gapL T g⟩:=by unfold dSer;rw [hn,← hB0,← hT0,← hg0,← hm0]
  have hd1:dE b = if T.length < 8 * g + 4 * m then 29 else if T.length ≠ 8 * g + 4 * m then 2 else if 2147483648 ∈ smpL (T.drop (8 * g)) m then 1 else chkSer (dSer b):=by
    unfold dE
    rw [hd0,if_neg (fun h => h rfl),hn,if_neg cL,← hT0,← hg0,← hm0,hdr]
  clear n1 n2 n3
  generalize hnm:(⟨((b.drop 5).take c.toNat).toArray⟩:ByteArray) = nm at hdr ⊢
  generalize num4 B = st at hdr hst ⊢
  by_cases cT:T.length < 8 * g + 4 * m
  · have fT:((B.length:Int) < 12 + 8 * g + 4 * m) = True:=eq_true (by omega)
    have hd:dE b = 29:=by rw [hd1,if_pos cT]
    have hs:decS b = ⟨⟨#[]⟩,0,[],[]⟩:=by unfold decS;rw [hd];rfl
    rw [hd,hs,encSer_eq]
    simp -implicitDefEqProofs (disch:=first|omega|(simp only [go_sem,seval,fT];first|done|omega)) only [go_sem,seval,fT]
    (all_goals (first|refine post_fin ret_ok hM rfl ?_ ?_|refine post_fin0 ret_ok hM rfl ?_ ?_|refine post_fin normal_ok hM rfl ?_ ?_|refine post_fin0 normal_ok hM rfl ?_ ?_);all_goals first|(simp only [go_sem,seval] <;> first|done|omega)|skip;all_goals (try simp -implicitDefEqProofs (disch:=first|omega|(simp only [go_sem,seval];first|done|omega)) only [go_sem,seval]))
  have fT:((B.length:Int) < 12 + 8 * g + 4 * m) = False:=eq_false (by omega)
  by_cases cE:T.length = 8 * g + 4 * m
  case neg =>
    have fE:(12 + 8 * (g:Int) + 4 * m < B.length) = True:=eq_true (by omega)
    have hd:dE b = 2:=by rw [hd1,if_neg cT,if_pos cE]
    have hs:decS b = ⟨⟨#[]⟩,0,[],[]⟩:=by unfold decS;rw [hd];rfl
    rw [hd,hs,encSer_eq]
    simp -implicitDefEqProofs (disch:=first|omega|(simp only [go_sem,seval,fT,fE];first|done|omega)) only [go_sem,seval,fT,fE]
    (all_goals (first|refine post_fin ret_ok hM rfl ?_ ?_|refine post_fin0 ret_ok hM rfl ?_ ?_|refine post_fin normal_ok hM rfl ?_ ?_|refine post_fin0 normal_ok hM rfl ?_ ?_);all_goals first|(simp only [go_sem,seval] <;> first|done|omega)|skip;all_goals (try simp -implicitDefEqProofs (disch:=first|omega|(simp only [go_sem,seval];first|done|omega)) only [go_sem,seval]))
  have fE:(12 + 8 * (g:Int) + 4 * m < B.length) = False:=eq_false (by omega)
  simp -implicitDefEqProofs (disch:=first|omega|(simp only [go_sem,seval,fT,fE,lzB,d12,t12,hBl];first|done|omega)) only [go_sem,seval,fT,fE,lzB,d12,t12,hBl]
  have lT:∀ n,lowL n (T.map bt) = True:=fun n => bt_low T
  have ld:∀ n k,lowL n ((T.drop k).map bt) = True:=fun n k => bt_low _
  refine loop_mk (α:=Nat) 0 (fun k => k ≤ g) (fun k => M ++ [.row true 4 0 [.agg [.s (.string ⟨#[]⟩),.I 0,.s (.slice none 0 0),.s (.slice none 0 0)]],
      .row true 4 0 [.agg [.s (.string nm),.I st,.os (M.length + 2) 0 0 0,.os (M.length + 3) k 0 k]],.row true 1 0 [],.row true 2 k ((gapL T k).map encSpn)])
    (fun k => [(0,.fs ((T.drop (8 * k)).map bt)),(2,.op M.length 0 0 0),(5,.op (M.length + 1) 0 0 0),(6,.I m),(7,.I g),(8,.I k)]) (fun k => g - k) (Nat.zero_le _) rfl rfl ?_
  intro k hk
  by_cases hlt:k < g
  · have n1:=q_ref01_Number4 (X:=X) (T.drop (8 * k)) (by rw [List.length_drop];omega)
    have n2:=q_ref01_Number4 (X:=X) (T.drop (8 * k + 4)) (by rw [List.length_drop];omega)
    have hsn:=gapL_snoc T k
    have l1:=num4_lt (T.drop (8 * k))
    have l2:=num4_lt (T.drop (8 * k + 4))
    have hgl:=gapL_len T k
    have hDl:(T.drop (8 * k)).length = T.length - 8 * k:=List.length_drop
    have D4:4 ≤ (T.drop (8 * k)).length:=by omega
    have D8:8 ≤ (T.drop (8 * k)).length:=by omega
    have lzD:=bt_sized (T.drop (8 * k))
    have e7:8 * (k + 1) = 8 * k + 8:=by omega
    have q4:((T.drop (8 * k)).map bt).drop 4 = (T.drop (8 * k + 4)).map bt:=by rw [← List.map_drop,List.drop_drop]
    have q8:((T.drop (8 * k)).map bt).drop 8 = (T.drop (8 * (k + 1))).map bt:=by rw [← List.map_drop,List.drop_drop,e7]
    have r4:((T.drop (8 * k + 4)).map bt).take ((T.drop (8 * k)).length - 4) = (T.drop (8 * k + 4)).map bt:=List.take_of_length_le (by rw [List.length_map,List.length_drop];omega)
    have r8:((T.drop (8 * (k + 1))).map bt).take ((T.drop (8 * k)).length - 8) = (T.drop (8 * (k + 1))).map bt:=List.take_of_length_le (by rw [List.length_map,List.length_drop];omega)
    generalize T.drop (8 * k) = D at n1 l1 hDl D4 D8 lzD q4 q8 r4 r8 hsn ⊢
    simp -implicitDefEqProofs (disch:=first|omega|(simp only [go_sem,seval,hlt];first|done|omega)) only [go_sem,seval,hlt]
    refine callP_q (n1 _) ?_
    simp -implicitDefEqProofs (disch:=first|omega|(simp only [go_sem,seval,lzD,q4,r4,D4];first|done|omega)) only [go_sem,seval,lzD,q4,r4,D4]
    refine callP_q (n2 _) ?_
    simp -implicitDefEqProofs (disch:=first|omega|(simp only [go_sem,seval,encSpn_cells,encSpn_eq,lzD,q8,r8,D8];first|done|omega)) only [go_sem,seval,encSpn_cells,encSpn_eq,lzD,q8,r8,D8]
    exact again' (k + 1) (by omega) (by omega) (by rw [hsn];simp;rfl) rfl
  have hkk:k = g:=by omega
  subst hkk
  have hgl:=gapL_len T k
  obtain ⟨U,hU⟩:∃ U,U = T.drop (8 * k):=⟨_,rfl⟩
  have hUl:U.length = 4 * m:=by rw [hU,List.length_drop];omega
  rw [← hU] at hd1 hdr ⊢
  have lgs:∀ n,lowL n ((gapL T k).map encSpn) = True:=fun n => encSpn_low _
  generalize hG:(gapL T k) = G at hgl lgs ⊢
  simp -implicitDefEqProofs (disch:=first|omega|(simp only [go_sem,seval,hlt];first|done|omega)) only [go_sem,seval,hlt]
  refine loop_mk (α:=Nat) 0 (fun j => j ≤ m ∧ 2147483648 ∉ smpL U j) (fun j => M ++ [.row true 4 0 [.agg [.s (.string ⟨#[]⟩),.I 0,.s (.slice none 0 0),.s (.slice none 0 0)]],
      .row true 4 0 [.agg [.s (.string nm),.I st,.os (M.length + 2) j 0 j,.os (M.length + 3) k 0 k]],.row true 1 j ((smpL U j).map encF),.row true 2 k (G.map encSpn)])
    (fun j => [(0,.fs ((U.drop (4 * j)).map bt)),(2,.op M.length 0 0 0),(5,.op (M.length + 1) 0 0 0),(6,.I m),(9,.I j)]) (fun j => m - j) ⟨Nat.zero_le _,by simp [smpL]⟩ rfl rfl ?_
  rintro j ⟨hj,hno⟩
  by_cases hlt2:j < m
  · have n1:=q_ref01_Number4 (X:=X) (U.drop (4 * j)) (by rw [List.length_drop];omega)
    have e8:4 * j + 4 = 4 * (j + 1):=by omega
    have hsn:=smpL_snoc U j
    have l1:=num4_lt (U.drop (4 * j))
    have hsl:=smpL_len U j
    obtain ⟨u,hu⟩:∃ u,u = num4 (U.drop (4 * j)):=⟨_,rfl⟩
    rw [← hu] at n1 hsn l1
    have hDl:(U.drop (4 * j)).length = U.length - 4 * j:=List.length_drop
    have D4:4 ≤ (U.drop (4 * j)).length:=by omega
    have lzD:=bt_sized (U.drop (4 * j))
    have q4:((U.drop (4 * j)).map bt).drop 4 = (U.drop (4 * (j + 1))).map bt:=by rw [← List.map_drop,List.drop_drop,e8]
    have r4:((U.drop (4 * (j + 1))).map bt).take ((U.drop (4 * j)).length - 4) = (U.drop (4 * (j + 1))).map bt:=List.take_of_length_le (by rw [List.length_map,List.length_drop];omega)
    clear hu
    have hin:u = 2147483648 → 2147483648 ∈ smpL U m:=by
      intro hz
      have:∀ n,j + 1 ≤ n → u ∈ smpL U n:=by
        intro n hn
        induction n with
        | zero => omega
        | succ n ih =>
          by_cases h:j + 1 ≤ n
          · rw [smpL_snoc];exact List.mem_append_left _ (ih h)
          · have:n = j:=by omega
            subst this
            rw [hsn];simp
      exact hz ▸ this m (by omega)
    generalize U.drop (4 * j) = D at n1 hDl D4 lzD q4 r4 ⊢
    simp -implicitDefEqProofs (disch:=first|omega|(simp only [go_sem,seval,hlt2];first|done|omega)) only [go_sem,seval,hlt2]
    refine callP_q (n1 _) ?_
    simp -implicitDefEqProofs (disch:=first|omega|(simp only [go_sem,seval,lzD,q4,r4,D4];first|done|omega)) only [go_sem,seval,lzD,q4,r4,D4]
    by_cases hz:u = 2147483648
    · have fz:((u:Int) = 2147483648) = True:=eq_true (by omega)
      have hd:dE b = 1:=by rw [hd1,if_neg (by omega),if_neg (fun h => h cE),if_pos (hin hz)]
      have hs:decS b = ⟨⟨#[]⟩,0,[],[]⟩:=by unfold decS;rw [hd];rfl
      rw [hd,hs,encSer_eq]
      simp -implicitDefEqProofs (disch:=first|omega|(simp only [go_sem,seval,fz];first|done|omega)) only [go_sem,seval,fz]
      (all_goals (first|refine post_fin ret_ok hM rfl ?_ ?_|refine post_fin0 ret_ok hM rfl ?_ ?_|refine post_fin normal_ok hM rfl ?_ ?_|refine post_fin0 normal_ok hM rfl ?_ ?_);all_goals first|(simp only [go_sem,seval] <;> first|done|omega)|skip;all_goals (try simp -implicitDefEqProofs (disch:=first|omega|(simp only [go_sem,seval];first|done|omega)) only [go_sem,seval]))
    have fz:((u:Int) = 2147483648) = False:=eq_false (by omega)
    simp -implicitDefEqProofs (disch:=first|omega|(simp only [go_sem,seval,fz];first|done|omega)) only [go_sem,seval,fz]
    refine callP_q (ACall_ext (hB u _)) ?_
    simp -implicitDefEqProofs (disch:=first|omega|(simp only [go_sem,seval];first|done|omega)) only [go_sem,seval]
    refine again' (j + 1) ⟨by omega,?_⟩ (by omega) (by rw [hsn];simp) rfl
    rw [hsn]
    simp only [List.mem_append,List.mem_singleton,not_or]
    exact ⟨hno,fun h => hz h.symm⟩
  have hjj:j = m:=by omega
  subst hjj
  have hdr2:dSer b = ⟨nm,st,smpL U j,G⟩:=by rw [hdr,hG]
  have hd:dE b = chkSer (dSer b):=by rw [hd1,if_neg (by omega),if_neg (fun h => h cE),if_neg hno]
  have hC:=q_ref01_CheckSeries (X:=X) hX (dSer b) (by rw [hdr2];show (smpL U j).length ≤ _;rw [smpL_len];omega) (by rw [hdr2];show G.length ≤ _;omega)
  rw [← hd] at hC
  unfold decS
  rw [hdr2,encSer_eq] at hC
  rw [hdr2]
  have hsl:=smpL_len U j
  generalize smpL U j = S at hC hsl ⊢
  simp only at hC
  have lS:∀ n,lowL n (S.map encF) = True:=fun n => encF_low _
  simp -implicitDefEqProofs (disch:=first|omega|(simp only [go_sem,seval,hlt2,r_fzload,frzC_s,frzC_os,frzC_nil];first|done|omega)) only [go_sem,seval,hlt2,r_fzload,frzC_s,frzC_os,frzC_nil]
  refine callP_q (hC _) ?_
  have tS:(S.map encF).take j = S.map encF:=List.take_of_length_le (by rw [List.length_map];omega)
  have tG:(G.map encSpn).take k = G.map encSpn:=List.take_of_length_le (by rw [List.length_map];omega)
  by_cases hz:dE b = 0
  · rw [if_pos hz,encSer_eq,hz]
    simp -implicitDefEqProofs (disch:=first|omega|(simp only [go_sem,seval,tS,tG];first|done|omega)) only [go_sem,seval,tS,tG]
    (first|refine post_fin ret_ok hM rfl ?_ ?_|refine post_fin0 ret_ok hM rfl ?_ ?_|refine post_fin normal_ok hM rfl ?_ ?_|refine post_fin0 normal_ok hM rfl ?_ ?_)
    · simp -implicitDefEqProofs (disch:=first|omega|(simp only [go_sem,seval,tS,tG];first|done|omega)) only [go_sem,seval,tS,tG]
    · (simp only [go_sem,seval,lS,lgs] <;> first|done|omega)
  · rw [if_neg hz,encSer_eq]
    generalize dE b = ee at hz
    simp -implicitDefEqProofs (disch:=first|omega|(simp only [go_sem,seval,hz];first|done|omega)) only [go_sem,seval,hz]
    (all_goals (first|refine post_fin ret_ok hM rfl ?_ ?_|refine post_fin0 ret_ok hM rfl ?_ ?_|refine post_fin normal_ok hM rfl ?_ ?_|refine post_fin0 normal_ok hM rfl ?_ ?_);all_goals first|(simp only [go_sem,seval] <;> first|done|omega)|skip;all_goals (try simp -implicitDefEqProofs (disch:=first|omega|(simp only [go_sem,seval];first|done|omega)) only [go_sem,seval]))
theorem q_ref01_Four (n:Int):Q X 136 [.s (.int .u32 n)] (.fs (be4 n)):=by
  intro M
  have hsh:∀ (m:Nat),m ≤ 24 → bin .shr (.s (.int .u32 n)) (.s (.int .u64 m)) = some (.s (.int .u32 (n.fdiv (2 ^ m)))):=by
    intro m hm
    rw [bin_shr (by omega)]
    have:min (m:Int).toNat IntKind.u32.bits = m:=by
      have:IntKind.u32.bits = 32:=rfl
      omega
    rw [this]
  have s1:bin .shr (.s (.int .u32 n)) (.s (.int .u64 24)) = some (.s (.int .u32 (n.fdiv 16777216))):=hsh 24 (by decide)
  have s2:bin .shr (.s (.int .u32 n)) (.s (.int .u64 16)) = some (.s (.int .u32 (n.fdiv 65536))):=hsh 16 (by decide)
  have s3:bin .shr (.s (.int .u32 n)) (.s (.int .u64 8)) = some (.s (.int .u32 (n.fdiv 256))):=hsh 8 (by decide)
  rw [be4_eq]
  (refine ACall_fn (cf:=L4.c136) rfl rfl fun hM hA => ?_;simp only [L4.c136,zO,zF,zT];rw [mk1 _ (by decide)];simp -implicitDefEqProofs (disch:=first|omega|(simp only [go_sem,seval,s1,s2,s3];first|done|omega)) only [go_sem,seval,s1,s2,s3])
  (all_goals (first|refine post_fin ret_ok hM rfl ?_ ?_|refine post_fin0 ret_ok hM rfl ?_ ?_|refine post_fin normal_ok hM rfl ?_ ?_|refine post_fin0 normal_ok hM rfl ?_ ?_);all_goals first|(simp only [go_sem,seval] <;> first|done|omega)|skip;all_goals (try simp -implicitDefEqProofs (disch:=first|omega|(simp only [go_sem,seval];first|done|omega)) only [go_sem,seval]))
theorem plus0_lt (x:Nat):plus0 x < 4294967296:=by
  unfold plus0
  cases h:Ieee.single.add x 0 with
  | none => decide
  | some r => exact Ieee.Format.add_lt Ieee.single h
theorem be4_ok (n:Int):(be4 n).all (okElem 1) = true:=rfl
theorem be4_len (n:Int):(be4 n).length = 4:=rfl
theorem q_ref01_Encode (hF:FbitsX X) (s:Ser) (h0:chkSer s = 0):Q X 90 [encSer s] (.fs (encB s)):=by
  intro M
  have es:=encSer_eq s
  obtain ⟨hin,hsm⟩:=serIn_of h0
  have hnm:s.name.size ≤ 24:=by
    unfold chkSer at h0
    split at h0
    · cases h0
    · rename_i hn;exact nameOk_size (by simpa using hn)
  obtain ⟨w1,w2⟩:sumW s = s.start + s.samples.length ∧ (0 ≤ s.start ∧ s.start ≤ 999999999):=by
    have hs:0 ≤ s.start ∧ s.start ≤ 999999999:=by
      unfold chkSer at h0
      split at h0
      · cases h0
      · split at h0
        · cases h0
        · rename_i h2;exact rng_ok.1 (Decidable.of_not_not h2)
    have hl:=hin.1
    exact ⟨by unfold sumW;exact wrap_in (by constructor <;> omega),hs⟩
  have hls:=hin.1
  have hgs:s.gaps.length ≤ 1024:=by
    unfold chkSer at h0
    split at h0
    · cases h0
    · split at h0
      · cases h0
      · split at h0
        · cases h0
        · split at h0
          · rename_i h4;exact absurd h0 h4
          · split at h0
            · rename_i h5;exact absurd h0 h5
            · rename_i h5;exact (chkSpns_in (Decidable.of_not_not h5)).2
  have hbo:=bytesPV_ok s.name
  have hbl:=bytesPV_len s.name
  have hhs:∀ M:List Blk,held M (.s (.string s.name)) = some (bytesPV s.name):=fun _ => held_str
  have hb4:=be4_ok
  have hl4:=be4_len
  have k1:=wrap32 (n:=s.start) (by omega)
  have k2:=wrap32 (n:=(s.samples.length:Int)) (by omega)
  have k3:=wrap32 (n:=(s.gaps.length:Int)) (by omega)
  (refine ACall_fn (cf:=L4.c90) rfl rfl fun hM hA => ?_;simp only [L4.c90,zO,zF,zT];rw [mk1 _ (by decide)];simp -implicitDefEqProofs (disch:=first|omega|(simp only [go_sem,seval,es,hhs,hbo,hbl,k1,k2,k3];first|done|omega)) only [go_sem,seval,es,hhs,hbo,hbl,k1,k2,k3])
  have eh:(.s (.int .u8 87) :: .s (.int .u8 73) :: .s (.int .u8 78) :: .s (.int .u8 68) :: .s (.int .u8 (IntKind.u8.wrap s.name.size)) :: bytesPV s.name:List PV) = hdrB s:=rfl
  rw [eh]
  have hh:(hdrB s).length = 5 + s.name.size:=by
    unfold hdrB
    rw [List.length_append,List.length_append,hbl];rfl
  have hlow:∀ n:Nat,lowL n (hdrB s) = True:=fun n => eq_true (by
    unfold hdrB
    rw [lowL_iff]
    intro x hx
    rcases List.mem_append.1 hx with hx|hx
    · simp only [List.cons_append,List.nil_append,List.mem_cons,List.not_mem_nil,or_false] at hx
      rcases hx with rfl|rfl|rfl|rfl|rfl <;> simp [PV.low]
    · exact (lowL_iff _).1 (of_eq_true (bytesPV_low s.name)) x hx)
  have hC:∀ L:List Int,(hdrB s ++ putB L).length = 5 + s.name.size + 4 * L.length:=fun L => by rw [List.length_append,hh,putB_len]
  have hE:encB s = hdrB s ++ putB ([s.start,(s.samples.length:Int),(s.gaps.length:Int)] ++ gapNs s.gaps ++ bitNs s.samples):=rfl
  have e3:∀ a b c:Int,hdrB s ++ (be4 a ++ (be4 b ++ be4 c)) = hdrB s ++ putB [a,b,c]:=fun a b c => by simp [putB]
  have hcl:∀ (L:List Int) (m:Nat),lowL m (hdrB s ++ putB L) = True:=fun L m => eq_true (by
    rw [lowL_iff]
    intro x hx
    rcases List.mem_append.1 hx with hx|hx
    · exact (lowL_iff _).1 (of_eq_true (hlow m)) x hx
    · exact (lowL_iff _).1 (of_eq_true (putB_low L)) x hx)
  generalize hdrB s = H at hh hlow hC hE e3 hcl ⊢
  refine callP_q (q_ref01_Four _ _) ?_
  simp -implicitDefEqProofs (disch:=first|omega|(simp only [go_sem,seval,hh,hb4,hl4,k2];first|done|omega)) only [go_sem,seval,hh,hb4,hl4,k2]
  refine callP_q (q_ref01_Four _ _) ?_
  simp -implicitDefEqProofs (disch:=first|omega|(simp only [go_sem,seval,hh,hb4,hl4,k3];first|done|omega)) only [go_sem,seval,hh,hb4,hl4,k3]
  refine callP_q (q_ref01_Four _ _) ?_
  simp -implicitDefEqProofs (disch:=first|omega|(simp only [go_sem,seval,hh,hb4,hl4];first|done|omega)) only [go_sem,seval,hh,hb4,hl4]
  have hb3:([s.start,(s.samples.length:Int),(s.gaps.length:Int)]:List Int).length = 3:=rfl
  have e5:∀ (L:List Int) (g:Spn),H ++ (putB L ++ (be4 g.fr ++ be4 g.to_)) = H ++ putB (L ++ [g.fr,g.to_]):=fun L g => by rw [putB_app];simp [putB]
  have e6:∀ (L:List Int) (x:Int),H ++ (putB L ++ be4 x) = H ++ putB (L ++ [x]):=fun L x => by rw [putB_app];simp [putB]
  rw [e3]
  have hz0:(5 + (s.name.size + 12)) = 5 + (s.name.size + 4 * (3 + 2 * 0)):=by omega
  rw [hz0]
  clear e3 eh
  generalize [s.start,(s.samples.length:Int),(s.gaps.length:Int)] = base at hb3 hE ⊢
  refine loop_mk (α:=Nat) 0 (fun k => k ≤ s.gaps.length) (fun k => M ++ [.row true 1 (5 + 2 * k) (H ++ putB (base ++ gapNs (s.gaps.take k)))])
    (fun k => [(1,.fp [.s (.string s.name),.I s.start,.fs (s.samples.map encF),.fs (s.gaps.map encSpn)]),(3,.os M.length (5 + 2 * k) 0 (5 + (s.name.size + 4 * (3 + 2 * k)))),(4,.I k)]) (fun k => s.gaps.length - k) (Nat.zero_le _) ?_ rfl ?_
  · simp [gapNs]
  intro k hk
  by_cases hlt:k < s.gaps.length
  · obtain ⟨g,hg⟩:∃ g,s.gaps[k]? = some g:=⟨_,List.getElem?_eq_getElem hlt⟩
    have hsn:=gapNs_snoc hg
    have hgl2:=gapNs_len (s.gaps.take k)
    have htl:(s.gaps.take k).length = k:=by rw [List.length_take];omega
    have hcl2:(H ++ putB (base ++ gapNs (s.gaps.take k))).length = 5 + s.name.size + 4 * (3 + 2 * k):=by rw [hC,List.length_append,hb3,hgl2,htl]
    obtain ⟨r1,r2,r3⟩:=hin.2.2 g (List.mem_of_getElem? hg)
    have k4:=wrap32 (n:=g.fr) (by omega)
    have k5:=wrap32 (n:=g.to_) (by omega)
    have e9:H ++ putB (base ++ gapNs (s.gaps.take (k + 1))) = (H ++ putB (base ++ gapNs (s.gaps.take k))) ++ (be4 g.fr ++ be4 g.to_):=by rw [hsn,← List.append_assoc base,← e5,List.append_assoc H]
    generalize H ++ putB (base ++ gapNs (s.gaps.take k)) = c at hcl2 e9 ⊢
    simp -implicitDefEqProofs (disch:=first|omega|(simp only [go_sem,seval,hlt,hg,encSpn_cells,encSpn_eq,k4];first|done|omega)) only [go_sem,seval,hlt,hg,encSpn_cells,encSpn_eq,k4]
    refine callP_q (q_ref01_Four _ _) ?_
    simp -implicitDefEqProofs (disch:=first|omega|(simp only [go_sem,seval,hcl2,hb4,hl4,hlt,hg,encSpn_cells,encSpn_eq,k5];first|done|omega)) only [go_sem,seval,hcl2,hb4,hl4,hlt,hg,encSpn_cells,encSpn_eq,k5]
    refine callP_q (q_ref01_Four _ _) ?_
    simp -implicitDefEqProofs (disch:=first|omega|(simp only [go_sem,seval,hcl2,hb4,hl4];first|done|omega)) only [go_sem,seval,hcl2,hb4,hl4]
    have z1:5 + 2 * (k + 1) = 5 + (2 * k + 2):=by omega
    have z2:5 + (s.name.size + 4 * (3 + 2 * (k + 1))) = 5 + (s.name.size + (4 * (3 + 2 * k) + 8)):=by omega
    exact again' (k + 1) (by omega) (by omega) (by rw [e9,z1]) (by rw [z1,z2];rfl)
  have hkk:k = s.gaps.length:=by omega
  subst hkk
  rw [List.take_length]
  simp -implicitDefEqProofs (disch:=first|omega|(simp only [go_sem,seval,hlt];first|done|omega)) only [go_sem,seval,hlt]
  have hz1:5 + (s.name.size + 4 * (3 + 2 * s.gaps.length)) = 5 + (s.name.size + 4 * (3 + (2 * s.gaps.length + 0))):=by omega
  rw [hz1]
  refine loop_mk (α:=Nat) 0 (fun j => j ≤ s.samples.length) (fun j => M ++ [.row true 1 (5 + (2 * s.gaps.length + j)) (H ++ putB (base ++ gapNs s.gaps ++ bitNs (s.samples.take j)))])
    (fun j => [(1,.fp [.s (.string s.name),.I s.start,.fs (s.samples.map encF),.fs (s.gaps.map encSpn)]),(3,.os M.length (5 + (2 * s.gaps.length + j)) 0 (5 + (s.name.size + 4 * (3 + (2 * s.gaps.length + j))))),(5,.I j)]) (fun j => s.samples.length - j) (Nat.zero_le _) ?_ rfl ?_
  · simp [bitNs]
  intro j hj
  by_cases hlt2:j < s.samples.length
  · obtain ⟨x,hx⟩:∃ x,s.samples[j]? = some x:=⟨_,List.getElem?_eq_getElem hlt2⟩
    have hpl:=f_plus0 (hsm x (List.mem_of_getElem? hx))
    have hbs:bitNs (s.samples.take (j + 1)) = bitNs (s.samples.take j) ++ [(plus0 x:Int)]:=by
      have:IntKind.i64.wrap (plus0 x:Int) = plus0 x:=wrap_in (by have:=plus0_lt x;constructor <;> omega)
      unfold bitNs
      rw [take_snoc (f:=fun x => IntKind.i64.wrap (plus0 x:Int)) hx,this]
    have hbl2:(bitNs (s.samples.take j)).length = j:=by unfold bitNs;rw [List.length_map,List.length_take];omega
    have hcl2:(H ++ putB (base ++ gapNs s.gaps ++ bitNs (s.samples.take j))).length = 5 + (s.name.size + 4 * (3 + (2 * s.gaps.length + j))):=by rw [hC,List.length_append,List.length_append,hb3,gapNs_len,hbl2];omega
    have e9:H ++ putB (base ++ gapNs s.gaps ++ bitNs (s.samples.take (j + 1))) = (H ++ putB (base ++ gapNs s.gaps ++ bitNs (s.samples.take j))) ++ be4 (plus0 x):=by rw [hbs,← List.append_assoc (base ++ gapNs s.gaps),← e6,List.append_assoc H]
    generalize H ++ putB (base ++ gapNs s.gaps ++ bitNs (s.samples.take j)) = c at hcl2 e9 ⊢
    simp -implicitDefEqProofs (disch:=first|omega|(simp only [go_sem,seval,hlt2,hx,r_sop,hpl];first|done|omega)) only [go_sem,seval,hlt2,hx,r_sop,hpl]
    refine callP_q (ACall_ext (hF (plus0 x) _)) ?_
    simp -implicitDefEqProofs (disch:=first|omega|(simp only [go_sem,seval];first|done|omega)) only [go_sem,seval]
    refine callP_q (q_ref01_Four _ _) ?_
    simp -implicitDefEqProofs (disch:=first|omega|(simp only [go_sem,seval,hcl2,hb4,hl4];first|done|omega)) only [go_sem,seval,hcl2,hb4,hl4]
    have z1:5 + (2 * s.gaps.length + (j + 1)) = 5 + (2 * s.gaps.length + j + 1):=by omega
    have z2:5 + (s.name.size + 4 * (3 + (2 * s.gaps.length + (j + 1)))) = 5 + (s.name.size + (4 * (3 + (2 * s.gaps.length + j)) + 4)):=by omega
    rw [List.append_assoc base] at e9
    exact again' (j + 1) (by omega) (by omega) (by rw [e9]) (by rw [z2];rfl)
  have hjj:j = s.samples.length:=by omega
  subst hjj
  rw [List.take_length]
  have hlw:=hcl (base ++ gapNs s.gaps ++ bitNs s.samples)
  have hRl:=hC (base ++ gapNs s.gaps ++ bitNs s.samples)
  have hbl3:(bitNs s.samples).length = s.samples.length:=by unfold bitNs;rw [List.length_map]
  have hLl:(base ++ gapNs s.gaps ++ bitNs s.samples).length = 3 + 2 * s.gaps.length + s.samples.length:=by rw [List.length_append,List.length_append,hb3,gapNs_len,hbl3]
  rw [hLl] at hRl
  rw [← hE] at hlw hRl ⊢
  have hRl2:5 + (s.name.size + 4 * (3 + (2 * s.gaps.length + s.samples.length))) = (encB s).length:=by omega
  have hRt:(encB s).take (encB s).length = encB s:=List.take_length
  rw [hRl2]
  simp -implicitDefEqProofs (disch:=first|omega|(simp only [go_sem,seval,hlt2];first|done|omega)) only [go_sem,seval,hlt2]
  (first|refine post_fin ret_ok hM rfl ?_ ?_|refine post_fin0 ret_ok hM rfl ?_ ?_|refine post_fin normal_ok hM rfl ?_ ?_|refine post_fin0 normal_ok hM rfl ?_ ?_)
  · simp -implicitDefEqProofs (disch:=first|omega|(simp only [go_sem,seval,hRt];first|done|omega)) only [go_sem,seval,hRt]
  · (simp only [go_sem,seval,hlw,hRt] <;> first|done|omega)
theorem strOf_all:∀ l:List PV,(∀ x ∈ l,∃ n:Int,x = .s (.int .u8 n)) → ∃ B,strOf l = some B
  | [],_ => ⟨_,rfl⟩
  | x :: r,h => by
    obtain ⟨n,rfl⟩:=h x (by simp)
    obtain ⟨B,hB⟩:=strOf_all r fun y hy => h y (by simp [hy])
    exact ⟨_,by show (strOf r).map _ = _;rw [hB];rfl⟩
theorem encB_str (s:Ser):∃ B,strOf (encB s) = some B:=by
  refine strOf_all _ fun x hx => ?_
  unfold encB hdrB at hx
  rcases List.mem_append.1 hx with hx|hx
  · rcases List.mem_append.1 hx with hx|hx
    · simp only [List.cons_append,List.nil_append,List.mem_cons,List.not_mem_nil,or_false] at hx
      rcases hx with rfl|rfl|rfl|rfl|rfl <;> exact ⟨_,rfl⟩
    · obtain ⟨y,_,rfl⟩:=List.mem_map.1 hx
      exact ⟨_,rfl⟩
  · unfold putB at hx
    obtain ⟨n,_,hn⟩:=List.mem_flatMap.1 hx
    rw [be4_eq] at hn
    simp only [List.mem_cons,List.not_mem_nil,or_false] at hn
    rcases hn with rfl|rfl|rfl|rfl <;> exact ⟨_,rfl⟩
theorem q_streams_core (s:Ser) (b:List UInt8) (D:Ser) (v u:Int) (C:List PV) (B:ByteArray) (hW:Q X 17 [] (.B true)) (hl:b.length ≤ 1000)
    (s1:Q X 63 [encSer s] (.B true)) (c1:Q X 65 [encSer s] (encSer s))
    (gE:Q X 88 [encSer s] (.tup [.fs C,.I v])) (gD:Q X 89 [.fs (b.map bt)] (.tup [encSer D,.I u]))
    (rE:v = 0 → Q X 90 [encSer s] (.fs C)) (rD:Q X 91 [.fs (b.map bt)] (.tup [encSer D,.I u]))
    (k1:Q X 67 [encSer s] (.I v)) (hB:strOf C = some B) (h0:v ≠ 0 → C = [])
    (hS:Q X 85 [encSer D,encSer D] (.B true)):Q X 14 [encSer s,.fs (b.map bt)] (.B true):=by
  have hT:=q_law01_told (X:=X) D
  have es:=encSer_eq s
  have eD:=encSer_eq D
  have la1:∀ m,lowL m (s.samples.map encF) = True:=fun m => encF_low _
  have la2:∀ m,lowL m (s.gaps.map encSpn) = True:=fun m => encSpn_low _
  have lD1:∀ m,lowL m (D.samples.map encF) = True:=fun m => encF_low _
  have lD2:∀ m,lowL m (D.gaps.map encSpn) = True:=fun m => encSpn_low _
  have lb:∀ m,lowL m (b.map bt) = True:=fun m => bt_low b
  have ob:(b.map bt).all (okElem 1) = true:=by rw [List.all_eq_true];intro x hx;obtain ⟨y,_,rfl⟩:=List.mem_map.1 hx;rfl
  have fl:((1000:Int) < b.length) = False:=eq_false (by omega)
  have bs:bin .eql (.s (.string B)) (.s (.string B)) = some (.B true):=by rw [bin_strEq];simp
  have htk:(b.map bt).take b.length = b.map bt:=List.take_of_length_le (by simp)
  rw [es] at s1 c1 gE rE k1 ⊢
  rw [eD] at gD rD hT hS
  intro M
  (refine ACall_fn (cf:=L4.c14) rfl rfl fun hM hA => ?_;simp only [L4.c14,zO,zF,zT];rw [mk2 _ (by decide)];simp -implicitDefEqProofs (disch:=first|omega|(simp only [go_sem,seval];first|done|omega)) only [go_sem,seval])
  refine callP_q (hW _) ?_
  simp -implicitDefEqProofs (disch:=first|omega|(simp only [go_sem,seval];first|done|omega)) only [go_sem,seval]
  refine callP_q (s1 _) ?_
  simp -implicitDefEqProofs (disch:=first|omega|(simp only [go_sem,seval,fl];first|done|omega)) only [go_sem,seval,fl]
  refine callP_q (c1 _) ?_
  simp -implicitDefEqProofs (disch:=first|omega|(simp only [go_sem,seval];first|done|omega)) only [go_sem,seval]
  refine callP_q (gE _) ?_
  simp -implicitDefEqProofs (disch:=first|omega|(simp only [go_sem,seval,ob,htk];first|done|omega)) only [go_sem,seval,ob,htk]
  refine callP_q (gD _) ?_
  simp -implicitDefEqProofs (disch:=first|omega|(simp only [go_sem,seval];first|done|omega)) only [go_sem,seval]
  refine callP_q (k1 _) ?_
  by_cases hv:v = 0
  · have rE2:=rE hv
    subst hv
    simp -implicitDefEqProofs (disch:=first|omega|(simp only [go_sem,seval];first|done|omega)) only [go_sem,seval]
    refine callP_q (rE2 _) ?_
    simp -implicitDefEqProofs (disch:=first|omega|(simp only [go_sem,seval,hB];first|done|omega)) only [go_sem,seval,hB]
    refine callP_q (rD _) ?_
    simp -implicitDefEqProofs (disch:=first|omega|(simp only [go_sem,seval,hB,bs];first|done|omega)) only [go_sem,seval,hB,bs]
    refine callP_q (hT _) ?_
    simp -implicitDefEqProofs (disch:=first|omega|(simp only [go_sem,seval];first|done|omega)) only [go_sem,seval]
    refine callP_q (hS _) ?_
    simp -implicitDefEqProofs (disch:=first|omega|(simp only [go_sem,seval];first|done|omega)) only [go_sem,seval]
    (all_goals (first|refine post_fin ret_ok hM rfl ?_ ?_|refine post_fin0 ret_ok hM rfl ?_ ?_|refine post_fin normal_ok hM rfl ?_ ?_|refine post_fin0 normal_ok hM rfl ?_ ?_);all_goals first|(simp only [go_sem,seval] <;> first|done|omega)|skip;all_goals (try simp -implicitDefEqProofs (disch:=first|omega|(simp only [go_sem,seval];first|done|omega)) only [go_sem,seval]))
  · have hC:=h0 hv
    subst hC
    obtain rfl:B = ⟨#[]⟩:=(Option.some.inj hB).symm
    simp -implicitDefEqProofs (disch:=first|omega|(simp only [go_sem,seval,hv];first|done|omega)) only [go_sem,seval,hv]
    refine callP_q (rD _) ?_
    simp -implicitDefEqProofs (disch:=first|omega|(simp only [go_sem,seval,hB,bs];first|done|omega)) only [go_sem,seval,hB,bs]
    refine callP_q (hT _) ?_
    simp -implicitDefEqProofs (disch:=first|omega|(simp only [go_sem,seval];first|done|omega)) only [go_sem,seval]
    refine callP_q (hS _) ?_
    simp -implicitDefEqProofs (disch:=first|omega|(simp only [go_sem,seval];first|done|omega)) only [go_sem,seval]
    (all_goals (first|refine post_fin ret_ok hM rfl ?_ ?_|refine post_fin0 ret_ok hM rfl ?_ ?_|refine post_fin normal_ok hM rfl ?_ ?_|refine post_fin0 normal_ok hM rfl ?_ ?_);all_goals first|(simp only [go_sem,seval] <;> first|done|omega)|skip;all_goals (try simp -implicitDefEqProofs (disch:=first|omega|(simp only [go_sem,seval];first|done|omega)) only [go_sem,seval]))
theorem decS_valid (b:List UInt8):(∀ x ∈ (decS b).samples,smpE x = 0) ∧ (decS b).samples.length ≤ 1048576 ∧ (decS b).gaps.length ≤ 1048576:=by
  unfold decS
  split
  · rename_i h
    have hc:chkSer (dSer b) = 0:=by
      unfold dE at h
      split at h
      · rename_i h1;exact absurd h h1
      · split at h
        · cases h
        · split at h
          · cases h
          · split at h
            · cases h
            · split at h
              · cases h
              · exact h
    obtain ⟨_,g2,_,_⟩:=gaps_40 hc
    have:=(serIn_of hc).1.1
    exact ⟨(serIn_of hc).2,by omega,by omega⟩
  · exact ⟨fun x hx => (by cases hx),Nat.zero_le _,Nat.zero_le _⟩
theorem q_law01_SiteStreams (hX:FloorX X) (hF:FbitsX X) (hB:FrombX X) (hW:Q X 17 [] (.B true)) (s:Ser) (b:List UInt8):Q X 14 [encSer s,.fs (b.map bt)] (.B true):=by
  have s1:=q_ref01_Short (X:=X) s
  have es:=encSer_eq s
  by_cases h1:shortB s = true
  case neg =>
    have h1:shortB s = false:=by simpa using h1
    rw [h1,es] at s1
    rw [es]
    intro M
    (refine ACall_fn (cf:=L4.c14) rfl rfl fun hM hA => ?_;simp only [L4.c14,zO,zF,zT];rw [mk2 _ (by decide)];simp -implicitDefEqProofs (disch:=first|omega|(simp only [go_sem,seval];first|done|omega)) only [go_sem,seval])
    refine callP_q (hW _) ?_
    simp -implicitDefEqProofs (disch:=first|omega|(simp only [go_sem,seval];first|done|omega)) only [go_sem,seval]
    refine callP_q (s1 _) ?_
    simp -implicitDefEqProofs (disch:=first|omega|(simp only [go_sem,seval];first|done|omega)) only [go_sem,seval]
    refine callP_q (hW _) ?_
    simp -implicitDefEqProofs (disch:=first|omega|(simp only [go_sem,seval];first|done|omega)) only [go_sem,seval]
    (all_goals (first|refine post_fin ret_ok hM rfl ?_ ?_|refine post_fin0 ret_ok hM rfl ?_ ?_|refine post_fin normal_ok hM rfl ?_ ?_|refine post_fin0 normal_ok hM rfl ?_ ?_);all_goals first|(simp only [go_sem,seval] <;> first|done|omega)|skip;all_goals (try simp -implicitDefEqProofs (disch:=first|omega|(simp only [go_sem,seval];first|done|omega)) only [go_sem,seval]))
  by_cases h2:b.length ≤ 1000
  case neg =>
    have fl:((1000:Int) < b.length) = True:=eq_true (by omega)
    rw [h1,es] at s1
    rw [es]
    intro M
    (refine ACall_fn (cf:=L4.c14) rfl rfl fun hM hA => ?_;simp only [L4.c14,zO,zF,zT];rw [mk2 _ (by decide)];simp -implicitDefEqProofs (disch:=first|omega|(simp only [go_sem,seval];first|done|omega)) only [go_sem,seval])
    refine callP_q (hW _) ?_
    simp -implicitDefEqProofs (disch:=first|omega|(simp only [go_sem,seval];first|done|omega)) only [go_sem,seval]
    refine callP_q (s1 _) ?_
    simp -implicitDefEqProofs (disch:=first|omega|(simp only [go_sem,seval,fl];first|done|omega)) only [go_sem,seval,fl]
    refine callP_q (hW _) ?_
    simp -implicitDefEqProofs (disch:=first|omega|(simp only [go_sem,seval];first|done|omega)) only [go_sem,seval]
    (all_goals (first|refine post_fin ret_ok hM rfl ?_ ?_|refine post_fin0 ret_ok hM rfl ?_ ?_|refine post_fin normal_ok hM rfl ?_ ?_|refine post_fin0 normal_ok hM rfl ?_ ?_);all_goals first|(simp only [go_sem,seval] <;> first|done|omega)|skip;all_goals (try simp -implicitDefEqProofs (disch:=first|omega|(simp only [go_sem,seval];first|done|omega)) only [go_sem,seval]))
  rw [h1] at s1
  obtain ⟨l1,l2⟩:=short_len h1
  obtain ⟨B,hb⟩:=encB_str s
  obtain ⟨v1,v2,v3⟩:=decS_valid b
  have hS:=q_ref01_SameSeries (X:=X) (decS b) (decS b) v1 v1 v2 v3
  have gE:=q_site_Encode (X:=X) hF s (by omega) (by omega)
  have k1:=q_ref01_CheckSeries (X:=X) hX s (by omega) (by omega)
  by_cases h0:chkSer s = 0
  · rw [if_pos h0] at gE
    exact q_streams_core s b (decS b) _ _ _ B hW h2 s1 (q_law01_series s (by omega) (by omega)) gE (q_site_Decode hB b (by omega)) (fun _ => q_ref01_Encode hF s h0) (q_ref01_Decode hX hB b (by omega)) k1 hb (fun h => absurd h0 h) (by simpa using hS)
  · rw [if_neg h0] at gE
    exact q_streams_core s b (decS b) _ _ _ ⟨#[]⟩ hW h2 s1 (q_law01_series s (by omega) (by omega)) gE (q_site_Decode hB b (by omega)) (fun h => absurd h h0) (q_ref01_Decode hX hB b (by omega)) k1 rfl (fun _ => rfl) (by simpa using hS)
end
end Go.Nac.L4
