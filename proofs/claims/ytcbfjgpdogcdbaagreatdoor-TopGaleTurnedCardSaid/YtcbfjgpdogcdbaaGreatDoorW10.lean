import Derived.Test.YtcbfjgpdogcdbaaGreatDoorW09
set_option linter.unusedSimpArgs false
set_option linter.unusedVariables false
set_option linter.unnecessarySimpa false
set_option maxRecDepth 10000
namespace Go.Nac.L5
attribute [local congr] b1_congr b2_congr Wp_congr wpOps_congr thenK_congr blockK_congr gK_congr cK_congr
section
variable {X:XRel}
theorem put_run (ns:List Int) (hl:ns.length ≤ 40000) {M0 E:List Blk} {v:Nat} {bs:List PV} (hb:bs.length ≤ 400000) :
    ACall F X (.fn 38) [.fs (ns.map .I),.op (M0.length + 1) 0 0 0] (M0 ++ (.row true 1 v bs :: .row true 1 0 [.os M0.length v 0 bs.length] :: E)) (.tup [])
      (M0 ++ (.row true 1 (v + ns.length) (bs ++ putB ns) :: .row true 1 0 [.os M0.length (v + ns.length) 0 (bs ++ putB ns).length] :: E)):=by
  refine ACall_fn (cf:=c38) rfl rfl fun hM hA => ?_
  simp only [c38,zO,zF,zT]
  rw [mk2 _ (by decide)]
  simp -implicitDefEqProofs (disch:=first|omega|(simp only [go_sem,seval];first|done|omega)) only [go_sem,seval]
  refine loop_mk (α:=Nat) 0 (fun k => k ≤ ns.length) (fun k => M0 ++ (.row true 1 (v + k) (bs ++ putB (ns.take k)) :: .row true 1 0 [.os M0.length (v + k) 0 (bs ++ putB (ns.take k)).length] :: E))
    (fun k => [(1,.op (M0.length + 1) 0 0 0),(5,.fs (ns.map .I)),(6,.I ns.length),(7,.I k)]) (fun k => ns.length - k) (Nat.zero_le _) (by simp [putB]) rfl ?_
  intro k hk
  by_cases hlt:k < ns.length
  · obtain ⟨n,hn⟩:∃ n,ns[k]? = some n:=⟨_,List.getElem?_eq_getElem hlt⟩
    have hsn:=putB_snoc hn
    have hpl:=putB_len (ns.take k)
    have htl:(ns.take k).length = k:=by rw [List.length_take];omega
    have hbl:(bs ++ putB (ns.take k)).length ≤ 560000:=by rw [List.length_append,hpl];omega
    have again:∀ c:List PV,bs ++ putB (ns.take (k + 1)) = c → Again 26 (fun k => k ≤ ns.length) (fun k => M0 ++ (.row true 1 (v + k) (bs ++ putB (ns.take k)) :: .row true 1 0 [.os M0.length (v + k) 0 (bs ++ putB (ns.take k)).length] :: E))
      (fun k => [(1,.op (M0.length + 1) 0 0 0),(5,.fs (ns.map .I)),(6,.I ns.length),(7,.I k)]) (fun k => ns.length - k) k
      (M0 ++ (.row true 1 (v + (k + 1)) c :: .row true 1 0 [.os M0.length (v + (k + 1)) 0 c.length] :: E)) (mk 26 [(1,.op (M0.length + 1) 0 0 0),(5,.fs (ns.map .I)),(6,.I ns.length),(7,.I (k + 1))]):=by
      rintro c rfl
      exact again' (k + 1) (by omega) (by omega) rfl rfl
    rw [hsn,← List.append_assoc] at again
    generalize bs ++ putB (ns.take k) = c at hbl again ⊢
    have hsh:∀ (m:Nat),m ≤ 24 → bin .shr (.s (.int .i64 n)) (.s (.int .u64 m)) = some (.s (.int .i64 (n.fdiv (2 ^ m)))):=by
      intro m hm
      rw [bin_shr (by omega)]
      have:min (m:Int).toNat IntKind.i64.bits = m:=by
        have:IntKind.i64.bits = 64:=rfl
        omega
      rw [this]
    have s1:bin .shr (.s (.int .i64 n)) (.s (.int .u64 24)) = some (.s (.int .i64 (n.fdiv 16777216))):=hsh 24 (by decide)
    have s2:bin .shr (.s (.int .i64 n)) (.s (.int .u64 16)) = some (.s (.int .i64 (n.fdiv 65536))):=hsh 16 (by decide)
    have s3:bin .shr (.s (.int .i64 n)) (.s (.int .u64 8)) = some (.s (.int .i64 (n.fdiv 256))):=hsh 8 (by decide)
    simp -implicitDefEqProofs (disch:=first|omega|(simp only [go_sem,seval,hlt,hn,s1,s2,s3];first|done|omega)) only [go_sem,seval,hlt,hn,s1,s2,s3]
    have h:=again _ rfl
    simp only [List.length_append,be4_eq,List.length_cons,List.length_nil] at h
    exact h
  have hkk:k = ns.length:=by omega
  subst hkk
  rw [List.take_length]
  have hbl:lowL (M0 ++ Blk.row true 1 v bs :: Blk.row true 1 0 [PV.os M0.length v 0 bs.length] :: E).length bs:=hM (Blk.row true 1 v bs) (by simp)
  have hlow:lowM (M0 ++ (Blk.row true 1 (v + ns.length) (bs ++ putB ns) :: Blk.row true 1 0 [.os M0.length (v + ns.length) 0 (bs ++ putB ns).length] :: E)).length (M0 ++ (Blk.row true 1 (v + ns.length) (bs ++ putB ns) :: Blk.row true 1 0 [.os M0.length (v + ns.length) 0 (bs ++ putB ns).length] :: E)):=by
    intro b hb
    have hlen:(M0 ++ (Blk.row true 1 (v + ns.length) (bs ++ putB ns) :: Blk.row true 1 0 [.os M0.length (v + ns.length) 0 (bs ++ putB ns).length] :: E)).length = (M0 ++ Blk.row true 1 v bs :: Blk.row true 1 0 [PV.os M0.length v 0 bs.length] :: E).length:=by simp
    rw [hlen]
    rcases List.mem_append.1 hb with hb|hb
    · exact hM b (by simp [hb])
    · rcases List.mem_cons.1 hb with rfl|hb
      · show lowL _ (bs ++ putB ns)
        rw [lowL_iff]
        intro x hx
        rcases List.mem_append.1 hx with hx|hx
        · exact (lowL_iff _).1 hbl x hx
        · exact (lowL_iff _).1 (of_eq_true (putB_low ns)) x hx
      · rcases List.mem_cons.1 hb with rfl|hb
        · show lowL _ [_]
          simp [lowL,PV.low]
        · exact hM b (by simp [hb])
  simp only [List.length_append] at hlow
  simp -implicitDefEqProofs (disch:=first|omega|(simp only [go_sem,seval,hlt];first|done|omega)) only [go_sem,seval,hlt]
  refine post_fin0 normal_ok (by simpa using hlow) (by simp) ?_ ?_
  · simp -implicitDefEqProofs (disch:=first|omega|(simp only [go_sem,seval];first|done|omega)) only [go_sem,seval]
    rfl
  · (simp only [go_sem,seval] <;> first|done|omega)
def FbitsX (X:XRel):Prop:=∀ (b:Nat) (M:List Blk),X 39 [.s (.float .f32 b)] M (.s (.int .u32 b)) M
theorem q_site_Encode (hF:FbitsX X) (s:Ser) (hl:s.samples.length ≤ 1048576) (hgl:s.gaps.length ≤ 1048576):Q X 8 [encSer s] (.tup [.fs (if chkSer s = 0 then encB s else []),.I (chkSer s)]):=by
  intro M
  have es:=encSer_eq s
  (refine ACall_fn (cf:=L5.c8) rfl rfl fun hM hA => ?_;simp only [L5.c8,zO,zF,zT];rw [mk1 _ (by decide)];simp -implicitDefEqProofs (disch:=first|omega|(simp only [go_sem,seval,es];first|done|omega)) only [go_sem,seval,es])
  refine callP_q (q_site_CheckSeries s hl hgl _) ?_
  by_cases h0:chkSer s = 0
  case neg =>
    rw [if_neg h0]
    generalize chkSer s = ee at h0
    simp -implicitDefEqProofs (disch:=first|omega|(simp only [go_sem,seval,h0];first|done|omega)) only [go_sem,seval,h0]
    (all_goals (first|refine post_fin ret_ok hM rfl ?_ ?_|refine post_fin0 ret_ok hM rfl ?_ ?_|refine post_fin normal_ok hM rfl ?_ ?_|refine post_fin0 normal_ok hM rfl ?_ ?_);all_goals first|(simp only [go_sem,seval] <;> first|done|omega)|skip;all_goals (try simp -implicitDefEqProofs (disch:=first|omega|(simp only [go_sem,seval];first|done|omega)) only [go_sem,seval]))
  rw [if_pos h0,h0]
  obtain ⟨hin,hsm⟩:=serIn_of h0
  have hnm:s.name.size ≤ 24:=by
    unfold chkSer at h0
    split at h0
    · cases h0
    · rename_i hn;exact nameOk_size (by simpa using hn)
  have hbo:=bytesPV_ok s.name
  have hbl:=bytesPV_len s.name
  have hhs:∀ M:List Blk,held M (.s (.string s.name)) = some (bytesPV s.name):=fun _ => held_str
  simp -implicitDefEqProofs (disch:=first|omega|(simp only [go_sem,seval,es,hhs,hbo,hbl];first|done|omega)) only [go_sem,seval,es,hhs,hbo,hbl]
  have hh:(hdrB s).length = 5 + s.name.size:=by
    unfold hdrB
    rw [List.length_append,List.length_append,hbl];rfl
  have hls:=hin.1
  have hgs:s.gaps.length ≤ 1024:=by
    unfold chkSer at h0
    split at h0
    · cases h0
    · split at h0
      · cases h0
      · split at h0
        · cases h0
        · split at h0
          · rename_i h4;exact absurd h0 h4
          · split at h0
            · rename_i h5;exact absurd h0 h5
            · rename_i h5;exact (chkSpns_in (Decidable.of_not_not h5)).2
  have hP:=put_run (X:=X) [s.start,(s.samples.length:Int),(s.gaps.length:Int)] (by simp) (M0:=M) (E:=[]) (v:=2) (bs:=hdrB s) (by omega)
  have hlow:∀ n:Nat,lowL n (hdrB s) = True:=fun n => eq_true (by
    unfold hdrB
    rw [lowL_iff]
    intro x hx
    rcases List.mem_append.1 hx with hx|hx
    · simp only [List.cons_append,List.nil_append,List.mem_cons,List.not_mem_nil,or_false] at hx
      rcases hx with rfl|rfl|rfl|rfl|rfl <;> simp [PV.low]
    · exact (lowL_iff _).1 (of_eq_true (bytesPV_low s.name)) x hx)
  rw [hh] at hP
  refine callP_l hP ?_
  have hcl:∀ (L:List Int) (m:Nat),lowL m (hdrB s ++ putB L) = True:=fun L m => eq_true (by
    rw [lowL_iff]
    intro x hx
    rcases List.mem_append.1 hx with hx|hx
    · exact (lowL_iff _).1 (of_eq_true (hlow m)) x hx
    · exact (lowL_iff _).1 (of_eq_true (putB_low L)) x hx)
  have hC:∀ L:List Int,(hdrB s ++ putB L).length = 5 + s.name.size + 4 * L.length:=fun L => by rw [List.length_append,hh,putB_len]
  have hstep:∀ L N:List Int,hdrB s ++ putB L ++ putB N = hdrB s ++ putB (L ++ N):=fun L N => by rw [List.append_assoc,putB_app]
  have hE:encB s = hdrB s ++ putB ([s.start,(s.samples.length:Int),(s.gaps.length:Int)] ++ gapNs s.gaps ++ bitNs s.samples):=rfl
  generalize encB s = R at hE ⊢
  simp -implicitDefEqProofs (disch:=first|omega|(simp only [go_sem,seval];first|done|omega)) only [go_sem,seval]
  have hb3:([s.start,(s.samples.length:Int),(s.gaps.length:Int)]:List Int).length = 3:=rfl
  generalize [s.start,(s.samples.length:Int),(s.gaps.length:Int)] = base at hb3 hE ⊢
  refine loop_mk (α:=Nat) 0 (fun k => k ≤ s.gaps.length) (fun k => M ++ [.row true 1 (5 + 2 * k) (hdrB s ++ putB (base ++ gapNs (s.gaps.take k))),.row true 1 0 [.os M.length (5 + 2 * k) 0 (hdrB s ++ putB (base ++ gapNs (s.gaps.take k))).length]])
    (fun k => [(1,.fp (encSer s).cells),(5,.op (M.length + 1) 0 0 0),(6,.fn (.func 38) [] [.op (M.length + 1) 0 0 0]),(41,.fs (s.gaps.map encSpn)),(42,.I s.gaps.length),(43,.I k)]) (fun k => s.gaps.length - k) (Nat.zero_le _) ?_ rfl ?_
  · simp [gapNs]
  intro k hk
  by_cases hlt:k < s.gaps.length
  · obtain ⟨g,hg⟩:∃ g,s.gaps[k]? = some g:=⟨_,List.getElem?_eq_getElem hlt⟩
    have hsn:=gapNs_snoc hg
    have hgl2:=gapNs_len (s.gaps.take k)
    have htl:(s.gaps.take k).length = k:=by rw [List.length_take];omega
    have hcl2:(hdrB s ++ putB (base ++ gapNs (s.gaps.take k))).length = 5 + s.name.size + 4 * (3 + 2 * k):=by rw [hC,List.length_append,hb3,hgl2,htl]
    have hP2:=put_run (X:=X) [g.fr,g.to_] (by simp) (M0:=M) (E:=[.row true 2 0 [encSpn g]]) (v:=5 + 2 * k) (bs:=hdrB s ++ putB (base ++ gapNs (s.gaps.take k))) (by omega)
    rw [hstep,List.append_assoc,← hsn] at hP2
    have hlw:=hcl (base ++ gapNs (s.gaps.take (k + 1)))
    generalize hdrB s ++ putB (base ++ gapNs (s.gaps.take k)) = c at hP2 hcl2 ⊢
    simp -implicitDefEqProofs (disch:=first|omega|(simp only [go_sem,seval,hlt,hg,encSpn_cells,encSpn_eq];first|done|omega)) only [go_sem,seval,hlt,hg,encSpn_cells,encSpn_eq]
    refine callP_l hP2 ?_
    simp -implicitDefEqProofs (disch:=first|omega|(simp only [go_sem,seval,hlt,hg,encSpn_cells,encSpn_eq];first|done|omega)) only [go_sem,seval,hlt,hg,encSpn_cells,encSpn_eq]
    have hes:lowL (M.length + 2) (encSer s).cells = True:=by rw [encSer_cells];exact eq_true (by simp [lowL,PV.low,encF_low,encSpn_low])
    refine Wp_cut_at hM rfl 2 (by simp) (by first|done|(simp only [go_sem,seval,hlw,hlow,putB_low,hes,encSpn_low] <;> first|done|(refine ⟨?_,?_⟩ <;> omega)|omega)) (lowL_mk (by first|done|(simp only [go_sem,seval,hlw,hlow,putB_low,hes,encSpn_low] <;> first|done|(refine ⟨?_,?_⟩ <;> omega)|omega))) ?_
    simp -implicitDefEqProofs (disch:=first|omega|(simp only [go_sem,seval];first|done|omega)) only [go_sem,seval]
    exact again' (k + 1) (by omega) (by omega) rfl rfl
  have hkk:k = s.gaps.length:=by omega
  subst hkk
  rw [List.take_length]
  simp -implicitDefEqProofs (disch:=first|omega|(simp only [go_sem,seval,hlt,encSer_cells];first|done|omega)) only [go_sem,seval,hlt,encSer_cells]
  refine loop_mk (α:=Nat) 0 (fun j => j ≤ s.samples.length) (fun j => M ++ [.row true 1 (5 + (2 * s.gaps.length + j)) (hdrB s ++ putB (base ++ gapNs s.gaps ++ bitNs (s.samples.take j))),.row true 1 0 [.os M.length (5 + (2 * s.gaps.length + j)) 0 (hdrB s ++ putB (base ++ gapNs s.gaps ++ bitNs (s.samples.take j))).length]])
    (fun j => [(5,.op (M.length + 1) 0 0 0),(6,.fn (.func 38) [] [.op (M.length + 1) 0 0 0]),(56,.fs (s.samples.map encF)),(57,.I s.samples.length),(58,.I j)]) (fun j => s.samples.length - j) (Nat.zero_le _) ?_ rfl ?_
  · simp [bitNs]
  intro j hj
  by_cases hlt2:j < s.samples.length
  · obtain ⟨x,hx⟩:∃ x,s.samples[j]? = some x:=⟨_,List.getElem?_eq_getElem hlt2⟩
    have hxs:=hsm x (List.mem_of_getElem? hx)
    have hpl:=f_plus0 hxs
    have hbs:bitNs (s.samples.take (j + 1)) = bitNs (s.samples.take j) ++ [IntKind.i64.wrap (plus0 x)]:=by
      unfold bitNs
      exact take_snoc (f:=fun x => IntKind.i64.wrap (plus0 x:Int)) hx
    have hbl2:(bitNs (s.samples.take j)).length = j:=by unfold bitNs;rw [List.length_map,List.length_take];omega
    have hcl2:(hdrB s ++ putB (base ++ gapNs s.gaps ++ bitNs (s.samples.take j))).length = 5 + s.name.size + 4 * (3 + 2 * s.gaps.length + j):=by rw [hC,List.length_append,List.length_append,hb3,gapNs_len,hbl2]
    have hP2:=put_run (X:=X) [IntKind.i64.wrap (plus0 x)] (by simp) (M0:=M) (E:=[]) (v:=5 + (2 * s.gaps.length + j)) (bs:=hdrB s ++ putB (base ++ gapNs s.gaps ++ bitNs (s.samples.take j))) (by omega)
    have hb':base ++ gapNs s.gaps ++ bitNs (s.samples.take j) ++ [IntKind.i64.wrap (plus0 x)] = base ++ gapNs s.gaps ++ bitNs (s.samples.take (j + 1)):=by rw [hbs,List.append_assoc (base ++ gapNs s.gaps)]
    rw [hstep,hb'] at hP2
    have hlw:=hcl (base ++ gapNs s.gaps ++ bitNs (s.samples.take (j + 1)))
    generalize hdrB s ++ putB (base ++ gapNs s.gaps ++ bitNs (s.samples.take j)) = c at hP2 hcl2 ⊢
    simp -implicitDefEqProofs (disch:=first|omega|(simp only [go_sem,seval,hlt2,hx,r_sop,hpl];first|done|omega)) only [go_sem,seval,hlt2,hx,r_sop,hpl]
    refine callP_q (ACall_ext (hF (plus0 x) _)) ?_
    simp -implicitDefEqProofs (disch:=first|omega|(simp only [go_sem,seval];first|done|omega)) only [go_sem,seval]
    refine callP_l hP2 ?_
    simp -implicitDefEqProofs (disch:=first|omega|(simp only [go_sem,seval];first|done|omega)) only [go_sem,seval]
    refine Wp_cut_at hM rfl 2 (by simp) (by first|done|(simp only [go_sem,seval,hlw,hlow,putB_low,encF_low] <;> first|done|(refine ⟨?_,?_⟩ <;> omega)|omega)) (lowL_mk (by first|done|(simp only [go_sem,seval,hlw,hlow,putB_low,encF_low] <;> first|done|(refine ⟨?_,?_⟩ <;> omega)|omega))) ?_
    simp -implicitDefEqProofs (disch:=first|omega|(simp only [go_sem,seval];first|done|omega)) only [go_sem,seval]
    exact again' (j + 1) (by omega) (by omega) rfl rfl
  have hjj:j = s.samples.length:=by omega
  subst hjj
  rw [List.take_length]
  have hlw:=hcl (base ++ gapNs s.gaps ++ bitNs s.samples)
  rw [← hE] at hlw ⊢
  have hRt:R.take R.length = R:=List.take_length
  simp -implicitDefEqProofs (disch:=first|omega|(simp only [go_sem,seval,hlt2];first|done|omega)) only [go_sem,seval,hlt2]
  (first|refine post_fin ret_ok hM rfl ?_ ?_|refine post_fin0 ret_ok hM rfl ?_ ?_|refine post_fin normal_ok hM rfl ?_ ?_|refine post_fin0 normal_ok hM rfl ?_ ?_)
  · simp -implicitDefEqProofs (disch:=first|omega|(simp only [go_sem,seval,hRt];first|done|omega)) only [go_sem,seval,hRt]
  · (simp only [go_sem,seval,hlw,hRt] <;> first|done|omega)
def Fc:Prog
  | 72 => some c72
  | 73 => some c73
  | 93 => some c93
  | _ => none
abbrev Qc (f:FuncId) (args:List PV) (r:PV):Prop:=∀ M,ACall Fc (fun _ _ _ _ _ => False) (.fn f) args M r M
theorem qc_isNaN (x:Int):Qc 93 [.I x] (.B false):=by
  intro M
  (refine ACall_fn (cf:=L5.c93) rfl rfl fun hM hA => ?_;simp only [L5.c93,zO,zF,zT];rw [mk1 _ (by decide)];simp -implicitDefEqProofs (disch:=first|omega|(simp only [go_sem,seval];first|done|omega)) only [go_sem,seval])
  (all_goals (first|refine post_fin ret_ok hM rfl ?_ ?_|refine post_fin0 ret_ok hM rfl ?_ ?_|refine post_fin normal_ok hM rfl ?_ ?_|refine post_fin0 normal_ok hM rfl ?_ ?_);all_goals first|(simp only [go_sem,seval] <;> first|done|omega)|skip;all_goals (try simp -implicitDefEqProofs (disch:=first|omega|(simp only [go_sem,seval];first|done|omega)) only [go_sem,seval]))
  all_goals simp
theorem qc_Compare (x y:Int):Qc 73 [.I x,.I y] (.I (if x < y then -1 else if y < x then 1 else 0)):=by
  intro M
  (refine ACall_fn (cf:=L5.c73) rfl rfl fun hM hA => ?_;simp only [L5.c73,zO,zF,zT];rw [mk2 _ (by decide)];simp -implicitDefEqProofs (disch:=first|omega|(simp only [go_sem,seval];first|done|omega)) only [go_sem,seval])
  refine callP_q (qc_isNaN x _) ?_
  simp -implicitDefEqProofs (disch:=first|omega|(simp only [go_sem,seval];first|done|omega)) only [go_sem,seval]
  refine callP_q (qc_isNaN y _) ?_
  simp -implicitDefEqProofs (disch:=first|omega|(simp only [go_sem,seval];first|done|omega)) only [go_sem,seval]
  by_cases h1:x < y
  · simp -implicitDefEqProofs (disch:=first|omega|(simp only [go_sem,seval,h1];first|done|omega)) only [go_sem,seval,h1]
    (all_goals (first|refine post_fin ret_ok hM rfl ?_ ?_|refine post_fin0 ret_ok hM rfl ?_ ?_|refine post_fin normal_ok hM rfl ?_ ?_|refine post_fin0 normal_ok hM rfl ?_ ?_);all_goals first|(simp only [go_sem,seval] <;> first|done|omega)|skip;all_goals (try simp -implicitDefEqProofs (disch:=first|omega|(simp only [go_sem,seval];first|done|omega)) only [go_sem,seval]))
  · by_cases h2:y < x
    · simp -implicitDefEqProofs (disch:=first|omega|(simp only [go_sem,seval,h1,h2];first|done|omega)) only [go_sem,seval,h1,h2]
      (all_goals (first|refine post_fin ret_ok hM rfl ?_ ?_|refine post_fin0 ret_ok hM rfl ?_ ?_|refine post_fin normal_ok hM rfl ?_ ?_|refine post_fin0 normal_ok hM rfl ?_ ?_);all_goals first|(simp only [go_sem,seval] <;> first|done|omega)|skip;all_goals (try simp -implicitDefEqProofs (disch:=first|omega|(simp only [go_sem,seval];first|done|omega)) only [go_sem,seval]))
    · simp -implicitDefEqProofs (disch:=first|omega|(simp only [go_sem,seval,h1,h2];first|done|omega)) only [go_sem,seval,h1,h2]
      (all_goals (first|refine post_fin ret_ok hM rfl ?_ ?_|refine post_fin0 ret_ok hM rfl ?_ ?_|refine post_fin normal_ok hM rfl ?_ ?_|refine post_fin0 normal_ok hM rfl ?_ ?_);all_goals first|(simp only [go_sem,seval] <;> first|done|omega)|skip;all_goals (try simp -implicitDefEqProofs (disch:=first|omega|(simp only [go_sem,seval];first|done|omega)) only [go_sem,seval]))
theorem qc_canon (x y:Spn):Qc 72 [encSpn x,encSpn y] (.I (spnCmp x y)):=by
  intro M
  (refine ACall_fn (cf:=L5.c72) rfl rfl fun hM hA => ?_;simp only [L5.c72,zO,zF,zT];rw [mk2 _ (by decide)];simp -implicitDefEqProofs (disch:=first|omega|(simp only [go_sem,seval,encSpn_eq];first|done|omega)) only [go_sem,seval,encSpn_eq])
  refine callP_q (qc_Compare x.fr y.fr _) ?_
  have e:spnCmp x y = if x.fr < y.fr then -1 else if y.fr < x.fr then 1 else 0:=rfl
  rw [e]
  simp -implicitDefEqProofs (disch:=first|omega|(simp only [go_sem,seval];first|done|omega)) only [go_sem,seval]
  (all_goals (first|refine post_fin ret_ok hM rfl ?_ ?_|refine post_fin0 ret_ok hM rfl ?_ ?_|refine post_fin normal_ok hM rfl ?_ ?_|refine post_fin0 normal_ok hM rfl ?_ ?_);all_goals first|(simp only [go_sem,seval] <;> first|done|omega)|skip;all_goals (try simp -implicitDefEqProofs (disch:=first|omega|(simp only [go_sem,seval];first|done|omega)) only [go_sem,seval]))
theorem q_ref01_CheckRose (r:Rse) (hl:r.length = 408):Q X 20 [encRs r] (.I (chkRse r)):=by
  have hc:=cells_mk hl
  have e:encRs r = .agg (r.map .I):=rfl
  rw [e]
  clear e
  generalize r.map PV.I = cs at hc ⊢
  generalize (fun k => (blk r k).map PV.I) = bk at hc
  intro M
  have hcl:=hc.len
  have hct:=hc.tk
  have hvw:=hc.vw
  (refine ACall_fn (cf:=L5.c20) rfl rfl fun hM hA => ?_;simp only [L5.c20,zO,zF,zT];rw [mk1 _ (by decide)];simp -implicitDefEqProofs (disch:=first|omega|(simp only [go_sem,seval,-List.reduceReplicate,hcl,hct,hvw];first|done|omega)) only [go_sem,seval,-List.reduceReplicate,hcl,hct,hvw])
  refine loop_mk (α:=Nat) 0 (fun k => k ≤ 8 ∧ chkRse r = fst0 ((r.map fun n => rng n 0 40000).drop (k * 51))) (fun _ => M) (fun k => [(1,.fp cs),(3,.I k)]) (fun k => 8 - k) ⟨by decide,by simp [chkRse]⟩ rfl rfl ?_
  rintro k ⟨hk,hs⟩
  by_cases hlt:k < 8
  case neg =>
    have f1:((k:Int) < 8) = False:=eq_false (by omega)
    simp -implicitDefEqProofs (disch:=first|omega|(simp only [go_sem,seval,-List.reduceReplicate,f1];first|done|omega)) only [go_sem,seval,-List.reduceReplicate,f1]
    (first|refine post_fin ret_ok hM rfl ?_ ?_|refine post_fin0 ret_ok hM rfl ?_ ?_|refine post_fin normal_ok hM rfl ?_ ?_|refine post_fin0 normal_ok hM rfl ?_ ?_)
    · simp -implicitDefEqProofs (disch:=first|omega|(simp only [go_sem,seval,-List.reduceReplicate];first|done|omega)) only [go_sem,seval,-List.reduceReplicate]
      rw [hs,List.drop_of_length_le (by rw [List.length_map,hl];omega)];rfl
    · (simp only [go_sem,seval,-List.reduceReplicate] <;> first|done|omega)
  have f1:((k:Int) < 8) = True:=eq_true (by omega)
  have f1':(k < 8) = True:=eq_true hlt
  have hdr:=hc.drop k hlt
  have hbl:=hc.blen k hlt
  simp -implicitDefEqProofs (disch:=first|omega|(simp only [go_sem,seval,-List.reduceReplicate,f1];first|done|omega)) only [go_sem,seval,-List.reduceReplicate,f1]
  refine loop_mk (α:=Nat) 0 (fun v => v ≤ 51 ∧ chkRse r = fst0 ((r.map fun n => rng n 0 40000).drop (k * 51 + v))) (fun _ => M) (fun v => [(1,.fp cs),(3,.I k),(4,.I v)]) (fun v => 51 - v) ⟨by decide,hs⟩ rfl rfl ?_
  rintro v ⟨hv,hs2⟩
  by_cases hvl:v < 51
  · have f2:((v:Int) ≤ 50) = True:=eq_true (by omega)
    have f2':(v < 51) = True:=eq_true hvl
    obtain ⟨x,hx⟩:∃ x,r[k * 51 + v]? = some x:=⟨_,List.getElem?_eq_getElem (by omega)⟩
    have hd:=fst0_drop (r.map fun n => rng n 0 40000) (k * 51 + v) (rng x 0 40000) (by rw [List.getElem?_map,hx];rfl)
    have hbg:=hc.bget k v x hlt hvl hx
    have hb1:((bk k).drop v).take 1 = [PV.I x]:=by
      obtain ⟨q1,q2⟩:=List.getElem?_eq_some_iff.1 hbg
      rw [List.drop_eq_getElem_cons q1,q2];rfl
    simp -implicitDefEqProofs (disch:=first|omega|(simp only [go_sem,seval,-List.reduceReplicate,f1,f1',f2,f2',hcl,hdr,hbl,hb1,Nat.mul_one];first|done|omega)) only [go_sem,seval,-List.reduceReplicate,f1,f1',f2,f2',hcl,hdr,hbl,hb1,Nat.mul_one]
    refine callP_q (q_ref01_CheckRange _ _ _ _) ?_
    by_cases hg:rng x 0 40000 = 0
    · rw [if_pos hg] at hd
      simp -implicitDefEqProofs (disch:=first|omega|(simp only [go_sem,seval,-List.reduceReplicate,hg];first|done|omega)) only [go_sem,seval,-List.reduceReplicate,hg]
      exact again' (v + 1) ⟨by omega,by rw [hs2,hd];rfl⟩ (by omega) rfl rfl
    · rw [if_neg hg] at hd
      have h3:=(rng_cases x 0 40000).resolve_left hg
      simp -implicitDefEqProofs (disch:=first|omega|(simp only [go_sem,seval,-List.reduceReplicate,hg];first|done|omega)) only [go_sem,seval,-List.reduceReplicate,hg]
      (first|refine post_fin ret_ok hM rfl ?_ ?_|refine post_fin0 ret_ok hM rfl ?_ ?_|refine post_fin normal_ok hM rfl ?_ ?_|refine post_fin0 normal_ok hM rfl ?_ ?_)
      · simp -implicitDefEqProofs (disch:=first|omega|(simp only [go_sem,seval,-List.reduceReplicate];first|done|omega)) only [go_sem,seval,-List.reduceReplicate]
        rw [hs2,hd,h3]
      · (simp only [go_sem,seval,-List.reduceReplicate] <;> first|done|omega)
  have f2:((v:Int) ≤ 50) = False:=eq_false (by omega)
  have hv51:v = 51:=by omega
  subst hv51
  simp -implicitDefEqProofs (disch:=first|omega|(simp only [go_sem,seval,-List.reduceReplicate,f2];first|done|omega)) only [go_sem,seval,-List.reduceReplicate,f2]
  exact again' (k + 1) ⟨by omega,by rw [hs2,Nat.succ_mul]⟩ (by omega) rfl rfl
def shortS (s:Ste):Bool:=decide (s.name.size ≤ 60) && (decide (s.tbs.length ≤ 10) || decide (s.tbs.length = 65)) && s.tbs.all fun t => decide (t.name.size ≤ 60)
theorem q_ref01_ShortSite (s:Ste):Q X 18 [encSte s,.I 10] (.B (shortS s)):=by
  obtain ⟨nm,least,l⟩:=s
  have e:encSte ⟨nm,least,l⟩ = .agg [.s (.string nm),.I least,.fs (l.map encTb)]:=rfl
  rw [e]
  clear e
  unfold shortS
  simp only
  intro M
  by_cases h1:nm.size ≤ 60
  case neg =>
    have f1:((60:Int) < nm.size) = True:=eq_true (by omega)
    (refine ACall_fn (cf:=L5.c18) rfl rfl fun hM hA => ?_;simp only [L5.c18,zO,zF,zT];rw [mk2 _ (by decide)];simp -implicitDefEqProofs (disch:=first|omega|(simp only [go_sem,seval,f1];first|done|omega)) only [go_sem,seval,f1])
    (first|refine post_fin ret_ok hM rfl ?_ ?_|refine post_fin0 ret_ok hM rfl ?_ ?_|refine post_fin normal_ok hM rfl ?_ ?_|refine post_fin0 normal_ok hM rfl ?_ ?_)
    · simp -implicitDefEqProofs (disch:=first|omega|(simp only [go_sem,seval];first|done|omega)) only [go_sem,seval]
      rw [decide_eq_false h1];rfl
    · (simp only [go_sem,seval] <;> first|done|omega)
  have f1:((60:Int) < nm.size) = False:=eq_false (by omega)
  rw [decide_eq_true h1,Bool.true_and]
  by_cases h2:l.length ≤ 10 ∨ l.length = 65
  case neg =>
    have f2:((10:Int) < l.length) = True:=eq_true (by omega)
    have f3:((l.length:Int) = 65) = False:=eq_false (by omega)
    (refine ACall_fn (cf:=L5.c18) rfl rfl fun hM hA => ?_;simp only [L5.c18,zO,zF,zT];rw [mk2 _ (by decide)];simp -implicitDefEqProofs (disch:=first|omega|(simp only [go_sem,seval,f1,f2,f3];first|done|omega)) only [go_sem,seval,f1,f2,f3])
    (first|refine post_fin ret_ok hM rfl ?_ ?_|refine post_fin0 ret_ok hM rfl ?_ ?_|refine post_fin normal_ok hM rfl ?_ ?_|refine post_fin0 normal_ok hM rfl ?_ ?_)
    · simp -implicitDefEqProofs (disch:=first|omega|(simp only [go_sem,seval];first|done|omega)) only [go_sem,seval]
      rw [decide_eq_false (show ¬ l.length ≤ 10 from by omega),decide_eq_false (show ¬ l.length = 65 from by omega)];rfl
    · (simp only [go_sem,seval] <;> first|done|omega)
  have h3:(decide (l.length ≤ 10) || decide (l.length = 65)) = true:=by rcases h2 with h|h <;> simp [h]
  rw [h3,Bool.true_and]
  (refine ACall_fn (cf:=L5.c18) rfl rfl fun hM hA => ?_;simp only [L5.c18,zO,zF,zT];rw [mk2 _ (by decide)];simp -implicitDefEqProofs (disch:=first|omega|(simp only [go_sem,seval,f1];first|done|omega)) only [go_sem,seval,f1])
  have hc:((10:Int) < l.length ∧ ¬ (l.length:Int) = 65) = False:=eq_false (by omega)
  by_cases h4:(10:Int) < l.length
  · have f3:((l.length:Int) = 65) = True:=eq_true (by omega)
    simp -implicitDefEqProofs (disch:=first|omega|(simp only [go_sem,seval,h4,f3];first|done|omega)) only [go_sem,seval,h4,f3]
    refine loop_mk (α:=Nat) 0 (fun k => k ≤ l.length ∧ (l.take k).all (fun t => decide (t.name.size ≤ 60)) = true) (fun _ => M) (fun k => [(2,.fp [.s (.string nm),.I least,.fs (l.map encTb)]),(5,.I k)]) (fun k => l.length - k) ⟨Nat.zero_le _,rfl⟩ rfl rfl ?_
    rintro k ⟨hk,hs⟩
    by_cases hlt:k < l.length
    · obtain ⟨x,hx⟩:∃ x,l[k]? = some x:=⟨_,List.getElem?_eq_getElem hlt⟩
      simp -implicitDefEqProofs (disch:=first|omega|(simp only [go_sem,seval,hlt,hx,encTb_cells,encTb_eq];first|done|omega)) only [go_sem,seval,hlt,hx,encTb_cells,encTb_eq]
      by_cases hn:x.name.size ≤ 60
      · have fn:((60:Int) < x.name.size) = False:=eq_false (by omega)
        simp -implicitDefEqProofs (disch:=first|omega|(simp only [go_sem,seval,fn];first|done|omega)) only [go_sem,seval,fn]
        refine again' (k + 1) ⟨by omega,?_⟩ (by omega) rfl rfl
        obtain ⟨g3,g4⟩:=List.getElem?_eq_some_iff.1 hx
        rw [List.take_succ_eq_append_getElem g3,g4,List.all_append,hs];simp [hn]
      · have fn:((60:Int) < x.name.size) = True:=eq_true (by omega)
        simp -implicitDefEqProofs (disch:=first|omega|(simp only [go_sem,seval,fn];first|done|omega)) only [go_sem,seval,fn]
        (first|refine post_fin ret_ok hM rfl ?_ ?_|refine post_fin0 ret_ok hM rfl ?_ ?_|refine post_fin normal_ok hM rfl ?_ ?_|refine post_fin0 normal_ok hM rfl ?_ ?_)
        · simp -implicitDefEqProofs (disch:=first|omega|(simp only [go_sem,seval];first|done|omega)) only [go_sem,seval]
          congr 1;symm
          rw [List.all_eq_false]
          exact ⟨x,List.mem_of_getElem? hx,by simpa using hn⟩
        · (simp only [go_sem,seval] <;> first|done|omega)
    · simp -implicitDefEqProofs (disch:=first|omega|(simp only [go_sem,seval,hlt];first|done|omega)) only [go_sem,seval,hlt]
      (first|refine post_fin ret_ok hM rfl ?_ ?_|refine post_fin0 ret_ok hM rfl ?_ ?_|refine post_fin normal_ok hM rfl ?_ ?_|refine post_fin0 normal_ok hM rfl ?_ ?_)
      · simp -implicitDefEqProofs (disch:=first|omega|(simp only [go_sem,seval];first|done|omega)) only [go_sem,seval]
        rw [List.take_of_length_le (by omega)] at hs
        rw [hs]
      · (simp only [go_sem,seval] <;> first|done|omega)
  · simp -implicitDefEqProofs (disch:=first|omega|(simp only [go_sem,seval,h4];first|done|omega)) only [go_sem,seval,h4]
    refine loop_mk (α:=Nat) 0 (fun k => k ≤ l.length ∧ (l.take k).all (fun t => decide (t.name.size ≤ 60)) = true) (fun _ => M) (fun k => [(2,.fp [.s (.string nm),.I least,.fs (l.map encTb)]),(5,.I k)]) (fun k => l.length - k) ⟨Nat.zero_le _,rfl⟩ rfl rfl ?_
    rintro k ⟨hk,hs⟩
    by_cases hlt:k < l.length
    · obtain ⟨x,hx⟩:∃ x,l[k]? = some x:=⟨_,List.getElem?_eq_getElem hlt⟩
      simp -implicitDefEqProofs (disch:=first|omega|(simp only [go_sem,seval,hlt,hx,encTb_cells,encTb_eq];first|done|omega)) only [go_sem,seval,hlt,hx,encTb_cells,encTb_eq]
      by_cases hn:x.name.size ≤ 60
      · have fn:((60:Int) < x.name.size) = False:=eq_false (by omega)
        simp -implicitDefEqProofs (disch:=first|omega|(simp only [go_sem,seval,fn];first|done|omega)) only [go_sem,seval,fn]
        refine again' (k + 1) ⟨by omega,?_⟩ (by omega) rfl rfl
        obtain ⟨g3,g4⟩:=List.getElem?_eq_some_iff.1 hx
        rw [List.take_succ_eq_append_getElem g3,g4,List.all_append,hs];simp [hn]
      · have fn:((60:Int) < x.name.size) = True:=eq_true (by omega)
        simp -implicitDefEqProofs (disch:=first|omega|(simp only [go_sem,seval,fn];first|done|omega)) only [go_sem,seval,fn]
        (first|refine post_fin ret_ok hM rfl ?_ ?_|refine post_fin0 ret_ok hM rfl ?_ ?_|refine post_fin normal_ok hM rfl ?_ ?_|refine post_fin0 normal_ok hM rfl ?_ ?_)
        · simp -implicitDefEqProofs (disch:=first|omega|(simp only [go_sem,seval];first|done|omega)) only [go_sem,seval]
          congr 1;symm
          rw [List.all_eq_false]
          exact ⟨x,List.mem_of_getElem? hx,by simpa using hn⟩
        · (simp only [go_sem,seval] <;> first|done|omega)
    · simp -implicitDefEqProofs (disch:=first|omega|(simp only [go_sem,seval,hlt];first|done|omega)) only [go_sem,seval,hlt]
      (first|refine post_fin ret_ok hM rfl ?_ ?_|refine post_fin0 ret_ok hM rfl ?_ ?_|refine post_fin normal_ok hM rfl ?_ ?_|refine post_fin0 normal_ok hM rfl ?_ ?_)
      · simp -implicitDefEqProofs (disch:=first|omega|(simp only [go_sem,seval];first|done|omega)) only [go_sem,seval]
        rw [List.take_of_length_le (by omega)] at hs
        rw [hs]
      · (simp only [go_sem,seval] <;> first|done|omega)
theorem q_ref01_SameSite (a b:Ste) (hl:a.tbs.length ≤ 1048576):Q X 27 [encSte a,encSte b] (.B (decide (a.name = b.name ∧ a.least = b.least ∧ a.tbs = b.tbs))):=by
  obtain ⟨na,la,ta⟩:=a
  obtain ⟨nb,lb,tb⟩:=b
  have e1:encSte ⟨na,la,ta⟩ = .agg [.s (.string na),.I la,.fs (ta.map encTb)]:=rfl
  have e2:encSte ⟨nb,lb,tb⟩ = .agg [.s (.string nb),.I lb,.fs (tb.map encTb)]:=rfl
  rw [e1,e2]
  clear e1 e2
  simp only at hl ⊢
  intro M
  by_cases h1:na = nb
  case neg =>
    (refine ACall_fn (cf:=L5.c27) rfl rfl fun hM hA => ?_;simp only [L5.c27,zO,zF,zT];rw [mk2 _ (by decide)];simp -implicitDefEqProofs (disch:=first|omega|(simp only [go_sem,seval,bin_strNe,h1];first|done|omega)) only [go_sem,seval,bin_strNe,h1])
    (first|refine post_fin ret_ok hM rfl ?_ ?_|refine post_fin0 ret_ok hM rfl ?_ ?_|refine post_fin normal_ok hM rfl ?_ ?_|refine post_fin0 normal_ok hM rfl ?_ ?_)
    · simp -implicitDefEqProofs (disch:=first|omega|(simp only [go_sem,seval];first|done|omega)) only [go_sem,seval]
      simp [h1]
    · (simp only [go_sem,seval] <;> first|done|omega)
  by_cases h2:la = lb
  case neg =>
    (refine ACall_fn (cf:=L5.c27) rfl rfl fun hM hA => ?_;simp only [L5.c27,zO,zF,zT];rw [mk2 _ (by decide)];simp -implicitDefEqProofs (disch:=first|omega|(simp only [go_sem,seval,bin_strNe,h1,h2];first|done|omega)) only [go_sem,seval,bin_strNe,h1,h2])
    (first|refine post_fin ret_ok hM rfl ?_ ?_|refine post_fin0 ret_ok hM rfl ?_ ?_|refine post_fin normal_ok hM rfl ?_ ?_|refine post_fin0 normal_ok hM rfl ?_ ?_)
    · simp -implicitDefEqProofs (disch:=first|omega|(simp only [go_sem,seval];first|done|omega)) only [go_sem,seval]
      simp [h2]
    · (simp only [go_sem,seval] <;> first|done|omega)
  by_cases h3:ta.length = tb.length
  case neg =>
    have f3:((ta.length:Int) = tb.length) = False:=eq_false (by omega)
    (refine ACall_fn (cf:=L5.c27) rfl rfl fun hM hA => ?_;simp only [L5.c27,zO,zF,zT];rw [mk2 _ (by decide)];simp -implicitDefEqProofs (disch:=first|omega|(simp only [go_sem,seval,bin_strNe,h1,h2,f3];first|done|omega)) only [go_sem,seval,bin_strNe,h1,h2,f3])
    (first|refine post_fin ret_ok hM rfl ?_ ?_|refine post_fin0 ret_ok hM rfl ?_ ?_|refine post_fin normal_ok hM rfl ?_ ?_|refine post_fin0 normal_ok hM rfl ?_ ?_)
    · simp -implicitDefEqProofs (disch:=first|omega|(simp only [go_sem,seval];first|done|omega)) only [go_sem,seval]
      have h4:¬ ta = tb:=fun h => h3 (by rw [h])
      simp [h4]
    · (simp only [go_sem,seval] <;> first|done|omega)
  have f3:((ta.length:Int) = tb.length) = True:=eq_true (by omega)
  (refine ACall_fn (cf:=L5.c27) rfl rfl fun hM hA => ?_;simp only [L5.c27,zO,zF,zT];rw [mk2 _ (by decide)];simp -implicitDefEqProofs (disch:=first|omega|(simp only [go_sem,seval,bin_strNe,h1,h2,f3];first|done|omega)) only [go_sem,seval,bin_strNe,h1,h2,f3])
  refine loop_mk (α:=Nat) 0 (fun k => k ≤ ta.length ∧ ta.take k = tb.take k) (fun k => M) (fun k => [(2,.fp [.s (.string na),.I la,.fs (ta.map encTb)]),(3,.fp [.s (.string nb),.I lb,.fs (tb.map encTb)]),(5,.I k)]) (fun k => ta.length - k) ⟨Nat.zero_le _,rfl⟩ rfl (by simp only [h1,h2];rfl) ?_
  rintro k ⟨hk,hs⟩
  by_cases hlt:k < ta.length
  · obtain ⟨x,hx⟩:∃ x,ta[k]? = some x:=⟨_,List.getElem?_eq_getElem hlt⟩
    obtain ⟨y,hy⟩:∃ y,tb[k]? = some y:=⟨_,List.getElem?_eq_getElem (by omega)⟩
    have hlt2:k < tb.length:=by omega
    have heq:eqCells [.str,.int,.int] [.s (.string x.name),.I x.x,.I x.y] [.s (.string y.name),.I y.x,.I y.y] = some (decide (x = y)):=by
      simp only [eqCells,eqSK,Option.bind_some,Option.bind_eq_bind,pure,if_true,ba_beq]
      obtain ⟨n1,x1,y1⟩:=x
      obtain ⟨n2,x2,y2⟩:=y
      by_cases g1:n1 = n2 <;> by_cases g2:x1 = x2 <;> by_cases g3:y1 = y2 <;> simp [g1,g2,g3]
    simp -implicitDefEqProofs (disch:=first|omega|(simp only [go_sem,seval,hlt,hlt2,hx,hy,encTb_cells,encTb_eq,eqsV_agg,heq];first|done|omega)) only [go_sem,seval,hlt,hlt2,hx,hy,encTb_cells,encTb_eq,eqsV_agg,heq]
    by_cases hxy:x = y
    · simp -implicitDefEqProofs (disch:=first|omega|(simp only [go_sem,seval,hxy];first|done|omega)) only [go_sem,seval,hxy]
      refine again' (k + 1) ⟨by omega,?_⟩ (by omega) rfl rfl
      have g1:=take_snoc (f:=id) hx;have g2:=take_snoc (f:=id) hy
      simp only [List.map_id] at g1 g2
      rw [g1,g2,hs,hxy]
    · simp -implicitDefEqProofs (disch:=first|omega|(simp only [go_sem,seval,hxy];first|done|omega)) only [go_sem,seval,hxy]
      (first|refine post_fin ret_ok hM rfl ?_ ?_|refine post_fin0 ret_ok hM rfl ?_ ?_|refine post_fin normal_ok hM rfl ?_ ?_|refine post_fin0 normal_ok hM rfl ?_ ?_)
      · simp -implicitDefEqProofs (disch:=first|omega|(simp only [go_sem,seval];first|done|omega)) only [go_sem,seval]
        have h4:¬ ta = tb:=by
          rintro rfl
          rw [hx] at hy;cases hy;exact hxy rfl
        simp [h4]
      · (simp only [go_sem,seval] <;> first|done|omega)
  · simp -implicitDefEqProofs (disch:=first|omega|(simp only [go_sem,seval,hlt];first|done|omega)) only [go_sem,seval,hlt]
    (first|refine post_fin ret_ok hM rfl ?_ ?_|refine post_fin0 ret_ok hM rfl ?_ ?_|refine post_fin normal_ok hM rfl ?_ ?_|refine post_fin0 normal_ok hM rfl ?_ ?_)
    · simp -implicitDefEqProofs (disch:=first|omega|(simp only [go_sem,seval];first|done|omega)) only [go_sem,seval]
      rw [List.take_of_length_le (by omega),List.take_of_length_le (by omega)] at hs
      simp [h1,h2,hs]
    · (simp only [go_sem,seval] <;> first|done|omega)
def tsM (M:List Blk) (nm:ByteArray) (least:Int) (o:List Tb):List Blk:=M ++ [.row true 3 0 [zSte],.row true 3 0 [.agg [.s (.string nm),.I least,.os (M.length + 2) o.length 0 o.length]],.row true 3 o.length (o.map encTb)]
def shP (b:Pt) (p:Pt):Pt:=⟨p.x + b.x,p.y + b.y⟩
def shE (b:Pt) (s:Ste):Int:=fst0 (s.tbs.map fun t => ptE (shP b t.at_))
def shR (b:Pt) (s:Ste):Ste × Int :=
  if ¬ fst0 [chkSte s,ptE b] = 0 then (s0,fst0 [chkSte s,ptE b]) else if shE b s = 0 then (mvS (shP b) s,0) else (s0,shE b s)
end
end Go.Nac.L5
namespace Go.Nac.L5
attribute [local congr] b1_congr b2_congr Wp_congr wpOps_congr thenK_congr blockK_congr gK_congr cK_congr
section
variable {X:XRel}
open Ieee
def recQ (l:List Nat) (g:List Spn) (k:Nat):List (Nat × Nat):=(recK l g k).map p0
def sumQ (s:Ser):Stt:=sttTo (recQ s.samples s.gaps s.samples.length)
end
end Go.Nac.L5
namespace Go.Nac.L5
attribute [local congr] b1_congr b2_congr Wp_congr wpOps_congr thenK_congr blockK_congr gK_congr cK_congr
section
variable {X:XRel}
theorem valid_w {a:Ser} (h:chkSer a = 0):sumW a = a.start + a.samples.length ∧ (0 ≤ a.start ∧ a.start ≤ 999999999):=by
  have hs:0 ≤ a.start ∧ a.start ≤ 999999999:=by
    unfold chkSer at h
    split at h
    · cases h
    · split at h
      · cases h
      · rename_i h2;exact rng_ok.1 (Decidable.of_not_not h2)
  have hl:=(serIn_of h).1.1
  exact ⟨by unfold sumW;exact wrap_in (by constructor <;> omega),hs⟩
theorem gaps_40 {a:Ser} (h:chkSer a = 0):spOk a.gaps ∧ a.gaps.length ≤ 1024 ∧ Can a.gaps ∧ ∀ x ∈ a.gaps,0 ≤ x.fr ∧ x.fr < x.to_ ∧ x.to_ ≤ a.samples.length:=by
  have h0:=h
  obtain ⟨hin,_⟩:=serIn_of h
  have hc:chkSpns a.gaps = 0:=by
    rw [chkSer_eq] at h
    split at h
    · unfold serB at h
      split at h
      · rename_i h1;exact absurd h h1
      · split at h
        · rename_i h1;exact absurd h h1
        · rename_i h1;exact Decidable.of_not_not h1
    · rename_i h1;exact absurd h h1
  obtain ⟨c1,c2⟩:=chkSpns_can.1 hc
  exact ⟨c2.ok,c1,c2,hin.2.2⟩
theorem q_site_Append (hS:SortX X) (a b:Ser) (ha:a.samples.length ≤ 400000) (hag:a.gaps.length ≤ 400000) (hb:b.samples.length ≤ 400000) (hbg:b.gaps.length ≤ 400000) :
    Q X 12 [encSer a,encSer b] (.tup [encSer (apdR a b).1,.I (apdR a b).2]):=by
  have c1:=q_site_CheckSeries (X:=X) a (by omega) (by omega)
  have c2:=q_site_CheckSeries (X:=X) b (by omega) (by omega)
  have hq:=q_site_first (X:=X) [chkSer a,chkSer b,if a.name = b.name then 0 else 30,if b.start = sumW a then 0 else 11,if (40000:Int) < (a.samples.length:Int) + b.samples.length then 5 else 0] (by simp)
  have hE:apdE a b = fst0 [chkSer a,chkSer b,if a.name = b.name then 0 else 30,if b.start = sumW a then 0 else 11,if (40000:Int) < (a.samples.length:Int) + b.samples.length then 5 else 0]:=rfl
  rw [← hE] at hq
  have w30:=q_site_when (X:=X) (decide (¬ a.name = b.name)) 30
  have w11:=q_site_when (X:=X) (decide (¬ b.start = sumW a)) 11
  have w5:=q_site_when (X:=X) (decide ((40000:Int) < (a.samples.length:Int) + b.samples.length)) 5
  have x30:(if decide (¬ a.name = b.name) = true then 30 else 0:Int) = if a.name = b.name then 0 else 30:=by by_cases h:a.name = b.name <;> simp [h]
  have x11:(if decide (¬ b.start = sumW a) = true then 11 else 0:Int) = if b.start = sumW a then 0 else 11:=by by_cases h:b.start = sumW a <;> simp [h]
  have x5:(if decide ((40000:Int) < (a.samples.length:Int) + b.samples.length) = true then 5 else 0:Int) = if (40000:Int) < (a.samples.length:Int) + b.samples.length then 5 else 0:=by by_cases h:(40000:Int) < (a.samples.length:Int) + b.samples.length <;> simp [h]
  rw [x30] at w30
  rw [x11] at w11
  rw [x5] at w5
  have hsw:IntKind.i64.wrap (a.start + (a.samples.length:Int)) = sumW a:=rfl
  have es1:=encSer_eq a
  have es2:=encSer_eq b
  unfold apdR
  by_cases h0:apdE a b = 0
  case neg =>
    rw [if_pos h0,encS_0]
    rw [es1] at c1
    rw [es2] at c2
    rw [es1,es2]
    generalize apdE a b = e at h0 hq
    clear hE
    generalize chkSer a = v1 at *
    generalize chkSer b = v2 at *
    generalize (if a.name = b.name then 0 else 30:Int) = v3 at *
    generalize (if b.start = sumW a then 0 else 11:Int) = v4 at *
    generalize (if (40000:Int) < (a.samples.length:Int) + b.samples.length then 5 else 0:Int) = v5 at *
    intro M
    (refine ACall_fn (cf:=L5.c12) rfl rfl fun hM hA => ?_;simp only [L5.c12,zO,zF,zT];rw [mk2 _ (by decide)];simp -implicitDefEqProofs (disch:=first|omega|(simp only [go_sem,seval];first|done|omega)) only [go_sem,seval])
    refine callP_q (c1 _) ?_
    simp -implicitDefEqProofs (disch:=first|omega|(simp only [go_sem,seval];first|done|omega)) only [go_sem,seval]
    refine callP_q (c2 _) ?_
    simp -implicitDefEqProofs (disch:=first|omega|(simp only [go_sem,seval,bin_strNe];first|done|omega)) only [go_sem,seval,bin_strNe]
    refine callP_q (w30 _) ?_
    simp -implicitDefEqProofs (disch:=first|omega|(simp only [go_sem,seval,hsw];first|done|omega)) only [go_sem,seval,hsw]
    refine callP_q (w11 _) ?_
    simp -implicitDefEqProofs (disch:=first|omega|(simp only [go_sem,seval];first|done|omega)) only [go_sem,seval]
    refine callP_q (w5 _) ?_
    simp -implicitDefEqProofs (disch:=first|omega|(simp only [go_sem,seval];first|done|omega)) only [go_sem,seval]
    refine callP_q (hq _) ?_
    simp -implicitDefEqProofs (disch:=first|omega|(simp only [go_sem,seval,h0];first|done|omega)) only [go_sem,seval,h0]
    (all_goals (first|refine post_fin ret_ok hM rfl ?_ ?_|refine post_fin0 ret_ok hM rfl ?_ ?_|refine post_fin normal_ok hM rfl ?_ ?_|refine post_fin0 normal_ok hM rfl ?_ ?_);all_goals first|(simp only [go_sem,seval] <;> first|done|omega)|skip;all_goals (try simp -implicitDefEqProofs (disch:=first|omega|(simp only [go_sem,seval];first|done|omega)) only [go_sem,seval]))
  rw [if_neg (fun h => h h0)]
  rw [hE] at h0
  obtain ⟨z1,z2,z3,z4,z5⟩:=fst0_five h0
  have y5:¬ (40000:Int) < (a.samples.length:Int) + b.samples.length:=by
    intro h;rw [if_pos h] at z5;cases z5
  obtain ⟨g1,g2,_,g3⟩:=gaps_40 z1
  obtain ⟨k1,k2,_,k3⟩:=gaps_40 z2
  rw [hE,h0] at hq
  have hcan:=q_site_canon (X:=X) hS (a.gaps ++ mvG a.samples.length b.gaps) (by rw [List.length_append,mvG_len];omega)
  have hG:canonOf (a.gaps ++ mvG a.samples.length b.gaps) = apdG a b:=rfl
  rw [hG] at hcan
  have e:encSer (apdS a b) = .agg [.s (.string a.name),.I a.start,.fs (a.samples.map encF ++ b.samples.map encF),.fs ((apdG a b).map encSpn)]:=by
    rw [← List.map_append];rfl
  have hse:(PV.tup [encSer (if 1024 < (apdG a b).length then (ser0,(5:Int)) else (apdS a b,0)).1,.I (if 1024 < (apdG a b).length then (ser0,(5:Int)) else (apdS a b,0)).2]) = if 1024 < (apdG a b).length then .tup [encSer ser0,.I 5] else .tup [encSer (apdS a b),.I 0]:=by split <;> rfl
  rw [hse,e,encS_0]
  clear hse e hE
  rw [z1,es1] at c1
  rw [z2,es2] at c2
  rw [z3] at w30
  rw [z4] at w11
  rw [z5] at w5
  rw [z1,z2,z3,z4,z5] at hq
  rw [es1,es2]
  have lG:=fun m => encSpn_low (n:=m) (apdG a b)
  have nG:((apdG a b).map encSpn).length = (apdG a b).length:=by simp
  have hgl:((1024:Int) < ((apdG a b).length:Int)) = (1024 < (apdG a b).length):=by rw [eq_iff_iff];omega
  generalize (apdG a b).length = wG at *
  generalize (apdG a b).map encSpn = G at *
  have o1:=encF_ok a.samples
  have o2:=encF_ok b.samples
  have n1:(a.samples.map encF).length = a.samples.length:=by simp
  have n2:(b.samples.map encF).length = b.samples.length:=by simp
  have w1:=fun m => encF_low (n:=m) a.samples
  have w2:=fun m => encF_low (n:=m) b.samples
  have w3:∀ m,lowL m (a.samples.map encF ++ b.samples.map encF) = True:=fun m => by rw [← List.map_append];exact encF_low _
  generalize a.samples.map encF = sa at *
  generalize b.samples.map encF = sb at *
  have ok:=encSpn_ok a.gaps
  have lga:=fun m => encSpn_low (n:=m) a.gaps
  have lgb:=fun m => encSpn_low (n:=m) b.gaps
  intro M
  (refine ACall_fn (cf:=L5.c12) rfl rfl fun hM hA => ?_;simp only [L5.c12,zO,zF,zT];rw [mk2 _ (by decide)];simp -implicitDefEqProofs (disch:=first|omega|(simp only [go_sem,seval];first|done|omega)) only [go_sem,seval])
  refine callP_q (c1 _) ?_
  simp -implicitDefEqProofs (disch:=first|omega|(simp only [go_sem,seval];first|done|omega)) only [go_sem,seval]
  refine callP_q (c2 _) ?_
  simp -implicitDefEqProofs (disch:=first|omega|(simp only [go_sem,seval,bin_strNe];first|done|omega)) only [go_sem,seval,bin_strNe]
  refine callP_q (w30 _) ?_
  simp -implicitDefEqProofs (disch:=first|omega|(simp only [go_sem,seval,n1,n2,hsw];first|done|omega)) only [go_sem,seval,n1,n2,hsw]
  refine callP_q (w11 _) ?_
  simp -implicitDefEqProofs (disch:=first|omega|(simp only [go_sem,seval,n1,n2];first|done|omega)) only [go_sem,seval,n1,n2]
  refine callP_q (w5 _) ?_
  simp -implicitDefEqProofs (disch:=first|omega|(simp only [go_sem,seval,n1,n2];first|done|omega)) only [go_sem,seval,n1,n2]
  refine callP_q (hq _) ?_
  simp -implicitDefEqProofs (disch:=first|omega|(simp only [go_sem,seval,ownR_agg,n1,n2,o1,o2];first|done|omega)) only [go_sem,seval,ownR_agg,n1,n2,o1,o2]
  refine ⟨by simp [pairsOk,okPair,apartL,refs,refs1],?_⟩
  have hsl:(sa ++ sb).length = a.samples.length + b.samples.length:=by rw [List.length_append,n1,n2]
  have hst3:(sa ++ sb).take (a.samples.length + b.samples.length) = sa ++ sb:=List.take_of_length_le (by omega)
  generalize sa ++ sb = sc at w3 hsl hst3 ⊢
  refine loop_mk (α:=Nat) 0 (fun k => k ≤ b.gaps.length) (fun k => M ++ [.row true 4 0 [.agg [.s (.string ⟨#[]⟩),.I 0,.s (.slice none 0 0),.s (.slice none 0 0)]],.row true 4 0 [.agg [.s (.string a.name),.I a.start,.os (M.length + 2) 2 0 (a.samples.length + b.samples.length),.os (M.length + 3) 0 0 0]],.row true 1 2 sc,.row true 2 0 [],.row true 2 (1 + k) ((a.gaps ++ mvG a.samples.length (b.gaps.take k)).map encSpn)]) (fun k => [(2,.fp [.s (.string a.name),.I a.start,.fs sa,.fs (a.gaps.map encSpn)]),(4,.op M.length 0 0 0),(7,.op (M.length + 1) 0 0 0),(8,.os (M.length + 4) (1 + k) 0 (a.gaps.length + k)),(65,.fs (b.gaps.map encSpn)),(66,.I b.gaps.length),(67,.I k)]) (fun k => b.gaps.length - k) (Nat.zero_le _) (by simp [mvG]) rfl ?_
  intro k hk
  by_cases hlt:k < b.gaps.length
  · obtain ⟨x,hx⟩:∃ x,b.gaps[k]? = some x:=⟨_,List.getElem?_eq_getElem hlt⟩
    have hb:=k3 x (List.mem_of_getElem? hx)
    have ho:((a.gaps ++ mvG a.samples.length (b.gaps.take k)).map encSpn).length = a.gaps.length + k:=by rw [List.length_map,List.length_append,mvG_len,List.length_take];omega
    have hst:(a.gaps ++ mvG a.samples.length (b.gaps.take k)).map encSpn ++ [.agg [.I (x.fr + a.samples.length),.I (x.to_ + a.samples.length)]] = (a.gaps ++ mvG a.samples.length (b.gaps.take (k + 1))).map encSpn:=by
      unfold mvG
      rw [take_snoc hx,List.map_append,List.map_append,List.map_append,List.append_assoc];rfl
    have hlo:∀ m,lowL m ((a.gaps ++ mvG a.samples.length (b.gaps.take k)).map encSpn) = True:=fun m => encSpn_low _
    generalize (a.gaps ++ mvG a.samples.length (b.gaps.take k)).map encSpn = o at ho hst hlo ⊢
    simp -implicitDefEqProofs (disch:=first|omega|(simp only [go_sem,seval,hlt,hx,ho,n1,encSpn_cells,encSpn_eq];first|done|omega)) only [go_sem,seval,hlt,hx,ho,n1,encSpn_cells,encSpn_eq]
    refine Wp_cut_at hM rfl 5 (by simp) (by first|done|(simp only [go_sem,seval,w1,w2,w3,hlo,lga,lgb] <;> first|done|(refine ⟨?_,?_⟩ <;> omega)|omega)) (lowL_mk (by first|done|(simp only [go_sem,seval,w1,w2,w3,hlo,lga,lgb] <;> first|done|(refine ⟨?_,?_⟩ <;> omega)|omega))) ?_
    simp -implicitDefEqProofs (disch:=first|omega|(simp only [go_sem,seval];first|done|omega)) only [go_sem,seval]
    exact again' (k + 1) (by omega) (by omega) (by rw [← hst]) rfl
  · have hkk:k = b.gaps.length:=by omega
    subst hkk
    rw [List.take_length]
    have ho:((a.gaps ++ mvG a.samples.length b.gaps).map encSpn).length = a.gaps.length + b.gaps.length:=by rw [List.length_map,List.length_append,mvG_len]
    have hat:((a.gaps ++ mvG a.samples.length b.gaps).map encSpn).take (a.gaps.length + b.gaps.length) = (a.gaps ++ mvG a.samples.length b.gaps).map encSpn:=List.take_of_length_le (by omega)
    have hlo:∀ m,lowL m ((a.gaps ++ mvG a.samples.length b.gaps).map encSpn) = True:=fun m => encSpn_low _
    generalize (a.gaps ++ mvG a.samples.length b.gaps).map encSpn = o at ho hat hlo hcan ⊢
    simp -implicitDefEqProofs (disch:=first|omega|(simp only [go_sem,seval,hlt,ho,hat];first|done|omega)) only [go_sem,seval,hlt,ho,hat]
    refine callP_q (hcan _) ?_
    simp -implicitDefEqProofs (disch:=first|omega|(simp only [go_sem,seval,nG,hgl];first|done|omega)) only [go_sem,seval,nG,hgl]
    by_cases h5:1024 < wG
    · rw [if_pos h5]
      simp -implicitDefEqProofs (disch:=first|omega|(simp only [go_sem,seval,h5];first|done|omega)) only [go_sem,seval,h5]
      (all_goals (first|refine post_fin ret_ok hM rfl ?_ ?_|refine post_fin0 ret_ok hM rfl ?_ ?_|refine post_fin normal_ok hM rfl ?_ ?_|refine post_fin0 normal_ok hM rfl ?_ ?_);all_goals first|(simp only [go_sem,seval] <;> first|done|omega)|skip;all_goals (try simp -implicitDefEqProofs (disch:=first|omega|(simp only [go_sem,seval];first|done|omega)) only [go_sem,seval]))
    · rw [if_neg h5]
      simp -implicitDefEqProofs (disch:=first|omega|(simp only [go_sem,seval,h5];first|done|omega)) only [go_sem,seval,h5]
      (first|refine post_fin ret_ok hM rfl ?_ ?_|refine post_fin0 ret_ok hM rfl ?_ ?_|refine post_fin normal_ok hM rfl ?_ ?_|refine post_fin0 normal_ok hM rfl ?_ ?_)
      · simp -implicitDefEqProofs (disch:=first|omega|(simp only [go_sem,seval,hsl,hst3];first|done|omega)) only [go_sem,seval,hsl,hst3]
      · (simp only [go_sem,seval,w3,lG] <;> first|done|omega)
def FrombX (X:XRel):Prop:=∀ (u:Nat) (M:List Blk),X 44 [.s (.int .u32 u)] M (.s (.float .f32 u)) M
theorem q_bytes_Equal (a b:List UInt8):Q X 69 [.fs (a.map bt),.fs (b.map bt)] (.B (decide (a = b))):=by
  intro M
  have h1:=strOf_bt a
  have h2:=strOf_bt b
  have e:bin .eql (.s (.string ⟨a.toArray⟩)) (.s (.string ⟨b.toArray⟩)) = some (.B (decide (a = b))):=by
    rw [bin_strEq,show decide ((⟨a.toArray⟩:ByteArray) = ⟨b.toArray⟩) = decide (a = b) from decide_eq_decide.2 ⟨fun h => by injection h with h;simpa using congrArg Array.toList h,fun h => by rw [h]⟩]
  (refine ACall_fn (cf:=L5.c69) rfl rfl fun hM hA => ?_;simp only [L5.c69,zO,zF,zT];rw [mk2 _ (by decide)];simp -implicitDefEqProofs (disch:=first|omega|(simp only [go_sem,seval,h1,h2,e];first|done|omega)) only [go_sem,seval,h1,h2,e])
  (all_goals (first|refine post_fin ret_ok hM rfl ?_ ?_|refine post_fin0 ret_ok hM rfl ?_ ?_|refine post_fin normal_ok hM rfl ?_ ?_|refine post_fin0 normal_ok hM rfl ?_ ?_);all_goals first|(simp only [go_sem,seval] <;> first|done|omega)|skip;all_goals (try simp -implicitDefEqProofs (disch:=first|omega|(simp only [go_sem,seval];first|done|omega)) only [go_sem,seval]))
theorem q_bytes_HasPrefix (a b:List UInt8) (ha:a.length ≤ 4000000) (hb:b.length ≤ 4000000):Q X 42 [.fs (a.map bt),.fs (b.map bt)] (.B (decide (a.take b.length = b))):=by
  intro M
  by_cases h:b.length ≤ a.length
  · have e1:((a.length:Int) ≥ b.length) = True:=eq_true (by omega)
    have e2:(a.map bt).take b.length = (a.take b.length).map bt:=(List.map_take).symm
    have e3:=bt_sized a
    (refine ACall_fn (cf:=L5.c42) rfl rfl fun hM hA => ?_;simp only [L5.c42,zO,zF,zT];rw [mk2 _ (by decide)];simp -implicitDefEqProofs (disch:=first|omega|(simp only [go_sem,seval,e1,h,e2,e3];first|done|omega)) only [go_sem,seval,e1,h,e2,e3])
    refine callP_q (q_bytes_Equal _ _ _) ?_
    simp -implicitDefEqProofs (disch:=first|omega|(simp only [go_sem,seval];first|done|omega)) only [go_sem,seval]
    (all_goals (first|refine post_fin ret_ok hM rfl ?_ ?_|refine post_fin0 ret_ok hM rfl ?_ ?_|refine post_fin normal_ok hM rfl ?_ ?_|refine post_fin0 normal_ok hM rfl ?_ ?_);all_goals first|(simp only [go_sem,seval] <;> first|done|omega)|skip;all_goals (try simp -implicitDefEqProofs (disch:=first|omega|(simp only [go_sem,seval];first|done|omega)) only [go_sem,seval]))
  · have e1:((a.length:Int) ≥ b.length) = False:=eq_false (by omega)
    have e2:(a.take b.length = b) = False:=eq_false (fun hh => h (by rw [← hh,List.length_take];omega))
    (refine ACall_fn (cf:=L5.c42) rfl rfl fun hM hA => ?_;simp only [L5.c42,zO,zF,zT];rw [mk2 _ (by decide)];simp -implicitDefEqProofs (disch:=first|omega|(simp only [go_sem,seval,e1,e2];first|done|omega)) only [go_sem,seval,e1,e2])
    (all_goals (first|refine post_fin ret_ok hM rfl ?_ ?_|refine post_fin0 ret_ok hM rfl ?_ ?_|refine post_fin normal_ok hM rfl ?_ ?_|refine post_fin0 normal_ok hM rfl ?_ ?_);all_goals first|(simp only [go_sem,seval] <;> first|done|omega)|skip;all_goals (try simp -implicitDefEqProofs (disch:=first|omega|(simp only [go_sem,seval];first|done|omega)) only [go_sem,seval]))
def nk (a b c d:UInt8):Nat → Nat
  | 0 => 0
  | 1 => a.toNat
  | 2 => a.toNat * 256 + b.toNat
  | 3 => (a.toNat * 256 + b.toNat) * 256 + c.toNat
  | _ => ((a.toNat * 256 + b.toNat) * 256 + c.toNat) * 256 + d.toNat
theorem number_run (l:List UInt8) (h:4 ≤ l.length) (hl:l.length ≤ 4000000) {M0:List Blk} :
    ACall F X (.fn 43) [.op M0.length 0 0 0] (M0 ++ [.row true 1 0 [.agg [.fs (l.map bt)]]]) (.I (num4 l)) (M0 ++ [.row true 1 0 [.agg [.fs ((l.drop 4).map bt)]]]):=by
  obtain ⟨a,b,c,d,t,rfl⟩:=four_of h
  have hn:num4 (a :: b :: c :: d :: t) = nk a b c d 4:=rfl
  rw [hn]
  have la:=u8_lt a
  have lb:=u8_lt b
  have lc:=u8_lt c
  have ld:=u8_lt d
  have ht:(t.length:Int) + 1 + 1 + 1 + 1 ≤ 4000000:=by simp at hl;omega
  have lt_:∀ m,lowL m (t.map bt) = True:=fun m => bt_low t
  refine ACall_fn (cf:=c43) rfl rfl fun hM hA => ?_
  simp only [c43,zO,zF,zT]
  rw [mk1 _ (by decide)]
  have lz:=bt_sized (a :: b :: c :: d :: t)
  simp only [List.map_cons,bt_eq] at lz
  have htk:(t.map bt).take t.length = t.map bt:=List.take_of_length_le (by simp)
  have hs:∀ k,k < 4 → bin .shl (.s (.int .i64 (nk a b c d k))) (.s (.int .u64 8)) = some (.I ((nk a b c d k * 256:Nat):Int)):=by
    intro k hk
    rw [bin_shl (by decide)]
    have e1:min (8:Int).toNat IntKind.i64.bits = 8:=rfl
    have e2:nk a b c d k < 4294967296:=by
      unfold nk
      split <;> omega
    have e3:((nk a b c d k:Nat):Int) * 2 ^ 8 = ((nk a b c d k * 256:Nat):Int):=by omega
    rw [e1,e3,wrap_in ⟨by omega,by omega⟩]
  have ho0:bin .or (.I ((nk a b c d 0 * 256:Nat):Int)) (.I a.toNat) = some (.I (nk a b c d 1)):=(or_byte (by simp [nk]) la).trans (by simp [nk])
  have ho1:bin .or (.I ((nk a b c d 1 * 256:Nat):Int)) (.I b.toNat) = some (.I (nk a b c d 2)):=(or_byte (by simp [nk];omega) lb).trans (by simp [nk])
  have ho2:bin .or (.I ((nk a b c d 2 * 256:Nat):Int)) (.I c.toNat) = some (.I (nk a b c d 3)):=(or_byte (by simp [nk];omega) lc).trans (by simp [nk])
  have ho3:bin .or (.I ((nk a b c d 3 * 256:Nat):Int)) (.I d.toNat) = some (.I (nk a b c d 4)):=(or_byte (by simp [nk];omega) ld).trans (by simp [nk])
  have hs0:=hs 0 (by decide)
  have hs1:=hs 1 (by decide)
  have hs2:=hs 2 (by decide)
  have hs3:=hs 3 (by decide)
  have hi0:∀ x y z u:PV,idxaV 4 1 none (.agg [x,y,z,u]) (some 0) = some x:=fun _ _ _ _ => rfl
  have hi1:∀ x y z u:PV,idxaV 4 1 none (.agg [x,y,z,u]) (some 1) = some y:=fun _ _ _ _ => rfl
  have hi2:∀ x y z u:PV,idxaV 4 1 none (.agg [x,y,z,u]) (some 2) = some z:=fun _ _ _ _ => rfl
  have hi3:∀ x y z u:PV,idxaV 4 1 none (.agg [x,y,z,u]) (some 3) = some u:=fun _ _ _ _ => rfl
  simp -implicitDefEqProofs (disch:=first|omega|(simp only [go_sem,seval,bt_eq,lz,htk];first|done|omega)) only [go_sem,seval,bt_eq,lz,htk]
  refine loop_mk (α:=Nat) 0 (fun k => k ≤ 4) (fun _ => M0 ++ [.row true 1 0 [.agg [.fs (t.map bt)]],.row true 4 0 [.agg [.s (.int .u8 a.toNat),.s (.int .u8 b.toNat),.s (.int .u8 c.toNat),.s (.int .u8 d.toNat)]]])
    (fun k => [(4,.I (nk a b c d k)),(22,.agg [.s (.int .u8 a.toNat),.s (.int .u8 b.toNat),.s (.int .u8 c.toNat),.s (.int .u8 d.toNat)]),(23,.I k)]) (fun k => 4 - k) (by decide) rfl rfl ?_
  intro k hk
  rcases (by omega:k = 0 ∨ k = 1 ∨ k = 2 ∨ k = 3 ∨ k = 4) with rfl|rfl|rfl|rfl|rfl
  · simp -implicitDefEqProofs (disch:=first|omega|(simp only [go_sem,seval,hs0,ho0,hi0];first|done|omega)) only [go_sem,seval,hs0,ho0,hi0]
    exact again' 1 (by omega) (by omega) rfl rfl
  · simp -implicitDefEqProofs (disch:=first|omega|(simp only [go_sem,seval,hs1,ho1,hi1];first|done|omega)) only [go_sem,seval,hs1,ho1,hi1]
    exact again' 2 (by omega) (by omega) rfl rfl
  · simp -implicitDefEqProofs (disch:=first|omega|(simp only [go_sem,seval,hs2,ho2,hi2];first|done|omega)) only [go_sem,seval,hs2,ho2,hi2]
    exact again' 3 (by omega) (by omega) rfl rfl
  · simp -implicitDefEqProofs (disch:=first|omega|(simp only [go_sem,seval,hs3,ho3,hi3];first|done|omega)) only [go_sem,seval,hs3,ho3,hi3]
    exact again' 4 (by omega) (by omega) rfl rfl
  · simp -implicitDefEqProofs (disch:=first|omega|(simp only [go_sem,seval];first|done|omega)) only [go_sem,seval]
    have e:∀ x y:Blk,M0 ++ [x,y] = (M0 ++ [x]) ++ [y]:=fun x y => by simp
    have hlow:lowM (M0 ++ [Blk.row true 1 0 [.agg [.fs (t.map bt)]]]).length (M0 ++ [Blk.row true 1 0 [.agg [.fs (t.map bt)]]]):=by
      intro b hb
      rcases List.mem_append.1 hb with hb|hb
      · have:=hM b (by simp [hb])
        simpa using this
      · rw [List.mem_singleton] at hb
        subst hb
        show lowL _ [_]
        simp [lowL,PV.low,lt_]
    rw [e]
    refine post_fin ret_ok hlow (by simp) ?_ ?_
    · simp -implicitDefEqProofs (disch:=first|omega|(simp only [go_sem,seval];first|done|omega)) only [go_sem,seval]
    · (simp only [go_sem,seval] <;> first|done|omega)
theorem wrap32 {n:Int} (h:0 ≤ n ∧ n < 4294967296):IntKind.u32.wrap n = n:=by
  have e:IntKind.u32.wrap n = n % 4294967296:=rfl
  rw [e];omega
theorem number5 (l:List UInt8) (h:4 ≤ l.length) (hl:l.length ≤ 4000000) {M:List Blk} {a b c d e:Blk} :
    ACall F X (.fn 43) [.op (M.length + 5) 0 0 0] (M ++ [a,b,c,d,e,.row true 1 0 [.agg [.fs (l.map bt)]]]) (.I (num4 l)) (M ++ [a,b,c,d,e,.row true 1 0 [.agg [.fs ((l.drop 4).map bt)]]]):=by
  have:=number_run (X:=X) l h hl (M0:=M ++ [a,b,c,d,e])
  have e1:(M ++ [a,b,c,d,e]).length = M.length + 5:=by simp
  have e2:∀ x:Blk,(M ++ [a,b,c,d,e]) ++ [x] = M ++ [a,b,c,d,e,x]:=fun x => by simp
  rw [e1,e2,e2] at this
  exact this
theorem number5f (l:List UInt8) (h:4 ≤ l.length) (hl:l.length ≤ 4000000) {M:List Blk} {a b c d e:Blk} (N:List Blk) (h1:N.length = (M ++ [a,b,c,d,e,.row true 1 0 [.agg [.fs (l.map bt)]]]).length)
    (h2:N[M.length + 5]? = (M ++ [a,b,c,d,e,.row true 1 0 [.agg [.fs (l.map bt)]]])[M.length + 5]?) :
    ACall F X (.fn 43) ([.op (M.length + 5) 0 0 0] ++ [] ++ []) N (.I (num4 l)) (N.set (M.length + 5) (.row true 1 0 [.agg [.fs ((l.drop 4).map bt)]])):=by
  have h3:(M ++ [a,b,c,d,e,.row true 1 0 [.agg [.fs (l.map bt)]]])[M.length + 5]? = some (.row true 1 0 [.agg [.fs (l.map bt)]]):=by rw [getMj];rfl
  rw [h3] at h2
  have h4:N.length = M.length + 6:=by rw [h1];simp
  have h5:(N.take (M.length + 5)).length = M.length + 5:=by rw [List.length_take];omega
  have h6:N = N.take (M.length + 5) ++ [.row true 1 0 [.agg [.fs (l.map bt)]]]:=by
    obtain ⟨g1,g2⟩:=List.getElem?_eq_some_iff.1 h2
    have:=List.take_succ_eq_append_getElem g1
    rw [g2,List.take_of_length_le (by omega)] at this
    exact this
  have:=number_run (X:=X) l h hl (M0:=N.take (M.length + 5))
  rw [h5,← h6] at this
  have h7:N.set (M.length + 5) (.row true 1 0 [.agg [.fs ((l.drop 4).map bt)]]) = N.take (M.length + 5) ++ [.row true 1 0 [.agg [.fs ((l.drop 4).map bt)]]]:=by
    generalize N.take (M.length + 5) = K at h5 h6
    rw [h6,← h5,setM0]
    rfl
  rw [h7]
  exact this
theorem q_site_Decode (hB:FrombX X) (b:List UInt8) (hl:b.length ≤ 100000):Q X 9 [.fs (b.map bt)] (.tup [encSer (decS b),.I (dE b)]):=by
  intro M
  have hp:=fun N => q_bytes_HasPrefix (X:=X) b [87,73,78,68] (by omega) (by decide) N
  have ew:([87,73,78,68]:List UInt8).map bt = [.s (.int .u8 87),.s (.int .u8 73),.s (.int .u8 78),.s (.int .u8 68)]:=rfl
  have e4:([87,73,78,68]:List UInt8).length = 4:=rfl
  rw [ew,e4] at hp
  clear ew e4
  have h1:((4000000:Int) < b.length) = False:=eq_false (by omega)
  have q0:=fun (l:List Int) hl N => q_site_first (X:=X) l hl N
  by_cases c5:b.length < 5
  · have f5:((b.length:Int) < 5) = True:=eq_true (by omega)
    have hd:dE b = 29:=by
      have:dE0 b = 29:=by unfold dE0;rw [if_neg (by omega),if_pos c5]
      unfold dE;rw [this];rfl
    have hs:decS b = ⟨⟨#[]⟩,0,[],[]⟩:=by unfold decS;rw [hd];rfl
    rw [hd,hs,encSer_eq]
    (refine ACall_fn (cf:=L5.c9) rfl rfl fun hM hA => ?_;simp only [L5.c9,zO,zF,zT];rw [mk1 _ (by decide)];simp -implicitDefEqProofs (disch:=first|omega|(simp only [go_sem,seval,h1];first|done|omega)) only [go_sem,seval,h1])
    refine callP_q (q_site_when _ _ _) ?_
    simp -implicitDefEqProofs (disch:=first|omega|(simp only [go_sem,seval];first|done|omega)) only [go_sem,seval]
    refine callP_q (q_site_when _ _ _) ?_
    simp -implicitDefEqProofs (disch:=first|omega|(simp only [go_sem,seval,f5];first|done|omega)) only [go_sem,seval,f5]
    refine callP_q (hp _) ?_
    simp -implicitDefEqProofs (disch:=first|omega|(simp only [go_sem,seval];first|done|omega)) only [go_sem,seval]
    refine callP_q (q_site_when _ _ _) ?_
    simp -implicitDefEqProofs (disch:=first|omega|(simp only [go_sem,seval];first|done|omega)) only [go_sem,seval]
    refine callP_q (q0 [_,_,_] (by simp) _) ?_
    simp only [fst0]
    simp -implicitDefEqProofs (disch:=first|omega|(simp only [go_sem,seval,f5];first|done|omega)) only [go_sem,seval,f5]
    (all_goals (first|refine post_fin ret_ok hM rfl ?_ ?_|refine post_fin0 ret_ok hM rfl ?_ ?_|refine post_fin normal_ok hM rfl ?_ ?_|refine post_fin0 normal_ok hM rfl ?_ ?_);all_goals first|(simp only [go_sem,seval] <;> first|done|omega)|skip;all_goals (try simp -implicitDefEqProofs (disch:=first|omega|(simp only [go_sem,seval];first|done|omega)) only [go_sem,seval]))
  have f5:((b.length:Int) < 5) = False:=eq_false (by omega)
  by_cases cW:b.take 4 = [87,73,78,68]
  case neg =>
    have hd:dE b = 1:=by
      have:dE0 b = 1:=by unfold dE0;rw [if_neg (by omega),if_neg c5,if_pos cW]
      unfold dE;rw [this];rfl
    have hs:decS b = ⟨⟨#[]⟩,0,[],[]⟩:=by unfold decS;rw [hd];rfl
    rw [hd,hs,encSer_eq]
    (refine ACall_fn (cf:=L5.c9) rfl rfl fun hM hA => ?_;simp only [L5.c9,zO,zF,zT];rw [mk1 _ (by decide)];simp -implicitDefEqProofs (disch:=first|omega|(simp only [go_sem,seval,h1];first|done|omega)) only [go_sem,seval,h1])
    refine callP_q (q_site_when _ _ _) ?_
    simp -implicitDefEqProofs (disch:=first|omega|(simp only [go_sem,seval];first|done|omega)) only [go_sem,seval]
    refine callP_q (q_site_when _ _ _) ?_
    simp -implicitDefEqProofs (disch:=first|omega|(simp only [go_sem,seval,f5];first|done|omega)) only [go_sem,seval,f5]
    refine callP_q (hp _) ?_
    simp -implicitDefEqProofs (disch:=first|omega|(simp only [go_sem,seval,cW];first|done|omega)) only [go_sem,seval,cW]
    refine callP_q (q_site_when _ _ _) ?_
    simp -implicitDefEqProofs (disch:=first|omega|(simp only [go_sem,seval,cW];first|done|omega)) only [go_sem,seval,cW]
    refine callP_q (q0 [_,_,_] (by simp) _) ?_
    simp only [fst0]
    simp -implicitDefEqProofs (disch:=first|omega|(simp only [go_sem,seval,f5];first|done|omega)) only [go_sem,seval,f5]
    (all_goals (first|refine post_fin ret_ok hM rfl ?_ ?_|refine post_fin0 ret_ok hM rfl ?_ ?_|refine post_fin normal_ok hM rfl ?_ ?_|refine post_fin0 normal_ok hM rfl ?_ ?_);all_goals first|(simp only [go_sem,seval] <;> first|done|omega)|skip;all_goals (try simp -implicitDefEqProofs (disch:=first|omega|(simp only [go_sem,seval];first|done|omega)) only [go_sem,seval]))
  have hd0:dE0 b = 0:=by unfold dE0;rw [if_neg (by omega),if_neg c5,if_neg (fun h => h cW)]
  obtain ⟨c,hc⟩:∃ c,b[4]? = some c:=⟨_,List.getElem?_eq_getElem (by omega)⟩
  have hn:nmN b = c.toNat:=by unfold nmN;rw [hc];rfl
  have hcl:=u8_lt c
  (refine ACall_fn (cf:=L5.c9) rfl rfl fun hM hA => ?_;simp only [L5.c9,zO,zF,zT];rw [mk1 _ (by decide)];simp -implicitDefEqProofs (disch:=first|omega|(simp only [go_sem,seval,h1];first|done|omega)) only [go_sem,seval,h1])
  refine callP_q (q_site_when _ _ _) ?_
  simp -implicitDefEqProofs (disch:=first|omega|(simp only [go_sem,seval];first|done|omega)) only [go_sem,seval]
  refine callP_q (q_site_when _ _ _) ?_
  simp -implicitDefEqProofs (disch:=first|omega|(simp only [go_sem,seval,f5];first|done|omega)) only [go_sem,seval,f5]
  refine callP_q (hp _) ?_
  simp -implicitDefEqProofs (disch:=first|omega|(simp only [go_sem,seval,cW];first|done|omega)) only [go_sem,seval,cW]
  refine callP_q (q_site_when _ _ _) ?_
  simp -implicitDefEqProofs (disch:=first|omega|(simp only [go_sem,seval,cW];first|done|omega)) only [go_sem,seval,cW]
  refine callP_q (q0 [_,_,_] (by simp) _) ?_
  simp only [fst0]
  simp -implicitDefEqProofs (disch:=first|omega|(simp only [go_sem,seval,f5,hc,bt_eq];first|done|omega)) only [go_sem,seval,f5,hc,bt_eq]
  by_cases cL:b.length < 17 + c.toNat
  · have fL:((b.length:Int) < 5 + c.toNat + 12) = True:=eq_true (by omega)
    have hd:dE b = 29:=by unfold dE;rw [hd0,if_neg (fun h => h rfl),hn,if_pos cL]
    have hs:decS b = ⟨⟨#[]⟩,0,[],[]⟩:=by unfold decS;rw [hd];rfl
    rw [hd,hs,encSer_eq]
    simp -implicitDefEqProofs (disch:=first|omega|(simp only [go_sem,seval,fL];first|done|omega)) only [go_sem,seval,fL]
    (all_goals (first|refine post_fin ret_ok hM rfl ?_ ?_|refine post_fin0 ret_ok hM rfl ?_ ?_|refine post_fin normal_ok hM rfl ?_ ?_|refine post_fin0 normal_ok hM rfl ?_ ?_);all_goals first|(simp only [go_sem,seval] <;> first|done|omega)|skip;all_goals (try simp -implicitDefEqProofs (disch:=first|omega|(simp only [go_sem,seval];first|done|omega)) only [go_sem,seval]))
  have fL:((b.length:Int) < 5 + c.toNat + 12) = False:=eq_false (by omega)
  have lz:=bt_sized b
  have e1:(b.map bt).drop 5 = (b.drop 5).map bt:=List.map_drop.symm
  have e2:((b.drop 5).map bt).take c.toNat = ((b.drop 5).take c.toNat).map bt:=List.map_take.symm
  have e3:=strOf_bt ((b.drop 5).take c.toNat)
  have g1:((0:Int) ≤ 5 + c.toNat) = True:=eq_true (by omega)
  have g2:(5 + (c.toNat:Int)).toNat = 5 + c.toNat:=by omega
  have g3:5 + c.toNat ≤ b.length:=by omega
  have g4:5 + c.toNat - 5 = c.toNat:=by omega
  have hbd:dBody b = b.drop (5 + c.toNat):=by unfold dBody;rw [hn]
  have hbl:(dBody b).length = b.length - (5 + c.toNat):=by rw [hbd,List.length_drop]
  have e5:(b.map bt).drop (5 + c.toNat) = (dBody b).map bt:=by rw [hbd];exact List.map_drop.symm
  have e6:((dBody b).map bt).take (b.length - (5 + c.toNat)) = (dBody b).map bt:=List.take_of_length_le (by rw [List.length_map];omega)
  simp -implicitDefEqProofs (disch:=first|omega|(simp only [go_sem,seval,fL,lz,e1,e2,e3,g1,g2,g3,g4,e5,e6,ownR_agg];first|done|omega)) only [go_sem,seval,fL,lz,e1,e2,e3,g1,g2,g3,g4,e5,e6,ownR_agg]
  obtain ⟨B,hB0⟩:∃ B,B = dBody b:=⟨_,rfl⟩
  obtain ⟨T,hT0⟩:∃ T,T = dTail b:=⟨_,rfl⟩
  have hBT:B.drop 12 = T:=by rw [hB0,hT0];rfl
  obtain ⟨g,hg0⟩:∃ g,g = dG b:=⟨_,rfl⟩
  obtain ⟨m,hm0⟩:∃ m,m = dM b:=⟨_,rfl⟩
  have hg1:num4 (B.drop 8) = g:=by rw [hB0,hg0];rfl
  have hm1:num4 (B.drop 4) = m:=by rw [hB0,hm0];rfl
  have hg2:g < 4294967296:=hg1 ▸ num4_lt _
  have hm2:m < 4294967296:=hm1 ▸ num4_lt _
  have hst:=num4_lt B
  have hBl:12 ≤ B.length:=by rw [hB0,hbl];omega
  have hBl2:B.length ≤ 100000:=by rw [hB0,hbl];omega
  have hTl:T.length = B.length - 12:=by rw [← hBT,List.length_drop]
  rw [← hB0]
  have n1:=@number5 X B (by omega) (by omega)
  have n2:=@number5 X (B.drop 4) (by rw [List.length_drop];omega) (by rw [List.length_drop];omega)
  have n3:=@number5 X (B.drop 8) (by rw [List.length_drop];omega) (by rw [List.length_drop];omega)
  rw [List.drop_drop] at n2 n3
  rw [hm1] at n2
  rw [hg1,hBT] at n3
  refine callP_l n1 ?_
  simp -implicitDefEqProofs (disch:=first|omega|(simp only [go_sem,seval];first|done|omega)) only [go_sem,seval]
  refine callP_l n2 ?_
  simp -implicitDefEqProofs (disch:=first|omega|(simp only [go_sem,seval];first|done|omega)) only [go_sem,seval]
  refine callP_l n3 ?_
  simp -implicitDefEqProofs (disch:=first|omega|(simp only [go_sem,seval];first|done|omega)) only [go_sem,seval]
  have hdr:dSer b = ⟨⟨((b.drop 5).take c.toNat).toArray⟩,num4 B,smpL (T.drop (8 * g)) m,gapL T g⟩:=by unfold dSer;rw [hn,← hB0,← hT0,← hg0,← hm0]
  have hd1:dE b = if T.length < 8 * g + 4 * m then 29 else if T.length ≠ 8 * g + 4 * m then 2 else if 2147483648 ∈ smpL (T.drop (8 * g)) m then 1 else chkSer (dSer b):=by
    unfold dE
    rw [hd0,if_neg (fun h => h rfl),hn,if_neg cL,← hT0,← hg0,← hm0,hdr]
  clear n1 n2 n3
  generalize hnm:(⟨((b.drop 5).take c.toNat).toArray⟩:ByteArray) = nm at hdr ⊢
  generalize num4 B = st at hdr hst ⊢
  by_cases cE:T.length = 8 * g + 4 * m
  case neg =>
    have fE:((T.length:Int) = g * 8 + m * 4) = False:=eq_false (by omega)
    by_cases cT:T.length < 8 * g + 4 * m
    · have fT:((T.length:Int) < g * 8 + m * 4) = True:=eq_true (by omega)
      have hd:dE b = 29:=by rw [hd1,if_pos cT]
      have hs:decS b = ⟨⟨#[]⟩,0,[],[]⟩:=by unfold decS;rw [hd];rfl
      rw [hd,hs,encSer_eq]
      simp -implicitDefEqProofs (disch:=first|omega|(simp only [go_sem,seval,fE];first|done|omega)) only [go_sem,seval,fE]
      refine callP_q (q_site_when _ _ _) ?_
      simp -implicitDefEqProofs (disch:=first|omega|(simp only [go_sem,seval,fT];first|done|omega)) only [go_sem,seval,fT]
      refine callP_q (q0 [_,_] (by simp) _) ?_
      simp only [fst0]
      simp -implicitDefEqProofs (disch:=first|omega|(simp only [go_sem,seval,fT];first|done|omega)) only [go_sem,seval,fT]
      (all_goals (first|refine post_fin ret_ok hM rfl ?_ ?_|refine post_fin0 ret_ok hM rfl ?_ ?_|refine post_fin normal_ok hM rfl ?_ ?_|refine post_fin0 normal_ok hM rfl ?_ ?_);all_goals first|(simp only [go_sem,seval] <;> first|done|omega)|skip;all_goals (try simp -implicitDefEqProofs (disch:=first|omega|(simp only [go_sem,seval];first|done|omega)) only [go_sem,seval]))
    · have fT:((T.length:Int) < g * 8 + m * 4) = False:=eq_false (by omega)
      have hd:dE b = 2:=by rw [hd1,if_neg cT,if_pos cE]
      have hs:decS b = ⟨⟨#[]⟩,0,[],[]⟩:=by unfold decS;rw [hd];rfl
      rw [hd,hs,encSer_eq]
      simp -implicitDefEqProofs (disch:=first|omega|(simp only [go_sem,seval,fE];first|done|omega)) only [go_sem,seval,fE]
      refine callP_q (q_site_when _ _ _) ?_
      simp -implicitDefEqProofs (disch:=first|omega|(simp only [go_sem,seval,fT];first|done|omega)) only [go_sem,seval,fT]
      refine callP_q (q0 [_,_] (by simp) _) ?_
      simp only [fst0]
      simp -implicitDefEqProofs (disch:=first|omega|(simp only [go_sem,seval,fT];first|done|omega)) only [go_sem,seval,fT]
      (all_goals (first|refine post_fin ret_ok hM rfl ?_ ?_|refine post_fin0 ret_ok hM rfl ?_ ?_|refine post_fin normal_ok hM rfl ?_ ?_|refine post_fin0 normal_ok hM rfl ?_ ?_);all_goals first|(simp only [go_sem,seval] <;> first|done|omega)|skip;all_goals (try simp -implicitDefEqProofs (disch:=first|omega|(simp only [go_sem,seval];first|done|omega)) only [go_sem,seval]))
  have fE:((T.length:Int) = g * 8 + m * 4) = True:=eq_true (by omega)
  simp -implicitDefEqProofs (disch:=first|omega|(simp only [go_sem,seval,fE];first|done|omega)) only [go_sem,seval,fE]
  have lT:∀ n,lowL n (T.map bt) = True:=fun n => bt_low T
  have ld:∀ n k,lowL n ((T.drop k).map bt) = True:=fun n k => bt_low _
  refine loop_mk (α:=Nat) 0 (fun k => k ≤ g) (fun k => M ++ [.row true 4 0 [.agg [.s (.string ⟨#[]⟩),.I 0,.s (.slice none 0 0),.s (.slice none 0 0)]],.row false 1 0 [.s (.int .u8 87),.s (.int .u8 73),.s (.int .u8 78),.s (.int .u8 68)],
      .row true 4 0 [.agg [.s (.string nm),.I st,.os (M.length + 3) 0 0 0,.os (M.length + 4) k 0 k]],.row true 1 0 [],.row true 2 k ((gapL T k).map encSpn),.row true 1 0 [.agg [.fs ((T.drop (8 * k)).map bt)]]])
    (fun k => [(2,.op M.length 0 0 0),(6,.op (M.length + 2) 0 0 0),(8,.fn (.func 43) [.op (M.length + 5) 0 0 0] []),(9,.I m),(90,.I g),(91,.I k)]) (fun k => g - k) (Nat.zero_le _) rfl rfl ?_
  intro k hk
  by_cases hlt:k < g
  · have n1:=@number5 X (T.drop (8 * k)) (by rw [List.length_drop];omega) (by rw [List.length_drop];omega)
    have n2:=@number5f X (T.drop (8 * k + 4)) (by rw [List.length_drop];omega) (by rw [List.length_drop];omega)
    rw [List.drop_drop] at n1 n2
    have hsn:=gapL_snoc T k
    have l1:=num4_lt (T.drop (8 * k))
    have l2:=num4_lt (T.drop (8 * k + 4))
    have hgl:=gapL_len T k
    simp -implicitDefEqProofs (disch:=first|omega|(simp only [go_sem,seval,hlt];first|done|omega)) only [go_sem,seval,hlt]
    refine callP_l n1 ?_
    simp -implicitDefEqProofs (disch:=first|omega|(simp only [go_sem,seval];first|done|omega)) only [go_sem,seval]
    refine fcallP_q n2 rfl (by simp [lowL]) ?_
    have e8:8 * k + 4 + 4 = 8 * (k + 1):=by omega
    simp -implicitDefEqProofs (disch:=first|omega|(simp only [go_sem,seval,e8,encSpn_cells,encSpn_eq];first|done|omega)) only [go_sem,seval,e8,encSpn_cells,encSpn_eq]
    refine ⟨by simp [pairsOk,okPair,apartL,refs,refs1],?_⟩
    refine Wp_cut_at hM rfl 6 (by simp) (by first|done|(simp only [go_sem,seval,encSpn_low,ld,bt_low] <;> first|done|(refine ⟨?_,?_⟩ <;> omega)|omega)) (lowL_mk (by first|done|(simp only [go_sem,seval,encSpn_low,ld,bt_low] <;> first|done|(refine ⟨?_,?_⟩ <;> omega)|omega))) ?_
    simp -implicitDefEqProofs (disch:=first|omega|(simp only [go_sem,seval];first|done|omega)) only [go_sem,seval]
    exact again' (k + 1) (by omega) (by omega) (by rw [hsn];simp;rfl) rfl
  have hkk:k = g:=by omega
  subst hkk
  have hgl:=gapL_len T k
  obtain ⟨U,hU⟩:∃ U,U = T.drop (8 * k):=⟨_,rfl⟩
  have hUl:U.length = 4 * m:=by rw [hU,List.length_drop];omega
  rw [← hU] at hd1 hdr ⊢
  have ldU:∀ n j,lowL n ((U.drop j).map bt) = True:=fun n j => bt_low _
  have lgs:∀ n,lowL n ((gapL T k).map encSpn) = True:=fun n => encSpn_low _
  have lgM:lowM (M.length + 6) [.row true 2 k ((gapL T k).map encSpn)]:=by (simp only [go_sem,seval,lgs] <;> first|done|omega)
  generalize hG:(gapL T k) = G at hgl lgs ⊢
  simp -implicitDefEqProofs (disch:=first|omega|(simp only [go_sem,seval,hlt];first|done|omega)) only [go_sem,seval,hlt]
  refine loop_mk (α:=Nat) 0 (fun j => j ≤ m ∧ 2147483648 ∉ smpL U j) (fun j => M ++ [.row true 4 0 [.agg [.s (.string ⟨#[]⟩),.I 0,.s (.slice none 0 0),.s (.slice none 0 0)]],.row false 1 0 [.s (.int .u8 87),.s (.int .u8 73),.s (.int .u8 78),.s (.int .u8 68)],
      .row true 4 0 [.agg [.s (.string nm),.I st,.os (M.length + 3) j 0 j,.os (M.length + 4) k 0 k]],.row true 1 j ((smpL U j).map encF),.row true 2 k (G.map encSpn),.row true 1 0 [.agg [.fs ((U.drop (4 * j)).map bt)]]])
    (fun j => [(2,.op M.length 0 0 0),(6,.op (M.length + 2) 0 0 0),(8,.fn (.func 43) [.op (M.length + 5) 0 0 0] []),(105,.I m),(106,.I j)]) (fun j => m - j) ⟨Nat.zero_le _,by simp [smpL]⟩ rfl rfl ?_
  rintro j ⟨hj,hno⟩
  by_cases hlt2:j < m
  · have n1:=@number5 X (U.drop (4 * j)) (by rw [List.length_drop];omega) (by rw [List.length_drop];omega)
    rw [List.drop_drop] at n1
    have e8:4 * j + 4 = 4 * (j + 1):=by omega
    rw [e8] at n1
    have hsn:=smpL_snoc U j
    have l1:=num4_lt (U.drop (4 * j))
    have hsl:=smpL_len U j
    obtain ⟨u,hu⟩:∃ u,u = num4 (U.drop (4 * j)):=⟨_,rfl⟩
    rw [← hu] at n1 hsn l1
    have hw:IntKind.u32.wrap (u:Int) = u:=wrap32 (by omega)
    simp -implicitDefEqProofs (disch:=first|omega|(simp only [go_sem,seval,hlt2];first|done|omega)) only [go_sem,seval,hlt2]
    refine callP_l n1 ?_
    simp -implicitDefEqProofs (disch:=first|omega|(simp only [go_sem,seval,hw];first|done|omega)) only [go_sem,seval,hw]
    by_cases hz:u = 2147483648
    · have fz:((u:Int) = 2147483648) = True:=eq_true (by omega)
      have hin:2147483648 ∈ smpL U m:=by
        unfold smpL
        rw [List.mem_map]
        exact ⟨j,List.mem_range.2 hlt2,by rw [← hu];exact hz⟩
      have hd:dE b = 1:=by rw [hd1,if_neg (by omega),if_neg (fun h => h cE),if_pos hin]
      have hs:decS b = ⟨⟨#[]⟩,0,[],[]⟩:=by unfold decS;rw [hd];rfl
      rw [hd,hs,encSer_eq]
      simp -implicitDefEqProofs (disch:=first|omega|(simp only [go_sem,seval,fz];first|done|omega)) only [go_sem,seval,fz]
      (all_goals (first|refine post_fin ret_ok hM rfl ?_ ?_|refine post_fin0 ret_ok hM rfl ?_ ?_|refine post_fin normal_ok hM rfl ?_ ?_|refine post_fin0 normal_ok hM rfl ?_ ?_);all_goals first|(simp only [go_sem,seval] <;> first|done|omega)|skip;all_goals (try simp -implicitDefEqProofs (disch:=first|omega|(simp only [go_sem,seval];first|done|omega)) only [go_sem,seval]))
    have fz:((u:Int) = 2147483648) = False:=eq_false (by omega)
    simp -implicitDefEqProofs (disch:=first|omega|(simp only [go_sem,seval,fz];first|done|omega)) only [go_sem,seval,fz]
    refine callP_q (ACall_ext (hB u _)) ?_
    simp -implicitDefEqProofs (disch:=first|omega|(simp only [go_sem,seval];first|done|omega)) only [go_sem,seval]
    refine Wp_cut_at hM rfl 6 (by simp) (by first|done|(simp only [go_sem,seval,encSpn_low,ldU,encF_low] <;> first|done|(refine ⟨?_,?_⟩ <;> omega)|omega)) (lowL_mk (by first|done|(simp only [go_sem,seval,encSpn_low,ldU,encF_low] <;> first|done|(refine ⟨?_,?_⟩ <;> omega)|omega))) ?_
    simp -implicitDefEqProofs (disch:=first|omega|(simp only [go_sem,seval];first|done|omega)) only [go_sem,seval]
    refine again' (j + 1) ⟨by omega,?_⟩ (by omega) (by rw [hsn];simp) rfl
    rw [hsn]
    simp only [List.mem_append,List.mem_singleton,not_or]
    exact ⟨hno,fun h => hz h.symm⟩
  have hjj:j = m:=by omega
  subst hjj
  have hdr2:dSer b = ⟨nm,st,smpL U j,G⟩:=by rw [hdr,hG]
  have hd:dE b = chkSer (dSer b):=by rw [hd1,if_neg (by omega),if_neg (fun h => h cE),if_neg hno]
  have hC:=q_site_CheckSeries (X:=X) (dSer b) (by rw [hdr2];show (smpL U j).length ≤ _;rw [smpL_len];omega) (by rw [hdr2];show G.length ≤ _;omega)
  rw [← hd] at hC
  unfold decS
  rw [hdr2,encSer_eq] at hC
  rw [hdr2]
  have hsl:=smpL_len U j
  generalize smpL U j = S at hC hsl ⊢
  simp only at hC
  have lS:∀ n,lowL n (S.map encF) = True:=fun n => encF_low _
  simp -implicitDefEqProofs (disch:=first|omega|(simp only [go_sem,seval,hlt2,r_fzload,frzC_s,frzC_os,frzC_nil];first|done|omega)) only [go_sem,seval,hlt2,r_fzload,frzC_s,frzC_os,frzC_nil]
  refine callP_q (hC _) ?_
  have tS:(S.map encF).take j = S.map encF:=List.take_of_length_le (by rw [List.length_map];omega)
  have tG:(G.map encSpn).take k = G.map encSpn:=List.take_of_length_le (by rw [List.length_map];omega)
  by_cases hz:dE b = 0
  · rw [if_pos hz,encSer_eq,hz]
    simp -implicitDefEqProofs (disch:=first|omega|(simp only [go_sem,seval,tS,tG];first|done|omega)) only [go_sem,seval,tS,tG]
    (first|refine post_fin ret_ok hM rfl ?_ ?_|refine post_fin0 ret_ok hM rfl ?_ ?_|refine post_fin normal_ok hM rfl ?_ ?_|refine post_fin0 normal_ok hM rfl ?_ ?_)
    · simp -implicitDefEqProofs (disch:=first|omega|(simp only [go_sem,seval,tS,tG];first|done|omega)) only [go_sem,seval,tS,tG]
    · (simp only [go_sem,seval,lS,lgs] <;> first|done|omega)
  · rw [if_neg hz,encSer_eq]
    generalize dE b = ee at hz
    simp -implicitDefEqProofs (disch:=first|omega|(simp only [go_sem,seval,hz];first|done|omega)) only [go_sem,seval,hz]
    (all_goals (first|refine post_fin ret_ok hM rfl ?_ ?_|refine post_fin0 ret_ok hM rfl ?_ ?_|refine post_fin normal_ok hM rfl ?_ ?_|refine post_fin0 normal_ok hM rfl ?_ ?_);all_goals first|(simp only [go_sem,seval] <;> first|done|omega)|skip;all_goals (try simp -implicitDefEqProofs (disch:=first|omega|(simp only [go_sem,seval];first|done|omega)) only [go_sem,seval]))
def encW (w:List UInt8):PV:=.s (.string ⟨w.toArray⟩)
theorem encW_low {n:Nat} (l:List (List UInt8)):lowL n (l.map encW) = True:=eq_true (lowL_map _ _ fun r => by simp [encW,PV.low])
theorem encW_eq (w:List UInt8):encW w = .s (.string ⟨w.toArray⟩):=rfl
theorem encW_sized (l:List (List UInt8)):sized 1 (l.map encW) = true:=by unfold sized;rw [List.all_eq_true];intro x hx;obtain ⟨y,_,rfl⟩:=List.mem_map.1 hx;rfl
def CutX (X:XRel):Prop:=∀ (l:List UInt8) (M:List Blk),l.length ≤ 1000000 → X 62 [.s (.string ⟨l.toArray⟩),.s (.string ⟨#[10]⟩)] M (.tup [.s (.string ⟨(Lib.cut l [10]).1.toArray⟩),.s (.string ⟨(Lib.cut l [10]).2.1.toArray⟩),.B (Lib.cut l [10]).2.2]) M
def SplitX (X:XRel):Prop:=∀ (l:List UInt8) (M:List Blk),l.length ≤ 1000000 → X 84 [.s (.string ⟨l.toArray⟩),.s (.string ⟨#[32]⟩)] M (.fs ((spl 32 l).map encW)) M
def AtoiX (X:XRel):Prop:=∀ (l:List UInt8) (M:List Blk),l.length ≤ 1000000 → X 99 [.s (.string ⟨l.toArray⟩)] M (atoiV ⟨l.toArray⟩) M
def TrimX (X:XRel):Prop:=∀ (l:List UInt8) (M:List Blk),X 100 [.s (.string ⟨l.toArray⟩),.s (.string ⟨#[45]⟩)] M (.s (.string ⟨(Lib.trimPrefix l [45]).toArray⟩)) M
def tkR (t:List (List UInt8) × Bool):Blk:=.row true 2 0 [.agg [.fs (t.1.map encW),.B t.2]]
theorem tkR_eq (ws:List (List UInt8)) (w:Bool):tkR (ws,w) = .row true 2 0 [.agg [.fs (ws.map encW),.B w]]:=rfl
theorem lowR {M0 E:List Blk} {b b':Blk} (hM:lowM (M0 ++ b :: E).length (M0 ++ b :: E)) (h:b'.low (M0 ++ b :: E).length):lowM (M0 ++ b' :: E).length (M0 ++ b' :: E):=by
  intro x hx
  have e:(M0 ++ b' :: E).length = (M0 ++ b :: E).length:=by simp
  rw [e]
  rcases List.mem_append.1 hx with hx|hx
  · exact hM x (by simp [hx])
  · rcases List.mem_cons.1 hx with rfl|hx
    · exact h
    · exact hM x (by simp [hx])
theorem tkR_low (t:List (List UInt8) × Bool) (n:Nat):(tkR t).low n:=by
  show lowL n [_]
  simp [lowL,PV.low,encW_low]
theorem word_run (t:List (List UInt8) × Bool) (hl:t.1.length ≤ 1000000) {M0 E:List Blk} :
    ACall F X (.fn 85) [.op M0.length 0 0 0] (M0 ++ tkR t :: E) (.s (.string ⟨(wordS t).1.toArray⟩)) (M0 ++ tkR (wordS t).2 :: E):=by
  obtain ⟨ws,w⟩:=t
  simp only at hl
  refine ACall_fn (cf:=c85) rfl rfl fun hM hA => ?_
  simp only [c85,zO,zF,zT]
  rw [mk1 _ (by decide)]
  have hlow:=fun t => lowR hM (tkR_low t _)
  cases ws with
  | nil =>
    have e:wordS ([],w) = ([],([],true)):=rfl
    have hl2:=hlow ([],true)
    rw [e]
    simp only [tkR_eq,List.map_nil] at hl2 ⊢
    simp -implicitDefEqProofs (disch:=first|omega|(simp only [go_sem,seval];first|done|omega)) only [go_sem,seval]
    refine post_fin0 ret_ok hl2 (by simp) ?_ ?_
    · simp -implicitDefEqProofs (disch:=first|omega|(simp only [go_sem,seval];first|done|omega)) only [go_sem,seval]
    · (simp only [go_sem,seval] <;> first|done|omega)
  | cons x r =>
    by_cases hx:x = []
    · subst hx
      have e:wordS ([] :: r,w) = ([],([] :: r,true)):=rfl
      have hl2:=hlow ([] :: r,true)
      rw [e]
      simp only [tkR_eq,List.map_cons,encW_eq] at hl2 ⊢
      have f0:(((r.length + 1:Nat):Int) = 0) = False:=eq_false (by omega)
      have be:bin .eql (.s (.string ⟨([]:List UInt8).toArray⟩)) (.s (.string ⟨#[]⟩)) = some (.B true):=by rw [bin_strEq];rfl
      simp -implicitDefEqProofs (disch:=first|omega|(simp only [go_sem,seval,f0,be];first|done|omega)) only [go_sem,seval,f0,be]
      refine post_fin0 ret_ok hl2 (by simp) ?_ ?_
      · simp -implicitDefEqProofs (disch:=first|omega|(simp only [go_sem,seval];first|done|omega)) only [go_sem,seval]
      · (simp only [go_sem,seval] <;> first|done|omega)
    · rw [wordS_cons hx]
      have hl2:=hlow (r,w)
      simp only [tkR_eq,List.map_cons,encW_eq] at hl2 ⊢
      have f0:(((r.length + 1:Nat):Int) = 0) = False:=eq_false (by omega)
      have be:bin .eql (.s (.string ⟨x.toArray⟩)) (.s (.string ⟨#[]⟩)) = some (.B false):=by
        rw [bin_strEq]
        have:((⟨x.toArray⟩:ByteArray) = ⟨([]:List UInt8).toArray⟩) = False:=by rw [bs_eq];exact eq_false hx
        show some (PV.B (decide ((⟨x.toArray⟩:ByteArray) = ⟨([]:List UInt8).toArray⟩))) = _
        simp [this]
      have hsz:=encW_sized (x :: r)
      simp only [List.map_cons,encW_eq] at hsz
      have htk:(r.map encW).take r.length = r.map encW:=List.take_of_length_le (by simp)
      simp -implicitDefEqProofs (disch:=first|omega|(simp only [go_sem,seval,f0,be,hsz,htk];first|done|omega)) only [go_sem,seval,f0,be,hsz,htk]
      refine post_fin0 ret_ok hl2 (by simp) ?_ ?_
      · simp -implicitDefEqProofs (disch:=first|omega|(simp only [go_sem,seval];first|done|omega)) only [go_sem,seval]
      · (simp only [go_sem,seval] <;> first|done|omega)
theorem wordS_len (t:List (List UInt8) × Bool):(wordS t).2.1.length ≤ t.1.length:=by
  obtain ⟨ws,w⟩:=t
  cases ws with
  | nil => simp [wordS]
  | cons x r => unfold wordS;simp only;split <;> simp
theorem wordS_in {t:List (List UInt8) × Bool} {n:Nat} (h:∀ x ∈ t.1,x.length ≤ n):(wordS t).1.length ≤ n ∧ ∀ x ∈ (wordS t).2.1,x.length ≤ n:=by
  obtain ⟨ws,w⟩:=t
  cases ws with
  | nil => simp [wordS]
  | cons x r =>
    unfold wordS
    simp only
    split
    · exact ⟨Nat.zero_le _,h⟩
    · exact ⟨h x (by simp),fun y hy => h y (by simp [hy])⟩
theorem int_run (hI:ItoaX X) (hA0:AtoiX X) (hT:TrimX X) (t:List (List UInt8) × Bool) (hl:t.1.length ≤ 1000000) (hw:∀ x ∈ t.1,x.length ≤ 1000000) {M0 E:List Blk} :
    ACall F X (.fn 86) [.op M0.length 0 0 0] (M0 ++ tkR t :: E) (.I (intS t).1) (M0 ++ tkR (intS t).2 :: E):=by
  refine ACall_fn (cf:=c86) rfl rfl fun hM hA => ?_
  simp only [c86,zO,zF,zT]
  rw [mk1 _ (by decide)]
  have hlow:=fun t => lowR hM (tkR_low t _)
  have e:intS t = (atoiI (wordS t).1,((wordS t).2.1,if okW (wordS t).1 = true then (wordS t).2.2 else true)):=rfl
  have hwl:=(wordS_in hw).1
  have hwr:=word_run (X:=X) t hl (M0:=M0) (E:=E)
  rw [e]
  clear e
  simp -implicitDefEqProofs (disch:=first|omega|(simp only [go_sem,seval];first|done|omega)) only [go_sem,seval]
  refine callP_l hwr ?_
  generalize (wordS t).1 = v at hwl ⊢
  obtain ⟨ws,w⟩:=(wordS t).2
  simp only
  have a1:=hA0 v
  unfold atoiV at a1
  have hT2:=hT v
  have z0:=bs_size (Lib.trimPrefix v [45])
  simp -implicitDefEqProofs (disch:=first|omega|(simp only [go_sem,seval];first|done|omega)) only [go_sem,seval]
  have hd:(⟨v.toArray⟩:ByteArray).data.toList = v:=by simp
  rw [hd] at a1
  cases ha:Lib.atoiAll v
  · rename_i n
    obtain ⟨i1,i2⟩:=atoi_in ha
    rw [ha] at a1
    have hv:atoiI v = n:=by unfold atoiI;rw [ha]
    have hk0:okW v = (decide (Lib.itoa n = v) && decide ((Lib.trimPrefix v [45]).length ≤ 9)):=by unfold okW;rw [ha]
    simp only at a1
    rw [hv]
    refine callP_q (ACall_ext (a1 _ hwl)) ?_
    simp -implicitDefEqProofs (disch:=first|omega|(simp only [go_sem,seval];first|done|omega)) only [go_sem,seval]
    refine callP_q (ACall_ext (hI n _ i1 i2)) ?_
    by_cases c1:Lib.itoa n = v
    · have f1:bin .neq (.s (.string (itoaB n))) (.s (.string ⟨v.toArray⟩)) = some (.B false):=by
        rw [bin_strNe]
        have:(itoaB n = ⟨v.toArray⟩) = True:=by unfold itoaB;rw [bs_eq];exact eq_true c1
        simp [this]
      simp -implicitDefEqProofs (disch:=first|omega|(simp only [go_sem,seval,f1];first|done|omega)) only [go_sem,seval,f1]
      refine callP_q (ACall_ext (hT2 _)) ?_
      by_cases c2:(Lib.trimPrefix v [45]).length ≤ 9
      · have f2:((9:Int) < (Lib.trimPrefix v [45]).length) = False:=eq_false (by omega)
        have hl2:=hlow (ws,w)
        rw [decide_eq_true c1,decide_eq_true c2,Bool.and_self] at hk0
        simp only [hk0,tkR_eq,if_true] at hl2 ⊢
        simp -implicitDefEqProofs (disch:=first|omega|(simp only [go_sem,seval,z0,f2];first|done|omega)) only [go_sem,seval,z0,f2]
        refine post_fin0 ret_ok hl2 (by simp) ?_ ?_
        · simp -implicitDefEqProofs (disch:=first|omega|(simp only [go_sem,seval];first|done|omega)) only [go_sem,seval]
        · (simp only [go_sem,seval] <;> first|done|omega)
      · have f2:((9:Int) < (Lib.trimPrefix v [45]).length) = True:=eq_true (by omega)
        have hl2:=hlow (ws,true)
        rw [decide_eq_true c1,decide_eq_false c2,Bool.and_false] at hk0
        simp only [hk0,tkR_eq,Bool.false_eq_true,if_false] at hl2 ⊢
        simp -implicitDefEqProofs (disch:=first|omega|(simp only [go_sem,seval,z0,f2];first|done|omega)) only [go_sem,seval,z0,f2]
        refine post_fin0 ret_ok hl2 (by simp) ?_ ?_
        · simp -implicitDefEqProofs (disch:=first|omega|(simp only [go_sem,seval];first|done|omega)) only [go_sem,seval]
        · (simp only [go_sem,seval] <;> first|done|omega)
    · have f1:bin .neq (.s (.string (itoaB n))) (.s (.string ⟨v.toArray⟩)) = some (.B true):=by
        rw [bin_strNe]
        have:(itoaB n = ⟨v.toArray⟩) = False:=by unfold itoaB;rw [bs_eq];exact eq_false c1
        simp [this]
      have hl2:=hlow (ws,true)
      rw [decide_eq_false c1,Bool.false_and] at hk0
      simp only [hk0,tkR_eq,Bool.false_eq_true,if_false] at hl2 ⊢
      simp -implicitDefEqProofs (disch:=first|omega|(simp only [go_sem,seval,f1];first|done|omega)) only [go_sem,seval,f1]
      refine post_fin0 ret_ok hl2 (by simp) ?_ ?_
      · simp -implicitDefEqProofs (disch:=first|omega|(simp only [go_sem,seval];first|done|omega)) only [go_sem,seval]
      · (simp only [go_sem,seval] <;> first|done|omega)
  all_goals
    have hl2:=hlow (ws,true)
    rw [ha] at a1
    have hk0:okW v = false:=by unfold okW;rw [ha]
    unfold atoiI
    simp only [ha,hk0,tkR_eq,Bool.false_eq_true,if_false] at a1 hl2 ⊢
    refine callP_q (ACall_ext (a1 _ hwl)) ?_
    simp -implicitDefEqProofs (disch:=first|omega|(simp only [go_sem,seval];first|done|omega)) only [go_sem,seval]
    refine post_fin0 ret_ok hl2 (by simp) ?_ ?_
    · simp -implicitDefEqProofs (disch:=first|omega|(simp only [go_sem,seval];first|done|omega)) only [go_sem,seval]
    · (simp only [go_sem,seval] <;> first|done|omega)
def outA (i:Nat) (s:Ste):Blk:=.row true 3 0 [.agg [.s (.string s.name),.I s.least,.os (i + 1) s.tbs.length 0 s.tbs.length]]
def outT (s:Ste):Blk:=.row true 3 s.tbs.length (s.tbs.map encTb)
theorem outA_eq (i:Nat) (nm:ByteArray) (le:Int) (tb:List Tb):outA i ⟨nm,le,tb⟩ = .row true 3 0 [.agg [.s (.string nm),.I le,.os (i + 1) tb.length 0 tb.length]]:=rfl
theorem outT_eq (nm:ByteArray) (le:Int) (tb:List Tb):outT ⟨nm,le,tb⟩ = .row true 3 tb.length (tb.map encTb):=rfl
theorem word2 (t:List (List UInt8) × Bool) (hl:t.1.length ≤ 1000000) {M E:List Blk} {a b:Blk} :
    ACall F X (.fn 85) [.op (M.length + 2) 0 0 0] (M ++ a :: b :: tkR t :: E) (.s (.string ⟨(wordS t).1.toArray⟩)) (M ++ a :: b :: tkR (wordS t).2 :: E):=by
  have:=word_run (X:=X) t hl (M0:=M ++ [a,b]) (E:=E)
  simpa using this
theorem int2 (hI:ItoaX X) (hA0:AtoiX X) (hT:TrimX X) (t:List (List UInt8) × Bool) (hl:t.1.length ≤ 1000000) (hw:∀ x ∈ t.1,x.length ≤ 1000000) {M E:List Blk} {a b:Blk} :
    ACall F X (.fn 86) [.op (M.length + 2) 0 0 0] (M ++ a :: b :: tkR t :: E) (.I (intS t).1) (M ++ a :: b :: tkR (intS t).2 :: E):=by
  have:=int_run (X:=X) hI hA0 hT t hl hw (M0:=M ++ [a,b]) (E:=E)
  simpa using this
theorem spl_in (c:UInt8):∀ (l:List UInt8),(spl c l).length ≤ l.length + 1 ∧ ∀ x ∈ spl c l,x.length ≤ l.length
  | [] => by simp [spl]
  | y :: r => by
    obtain ⟨h1,h2⟩:=spl_in c r
    unfold spl
    split
    · refine ⟨by simp;omega,fun x hx => ?_⟩
      rcases List.mem_cons.1 hx with rfl|hx
      · simp
      · have:=h2 x hx;simp;omega
    · cases hs:spl c r with
      | nil => exact absurd hs (spl_ne c r)
      | cons h t =>
        rw [hs] at h1 h2
        refine ⟨by simp at h1 ⊢;omega,fun x hx => ?_⟩
        rcases List.mem_cons.1 hx with rfl|hx
        · have:=h2 h (by simp);simp;omega
        · have:=h2 x (by simp [hx]);simp;omega
theorem take_run (hS:SplitX X) (hI:ItoaX X) (hA0:AtoiX X) (hT:TrimX X) (k:Nat) (hk:k ≤ 1000000) (s:Ste) (l:List UInt8) (hl:l.length ≤ 900000) (hn:s.tbs.length ≤ 1000000) {M0:List Blk} :
    ACall F X (.fn 63) [.op M0.length 0 0 0,.s (.string ⟨l.toArray⟩),.I k] (M0 ++ [outA M0.length s,outT s]) (.B (takeS k s l).1) (M0 ++ [outA M0.length (takeS k s l).2,outT (takeS k s l).2]):=by
  obtain ⟨w1,w2⟩:=spl_in 32 l
  have e:takeS k s l = if k = 0 then (decide ((wordS (spl 32 l,false)).1 = siteW) && !(intS (wordS (wordS (spl 32 l,false)).2).2).2.2 && decide ((intS (wordS (wordS (spl 32 l,false)).2).2).2.1 = []),{ s with name:=bs (wordS (wordS (spl 32 l,false)).2).1,least:=(intS (wordS (wordS (spl 32 l,false)).2).2).1 })
    else (decide ((wordS (spl 32 l,false)).1 = turbW) && !(intS (intS (wordS (wordS (spl 32 l,false)).2).2).2).2.2 && decide ((intS (intS (wordS (wordS (spl 32 l,false)).2).2).2).2.1 = []),{ s with tbs:=s.tbs ++ [⟨bs (wordS (wordS (spl 32 l,false)).2).1,(intS (wordS (wordS (spl 32 l,false)).2).2).1,(intS (intS (wordS (wordS (spl 32 l,false)).2).2).2).1⟩] }):=rfl
  rw [e]
  clear e
  have hsp:=fun M => hS l M (by omega)
  generalize spl 32 l = ws at w1 w2 hsp ⊢
  have r1:=fun (M E:List Blk) (a b:Blk) => @word2 X (ws,false) (by simp only;omega) M E a b
  have p1:=wordS_len (ws,false)
  have p2:=(wordS_in (t:=(ws,false)) (n:=1000000) (fun x hx => by have:=w2 x hx;omega)).2
  have p3:=(wordS_in (t:=(ws,false)) (n:=1000000) (fun x hx => by have:=w2 x hx;omega)).1
  simp only at p1
  generalize wordS (ws,false) = T1 at r1 p1 p2 p3 ⊢
  have r2:=fun (M E:List Blk) (a b:Blk) => @word2 X T1.2 (by omega) M E a b
  have p4:=wordS_len T1.2
  have p5:=(wordS_in (t:=T1.2) p2).2
  generalize wordS T1.2 = T2 at r2 p4 p5 ⊢
  have r3:=fun (M E:List Blk) (a b:Blk) => @int2 X hI hA0 hT T2.2 (by omega) p5 M E a b
  have p6:(intS T2.2).2.1.length ≤ T2.2.1.length:=wordS_len T2.2
  have p7:∀ x ∈ (intS T2.2).2.1,x.length ≤ 1000000:=(wordS_in (t:=T2.2) p5).2
  generalize intS T2.2 = T3 at r3 p6 p7 ⊢
  have r4:=fun (M E:List Blk) (a b:Blk) => @int2 X hI hA0 hT T3.2 (by omega) p7 M E a b
  generalize intS T3.2 = T4 at r4 ⊢
  obtain ⟨nm,le,tb⟩:=s
  simp only at hn ⊢
  refine ACall_fn (cf:=c63) rfl rfl fun hM hA => ?_
  simp only [c63,zO,zF,zT]
  rw [mk3 _ (by decide)]
  have hM0:lowM (M0.length + 2) M0:=by
    intro x hx
    have:=hM x (by simp [hx])
    simpa using this
  have hlow:∀ s:Ste,lowM (M0 ++ [outA M0.length s,outT s]).length (M0 ++ [outA M0.length s,outT s]):=by
    intro s x hx
    have e:(M0 ++ [outA M0.length s,outT s]).length = M0.length + 2:=by simp
    rw [e]
    rcases List.mem_append.1 hx with hx|hx
    · exact hM0 x hx
    · rcases List.mem_cons.1 hx with rfl|hx
      · show lowL _ [_]
        simp [lowL,PV.low]
      · rw [List.mem_singleton] at hx
        subst hx
        exact of_eq_true (encTb_low _)
  clear hM
  have k1:∀ z:List UInt8,bin .eql (.s (.string ⟨z.toArray⟩)) (.s (.string ⟨#[115,105,116,101]⟩)) = some (.B (decide (z = siteW))):=by
    intro z
    rw [bin_strEq]
    have:=@bs_eq z siteW
    show some (PV.B (decide ((⟨z.toArray⟩:ByteArray) = ⟨siteW.toArray⟩))) = _
    simp only [this]
  have k2:∀ z:List UInt8,bin .eql (.s (.string ⟨z.toArray⟩)) (.s (.string ⟨#[116,117,114,98,105,110,101]⟩)) = some (.B (decide (z = turbW))):=by
    intro z
    rw [bin_strEq]
    have:=@bs_eq z turbW
    show some (PV.B (decide ((⟨z.toArray⟩:ByteArray) = ⟨turbW.toArray⟩))) = _
    simp only [this]
  simp -implicitDefEqProofs (disch:=first|omega|(simp only [go_sem,seval];first|done|omega)) only [go_sem,seval]
  refine callP_q (ACall_ext (hsp _)) ?_
  simp -implicitDefEqProofs (disch:=first|omega|(simp only [go_sem,seval,tkR_eq];first|done|omega)) only [go_sem,seval,tkR_eq]
  refine callP_l (r1 M0 [] _ _) ?_
  by_cases hk0:k = 0
  · have f0:((k:Int) = 0) = True:=eq_true (by omega)
    rw [if_pos hk0]
    simp -implicitDefEqProofs (disch:=first|omega|(simp only [go_sem,seval,f0];first|done|omega)) only [go_sem,seval,f0]
    refine callP_l (r2 M0 [] _ _) ?_
    simp -implicitDefEqProofs (disch:=first|omega|(simp only [go_sem,seval,outA_eq,outT_eq];first|done|omega)) only [go_sem,seval,outA_eq,outT_eq]
    refine callP_l (r3 M0 [] _ _) ?_
    obtain ⟨v3,ws3,w3⟩:=T3
    simp only
    have hl2:=hlow ⟨bs T2.1,v3,tb⟩
    have e2:∀ a b c:Blk,M0 ++ [a,b,c] = (M0 ++ [a,b]) ++ [c]:=fun a b c => by simp
    have hk1:=k1 T1.1
    by_cases hs:T1.1 = siteW
    · rw [decide_eq_true hs] at hk1 ⊢
      cases w3
      · by_cases hw:ws3 = []
        · subst hw
          simp -implicitDefEqProofs (disch:=first|omega|(simp only [go_sem,seval,hk1,tkR_eq];first|done|omega)) only [go_sem,seval,hk1,tkR_eq]
          rw [e2]
          refine post_fin ret_ok hl2 (by simp) ?_ ?_
          · simp -implicitDefEqProofs (disch:=first|omega|(simp only [go_sem,seval];first|done|omega)) only [go_sem,seval]
          · (simp only [go_sem,seval] <;> first|done|omega)
        · have fw:((ws3.length:Int) = 0) = False:=eq_false (fun h => hw (List.eq_nil_of_length_eq_zero (by omega)))
          simp -implicitDefEqProofs (disch:=first|omega|(simp only [go_sem,seval,hk1,tkR_eq,fw];first|done|omega)) only [go_sem,seval,hk1,tkR_eq,fw]
          rw [e2]
          refine post_fin ret_ok hl2 (by simp) ?_ ?_
          · simp -implicitDefEqProofs (disch:=first|omega|(simp only [go_sem,seval,hw];first|done|omega)) only [go_sem,seval,hw]
          · (simp only [go_sem,seval] <;> first|done|omega)
      · simp -implicitDefEqProofs (disch:=first|omega|(simp only [go_sem,seval,hk1,tkR_eq];first|done|omega)) only [go_sem,seval,hk1,tkR_eq]
        rw [e2]
        refine post_fin ret_ok hl2 (by simp) ?_ ?_
        · simp -implicitDefEqProofs (disch:=first|omega|(simp only [go_sem,seval];first|done|omega)) only [go_sem,seval]
        · (simp only [go_sem,seval] <;> first|done|omega)
    · rw [decide_eq_false hs] at hk1 ⊢
      simp -implicitDefEqProofs (disch:=first|omega|(simp only [go_sem,seval,hk1,tkR_eq];first|done|omega)) only [go_sem,seval,hk1,tkR_eq]
      rw [e2]
      refine post_fin ret_ok hl2 (by simp) ?_ ?_
      · simp -implicitDefEqProofs (disch:=first|omega|(simp only [go_sem,seval];first|done|omega)) only [go_sem,seval]
      · (simp only [go_sem,seval] <;> first|done|omega)
  · have f0:((k:Int) = 0) = False:=eq_false (by omega)
    rw [if_neg hk0]
    simp -implicitDefEqProofs (disch:=first|omega|(simp only [go_sem,seval,f0];first|done|omega)) only [go_sem,seval,f0]
    refine callP_l (r2 M0 [] _ _) ?_
    simp -implicitDefEqProofs (disch:=first|omega|(simp only [go_sem,seval];first|done|omega)) only [go_sem,seval]
    refine callP_l (r3 M0 [_] _ _) ?_
    simp -implicitDefEqProofs (disch:=first|omega|(simp only [go_sem,seval];first|done|omega)) only [go_sem,seval]
    refine callP_l (r4 M0 [_] _ _) ?_
    obtain ⟨v3,t3⟩:=T3
    obtain ⟨v4,ws4,w4⟩:=T4
    have htb:(tb ++ [(⟨bs T2.1,v3,v4⟩:Tb)]).map encTb = tb.map encTb ++ [.agg [.s (.string (bs T2.1)),.I v3,.I v4]]:=by simp [encTb_eq]
    have htl:(tb ++ [(⟨bs T2.1,v3,v4⟩:Tb)]).length = tb.length + 1:=by simp
    simp only
    have hl2:=hlow ⟨nm,le,tb ++ [⟨bs T2.1,v3,v4⟩]⟩
    have e2:∀ a b c d:Blk,M0 ++ [a,b,c,d] = (M0 ++ [a,b]) ++ [c,d]:=fun a b c d => by simp
    have hk1:=k2 T1.1
    simp only [outA_eq,outT_eq,htl,htb] at hl2 ⊢
    clear htb htl hlow
    by_cases hs:T1.1 = turbW
    · rw [decide_eq_true hs] at hk1 ⊢
      cases w4
      · by_cases hw:ws4 = []
        · subst hw
          simp -implicitDefEqProofs (disch:=first|omega|(simp only [go_sem,seval,hk1,tkR_eq,outA_eq,outT_eq];first|done|omega)) only [go_sem,seval,hk1,tkR_eq,outA_eq,outT_eq]
          rw [e2]
          refine post_fin ret_ok hl2 (by simp) ?_ ?_
          · simp -implicitDefEqProofs (disch:=first|omega|(simp only [go_sem,seval];first|done|omega)) only [go_sem,seval]
          · (simp only [go_sem,seval] <;> first|done|omega)
        · have fw:((ws4.length:Int) = 0) = False:=eq_false (fun h => hw (List.eq_nil_of_length_eq_zero (by omega)))
          simp -implicitDefEqProofs (disch:=first|omega|(simp only [go_sem,seval,hk1,tkR_eq,outA_eq,outT_eq,fw];first|done|omega)) only [go_sem,seval,hk1,tkR_eq,outA_eq,outT_eq,fw]
          rw [e2]
          refine post_fin ret_ok hl2 (by simp) ?_ ?_
          · simp -implicitDefEqProofs (disch:=first|omega|(simp only [go_sem,seval,hw];first|done|omega)) only [go_sem,seval,hw]
          · (simp only [go_sem,seval] <;> first|done|omega)
      · simp -implicitDefEqProofs (disch:=first|omega|(simp only [go_sem,seval,hk1,tkR_eq,outA_eq,outT_eq];first|done|omega)) only [go_sem,seval,hk1,tkR_eq,outA_eq,outT_eq]
        rw [e2]
        refine post_fin ret_ok hl2 (by simp) ?_ ?_
        · simp -implicitDefEqProofs (disch:=first|omega|(simp only [go_sem,seval];first|done|omega)) only [go_sem,seval]
        · (simp only [go_sem,seval] <;> first|done|omega)
    · rw [decide_eq_false hs] at hk1 ⊢
      simp -implicitDefEqProofs (disch:=first|omega|(simp only [go_sem,seval,hk1,tkR_eq,outA_eq,outT_eq];first|done|omega)) only [go_sem,seval,hk1,tkR_eq,outA_eq,outT_eq]
      rw [e2]
      refine post_fin ret_ok hl2 (by simp) ?_ ?_
      · simp -implicitDefEqProofs (disch:=first|omega|(simp only [go_sem,seval];first|done|omega)) only [go_sem,seval]
      · (simp only [go_sem,seval] <;> first|done|omega)
theorem take2 (hS:SplitX X) (hI:ItoaX X) (hA0:AtoiX X) (hT:TrimX X) (k:Nat) (hk:k ≤ 1000000) (s:Ste) (l:List UInt8) (hl:l.length ≤ 900000) (hn:s.tbs.length ≤ 1000000) {M:List Blk} {a:Blk} :
    ACall F X (.fn 63) [.op (M.length + 1) 0 0 0,.s (.string ⟨l.toArray⟩),.I k] (M ++ [a,outA (M.length + 1) s,outT s]) (.B (takeS k s l).1) (M ++ [a,outA (M.length + 1) (takeS k s l).2,outT (takeS k s l).2]):=by
  have:=take_run (X:=X) hS hI hA0 hT k hk s l hl hn (M0:=M ++ [a])
  simpa using this
theorem bin_bs0 {l:List UInt8} (h:l ≠ []):bin .eql (.s (.string ⟨l.toArray⟩)) (.s (.string ⟨#[]⟩)) = some (.B false) ∧ bin .neq (.s (.string ⟨l.toArray⟩)) (.s (.string ⟨#[]⟩)) = some (.B true):=by
  have:((⟨l.toArray⟩:ByteArray) = ⟨([]:List UInt8).toArray⟩) = False:=by rw [bs_eq];exact eq_false h
  rw [bin_strEq,bin_strNe]
  refine ⟨?_,?_⟩
  · show some (PV.B (decide ((⟨l.toArray⟩:ByteArray) = ⟨([]:List UInt8).toArray⟩))) = _
    simp [this]
  · show some (PV.B (decide ¬((⟨l.toArray⟩:ByteArray) = ⟨([]:List UInt8).toArray⟩))) = _
    simp [this]
theorem q_site_Parse (hC:CutX X) (hS:SplitX X) (hI:ItoaX X) (hA0:AtoiX X) (hT:TrimX X) (t:List UInt8) (hl:t.length ≤ 100000):Q X 24 [.s (.string ⟨t.toArray⟩)] (.tup [encSte (parS t),.I (parN t),.I (parE t)]):=by
  intro M
  have hz:=bs_size t
  have f1:((1000000:Int) < t.length) = False:=eq_false (by omega)
  by_cases h0:t = []
  · subst h0
    have e:encSte (parS []) = .agg [.s (.string ⟨#[]⟩),.I 0,.fs []]:=rfl
    have be:bin .eql (.s (.string ⟨([]:List UInt8).toArray⟩)) (.s (.string ⟨#[]⟩)) = some (.B true):=by rw [bin_strEq];rfl
    have e1:parN [] = 0:=rfl
    have e2:parE [] = 26:=rfl
    rw [e,e1,e2]
    (refine ACall_fn (cf:=L5.c24) rfl rfl fun hM hA => ?_;simp only [L5.c24,zO,zF,zT];rw [mk1 _ (by decide)];simp -implicitDefEqProofs (disch:=first|omega|(simp only [go_sem,seval,hz,f1,be];first|done|omega)) only [go_sem,seval,hz,f1,be])
    (all_goals (first|refine post_fin ret_ok hM rfl ?_ ?_|refine post_fin0 ret_ok hM rfl ?_ ?_|refine post_fin normal_ok hM rfl ?_ ?_|refine post_fin0 normal_ok hM rfl ?_ ?_);all_goals first|(simp only [go_sem,seval] <;> first|done|omega)|skip;all_goals (try simp -implicitDefEqProofs (disch:=first|omega|(simp only [go_sem,seval];first|done|omega)) only [go_sem,seval]))
  have hb0:=(bin_bs0 h0).1
  have hE:parE t = endE (parL 0 ste0 (spl 10 t)):=by unfold parE;rw [if_neg (by omega),if_neg h0]
  have hN:parN t = endN (parL 0 ste0 (spl 10 t)):=by unfold parN;rw [if_neg (by omega),if_neg h0]
  have hP:parS t = endS (parL 0 ste0 (spl 10 t)):=by unfold parS;rw [if_neg (by omega),if_neg h0]
  have hz0:encSte ste0 = .agg [.s (.string ⟨#[]⟩),.I 0,.fs []]:=rfl
  rw [hE,hN,hP]
  clear hE hN hP
  (refine ACall_fn (cf:=L5.c24) rfl rfl fun hM hA => ?_;simp only [L5.c24,zO,zF,zT];rw [mk1 _ (by decide)];simp -implicitDefEqProofs (disch:=first|omega|(simp only [go_sem,seval,hz,f1,hb0,ownR_agg];first|done|omega)) only [go_sem,seval,hz,f1,hb0,ownR_agg])
  refine loop_mk (α:=List UInt8 × Nat × Ste) (t,0,ste0) (fun a => parL 0 ste0 (spl 10 t) = parL a.2.1 a.2.2 (spl 10 a.1) ∧ a.2.1 + a.1.length ≤ t.length ∧ a.2.2.tbs.length ≤ a.2.1)
    (fun a => M ++ [.row true 3 0 [.agg [.s (.string ⟨#[]⟩),.I 0,.s (.slice none 0 0)]],outA (M.length + 1) a.2.2,outT a.2.2])
    (fun a => [(0,.s (.string ⟨a.1.toArray⟩)),(2,.op M.length 0 0 0),(5,.op (M.length + 1) 0 0 0),(6,.I a.2.1)]) (fun a => a.1.length) ⟨rfl,by simp,Nat.le_refl _⟩ rfl rfl ?_
  rintro ⟨rest,k,s⟩ ⟨i1,i2,i3⟩
  simp only at i1 i2 i3
  rw [i1]
  have hlo:∀ (m:Nat) (s:Ste),lowM (m + 3) [outA (m + 1) s,outT s]:=by
    intro m s x hx
    rcases List.mem_cons.1 hx with rfl|hx
    · show lowL _ [_]
      simp [lowL,PV.low]
    · rw [List.mem_singleton] at hx
      subst hx
      exact of_eq_true (encTb_low _)
  by_cases hr:rest = []
  · subst hr
    have be:bin .neq (.s (.string ⟨([]:List UInt8).toArray⟩)) (.s (.string ⟨#[]⟩)) = some (.B false):=by rw [bin_strNe];simp
    have e:parL k s (spl 10 []) = (some s,k):=by simp [spl,parL]
    rw [e,show endE (some s,k) = chkSte s from rfl,show endN (some s,k) = if chkSte s = 0 then 0 else k from rfl,show endS (some s,k) = if chkSte s = 0 then s else ste0 from rfl]
    have hC2:=q_site_CheckSite (X:=X) s (by omega)
    obtain ⟨nm,le,tb⟩:=s
    rw [encSte_eq] at hC2
    simp only at hC2 i3
    simp -implicitDefEqProofs (disch:=first|omega|(simp only [go_sem,seval,be,outA_eq,outT_eq,r_fzload,frzC_s,frzC_os,frzC_nil];first|done|omega)) only [go_sem,seval,be,outA_eq,outT_eq,r_fzload,frzC_s,frzC_os,frzC_nil]
    refine callP_q (hC2 _) ?_
    have tT:(tb.map encTb).take tb.length = tb.map encTb:=List.take_of_length_le (by simp)
    have lT:∀ n,lowL n (tb.map encTb) = True:=fun n => encTb_low _
    generalize chkSte ⟨nm,le,tb⟩ = ee
    by_cases hz:ee = 0
    · subst hz
      rw [if_pos rfl,if_pos rfl,encSte_eq]
      simp -implicitDefEqProofs (disch:=first|omega|(simp only [go_sem,seval];first|done|omega)) only [go_sem,seval]
      (first|refine post_fin ret_ok hM rfl ?_ ?_|refine post_fin0 ret_ok hM rfl ?_ ?_|refine post_fin normal_ok hM rfl ?_ ?_|refine post_fin0 normal_ok hM rfl ?_ ?_)
      · simp -implicitDefEqProofs (disch:=first|omega|(simp only [go_sem,seval,tT];first|done|omega)) only [go_sem,seval,tT]
      · (simp only [go_sem,seval,lT] <;> first|done|omega)
    · rw [if_neg hz,if_neg hz,hz0]
      simp -implicitDefEqProofs (disch:=first|omega|(simp only [go_sem,seval,hz];first|done|omega)) only [go_sem,seval,hz]
      (all_goals (first|refine post_fin ret_ok hM rfl ?_ ?_|refine post_fin0 ret_ok hM rfl ?_ ?_|refine post_fin normal_ok hM rfl ?_ ?_|refine post_fin0 normal_ok hM rfl ?_ ?_);all_goals first|(simp only [go_sem,seval] <;> first|done|omega)|skip;all_goals (try simp -implicitDefEqProofs (disch:=first|omega|(simp only [go_sem,seval];first|done|omega)) only [go_sem,seval]))
  have hb1:=(bin_bs0 hr).2
  have hcut:=hC rest
  by_cases hnl:(10:UInt8) ∈ rest
  case neg =>
    have e:parL k s (spl 10 rest) = (none,k):=by rw [spl_miss hnl];simp [parL,hr]
    rw [e,show endE (none,k) = 26 from rfl,show endN (none,k) = k from rfl,show endS (none,k) = ste0 from rfl,hz0]
    rw [cut_miss hnl] at hcut
    simp -implicitDefEqProofs (disch:=first|omega|(simp only [go_sem,seval,hb1];first|done|omega)) only [go_sem,seval,hb1]
    refine callP_q (ACall_ext (hcut _ (by omega))) ?_
    simp -implicitDefEqProofs (disch:=first|omega|(simp only [go_sem,seval];first|done|omega)) only [go_sem,seval]
    (all_goals (first|refine post_fin ret_ok hM rfl ?_ ?_|refine post_fin0 ret_ok hM rfl ?_ ?_|refine post_fin normal_ok hM rfl ?_ ?_|refine post_fin0 normal_ok hM rfl ?_ ?_);all_goals first|(simp only [go_sem,seval] <;> first|done|omega)|skip;all_goals (try simp -implicitDefEqProofs (disch:=first|omega|(simp only [go_sem,seval];first|done|omega)) only [go_sem,seval]))
  obtain ⟨w,r,hw,rfl⟩:=spl_first hnl
  rw [cut_hit hw] at hcut
  rw [spl_hit hw] at i1 ⊢
  simp only [List.length_append,List.length_cons] at i2
  obtain ⟨t1,t2⟩:=take_line k s w
  have htk:=@take2 X hS hI hA0 hT k (by omega) s w (by omega) (by omega)
  have hlen:(takeS k s w).2.tbs.length ≤ k + 1:=by
    unfold takeS
    simp only
    split
    · show s.tbs.length ≤ k + 1;omega
    · simp;omega
  simp -implicitDefEqProofs (disch:=first|omega|(simp only [go_sem,seval,hb1];first|done|omega)) only [go_sem,seval,hb1]
  refine callP_q (ACall_ext (hcut _ (by simp;omega))) ?_
  simp -implicitDefEqProofs (disch:=first|omega|(simp only [go_sem,seval];first|done|omega)) only [go_sem,seval]
  refine callP_l htk ?_
  cases hL:lineS k s w with
  | none =>
    rw [hL] at t1
    simp only [Option.isSome_none] at t1
    rw [t1]
    have e:=parL_none hL (spl_ne 10 r)
    rw [e,show endE (none,k) = 26 from rfl,show endN (none,k) = k from rfl,show endS (none,k) = ste0 from rfl,hz0]
    simp -implicitDefEqProofs (disch:=first|omega|(simp only [go_sem,seval];first|done|omega)) only [go_sem,seval]
    (all_goals (first|refine post_fin ret_ok hM rfl ?_ ?_|refine post_fin0 ret_ok hM rfl ?_ ?_|refine post_fin normal_ok hM rfl ?_ ?_|refine post_fin0 normal_ok hM rfl ?_ ?_);all_goals first|(simp only [go_sem,seval] <;> first|done|omega)|skip;all_goals (try simp -implicitDefEqProofs (disch:=first|omega|(simp only [go_sem,seval];first|done|omega)) only [go_sem,seval]))
  | some s' =>
    rw [hL] at t1
    simp only [Option.isSome_some] at t1
    have t3:=t2 s' hL
    rw [t1,t3]
    rw [t3] at hlen
    simp -implicitDefEqProofs (disch:=first|omega|(simp only [go_sem,seval];first|done|omega)) only [go_sem,seval]
    have hlM:=hlo M.length s'
    refine Wp_cut_at hM rfl 3 (by simp) (by first|done|(simp only [go_sem,seval,hlM] <;> first|done|(refine ⟨?_,?_⟩ <;> omega)|omega)) (lowL_mk (by first|done|(simp only [go_sem,seval,hlM] <;> first|done|(refine ⟨?_,?_⟩ <;> omega)|omega))) ?_
    simp -implicitDefEqProofs (disch:=first|omega|(simp only [go_sem,seval];first|done|omega)) only [go_sem,seval]
    exact again' (r,k + 1,s') ⟨parL_some hL (spl_ne 10 r),by simp only;omega,by simp only;omega⟩ (by simp;omega) rfl rfl
end
end Go.Nac.L5
namespace Go.Nac.L5
attribute [local congr] b1_congr b2_congr Wp_congr wpOps_congr thenK_congr blockK_congr gK_congr cK_congr
section
variable {X:XRel}
theorem q_top_galeSite (s:Ste) (hl:s.tbs.length ≤ 1048576):Q X 22 [encSte s] (encSte s):=by
  obtain ⟨nm,least,l⟩:=s
  simp only at hl ⊢
  have e:encSte ⟨nm,least,l⟩ = .agg [.s (.string nm),.I least,.fs (l.map encTb)]:=rfl
  rw [e]
  clear e
  intro M
  have hz:zSte = .agg [.s (.string ⟨#[]⟩),.I 0,.s (.slice none 0 0)]:=rfl
  (refine ACall_fn (cf:=L5.c22) rfl rfl fun hM hA => ?_;simp only [L5.c22,zO,zF,zT];rw [mk1 _ (by decide)];simp -implicitDefEqProofs (disch:=first|omega|(simp only [go_sem,seval,ownR_agg];first|done|omega)) only [go_sem,seval,ownR_agg])
  refine loop_mk (α:=Nat) 0 (fun k => k ≤ l.length) (fun k => M ++ [.row true 3 0 [zSte],.row true 3 0 [.agg [.s (.string nm),.I least,.os (M.length + 2) (l.take k).length 0 (l.take k).length]],.row true 3 (l.take k).length ((l.take k).map encTb)])
    (fun k => [(2,.op M.length 0 0 0),(3,.op (M.length + 1) 0 0 0),(12,.fs (l.map encTb)),(13,.I l.length),(14,.I k)]) (fun k => l.length - k) (Nat.zero_le _) rfl rfl ?_
  intro k hk
  by_cases hlt:k < l.length
  · obtain ⟨x,hx⟩:∃ x,l[k]? = some x:=⟨_,List.getElem?_eq_getElem hlt⟩
    have htl:(l.take k).length = k:=by rw [List.length_take];omega
    have hs:l.take (k + 1) = l.take k ++ [x]:=by
      obtain ⟨h3,h4⟩:=List.getElem?_eq_some_iff.1 hx
      rw [List.take_succ_eq_append_getElem h3,h4]
    have again:∀ o:List Tb,l.take (k + 1) = o → Again 26 (fun k => k ≤ l.length) (fun k => M ++ [.row true 3 0 [zSte],.row true 3 0 [.agg [.s (.string nm),.I least,.os (M.length + 2) (l.take k).length 0 (l.take k).length]],.row true 3 (l.take k).length ((l.take k).map encTb)])
      (fun k => [(2,.op M.length 0 0 0),(3,.op (M.length + 1) 0 0 0),(12,.fs (l.map encTb)),(13,.I l.length),(14,.I k)]) (fun k => l.length - k) k
      (M ++ [.row true 3 0 [zSte],.row true 3 0 [.agg [.s (.string nm),.I least,.os (M.length + 2) o.length 0 o.length]],.row true 3 o.length (o.map encTb)]) (mk 26 [(2,.op M.length 0 0 0),(3,.op (M.length + 1) 0 0 0),(12,.fs (l.map encTb)),(13,.I l.length),(14,.I (k + 1))]):=by
      rintro o rfl
      exact again' (k + 1) (by omega) (by omega) rfl rfl
    rw [hs] at again
    clear hs
    generalize l.take k = o at htl again ⊢
    have f0:((k:Int) < l.length) = True:=eq_true (by omega)
    simp -implicitDefEqProofs (disch:=first|omega|(simp only [go_sem,seval,hlt,f0,hx,encTb_cells,encTb_eq];first|done|omega)) only [go_sem,seval,hlt,f0,hx,encTb_cells,encTb_eq]
    refine Wp_cut_at hM rfl 3 (by simp) (by first|done|(simp only [go_sem,seval,encTb_low,zSte_low] <;> first|done|(refine ⟨?_,?_⟩ <;> omega)|omega)) (lowL_mk (by first|done|(simp only [go_sem,seval,encTb_low,zSte_low] <;> first|done|(refine ⟨?_,?_⟩ <;> omega)|omega))) ?_
    simp -implicitDefEqProofs (disch:=first|omega|(simp only [go_sem,seval];first|done|omega)) only [go_sem,seval]
    simpa [encTb] using again _ rfl
  · simp -implicitDefEqProofs (disch:=first|omega|(simp only [go_sem,seval,hlt];first|done|omega)) only [go_sem,seval,hlt]
    rw [List.take_of_length_le (by omega)]
    simp -implicitDefEqProofs (disch:=first|omega|(simp only [go_sem,seval,hz];first|done|omega)) only [go_sem,seval,hz]
    (first|refine post_fin ret_ok hM rfl ?_ ?_|refine post_fin0 ret_ok hM rfl ?_ ?_|refine post_fin normal_ok hM rfl ?_ ?_|refine post_fin0 normal_ok hM rfl ?_ ?_)
    · simp -implicitDefEqProofs (disch:=first|omega|(simp only [go_sem,seval];first|done|omega)) only [go_sem,seval]
      rw [List.take_of_length_le (by rw [List.length_map];omega)]
    · (simp only [go_sem,seval,encTb_low] <;> first|done|omega)
theorem q_top_galeOwn (s:Ste) (hl:s.tbs.length ≤ 1048576):Q X 28 [encSte s] (encSte s):=by
  obtain ⟨nm,least,l⟩:=s
  simp only at hl ⊢
  have e:encSte ⟨nm,least,l⟩ = .agg [.s (.string nm),.I least,.fs (l.map encTb)]:=rfl
  rw [e]
  clear e
  intro M
  have hz:zSte = .agg [.s (.string ⟨#[]⟩),.I 0,.s (.slice none 0 0)]:=rfl
  (refine ACall_fn (cf:=L5.c28) rfl rfl fun hM hA => ?_;simp only [L5.c28,zO,zF,zT];rw [mk1 _ (by decide)];simp -implicitDefEqProofs (disch:=first|omega|(simp only [go_sem,seval,ownR_agg];first|done|omega)) only [go_sem,seval,ownR_agg])
  refine loop_mk (α:=Nat) 0 (fun k => k ≤ l.length) (fun k => M ++ [.row true 3 0 [zSte],.row true 3 0 [.agg [.s (.string nm),.I least,.os (M.length + 2) (l.take k).length 0 (l.take k).length]],.row true 3 (l.take k).length ((l.take k).map encTb)])
    (fun k => [(2,.op M.length 0 0 0),(3,.op (M.length + 1) 0 0 0),(12,.fs (l.map encTb)),(13,.I l.length),(14,.I k)]) (fun k => l.length - k) (Nat.zero_le _) rfl rfl ?_
  intro k hk
  by_cases hlt:k < l.length
  · obtain ⟨x,hx⟩:∃ x,l[k]? = some x:=⟨_,List.getElem?_eq_getElem hlt⟩
    have htl:(l.take k).length = k:=by rw [List.length_take];omega
    have hs:l.take (k + 1) = l.take k ++ [x]:=by
      obtain ⟨h3,h4⟩:=List.getElem?_eq_some_iff.1 hx
      rw [List.take_succ_eq_append_getElem h3,h4]
    have again:∀ o:List Tb,l.take (k + 1) = o → Again 26 (fun k => k ≤ l.length) (fun k => M ++ [.row true 3 0 [zSte],.row true 3 0 [.agg [.s (.string nm),.I least,.os (M.length + 2) (l.take k).length 0 (l.take k).length]],.row true 3 (l.take k).length ((l.take k).map encTb)])
      (fun k => [(2,.op M.length 0 0 0),(3,.op (M.length + 1) 0 0 0),(12,.fs (l.map encTb)),(13,.I l.length),(14,.I k)]) (fun k => l.length - k) k
      (M ++ [.row true 3 0 [zSte],.row true 3 0 [.agg [.s (.string nm),.I least,.os (M.length + 2) o.length 0 o.length]],.row true 3 o.length (o.map encTb)]) (mk 26 [(2,.op M.length 0 0 0),(3,.op (M.length + 1) 0 0 0),(12,.fs (l.map encTb)),(13,.I l.length),(14,.I (k + 1))]):=by
      rintro o rfl
      exact again' (k + 1) (by omega) (by omega) rfl rfl
    rw [hs] at again
    clear hs
    generalize l.take k = o at htl again ⊢
    have f0:((k:Int) < l.length) = True:=eq_true (by omega)
    simp -implicitDefEqProofs (disch:=first|omega|(simp only [go_sem,seval,hlt,f0,hx,encTb_cells,encTb_eq];first|done|omega)) only [go_sem,seval,hlt,f0,hx,encTb_cells,encTb_eq]
    refine Wp_cut_at hM rfl 3 (by simp) (by first|done|(simp only [go_sem,seval,encTb_low,zSte_low] <;> first|done|(refine ⟨?_,?_⟩ <;> omega)|omega)) (lowL_mk (by first|done|(simp only [go_sem,seval,encTb_low,zSte_low] <;> first|done|(refine ⟨?_,?_⟩ <;> omega)|omega))) ?_
    simp -implicitDefEqProofs (disch:=first|omega|(simp only [go_sem,seval];first|done|omega)) only [go_sem,seval]
    simpa [encTb] using again _ rfl
  · simp -implicitDefEqProofs (disch:=first|omega|(simp only [go_sem,seval,hlt];first|done|omega)) only [go_sem,seval,hlt]
    rw [List.take_of_length_le (by omega)]
    simp -implicitDefEqProofs (disch:=first|omega|(simp only [go_sem,seval,hz];first|done|omega)) only [go_sem,seval,hz]
    (first|refine post_fin ret_ok hM rfl ?_ ?_|refine post_fin0 ret_ok hM rfl ?_ ?_|refine post_fin normal_ok hM rfl ?_ ?_|refine post_fin0 normal_ok hM rfl ?_ ?_)
    · simp -implicitDefEqProofs (disch:=first|omega|(simp only [go_sem,seval];first|done|omega)) only [go_sem,seval]
      rw [List.take_of_length_le (by rw [List.length_map];omega)]
    · (simp only [go_sem,seval,encTb_low] <;> first|done|omega)
theorem same_self (l:List Spn) (h:l.length ≤ 1048576):Q X 17 [.fs (l.map encSpn),.fs (l.map encSpn)] (.B true):=by
  have:=q_ref01_SameSpans (X:=X) l l h
  simpa using this
theorem serOk_of {x:Ser} (h:chkSer x = 0):SerOk x:=by
  obtain ⟨hin,hsm⟩:=serIn_of h
  obtain ⟨g1,g2,_,g3⟩:=gaps_40 h
  refine ⟨h,?_,(valid_w h).2,hin.1,by omega,hsm,g3⟩
  unfold chkSer at h
  split at h
  · cases h
  · rename_i hn;exact nameOk_size (by simpa using hn)
open Ieee
end
end Go.Nac.L5
namespace Go.Nac.L5
attribute [local congr] b1_congr b2_congr Wp_congr wpOps_congr thenK_congr blockK_congr gK_congr cK_congr
section
variable {X:XRel}
theorem ga1 (hF:FbitsX X):Q X 8 [encSer gaA] (.tup [.fs ((encL gaA).map bt),.I 0]):=by
  have h:=q_site_Encode (X:=X) hF gaA (by decide) (by decide)
  rw [ga_a,if_pos rfl,encB_L (serOk_of ga_a)] at h
  exact h
theorem ga2 (hB:FrombX X):Q X 9 [.fs ((encL gaA).map bt)] (.tup [encSer gaA,.I 0]):=by
  have h:=q_site_Decode (X:=X) hB (encL gaA) (by rw [ga_len];decide)
  obtain ⟨e1,e2⟩:=enc_dec (serOk_of ga_a)
  rw [e1,e2,ga_p] at h
  exact h
theorem ga3 (hS:SortX X):Q X 12 [encSer gaA,encSer gaB] (.tup [encSer gaD,.I 0]):=by
  have h:=q_site_Append (X:=X) hS gaA gaB (by decide) (by decide) (by decide) (by decide)
  rw [ga_d] at h
  exact h
theorem ga4:Q X 14 [encSer gaD,encF 1082130432,.I 1] (.tup [.fs (([⟨0,2⟩,⟨4,5⟩]:List Spn).map encSpn),.I 0]):=by
  have h:=q_site_Spells (X:=X) gaD 1082130432 1 (by decide) (by decide)
  unfold spellR spellL at h
  rw [show spellE gaD 1082130432 1 = 0 from by decide +kernel,if_pos rfl,ga_sp,if_neg (by decide)] at h
  exact h
theorem ga5:Q X 21 [encSte gaF,.I 3] (.tup [encSte gaG,.I 0]):=by
  have h:=q_site_TurnSite (X:=X) gaF 3 (by decide)
  rw [show turnE gaF 3 = 0 from by decide +kernel,if_pos rfl] at h
  exact h
theorem ga6 (hI:ItoaX X) (hJ:JoinX X):Q X 23 [encSte gaG] (.tup [.s (.string (steTxt gaG)),.I 0]):=by
  have h:=q_site_Print (X:=X) hI hJ gaG (by decide)
  rw [ga_gok,if_pos rfl] at h
  exact h
theorem ga_cA:encSer gaA = .agg [.s (.string ⟨#[119]⟩),.I 5,.fs [.s (.float .f32 1065353216),.s (.float .f32 1073741824),.s (.float .f32 0)],.fs [.agg [.I 2,.I 3]]]:=rfl
theorem ga_cD:encSer gaD = .agg [.s (.string ⟨#[119]⟩),.I 5,.fs [.s (.float .f32 1065353216),.s (.float .f32 1073741824),.s (.float .f32 0),.s (.float .f32 0),.s (.float .f32 1082130432)],.fs [.agg [.I 2,.I 4]]]:=rfl
theorem ga_cG:encSte gaG = .agg [.s (.string ⟨#[102]⟩),.I 2,.fs [.agg [.s (.string ⟨#[116,49]⟩),.I 0,.I 0],.agg [.s (.string ⟨#[116,50]⟩),.I (-1),.I 2]]]:=rfl
set_option maxHeartbeats 2000000 in
theorem q_top_galeRecord (hS:SortX X) (hI:ItoaX X) (hJ:JoinX X) (hF:FbitsX X) (hB:FrombX X):Q X 7 [] (.B true):=by
  intro M
  have g1:=ga1 (X:=X) hF
  have g2:=ga2 (X:=X) hB
  have hl:=ga_len
  have hl2:((encL gaA).map bt).length = 38:=by rw [List.length_map,hl]
  generalize encL gaA = b at g1 g2 hl hl2
  (refine ACall_fn (cf:=L5.c7) rfl rfl fun hM hA => ?_;simp only [L5.c7,zO,zF,zT];rw [mk0];simp -implicitDefEqProofs (disch:=first|omega|(simp only [go_sem,seval];first|done|omega)) only [go_sem,seval])
  refine callP_q (g1 _) ?_
  simp -implicitDefEqProofs (disch:=first|omega|(simp only [go_sem,seval];first|done|omega)) only [go_sem,seval]
  refine callP_q (g2 _) ?_
  simp -implicitDefEqProofs (disch:=first|omega|(simp only [go_sem,seval,ga_cA];first|done|omega)) only [go_sem,seval,ga_cA]
  refine callP_q (ga3 hS _) ?_
  simp -implicitDefEqProofs (disch:=first|omega|(simp only [go_sem,seval,ga_cD];first|done|omega)) only [go_sem,seval,ga_cD]
  refine callP_q (ga4 _) ?_
  simp -implicitDefEqProofs (disch:=first|omega|(simp only [go_sem,seval];first|done|omega)) only [go_sem,seval]
  refine callP_q (ga5 _) ?_
  simp -implicitDefEqProofs (disch:=first|omega|(simp only [go_sem,seval,ga_cG];first|done|omega)) only [go_sem,seval,ga_cG]
  refine callP_q (ga6 hI hJ _) ?_
  simp -implicitDefEqProofs (disch:=first|omega|(simp only [go_sem,seval,hl,hl2];first|done|omega)) only [go_sem,seval,hl,hl2]
  refine callP_q (same_self [⟨2,4⟩] (by decide) _) ?_
  simp -implicitDefEqProofs (disch:=first|omega|(simp only [go_sem,seval];first|done|omega)) only [go_sem,seval]
  refine callP_q (same_self [⟨0,2⟩,⟨4,5⟩] (by decide) _) ?_
  simp -implicitDefEqProofs (disch:=first|omega|(simp only [go_sem,seval,ga_print,bin_strEq];first|done|omega)) only [go_sem,seval,ga_print,bin_strEq]
  (all_goals (first|refine post_fin ret_ok hM rfl ?_ ?_|refine post_fin0 ret_ok hM rfl ?_ ?_|refine post_fin normal_ok hM rfl ?_ ?_|refine post_fin0 normal_ok hM rfl ?_ ?_);all_goals first|(simp only [go_sem,seval] <;> first|done|omega)|skip;all_goals (try simp -implicitDefEqProofs (disch:=first|omega|(simp only [go_sem,seval];first|done|omega)) only [go_sem,seval]))
end
end Go.Nac.L5
