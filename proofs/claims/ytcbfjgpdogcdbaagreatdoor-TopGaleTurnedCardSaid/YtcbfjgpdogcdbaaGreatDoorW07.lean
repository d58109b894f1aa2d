/- The equations by which plain code runs, as one set. -/
import Derived.Test.YtcbfjgpdogcdbaaGreatDoorW06
namespace Go.Nac
attribute [go_sem] Wp_seq Wp_region Wp_block Wp_skip Wp_exit Wp_ret Wp_keep Wp_goto Wp_label Wp_scope wpOps_nil thenK_normal thenK_exit thenK_ret thenK_goto blockK_normal blockK_exit blockK_ret blockK_goto scopeK_normal
attribute [go_sem] scopeK_exit scopeK_ret r_mov r_pick r_build r_load r_bin r_binb r_eqs r_un r_conv r_len r_lens r_max r_min r_ext r_field r_idxa r_idxs r_slstr r_arrp r_nilc r_mkfn r_slice r_faddr r_iaddr r_iaddra
attribute [go_sem] r_look r_onil r_mkmap r_alloc r_box r_bsl r_store r_mksl r_append r_fzmov r_fzapp r_mupd r_call r_callv b1_kont b2_kont mk_put put_none ev_mk ev_k ev_f lk_cons lk_nil keep_mk keepK_nil keepK_cons
attribute [go_sem] List.map_cons List.map_nil Option.map_some Option.map_none r_guard gK_tt gK_ff gK_tf gK_ft gK_unit r_cond cK_t cK_f Wp_regionD lenOf_fs lenOf_os lenOf_nil lensV_s bin_add bin_sub bin_mul
attribute [go_sem] bin_quo bin_rem bin_eql bin_neq bin_lss bin_leq bin_gtr bin_geq binb_eql binb_neq un_neg un_not conv_int pickV_t pickV_f pickV_or pickV_and asNat_int extV_tup foldO_nil foldO_cons maxI_int minI_int
attribute [go_sem] cells_agg cells_s cells_fs cells_os cells_op cells_om cells_fp cells_fn oneB_int oneB_bool oneB_str oneB_nil oneB_fs oneB_os oneB_op oneB_om mkPV_none mkPV_some loadPV_fp loadPV_fp1 loadPV_op storeO_op
attribute [go_sem] allocO_some boxO_own boxO_fp bslO_own bslO_fs mkslO_some iaddrV_fs elemP_some iaddrV_os rowP_some faddrV_fp liveR_some faddrV_op nilcV_fp nilcV_op nilcV_fn fieldV_agg fieldV_aggs held_fs held_nil
attribute [go_sem] held_os heldR_all heldR_some view_int view_bool view_str view_nil view_fs view_fp view_om view_op view_yl view_fn view_tup view_top view_agg view1_int view1_bool view1_str view1_nil view1_fs view_os
attribute [go_sem] view1_os viewR_true viewR_all argV_t argV_k argV_f freezeAll_os freezeAll_fs freezeAll_nil frzR_row freezeO_some mkRes_one mkRes_two outV_int outV_bool outV_str outV_nil outV_fs outV_agg outV_fn
attribute [go_sem] out1_int out1_bool out1_str out1_fs out1_nil out1_os outV_os orTop_some resOf_nil resOf_cons resOf_cell consO_some appO_os appR_own appO_nil okElem_eq getM0 getMj setM0 setMj List.getElem?_cons_zero
attribute [go_sem] List.getElem?_cons_succ List.set_cons_zero List.set_cons_succ List.append_assoc List.cons_append List.nil_append List.length_append List.length_cons List.length_nil List.length_map List.getElem?_map
attribute [go_sem] List.all_cons List.all_nil Bool.and_true Bool.true_and Bool.and_self List.take_succ_cons List.take_zero List.drop_succ_cons List.drop_zero Option.getD_none Option.getD_some Option.bind_some
attribute [go_sem] Option.bind_none Option.map_map decide_eq_true_eq decide_true decide_false Bool.false_eq_true if_true if_false Int.natCast_nonneg Int.toNat_natCast Nat.zero_add Nat.add_zero eq_self beq_self_eq_true
attribute [go_sem] List.getElem?_nil wrap_in fillParts setRange ne_eq not_true not_false_eq_true and_true true_and and_self List.map_map Function.comp_def mk_get Int.ofNat_lt Int.natCast_inj callV_fn callV_yl kont2_eq
attribute [go_sem] Nat.add_assoc List.flatMap_cons List.flatMap_nil List.append_nil decide_eq_false_iff_not Classical.not_not Bool.not_eq_true Bool.not_true Bool.not_false Bool.true_eq_false Option.some.injEq Int.sub_zero
attribute [go_sem] Int.add_zero Int.zero_sub Int.zero_add Bool.decide_eq_true Bool.not_not Bool.false_or Bool.or_false Bool.true_or Bool.or_true Bool.false_and Bool.and_false Bool.or_self Bool.or_eq_true
attribute [go_sem] Bool.or_eq_false_iff Bool.and_eq_true Bool.and_eq_false_iff cellsR_eq cellsE_some eqCells_nil eqCells_int eqCells_bool eqsV_agg bslO_own0 bslO_fs0 Wp_own ownP_some ownO_op ownR_one putE_agg putR_eq
attribute [go_sem] putE_one sliceV_fs sliceV_nil bounds_eq hiN_none hiN_some loN_none loN_some Nat.le_refl Nat.zero_le Nat.sub_zero Nat.sub_self Nat.add_sub_cancel natZ natO min10 Nat.le_add_left List.take_nil
attribute [go_sem] r_arrsl arrslV_fp r_sop r_srng r_snxt srngO_s snxtO_oi snxtR_some snxtR_none sopV_itf sopV_ff cells_float cells_nan oneB_float oneB_nan view_float view_nan view_oi view1_float view1_nan outV_float outV_nan out1_float refs_oi low_nan low_oi blow_siter
attribute [go_sem] List.drop_nil dK_eq d_op d_nil d_alloc allocD_some hole_eq refs_op refs_os refs_om refs_fs refs_fp refs_s fpOp Wp_holes2 holesL_zero holesL_succ Nat.add_sub_add_left d_bsl bslD_nil Wp_fix
attribute [go_sem] fixP_some mk_set List.length_reverse sliceV_os sliceR_row iaddraV_op iaddraV_fp arrpV_os arrpV_fs Nat.zero_mul Nat.one_mul Int.cast_ofNat_Int Int.lt_irrefl List.length_replicate Nat.le_add_right
attribute [go_sem] List.length_take List.length_drop sized_nil lowM_nil' lowM_cons' lowL_app' blow_row blow_map low_s low_agg low_tup low_fs low_fp low_os low_op low_om low_fn low_top lowL_nil lowL_cons
attribute [go_sem] Nat.lt_add_right_iff_pos Nat.lt_succ_self Nat.lt_add_one Nat.add_lt_add_iff_left Nat.zero_lt_succ Nat.lt_irrefl lowL_map' implies_true encRev_low1 encCyc_low1 encLife_low1 encCls_low1 encPnt_low1 low_yl
attribute [go_sem] ev_g argV_g r_isnil isnilV_err isnilV_nil r_b2s b2sO_fs b2sO_os b2sO_nil b2sV_some strOf_bytes held_str r_s2b s2bO_own s2bO_fs r_mark r_fzmark markO_os ownB_row r_mkbm r_pcall r_pcallv r_fcall fcRefs pcallV_fn eqCells_str cells_err oneB_err view_err view1_err view_nili outV_err low_err bytesPV_low
end Go.Nac
set_option linter.unusedSimpArgs false
set_option linter.unusedVariables false
set_option linter.unnecessarySimpa false
set_option maxRecDepth 10000
namespace Go.Nac.L5
attribute [local congr] b1_congr b2_congr Wp_congr wpOps_congr thenK_congr blockK_congr gK_congr cK_congr
section
variable {X:XRel}
abbrev Q (X:XRel) (f:FuncId) (args:List PV) (r:PV):Prop:=∀ M,ACall F X (.fn f) args M r M
theorem q_ref01_CheckRange (n a b:Int):Q X 33 [.I n,.I a,.I b] (.I (rng n a b)):=by
  intro M
  (refine ACall_fn (cf:=L5.c33) rfl rfl fun hM hA => ?_;simp only [L5.c33,zO,zF,zT];rw [mk3 _ (by decide)];simp -implicitDefEqProofs (disch:=first|omega|(simp only [go_sem,seval];first|done|omega)) only [go_sem,seval])
  repeat' (first|(refine cK_cases ?_ ?_ <;> intro hc <;> (try simp only [decide_eq_true_eq,decide_eq_false_iff_not,Classical.not_not,Bool.not_eq_true,Bool.not_eq_true',Bool.not_eq_false',Bool.false_or,Bool.or_false,Bool.true_or,Bool.or_true,Bool.false_and,Bool.and_false,Bool.true_and,Bool.and_true] at hc) <;> (try simp -implicitDefEqProofs (disch:=first|omega|(simp only [go_sem,seval,hc];first|done|omega)) only [go_sem,seval,hc]))|(refine gK_cases ?_ ?_ <;> intro hc <;> (try simp only [decide_eq_true_eq,decide_eq_false_iff_not,Classical.not_not,Bool.not_eq_true,Bool.not_eq_true',Bool.not_eq_false',Bool.false_or,Bool.or_false,Bool.true_or,Bool.or_true,Bool.false_and,Bool.and_false,Bool.true_and,Bool.and_true] at hc) <;> (try simp -implicitDefEqProofs (disch:=first|omega|(simp only [go_sem,seval,hc];first|done|omega)) only [go_sem,seval,hc])))
  (all_goals (first|refine post_fin ret_ok hM rfl ?_ ?_|refine post_fin0 ret_ok hM rfl ?_ ?_|refine post_fin normal_ok hM rfl ?_ ?_|refine post_fin0 normal_ok hM rfl ?_ ?_);all_goals first|(simp only [go_sem,seval] <;> first|done|omega)|skip;all_goals (try simp -implicitDefEqProofs (disch:=first|omega|(simp only [go_sem,seval];first|done|omega)) only [go_sem,seval]))
  all_goals simp [rng, *]
theorem q_ref01_First (l:List Int) (hl:l.length ≤ 1048576):Q X 34 [.fs (l.map .I)] (.I (fst0 l)):=by
  intro M
  (refine ACall_fn (cf:=L5.c34) rfl rfl fun hM hA => ?_;simp only [L5.c34,zO,zF,zT];rw [mk1 _ (by decide)];simp -implicitDefEqProofs (disch:=first|omega|(simp only [go_sem,seval];first|done|omega)) only [go_sem,seval])
  refine loop_mk (α:=Nat) 0 (fun k => k ≤ l.length ∧ fst0 l = fst0 (l.drop k)) (fun k => M) (fun k => [(0,.fs (l.map .I)),(3,.I k)]) (fun k => l.length - k) ⟨Nat.zero_le _,rfl⟩ rfl rfl ?_
  rintro k ⟨hk,hs⟩
  by_cases hlt:k < l.length
  · obtain ⟨x,h1⟩:∃ x,l[k]? = some x:=⟨_,List.getElem?_eq_getElem hlt⟩
    have h2:=fst0_drop l k x h1
    simp -implicitDefEqProofs (disch:=first|omega|(simp only [go_sem,seval,hlt,h1];first|done|omega)) only [go_sem,seval,hlt,h1]
    refine cK_cases ?_ ?_ <;> intro hc <;> (try simp only [decide_eq_true_eq,decide_eq_false_iff_not,Classical.not_not,Bool.not_eq_true,Bool.not_eq_true',Bool.not_eq_false',Bool.false_or,Bool.or_false,Bool.true_or,Bool.or_true,Bool.false_and,Bool.and_false,Bool.true_and,Bool.and_true] at hc) <;> simp -implicitDefEqProofs (disch:=first|omega|(simp only [go_sem,seval,h1,hc];first|done|omega)) only [go_sem,seval,h1,hc]
    · (first|refine post_fin ret_ok hM rfl ?_ ?_|refine post_fin0 ret_ok hM rfl ?_ ?_|refine post_fin normal_ok hM rfl ?_ ?_|refine post_fin0 normal_ok hM rfl ?_ ?_)
      · simp -implicitDefEqProofs (disch:=first|omega|(simp only [go_sem,seval,hs,h2,hc];first|done|omega)) only [go_sem,seval,hs,h2,hc]
      · (simp only [go_sem,seval] <;> first|done|omega)
    · exact again' (k + 1) ⟨by omega,by rw [hs,h2,if_pos hc]⟩ (by omega) rfl rfl
  · simp -implicitDefEqProofs (disch:=first|omega|(simp only [go_sem,seval,hlt];first|done|omega)) only [go_sem,seval,hlt]
    (first|refine post_fin ret_ok hM rfl ?_ ?_|refine post_fin0 ret_ok hM rfl ?_ ?_|refine post_fin normal_ok hM rfl ?_ ?_|refine post_fin0 normal_ok hM rfl ?_ ?_)
    · simp -implicitDefEqProofs (disch:=first|omega|(simp only [go_sem,seval,hs];first|done|omega)) only [go_sem,seval,hs]
      rw [List.drop_eq_nil_of_le (by omega)];rfl
    · (simp only [go_sem,seval] <;> first|done|omega)
abbrev Yields (X:XRel):=YieldsF F X
def hd (e:Int) (m:Int × Bool) (l:List Rev) (k:Nat):Int × Bool:=((halfs l).take k).foldl (fun m x => madd m (powW x e.toNat)) m
def zRev:PV:=.agg [.I 0,.I 0]
theorem q_ref01_IsName (s:ByteArray):Q X 32 [.s (.string s)] (.B (nameOk s)):=by
  intro M
  by_cases h0:s.size = 0
  · have f0:((s.size:Int) = 0) = True:=eq_true (by omega)
    (refine ACall_fn (cf:=L5.c32) rfl rfl fun hM hA => ?_;simp only [L5.c32,zO,zF,zT];rw [mk1 _ (by decide)];simp -implicitDefEqProofs (disch:=first|omega|(simp only [go_sem,seval,f0];first|done|omega)) only [go_sem,seval,f0])
    (first|refine post_fin ret_ok hM rfl ?_ ?_|refine post_fin0 ret_ok hM rfl ?_ ?_|refine post_fin normal_ok hM rfl ?_ ?_|refine post_fin0 normal_ok hM rfl ?_ ?_)
    · simp -implicitDefEqProofs (disch:=first|omega|(simp only [go_sem,seval];first|done|omega)) only [go_sem,seval]
      rw [nameOk_zero h0]
    · (simp only [go_sem,seval] <;> first|done|omega)
  have f0:((s.size:Int) = 0) = False:=eq_false (by omega)
  by_cases h24:24 < s.size
  · have f1:((24:Int) < s.size) = True:=eq_true (by omega)
    (refine ACall_fn (cf:=L5.c32) rfl rfl fun hM hA => ?_;simp only [L5.c32,zO,zF,zT];rw [mk1 _ (by decide)];simp -implicitDefEqProofs (disch:=first|omega|(simp only [go_sem,seval,f0,f1];first|done|omega)) only [go_sem,seval,f0,f1])
    (first|refine post_fin ret_ok hM rfl ?_ ?_|refine post_fin0 ret_ok hM rfl ?_ ?_|refine post_fin normal_ok hM rfl ?_ ?_|refine post_fin0 normal_ok hM rfl ?_ ?_)
    · simp -implicitDefEqProofs (disch:=first|omega|(simp only [go_sem,seval];first|done|omega)) only [go_sem,seval]
      rw [nameOk_long h24]
    · (simp only [go_sem,seval] <;> first|done|omega)
  have f1:((24:Int) < s.size) = False:=eq_false (by omega)
  (refine ACall_fn (cf:=L5.c32) rfl rfl fun hM hA => ?_;simp only [L5.c32,zO,zF,zT];rw [mk1 _ (by decide)];simp -implicitDefEqProofs (disch:=first|omega|(simp only [go_sem,seval,f0,f1];first|done|omega)) only [go_sem,seval,f0,f1])
  refine loop_mk (α:=Nat) 0 (fun k => k ≤ s.size ∧ ∀ i,i < k → chOk i (chAt s i) = true) (fun k => M) (fun k => [(0,.s (.string s)),(3,.I k)]) (fun k => s.size - k) ⟨Nat.zero_le _,fun i h => absurd h (by omega)⟩ rfl rfl ?_
  rintro k ⟨hk,hs⟩
  by_cases hlt:k < s.size
  · obtain ⟨u,h1⟩:=get_some hlt
    have hch:=chAt_some h1
    have h1:=idxsV_some h1
    have inv:chOk k u.toNat = true → ∀ i,i < k + 1 → chOk i (chAt s i) = true:=by
      intro hx i hi
      rcases Nat.lt_or_ge i k with h|h
      · exact hs i h
      · have:i = k:=by omega
        subst this;rw [hch];exact hx
    rcases (by omega:(u.toNat < 48) ∨ (48 ≤ u.toNat ∧ u.toNat ≤ 57) ∨ (57 < u.toNat ∧ u.toNat < 65) ∨ (65 ≤ u.toNat ∧ u.toNat ≤ 90) ∨ (90 < u.toNat ∧ u.toNat < 95) ∨ (u.toNat = 95) ∨ (u.toNat = 96) ∨ (97 ≤ u.toNat ∧ u.toNat ≤ 122) ∨ (122 < u.toNat)) with hc|hc|hc|hc|hc|hc|hc|hc|hc
    · have A1:((97:Int) ≤ (u.toNat:Int)) = False:=eq_false (by omega)
      have A2:((u.toNat:Int) ≤ 122) = True:=eq_true (by omega)
      have A3:((65:Int) ≤ (u.toNat:Int)) = False:=eq_false (by omega)
      have A4:((u.toNat:Int) ≤ 90) = True:=eq_true (by omega)
      have A5:((u.toNat:Int) = 95) = False:=eq_false (by omega)
      have A6:((u.toNat:Int) < 48) = True:=eq_true (by omega)
      have A7:((57:Int) < (u.toNat:Int)) = False:=eq_false (by omega)
      by_cases hk0:k = 0
      · have B:((k:Int) = 0) = True:=eq_true (by omega)
        simp -implicitDefEqProofs (disch:=first|omega|(simp only [go_sem,seval,hlt,h1,A1,A2,A3,A4,A5,A6,A7,B];first|done|omega)) only [go_sem,seval,hlt,h1,A1,A2,A3,A4,A5,A6,A7,B]
        (first|refine post_fin ret_ok hM rfl ?_ ?_|refine post_fin0 ret_ok hM rfl ?_ ?_|refine post_fin normal_ok hM rfl ?_ ?_|refine post_fin0 normal_ok hM rfl ?_ ?_)
        · simp -implicitDefEqProofs (disch:=first|omega|(simp only [go_sem,seval];first|done|omega)) only [go_sem,seval]
          rw [nameOk_bad hlt (by rw [hch];simp [chOk,letterB];omega)]
        · (simp only [go_sem,seval] <;> first|done|omega)
      · have B:((k:Int) = 0) = False:=eq_false (by omega)
        simp -implicitDefEqProofs (disch:=first|omega|(simp only [go_sem,seval,hlt,h1,A1,A2,A3,A4,A5,A6,A7,B];first|done|omega)) only [go_sem,seval,hlt,h1,A1,A2,A3,A4,A5,A6,A7,B]
        (first|refine post_fin ret_ok hM rfl ?_ ?_|refine post_fin0 ret_ok hM rfl ?_ ?_|refine post_fin normal_ok hM rfl ?_ ?_|refine post_fin0 normal_ok hM rfl ?_ ?_)
        · simp -implicitDefEqProofs (disch:=first|omega|(simp only [go_sem,seval];first|done|omega)) only [go_sem,seval]
          rw [nameOk_bad hlt (by rw [hch];simp [chOk,letterB];omega)]
        · (simp only [go_sem,seval] <;> first|done|omega)
    · have A1:((97:Int) ≤ (u.toNat:Int)) = False:=eq_false (by omega)
      have A2:((u.toNat:Int) ≤ 122) = True:=eq_true (by omega)
      have A3:((65:Int) ≤ (u.toNat:Int)) = False:=eq_false (by omega)
      have A4:((u.toNat:Int) ≤ 90) = True:=eq_true (by omega)
      have A5:((u.toNat:Int) = 95) = False:=eq_false (by omega)
      have A6:((u.toNat:Int) < 48) = False:=eq_false (by omega)
      have A7:((57:Int) < (u.toNat:Int)) = False:=eq_false (by omega)
      by_cases hk0:k = 0
      · have B:((k:Int) = 0) = True:=eq_true (by omega)
        simp -implicitDefEqProofs (disch:=first|omega|(simp only [go_sem,seval,hlt,h1,A1,A2,A3,A4,A5,A6,A7,B];first|done|omega)) only [go_sem,seval,hlt,h1,A1,A2,A3,A4,A5,A6,A7,B]
        (first|refine post_fin ret_ok hM rfl ?_ ?_|refine post_fin0 ret_ok hM rfl ?_ ?_|refine post_fin normal_ok hM rfl ?_ ?_|refine post_fin0 normal_ok hM rfl ?_ ?_)
        · simp -implicitDefEqProofs (disch:=first|omega|(simp only [go_sem,seval];first|done|omega)) only [go_sem,seval]
          rw [nameOk_bad hlt (by rw [hch];simp [chOk,letterB];omega)]
        · (simp only [go_sem,seval] <;> first|done|omega)
      · have B:((k:Int) = 0) = False:=eq_false (by omega)
        simp -implicitDefEqProofs (disch:=first|omega|(simp only [go_sem,seval,hlt,h1,A1,A2,A3,A4,A5,A6,A7,B];first|done|omega)) only [go_sem,seval,hlt,h1,A1,A2,A3,A4,A5,A6,A7,B]
        exact again' (k + 1) ⟨by omega,inv (by simp [chOk,letterB];omega)⟩ (by omega) rfl rfl
    · have A1:((97:Int) ≤ (u.toNat:Int)) = False:=eq_false (by omega)
      have A2:((u.toNat:Int) ≤ 122) = True:=eq_true (by omega)
      have A3:((65:Int) ≤ (u.toNat:Int)) = False:=eq_false (by omega)
      have A4:((u.toNat:Int) ≤ 90) = True:=eq_true (by omega)
      have A5:((u.toNat:Int) = 95) = False:=eq_false (by omega)
      have A6:((u.toNat:Int) < 48) = False:=eq_false (by omega)
      have A7:((57:Int) < (u.toNat:Int)) = True:=eq_true (by omega)
      by_cases hk0:k = 0
      · have B:((k:Int) = 0) = True:=eq_true (by omega)
        simp -implicitDefEqProofs (disch:=first|omega|(simp only [go_sem,seval,hlt,h1,A1,A2,A3,A4,A5,A6,A7,B];first|done|omega)) only [go_sem,seval,hlt,h1,A1,A2,A3,A4,A5,A6,A7,B]
        (first|refine post_fin ret_ok hM rfl ?_ ?_|refine post_fin0 ret_ok hM rfl ?_ ?_|refine post_fin normal_ok hM rfl ?_ ?_|refine post_fin0 normal_ok hM rfl ?_ ?_)
        · simp -implicitDefEqProofs (disch:=first|omega|(simp only [go_sem,seval];first|done|omega)) only [go_sem,seval]
          rw [nameOk_bad hlt (by rw [hch];simp [chOk,letterB];omega)]
        · (simp only [go_sem,seval] <;> first|done|omega)
      · have B:((k:Int) = 0) = False:=eq_false (by omega)
        simp -implicitDefEqProofs (disch:=first|omega|(simp only [go_sem,seval,hlt,h1,A1,A2,A3,A4,A5,A6,A7,B];first|done|omega)) only [go_sem,seval,hlt,h1,A1,A2,A3,A4,A5,A6,A7,B]
        (first|refine post_fin ret_ok hM rfl ?_ ?_|refine post_fin0 ret_ok hM rfl ?_ ?_|refine post_fin normal_ok hM rfl ?_ ?_|refine post_fin0 normal_ok hM rfl ?_ ?_)
        · simp -implicitDefEqProofs (disch:=first|omega|(simp only [go_sem,seval];first|done|omega)) only [go_sem,seval]
          rw [nameOk_bad hlt (by rw [hch];simp [chOk,letterB];omega)]
        · (simp only [go_sem,seval] <;> first|done|omega)
    · have A1:((97:Int) ≤ (u.toNat:Int)) = False:=eq_false (by omega)
      have A2:((u.toNat:Int) ≤ 122) = True:=eq_true (by omega)
      have A3:((65:Int) ≤ (u.toNat:Int)) = True:=eq_true (by omega)
      have A4:((u.toNat:Int) ≤ 90) = True:=eq_true (by omega)
      have A5:((u.toNat:Int) = 95) = False:=eq_false (by omega)
      have A6:((u.toNat:Int) < 48) = False:=eq_false (by omega)
      have A7:((57:Int) < (u.toNat:Int)) = True:=eq_true (by omega)
      simp -implicitDefEqProofs (disch:=first|omega|(simp only [go_sem,seval,hlt,h1,A1,A2,A3,A4,A5,A6,A7];first|done|omega)) only [go_sem,seval,hlt,h1,A1,A2,A3,A4,A5,A6,A7]
      exact again' (k + 1) ⟨by omega,inv (by simp [chOk,letterB];omega)⟩ (by omega) rfl rfl
    · have A1:((97:Int) ≤ (u.toNat:Int)) = False:=eq_false (by omega)
      have A2:((u.toNat:Int) ≤ 122) = True:=eq_true (by omega)
      have A3:((65:Int) ≤ (u.toNat:Int)) = True:=eq_true (by omega)
      have A4:((u.toNat:Int) ≤ 90) = False:=eq_false (by omega)
      have A5:((u.toNat:Int) = 95) = False:=eq_false (by omega)
      have A6:((u.toNat:Int) < 48) = False:=eq_false (by omega)
      have A7:((57:Int) < (u.toNat:Int)) = True:=eq_true (by omega)
      by_cases hk0:k = 0
      · have B:((k:Int) = 0) = True:=eq_true (by omega)
        simp -implicitDefEqProofs (disch:=first|omega|(simp only [go_sem,seval,hlt,h1,A1,A2,A3,A4,A5,A6,A7,B];first|done|omega)) only [go_sem,seval,hlt,h1,A1,A2,A3,A4,A5,A6,A7,B]
        (first|refine post_fin ret_ok hM rfl ?_ ?_|refine post_fin0 ret_ok hM rfl ?_ ?_|refine post_fin normal_ok hM rfl ?_ ?_|refine post_fin0 normal_ok hM rfl ?_ ?_)
        · simp -implicitDefEqProofs (disch:=first|omega|(simp only [go_sem,seval];first|done|omega)) only [go_sem,seval]
          rw [nameOk_bad hlt (by rw [hch];simp [chOk,letterB];omega)]
        · (simp only [go_sem,seval] <;> first|done|omega)
      · have B:((k:Int) = 0) = False:=eq_false (by omega)
        simp -implicitDefEqProofs (disch:=first|omega|(simp only [go_sem,seval,hlt,h1,A1,A2,A3,A4,A5,A6,A7,B];first|done|omega)) only [go_sem,seval,hlt,h1,A1,A2,A3,A4,A5,A6,A7,B]
        (first|refine post_fin ret_ok hM rfl ?_ ?_|refine post_fin0 ret_ok hM rfl ?_ ?_|refine post_fin normal_ok hM rfl ?_ ?_|refine post_fin0 normal_ok hM rfl ?_ ?_)
        · simp -implicitDefEqProofs (disch:=first|omega|(simp only [go_sem,seval];first|done|omega)) only [go_sem,seval]
          rw [nameOk_bad hlt (by rw [hch];simp [chOk,letterB];omega)]
        · (simp only [go_sem,seval] <;> first|done|omega)
    · have A1:((97:Int) ≤ (u.toNat:Int)) = False:=eq_false (by omega)
      have A2:((u.toNat:Int) ≤ 122) = True:=eq_true (by omega)
      have A3:((65:Int) ≤ (u.toNat:Int)) = True:=eq_true (by omega)
      have A4:((u.toNat:Int) ≤ 90) = False:=eq_false (by omega)
      have A5:((u.toNat:Int) = 95) = True:=eq_true (by omega)
      have A6:((u.toNat:Int) < 48) = False:=eq_false (by omega)
      have A7:((57:Int) < (u.toNat:Int)) = True:=eq_true (by omega)
      by_cases hk0:k = 0
      · have B:((k:Int) = 0) = True:=eq_true (by omega)
        simp -implicitDefEqProofs (disch:=first|omega|(simp only [go_sem,seval,hlt,h1,A1,A2,A3,A4,A5,A6,A7,B];first|done|omega)) only [go_sem,seval,hlt,h1,A1,A2,A3,A4,A5,A6,A7,B]
        (first|refine post_fin ret_ok hM rfl ?_ ?_|refine post_fin0 ret_ok hM rfl ?_ ?_|refine post_fin normal_ok hM rfl ?_ ?_|refine post_fin0 normal_ok hM rfl ?_ ?_)
        · simp -implicitDefEqProofs (disch:=first|omega|(simp only [go_sem,seval];first|done|omega)) only [go_sem,seval]
          rw [nameOk_bad hlt (by rw [hch];simp [chOk,letterB];omega)]
        · (simp only [go_sem,seval] <;> first|done|omega)
      · have B:((k:Int) = 0) = False:=eq_false (by omega)
        simp -implicitDefEqProofs (disch:=first|omega|(simp only [go_sem,seval,hlt,h1,A1,A2,A3,A4,A5,A6,A7,B];first|done|omega)) only [go_sem,seval,hlt,h1,A1,A2,A3,A4,A5,A6,A7,B]
        exact again' (k + 1) ⟨by omega,inv (by simp [chOk,letterB];omega)⟩ (by omega) rfl rfl
    · have A1:((97:Int) ≤ (u.toNat:Int)) = False:=eq_false (by omega)
      have A2:((u.toNat:Int) ≤ 122) = True:=eq_true (by omega)
      have A3:((65:Int) ≤ (u.toNat:Int)) = True:=eq_true (by omega)
      have A4:((u.toNat:Int) ≤ 90) = False:=eq_false (by omega)
      have A5:((u.toNat:Int) = 95) = False:=eq_false (by omega)
      have A6:((u.toNat:Int) < 48) = False:=eq_false (by omega)
      have A7:((57:Int) < (u.toNat:Int)) = True:=eq_true (by omega)
      by_cases hk0:k = 0
      · have B:((k:Int) = 0) = True:=eq_true (by omega)
        simp -implicitDefEqProofs (disch:=first|omega|(simp only [go_sem,seval,hlt,h1,A1,A2,A3,A4,A5,A6,A7,B];first|done|omega)) only [go_sem,seval,hlt,h1,A1,A2,A3,A4,A5,A6,A7,B]
        (first|refine post_fin ret_ok hM rfl ?_ ?_|refine post_fin0 ret_ok hM rfl ?_ ?_|refine post_fin normal_ok hM rfl ?_ ?_|refine post_fin0 normal_ok hM rfl ?_ ?_)
        · simp -implicitDefEqProofs (disch:=first|omega|(simp only [go_sem,seval];first|done|omega)) only [go_sem,seval]
          rw [nameOk_bad hlt (by rw [hch];simp [chOk,letterB];omega)]
        · (simp only [go_sem,seval] <;> first|done|omega)
      · have B:((k:Int) = 0) = False:=eq_false (by omega)
        simp -implicitDefEqProofs (disch:=first|omega|(simp only [go_sem,seval,hlt,h1,A1,A2,A3,A4,A5,A6,A7,B];first|done|omega)) only [go_sem,seval,hlt,h1,A1,A2,A3,A4,A5,A6,A7,B]
        (first|refine post_fin ret_ok hM rfl ?_ ?_|refine post_fin0 ret_ok hM rfl ?_ ?_|refine post_fin normal_ok hM rfl ?_ ?_|refine post_fin0 normal_ok hM rfl ?_ ?_)
        · simp -implicitDefEqProofs (disch:=first|omega|(simp only [go_sem,seval];first|done|omega)) only [go_sem,seval]
          rw [nameOk_bad hlt (by rw [hch];simp [chOk,letterB];omega)]
        · (simp only [go_sem,seval] <;> first|done|omega)
    · have A1:((97:Int) ≤ (u.toNat:Int)) = True:=eq_true (by omega)
      have A2:((u.toNat:Int) ≤ 122) = True:=eq_true (by omega)
      have A3:((65:Int) ≤ (u.toNat:Int)) = True:=eq_true (by omega)
      have A4:((u.toNat:Int) ≤ 90) = False:=eq_false (by omega)
      have A5:((u.toNat:Int) = 95) = False:=eq_false (by omega)
      have A6:((u.toNat:Int) < 48) = False:=eq_false (by omega)
      have A7:((57:Int) < (u.toNat:Int)) = True:=eq_true (by omega)
      simp -implicitDefEqProofs (disch:=first|omega|(simp only [go_sem,seval,hlt,h1,A1,A2,A3,A4,A5,A6,A7];first|done|omega)) only [go_sem,seval,hlt,h1,A1,A2,A3,A4,A5,A6,A7]
      exact again' (k + 1) ⟨by omega,inv (by simp [chOk,letterB];omega)⟩ (by omega) rfl rfl
    · have A1:((97:Int) ≤ (u.toNat:Int)) = True:=eq_true (by omega)
      have A2:((u.toNat:Int) ≤ 122) = False:=eq_false (by omega)
      have A3:((65:Int) ≤ (u.toNat:Int)) = True:=eq_true (by omega)
      have A4:((u.toNat:Int) ≤ 90) = False:=eq_false (by omega)
      have A5:((u.toNat:Int) = 95) = False:=eq_false (by omega)
      have A6:((u.toNat:Int) < 48) = False:=eq_false (by omega)
      have A7:((57:Int) < (u.toNat:Int)) = True:=eq_true (by omega)
      by_cases hk0:k = 0
      · have B:((k:Int) = 0) = True:=eq_true (by omega)
        simp -implicitDefEqProofs (disch:=first|omega|(simp only [go_sem,seval,hlt,h1,A1,A2,A3,A4,A5,A6,A7,B];first|done|omega)) only [go_sem,seval,hlt,h1,A1,A2,A3,A4,A5,A6,A7,B]
        (first|refine post_fin ret_ok hM rfl ?_ ?_|refine post_fin0 ret_ok hM rfl ?_ ?_|refine post_fin normal_ok hM rfl ?_ ?_|refine post_fin0 normal_ok hM rfl ?_ ?_)
        · simp -implicitDefEqProofs (disch:=first|omega|(simp only [go_sem,seval];first|done|omega)) only [go_sem,seval]
          rw [nameOk_bad hlt (by rw [hch];simp [chOk,letterB];omega)]
        · (simp only [go_sem,seval] <;> first|done|omega)
      · have B:((k:Int) = 0) = False:=eq_false (by omega)
        simp -implicitDefEqProofs (disch:=first|omega|(simp only [go_sem,seval,hlt,h1,A1,A2,A3,A4,A5,A6,A7,B];first|done|omega)) only [go_sem,seval,hlt,h1,A1,A2,A3,A4,A5,A6,A7,B]
        (first|refine post_fin ret_ok hM rfl ?_ ?_|refine post_fin0 ret_ok hM rfl ?_ ?_|refine post_fin normal_ok hM rfl ?_ ?_|refine post_fin0 normal_ok hM rfl ?_ ?_)
        · simp -implicitDefEqProofs (disch:=first|omega|(simp only [go_sem,seval];first|done|omega)) only [go_sem,seval]
          rw [nameOk_bad hlt (by rw [hch];simp [chOk,letterB];omega)]
        · (simp only [go_sem,seval] <;> first|done|omega)
  · simp -implicitDefEqProofs (disch:=first|omega|(simp only [go_sem,seval,hlt];first|done|omega)) only [go_sem,seval,hlt]
    (first|refine post_fin ret_ok hM rfl ?_ ?_|refine post_fin0 ret_ok hM rfl ?_ ?_|refine post_fin normal_ok hM rfl ?_ ?_|refine post_fin0 normal_ok hM rfl ?_ ?_)
    · simp -implicitDefEqProofs (disch:=first|omega|(simp only [go_sem,seval];first|done|omega)) only [go_sem,seval]
      rw [nameOk_good h0 (by omega) (fun i hi => hs i (by omega))]
    · (simp only [go_sem,seval] <;> first|done|omega)
theorem q_site_IsName (s:ByteArray):Q X 88 [.s (.string s)] (.B (nameOk s)):=by
  intro M
  by_cases h24:24 < s.size
  · have f1:((24:Int) < s.size) = True:=eq_true (by omega)
    (refine ACall_fn (cf:=L5.c88) rfl rfl fun hM hA => ?_;simp only [L5.c88,zO,zF,zT];rw [mk1 _ (by decide)];simp -implicitDefEqProofs (disch:=first|omega|(simp only [go_sem,seval,f1];first|done|omega)) only [go_sem,seval,f1])
    (first|refine post_fin ret_ok hM rfl ?_ ?_|refine post_fin0 ret_ok hM rfl ?_ ?_|refine post_fin normal_ok hM rfl ?_ ?_|refine post_fin0 normal_ok hM rfl ?_ ?_)
    · simp -implicitDefEqProofs (disch:=first|omega|(simp only [go_sem,seval];first|done|omega)) only [go_sem,seval]
      rw [nameOk_long h24]
    · (simp only [go_sem,seval] <;> first|done|omega)
  have f1:((24:Int) < s.size) = False:=eq_false (by omega)
  (refine ACall_fn (cf:=L5.c88) rfl rfl fun hM hA => ?_;simp only [L5.c88,zO,zF,zT];rw [mk1 _ (by decide)];simp -implicitDefEqProofs (disch:=first|omega|(simp only [go_sem,seval,f1];first|done|omega)) only [go_sem,seval,f1])
  refine loop_mk (α:=Nat) 0 (fun k => k ≤ s.size ∧ ∀ i,i < k → chOk i (chAt s i) = true) (fun k => M ++ [.siter s k]) (fun k => [(0,.s (.string s)),(10,.oi M.length)]) (fun k => s.size - k) ⟨Nat.zero_le _,fun i h => absurd h (by omega)⟩ rfl rfl ?_
  rintro k ⟨hk,hs⟩
  by_cases hlt:k < s.size
  · obtain ⟨u,h1⟩:=get_some hlt
    have hch:=chAt_some h1
    have inv:chOk k u.toNat = true → ∀ i,i < k + 1 → chOk i (chAt s i) = true:=by
      intro hx i hi
      rcases Nat.lt_or_ge i k with h|h
      · exact hs i h
      · have:i = k:=by omega
        subst this;rw [hch];exact hx
    by_cases hu:u.toNat < 128
    · have d1:(Utf8.decode s k).1 = u.toNat:=by rw [dec_lo h1 hu]
      have d2:(Utf8.decode s k).2 = 1:=by rw [dec_lo h1 hu]
      rcases (by omega:(u.toNat < 48) ∨ (48 ≤ u.toNat ∧ u.toNat ≤ 57) ∨ (57 < u.toNat ∧ u.toNat < 65) ∨ (65 ≤ u.toNat ∧ u.toNat ≤ 90) ∨ (90 < u.toNat ∧ u.toNat < 95) ∨ (u.toNat = 95) ∨ (u.toNat = 96) ∨ (97 ≤ u.toNat ∧ u.toNat ≤ 122) ∨ (122 < u.toNat)) with hc|hc|hc|hc|hc|hc|hc|hc|hc
      · have A1:((97:Int) ≤ (u.toNat:Int)) = False:=eq_false (by omega)
        have A2:((u.toNat:Int) ≤ 122) = True:=eq_true (by omega)
        have A3:((65:Int) ≤ (u.toNat:Int)) = False:=eq_false (by omega)
        have A4:((u.toNat:Int) ≤ 90) = True:=eq_true (by omega)
        have A5:((u.toNat:Int) = 95) = False:=eq_false (by omega)
        have A6:((u.toNat:Int) < 48) = True:=eq_true (by omega)
        have A7:((57:Int) < (u.toNat:Int)) = False:=eq_false (by omega)
        by_cases hk0:k = 0
        · have B:((k:Int) = 0) = True:=eq_true (by omega)
          simp -implicitDefEqProofs (disch:=first|omega|(simp only [go_sem,seval,hlt,h1,A1,A2,A3,A4,A5,A6,A7,B,d1,d2];first|done|omega)) only [go_sem,seval,hlt,h1,A1,A2,A3,A4,A5,A6,A7,B,d1,d2]
          (first|refine post_fin ret_ok hM rfl ?_ ?_|refine post_fin0 ret_ok hM rfl ?_ ?_|refine post_fin normal_ok hM rfl ?_ ?_|refine post_fin0 normal_ok hM rfl ?_ ?_)
          · simp -implicitDefEqProofs (disch:=first|omega|(simp only [go_sem,seval];first|done|omega)) only [go_sem,seval]
            rw [nameOk_bad hlt (by rw [hch];simp [chOk,letterB];omega)]
          · (simp only [go_sem,seval] <;> first|done|omega)
        · have B:((k:Int) = 0) = False:=eq_false (by omega)
          simp -implicitDefEqProofs (disch:=first|omega|(simp only [go_sem,seval,hlt,h1,A1,A2,A3,A4,A5,A6,A7,B,d1,d2];first|done|omega)) only [go_sem,seval,hlt,h1,A1,A2,A3,A4,A5,A6,A7,B,d1,d2]
          (first|refine post_fin ret_ok hM rfl ?_ ?_|refine post_fin0 ret_ok hM rfl ?_ ?_|refine post_fin normal_ok hM rfl ?_ ?_|refine post_fin0 normal_ok hM rfl ?_ ?_)
          · simp -implicitDefEqProofs (disch:=first|omega|(simp only [go_sem,seval];first|done|omega)) only [go_sem,seval]
            rw [nameOk_bad hlt (by rw [hch];simp [chOk,letterB];omega)]
          · (simp only [go_sem,seval] <;> first|done|omega)
      · have A1:((97:Int) ≤ (u.toNat:Int)) = False:=eq_false (by omega)
        have A2:((u.toNat:Int) ≤ 122) = True:=eq_true (by omega)
        have A3:((65:Int) ≤ (u.toNat:Int)) = False:=eq_false (by omega)
        have A4:((u.toNat:Int) ≤ 90) = True:=eq_true (by omega)
        have A5:((u.toNat:Int) = 95) = False:=eq_false (by omega)
        have A6:((u.toNat:Int) < 48) = False:=eq_false (by omega)
        have A7:((57:Int) < (u.toNat:Int)) = False:=eq_false (by omega)
        by_cases hk0:k = 0
        · have B:((k:Int) = 0) = True:=eq_true (by omega)
          simp -implicitDefEqProofs (disch:=first|omega|(simp only [go_sem,seval,hlt,h1,A1,A2,A3,A4,A5,A6,A7,B,d1,d2];first|done|omega)) only [go_sem,seval,hlt,h1,A1,A2,A3,A4,A5,A6,A7,B,d1,d2]
          (first|refine post_fin ret_ok hM rfl ?_ ?_|refine post_fin0 ret_ok hM rfl ?_ ?_|refine post_fin normal_ok hM rfl ?_ ?_|refine post_fin0 normal_ok hM rfl ?_ ?_)
          · simp -implicitDefEqProofs (disch:=first|omega|(simp only [go_sem,seval];first|done|omega)) only [go_sem,seval]
            rw [nameOk_bad hlt (by rw [hch];simp [chOk,letterB];omega)]
          · (simp only [go_sem,seval] <;> first|done|omega)
        · have B:((k:Int) = 0) = False:=eq_false (by omega)
          simp -implicitDefEqProofs (disch:=first|omega|(simp only [go_sem,seval,hlt,h1,A1,A2,A3,A4,A5,A6,A7,B,d1,d2];first|done|omega)) only [go_sem,seval,hlt,h1,A1,A2,A3,A4,A5,A6,A7,B,d1,d2]
          exact again' (k + 1) ⟨by omega,inv (by simp [chOk,letterB];omega)⟩ (by omega) rfl rfl
      · have A1:((97:Int) ≤ (u.toNat:Int)) = False:=eq_false (by omega)
        have A2:((u.toNat:Int) ≤ 122) = True:=eq_true (by omega)
        have A3:((65:Int) ≤ (u.toNat:Int)) = False:=eq_false (by omega)
        have A4:((u.toNat:Int) ≤ 90) = True:=eq_true (by omega)
        have A5:((u.toNat:Int) = 95) = False:=eq_false (by omega)
        have A6:((u.toNat:Int) < 48) = False:=eq_false (by omega)
        have A7:((57:Int) < (u.toNat:Int)) = True:=eq_true (by omega)
        by_cases hk0:k = 0
        · have B:((k:Int) = 0) = True:=eq_true (by omega)
          simp -implicitDefEqProofs (disch:=first|omega|(simp only [go_sem,seval,hlt,h1,A1,A2,A3,A4,A5,A6,A7,B,d1,d2];first|done|omega)) only [go_sem,seval,hlt,h1,A1,A2,A3,A4,A5,A6,A7,B,d1,d2]
          (first|refine post_fin ret_ok hM rfl ?_ ?_|refine post_fin0 ret_ok hM rfl ?_ ?_|refine post_fin normal_ok hM rfl ?_ ?_|refine post_fin0 normal_ok hM rfl ?_ ?_)
          · simp -implicitDefEqProofs (disch:=first|omega|(simp only [go_sem,seval];first|done|omega)) only [go_sem,seval]
            rw [nameOk_bad hlt (by rw [hch];simp [chOk,letterB];omega)]
          · (simp only [go_sem,seval] <;> first|done|omega)
        · have B:((k:Int) = 0) = False:=eq_false (by omega)
          simp -implicitDefEqProofs (disch:=first|omega|(simp only [go_sem,seval,hlt,h1,A1,A2,A3,A4,A5,A6,A7,B,d1,d2];first|done|omega)) only [go_sem,seval,hlt,h1,A1,A2,A3,A4,A5,A6,A7,B,d1,d2]
          (first|refine post_fin ret_ok hM rfl ?_ ?_|refine post_fin0 ret_ok hM rfl ?_ ?_|refine post_fin normal_ok hM rfl ?_ ?_|refine post_fin0 normal_ok hM rfl ?_ ?_)
          · simp -implicitDefEqProofs (disch:=first|omega|(simp only [go_sem,seval];first|done|omega)) only [go_sem,seval]
            rw [nameOk_bad hlt (by rw [hch];simp [chOk,letterB];omega)]
          · (simp only [go_sem,seval] <;> first|done|omega)
      · have A1:((97:Int) ≤ (u.toNat:Int)) = False:=eq_false (by omega)
        have A2:((u.toNat:Int) ≤ 122) = True:=eq_true (by omega)
        have A3:((65:Int) ≤ (u.toNat:Int)) = True:=eq_true (by omega)
        have A4:((u.toNat:Int) ≤ 90) = True:=eq_true (by omega)
        have A5:((u.toNat:Int) = 95) = False:=eq_false (by omega)
        have A6:((u.toNat:Int) < 48) = False:=eq_false (by omega)
        have A7:((57:Int) < (u.toNat:Int)) = True:=eq_true (by omega)
        simp -implicitDefEqProofs (disch:=first|omega|(simp only [go_sem,seval,hlt,h1,A1,A2,A3,A4,A5,A6,A7,d1,d2];first|done|omega)) only [go_sem,seval,hlt,h1,A1,A2,A3,A4,A5,A6,A7,d1,d2]
        exact again' (k + 1) ⟨by omega,inv (by simp [chOk,letterB];omega)⟩ (by omega) rfl rfl
      · have A1:((97:Int) ≤ (u.toNat:Int)) = False:=eq_false (by omega)
        have A2:((u.toNat:Int) ≤ 122) = True:=eq_true (by omega)
        have A3:((65:Int) ≤ (u.toNat:Int)) = True:=eq_true (by omega)
        have A4:((u.toNat:Int) ≤ 90) = False:=eq_false (by omega)
        have A5:((u.toNat:Int) = 95) = False:=eq_false (by omega)
        have A6:((u.toNat:Int) < 48) = False:=eq_false (by omega)
        have A7:((57:Int) < (u.toNat:Int)) = True:=eq_true (by omega)
        by_cases hk0:k = 0
        · have B:((k:Int) = 0) = True:=eq_true (by omega)
          simp -implicitDefEqProofs (disch:=first|omega|(simp only [go_sem,seval,hlt,h1,A1,A2,A3,A4,A5,A6,A7,B,d1,d2];first|done|omega)) only [go_sem,seval,hlt,h1,A1,A2,A3,A4,A5,A6,A7,B,d1,d2]
          (first|refine post_fin ret_ok hM rfl ?_ ?_|refine post_fin0 ret_ok hM rfl ?_ ?_|refine post_fin normal_ok hM rfl ?_ ?_|refine post_fin0 normal_ok hM rfl ?_ ?_)
          · simp -implicitDefEqProofs (disch:=first|omega|(simp only [go_sem,seval];first|done|omega)) only [go_sem,seval]
            rw [nameOk_bad hlt (by rw [hch];simp [chOk,letterB];omega)]
          · (simp only [go_sem,seval] <;> first|done|omega)
        · have B:((k:Int) = 0) = False:=eq_false (by omega)
          simp -implicitDefEqProofs (disch:=first|omega|(simp only [go_sem,seval,hlt,h1,A1,A2,A3,A4,A5,A6,A7,B,d1,d2];first|done|omega)) only [go_sem,seval,hlt,h1,A1,A2,A3,A4,A5,A6,A7,B,d1,d2]
          (first|refine post_fin ret_ok hM rfl ?_ ?_|refine post_fin0 ret_ok hM rfl ?_ ?_|refine post_fin normal_ok hM rfl ?_ ?_|refine post_fin0 normal_ok hM rfl ?_ ?_)
          · simp -implicitDefEqProofs (disch:=first|omega|(simp only [go_sem,seval];first|done|omega)) only [go_sem,seval]
            rw [nameOk_bad hlt (by rw [hch];simp [chOk,letterB];omega)]
          · (simp only [go_sem,seval] <;> first|done|omega)
      · have A1:((97:Int) ≤ (u.toNat:Int)) = False:=eq_false (by omega)
        have A2:((u.toNat:Int) ≤ 122) = True:=eq_true (by omega)
        have A3:((65:Int) ≤ (u.toNat:Int)) = True:=eq_true (by omega)
        have A4:((u.toNat:Int) ≤ 90) = False:=eq_false (by omega)
        have A5:((u.toNat:Int) = 95) = True:=eq_true (by omega)
        have A6:((u.toNat:Int) < 48) = False:=eq_false (by omega)
        have A7:((57:Int) < (u.toNat:Int)) = True:=eq_true (by omega)
        by_cases hk0:k = 0
        · have B:((k:Int) = 0) = True:=eq_true (by omega)
          simp -implicitDefEqProofs (disch:=first|omega|(simp only [go_sem,seval,hlt,h1,A1,A2,A3,A4,A5,A6,A7,B,d1,d2];first|done|omega)) only [go_sem,seval,hlt,h1,A1,A2,A3,A4,A5,A6,A7,B,d1,d2]
          (first|refine post_fin ret_ok hM rfl ?_ ?_|refine post_fin0 ret_ok hM rfl ?_ ?_|refine post_fin normal_ok hM rfl ?_ ?_|refine post_fin0 normal_ok hM rfl ?_ ?_)
          · simp -implicitDefEqProofs (disch:=first|omega|(simp only [go_sem,seval];first|done|omega)) only [go_sem,seval]
            rw [nameOk_bad hlt (by rw [hch];simp [chOk,letterB];omega)]
          · (simp only [go_sem,seval] <;> first|done|omega)
        · have B:((k:Int) = 0) = False:=eq_false (by omega)
          simp -implicitDefEqProofs (disch:=first|omega|(simp only [go_sem,seval,hlt,h1,A1,A2,A3,A4,A5,A6,A7,B,d1,d2];first|done|omega)) only [go_sem,seval,hlt,h1,A1,A2,A3,A4,A5,A6,A7,B,d1,d2]
          exact again' (k + 1) ⟨by omega,inv (by simp [chOk,letterB];omega)⟩ (by omega) rfl rfl
      · have A1:((97:Int) ≤ (u.toNat:Int)) = False:=eq_false (by omega)
        have A2:((u.toNat:Int) ≤ 122) = True:=eq_true (by omega)
        have A3:((65:Int) ≤ (u.toNat:Int)) = True:=eq_true (by omega)
        have A4:((u.toNat:Int) ≤ 90) = False:=eq_false (by omega)
        have A5:((u.toNat:Int) = 95) = False:=eq_false (by omega)
        have A6:((u.toNat:Int) < 48) = False:=eq_false (by omega)
        have A7:((57:Int) < (u.toNat:Int)) = True:=eq_true (by omega)
        by_cases hk0:k = 0
        · have B:((k:Int) = 0) = True:=eq_true (by omega)
          simp -implicitDefEqProofs (disch:=first|omega|(simp only [go_sem,seval,hlt,h1,A1,A2,A3,A4,A5,A6,A7,B,d1,d2];first|done|omega)) only [go_sem,seval,hlt,h1,A1,A2,A3,A4,A5,A6,A7,B,d1,d2]
          (first|refine post_fin ret_ok hM rfl ?_ ?_|refine post_fin0 ret_ok hM rfl ?_ ?_|refine post_fin normal_ok hM rfl ?_ ?_|refine post_fin0 normal_ok hM rfl ?_ ?_)
          · simp -implicitDefEqProofs (disch:=first|omega|(simp only [go_sem,seval];first|done|omega)) only [go_sem,seval]
            rw [nameOk_bad hlt (by rw [hch];simp [chOk,letterB];omega)]
          · (simp only [go_sem,seval] <;> first|done|omega)
        · have B:((k:Int) = 0) = False:=eq_false (by omega)
          simp -implicitDefEqProofs (disch:=first|omega|(simp only [go_sem,seval,hlt,h1,A1,A2,A3,A4,A5,A6,A7,B,d1,d2];first|done|omega)) only [go_sem,seval,hlt,h1,A1,A2,A3,A4,A5,A6,A7,B,d1,d2]
          (first|refine post_fin ret_ok hM rfl ?_ ?_|refine post_fin0 ret_ok hM rfl ?_ ?_|refine post_fin normal_ok hM rfl ?_ ?_|refine post_fin0 normal_ok hM rfl ?_ ?_)
          · simp -implicitDefEqProofs (disch:=first|omega|(simp only [go_sem,seval];first|done|omega)) only [go_sem,seval]
            rw [nameOk_bad hlt (by rw [hch];simp [chOk,letterB];omega)]
          · (simp only [go_sem,seval] <;> first|done|omega)
      · have A1:((97:Int) ≤ (u.toNat:Int)) = True:=eq_true (by omega)
        have A2:((u.toNat:Int) ≤ 122) = True:=eq_true (by omega)
        have A3:((65:Int) ≤ (u.toNat:Int)) = True:=eq_true (by omega)
        have A4:((u.toNat:Int) ≤ 90) = False:=eq_false (by omega)
        have A5:((u.toNat:Int) = 95) = False:=eq_false (by omega)
        have A6:((u.toNat:Int) < 48) = False:=eq_false (by omega)
        have A7:((57:Int) < (u.toNat:Int)) = True:=eq_true (by omega)
        simp -implicitDefEqProofs (disch:=first|omega|(simp only [go_sem,seval,hlt,h1,A1,A2,A3,A4,A5,A6,A7,d1,d2];first|done|omega)) only [go_sem,seval,hlt,h1,A1,A2,A3,A4,A5,A6,A7,d1,d2]
        exact again' (k + 1) ⟨by omega,inv (by simp [chOk,letterB];omega)⟩ (by omega) rfl rfl
      · have A1:((97:Int) ≤ (u.toNat:Int)) = True:=eq_true (by omega)
        have A2:((u.toNat:Int) ≤ 122) = False:=eq_false (by omega)
        have A3:((65:Int) ≤ (u.toNat:Int)) = True:=eq_true (by omega)
        have A4:((u.toNat:Int) ≤ 90) = False:=eq_false (by omega)
        have A5:((u.toNat:Int) = 95) = False:=eq_false (by omega)
        have A6:((u.toNat:Int) < 48) = False:=eq_false (by omega)
        have A7:((57:Int) < (u.toNat:Int)) = True:=eq_true (by omega)
        by_cases hk0:k = 0
        · have B:((k:Int) = 0) = True:=eq_true (by omega)
          simp -implicitDefEqProofs (disch:=first|omega|(simp only [go_sem,seval,hlt,h1,A1,A2,A3,A4,A5,A6,A7,B,d1,d2];first|done|omega)) only [go_sem,seval,hlt,h1,A1,A2,A3,A4,A5,A6,A7,B,d1,d2]
          (first|refine post_fin ret_ok hM rfl ?_ ?_|refine post_fin0 ret_ok hM rfl ?_ ?_|refine post_fin normal_ok hM rfl ?_ ?_|refine post_fin0 normal_ok hM rfl ?_ ?_)
          · simp -implicitDefEqProofs (disch:=first|omega|(simp only [go_sem,seval];first|done|omega)) only [go_sem,seval]
            rw [nameOk_bad hlt (by rw [hch];simp [chOk,letterB];omega)]
          · (simp only [go_sem,seval] <;> first|done|omega)
        · have B:((k:Int) = 0) = False:=eq_false (by omega)
          simp -implicitDefEqProofs (disch:=first|omega|(simp only [go_sem,seval,hlt,h1,A1,A2,A3,A4,A5,A6,A7,B,d1,d2];first|done|omega)) only [go_sem,seval,hlt,h1,A1,A2,A3,A4,A5,A6,A7,B,d1,d2]
          (first|refine post_fin ret_ok hM rfl ?_ ?_|refine post_fin0 ret_ok hM rfl ?_ ?_|refine post_fin normal_ok hM rfl ?_ ?_|refine post_fin0 normal_ok hM rfl ?_ ?_)
          · simp -implicitDefEqProofs (disch:=first|omega|(simp only [go_sem,seval];first|done|omega)) only [go_sem,seval]
            rw [nameOk_bad hlt (by rw [hch];simp [chOk,letterB];omega)]
          · (simp only [go_sem,seval] <;> first|done|omega)
    · have hr:=dec_hi h1 hu
      have A1:((97:Int) ≤ ((Utf8.decode s k).1:Int)) = True:=eq_true (by omega)
      have A2:(((Utf8.decode s k).1:Int) ≤ 122) = False:=eq_false (by omega)
      have A3:((65:Int) ≤ ((Utf8.decode s k).1:Int)) = True:=eq_true (by omega)
      have A4:(((Utf8.decode s k).1:Int) ≤ 90) = False:=eq_false (by omega)
      have A5:(((Utf8.decode s k).1:Int) = 95) = False:=eq_false (by omega)
      have A6:(((Utf8.decode s k).1:Int) < 48) = False:=eq_false (by omega)
      have A7:((57:Int) < ((Utf8.decode s k).1:Int)) = True:=eq_true (by omega)
      by_cases hk0:k = 0
      · have B:((k:Int) = 0) = True:=eq_true (by omega)
        simp -implicitDefEqProofs (disch:=first|omega|(simp only [go_sem,seval,hlt,A1,A2,A3,A4,A5,A6,A7,B];first|done|omega)) only [go_sem,seval,hlt,A1,A2,A3,A4,A5,A6,A7,B]
        (first|refine post_fin ret_ok hM rfl ?_ ?_|refine post_fin0 ret_ok hM rfl ?_ ?_|refine post_fin normal_ok hM rfl ?_ ?_|refine post_fin0 normal_ok hM rfl ?_ ?_)
        · simp -implicitDefEqProofs (disch:=first|omega|(simp only [go_sem,seval];first|done|omega)) only [go_sem,seval]
          rw [nameOk_bad hlt (by rw [hch];simp [chOk,letterB];omega)]
        · (simp only [go_sem,seval] <;> first|done|omega)
      · have B:((k:Int) = 0) = False:=eq_false (by omega)
        simp -implicitDefEqProofs (disch:=first|omega|(simp only [go_sem,seval,hlt,A1,A2,A3,A4,A5,A6,A7,B];first|done|omega)) only [go_sem,seval,hlt,A1,A2,A3,A4,A5,A6,A7,B]
        (first|refine post_fin ret_ok hM rfl ?_ ?_|refine post_fin0 ret_ok hM rfl ?_ ?_|refine post_fin normal_ok hM rfl ?_ ?_|refine post_fin0 normal_ok hM rfl ?_ ?_)
        · simp -implicitDefEqProofs (disch:=first|omega|(simp only [go_sem,seval];first|done|omega)) only [go_sem,seval]
          rw [nameOk_bad hlt (by rw [hch];simp [chOk,letterB];omega)]
        · (simp only [go_sem,seval] <;> first|done|omega)
  · simp -implicitDefEqProofs (disch:=first|omega|(simp only [go_sem,seval,hlt,bin_neq_empty];first|done|omega)) only [go_sem,seval,hlt,bin_neq_empty]
    (first|refine post_fin ret_ok hM rfl ?_ ?_|refine post_fin0 ret_ok hM rfl ?_ ?_|refine post_fin normal_ok hM rfl ?_ ?_|refine post_fin0 normal_ok hM rfl ?_ ?_)
    · simp -implicitDefEqProofs (disch:=first|omega|(simp only [go_sem,seval];first|done|omega)) only [go_sem,seval]
      by_cases h0:s.size = 0
      · rw [nameOk_zero h0];simp [h0]
      · rw [nameOk_good h0 (by omega) (fun i hi => hs i (by omega))];simp [h0]
    · (simp only [go_sem,seval] <;> first|done|omega)
end
end Go.Nac.L5
namespace Go.Nac.L5
attribute [local congr] b1_congr b2_congr Wp_congr wpOps_congr thenK_congr blockK_congr gK_congr cK_congr
section
variable {X:XRel}
open Ieee
def FloorX (X:XRel):Prop:=∀ (x:Nat) (s:Bool) (m:Nat) (l:Int) (M:List Blk),double.read x = .number s m l → X 101 [.s (.float .f64 x)] M (.s (.float .f64 (double.write ((double.read x).integral .down)))) M
theorem q_site_when (b:Bool) (e:Int):Q X 41 [.B b,.I e] (.I (if b = true then e else 0)):=by
  intro M
  (refine ACall_fn (cf:=L5.c41) rfl rfl fun hM hA => ?_;simp only [L5.c41,zO,zF,zT];rw [mk2 _ (by decide)];simp -implicitDefEqProofs (disch:=first|omega|(simp only [go_sem,seval];first|done|omega)) only [go_sem,seval])
  repeat' (first|(refine cK_cases ?_ ?_ <;> intro hc <;> (try simp only [decide_eq_true_eq,decide_eq_false_iff_not,Classical.not_not,Bool.not_eq_true,Bool.not_eq_true',Bool.not_eq_false',Bool.false_or,Bool.or_false,Bool.true_or,Bool.or_true,Bool.false_and,Bool.and_false,Bool.true_and,Bool.and_true] at hc) <;> (try simp -implicitDefEqProofs (disch:=first|omega|(simp only [go_sem,seval,hc];first|done|omega)) only [go_sem,seval,hc]))|(refine gK_cases ?_ ?_ <;> intro hc <;> (try simp only [decide_eq_true_eq,decide_eq_false_iff_not,Classical.not_not,Bool.not_eq_true,Bool.not_eq_true',Bool.not_eq_false',Bool.false_or,Bool.or_false,Bool.true_or,Bool.or_true,Bool.false_and,Bool.and_false,Bool.true_and,Bool.and_true] at hc) <;> (try simp -implicitDefEqProofs (disch:=first|omega|(simp only [go_sem,seval,hc];first|done|omega)) only [go_sem,seval,hc])))
  (all_goals (first|refine post_fin ret_ok hM rfl ?_ ?_|refine post_fin0 ret_ok hM rfl ?_ ?_|refine post_fin normal_ok hM rfl ?_ ?_|refine post_fin0 normal_ok hM rfl ?_ ?_);all_goals first|(simp only [go_sem,seval] <;> first|done|omega)|skip;all_goals (try simp -implicitDefEqProofs (disch:=first|omega|(simp only [go_sem,seval];first|done|omega)) only [go_sem,seval]))
theorem q_site_within (n a b:Int):Q X 48 [.I n,.I a,.I b] (.I (rng n a b)):=by
  intro M
  (refine ACall_fn (cf:=L5.c48) rfl rfl fun hM hA => ?_;simp only [L5.c48,zO,zF,zT];rw [mk3 _ (by decide)];simp -implicitDefEqProofs (disch:=first|omega|(simp only [go_sem,seval];first|done|omega)) only [go_sem,seval])
  repeat' (first|(refine callP_q (q_site_when _ _ _) ?_;(try simp -implicitDefEqProofs (disch:=first|omega|(simp only [go_sem,seval];first|done|omega)) only [go_sem,seval]))|(refine cK_cases ?_ ?_ <;> intro hc <;> (try simp only [decide_eq_true_eq,decide_eq_false_iff_not,Classical.not_not,Bool.not_eq_true,Bool.not_eq_true',Bool.not_eq_false',Bool.false_or,Bool.or_false,Bool.true_or,Bool.or_true,Bool.false_and,Bool.and_false,Bool.true_and,Bool.and_true] at hc) <;> (try simp -implicitDefEqProofs (disch:=first|omega|(simp only [go_sem,seval,hc];first|done|omega)) only [go_sem,seval,hc]))|(refine gK_cases ?_ ?_ <;> intro hc <;> (try simp only [decide_eq_true_eq,decide_eq_false_iff_not,Classical.not_not,Bool.not_eq_true,Bool.not_eq_true',Bool.not_eq_false',Bool.false_or,Bool.or_false,Bool.true_or,Bool.or_true,Bool.false_and,Bool.and_false,Bool.true_and,Bool.and_true] at hc) <;> (try simp -implicitDefEqProofs (disch:=first|omega|(simp only [go_sem,seval,hc];first|done|omega)) only [go_sem,seval,hc])))
  (all_goals (first|refine post_fin ret_ok hM rfl ?_ ?_|refine post_fin0 ret_ok hM rfl ?_ ?_|refine post_fin normal_ok hM rfl ?_ ?_|refine post_fin0 normal_ok hM rfl ?_ ?_);all_goals first|(simp only [go_sem,seval] <;> first|done|omega)|skip;all_goals (try simp -implicitDefEqProofs (disch:=first|omega|(simp only [go_sem,seval];first|done|omega)) only [go_sem,seval]))
  all_goals simp [rng, *]
section
variable {x:Nat} {s:Bool} {m:Nat} {e:Int}
theorem q_site_units (hr:single.read x = .number s m e) (hb:-9223372036854775808 ≤ fTr s m (e + 4) ∧ fTr s m (e + 4) ≤ 9223372036854775807):Q X 74 [encF x] (.I (fTr s m (e + 4))):=by
  intro M
  obtain ⟨b1,b2,b3⟩:=read_single hr
  have F1:=s_ff hr
  have F2:=s_mul' (s:=s) b1 (show -1074 ≤ e by omega) (show e ≤ 966 by omega)
  have F3:=s_fi (s:=s) b1 (show -1070 ≤ e + 4 by omega) (show e + 4 ≤ 966 by omega) hb
  (refine ACall_fn (cf:=L5.c74) rfl rfl fun hM hA => ?_;simp only [L5.c74,zO,zF,zT];rw [mk1 _ (by decide)];simp -implicitDefEqProofs (disch:=first|omega|(simp only [go_sem,seval,F1,F2,F3];first|done|omega)) only [go_sem,seval,F1,F2,F3])
  (all_goals (first|refine post_fin ret_ok hM rfl ?_ ?_|refine post_fin0 ret_ok hM rfl ?_ ?_|refine post_fin normal_ok hM rfl ?_ ?_|refine post_fin0 normal_ok hM rfl ?_ ?_);all_goals first|(simp only [go_sem,seval] <;> first|done|omega)|skip;all_goals (try simp -implicitDefEqProofs (disch:=first|omega|(simp only [go_sem,seval];first|done|omega)) only [go_sem,seval]))
theorem tr_small (h0:-1100 ≤ e + 4) (h1:¬ fV s m (e + 4) < fV true 32768 0) (h2:¬ fV false 32768 0 < fV s m (e + 4)):(fTr s m (e + 4)).natAbs ≤ 32768:=by
  rw [natAbs_fTr];exact (fV_le h0 h1 h2).1
theorem q_site_CheckSample (x:Nat):Q X 47 [encF x] (.I (smpE x)):=by
  intro M
  cases hr:single.read x with
  | nan s t =>
    have F1:=s_ff_nan hr
    (refine ACall_fn (cf:=L5.c47) rfl rfl fun hM hA => ?_;simp only [L5.c47,zO,zF,zT];rw [mk1 _ (by decide)];simp -implicitDefEqProofs (disch:=first|omega|(simp only [go_sem,seval,F1,s_nan_sub,s_nan_neq];first|done|omega)) only [go_sem,seval,F1,s_nan_sub,s_nan_neq])
    (first|refine post_fin ret_ok hM rfl ?_ ?_|refine post_fin0 ret_ok hM rfl ?_ ?_|refine post_fin normal_ok hM rfl ?_ ?_|refine post_fin0 normal_ok hM rfl ?_ ?_)
    · simp -implicitDefEqProofs (disch:=first|omega|(simp only [go_sem,seval];first|done|omega)) only [go_sem,seval]
      unfold smpE;rw [hr]
    · (simp only [go_sem,seval] <;> first|done|omega)
  | infinity s =>
    have F1:=s_ff_inf hr
    have F2:=s_inf_sub s
    (refine ACall_fn (cf:=L5.c47) rfl rfl fun hM hA => ?_;simp only [L5.c47,zO,zF,zT];rw [mk1 _ (by decide)];simp -implicitDefEqProofs (disch:=first|omega|(simp only [go_sem,seval,F1,F2,s_nan_neq];first|done|omega)) only [go_sem,seval,F1,F2,s_nan_neq])
    (first|refine post_fin ret_ok hM rfl ?_ ?_|refine post_fin0 ret_ok hM rfl ?_ ?_|refine post_fin normal_ok hM rfl ?_ ?_|refine post_fin0 normal_ok hM rfl ?_ ?_)
    · simp -implicitDefEqProofs (disch:=first|omega|(simp only [go_sem,seval];first|done|omega)) only [go_sem,seval]
      unfold smpE;rw [hr]
    · (simp only [go_sem,seval] <;> first|done|omega)
  | number s m e =>
    obtain ⟨b1,b2,b3⟩:=read_single hr
    have F1:=s_ff hr
    have F2:=s_sub (s:=s) b1 (show -1074 ≤ e by omega) (show e ≤ 970 by omega)
    have F3:=s_lo' (s:=s) b1 (show -1070 ≤ e by omega) (show e ≤ 966 by omega)
    have F4:=s_hi' (s:=s) b1 (show -1070 ≤ e by omega) (show e ≤ 966 by omega)
    have F5:=s_mul' (s:=s) b1 (show -1074 ≤ e by omega) (show e ≤ 966 by omega)
    have hE:smpE x = if fV s m (e + 4) < fV true 32768 0 ∨ fV false 32768 0 < fV s m (e + 4) ∨ fWhole s m (e + 4) = false then 3 else 0:=by unfold smpE;rw [hr]
    by_cases h1:fV s m (e + 4) < fV true 32768 0
    · have G1:=eq_true h1
      (refine ACall_fn (cf:=L5.c47) rfl rfl fun hM hA => ?_;simp only [L5.c47,zO,zF,zT];rw [mk1 _ (by decide)];simp -implicitDefEqProofs (disch:=first|omega|(simp only [go_sem,seval,F1,F2,s_neq0,F3,G1];first|done|omega)) only [go_sem,seval,F1,F2,s_neq0,F3,G1])
      (first|refine post_fin ret_ok hM rfl ?_ ?_|refine post_fin0 ret_ok hM rfl ?_ ?_|refine post_fin normal_ok hM rfl ?_ ?_|refine post_fin0 normal_ok hM rfl ?_ ?_)
      · simp -implicitDefEqProofs (disch:=first|omega|(simp only [go_sem,seval];first|done|omega)) only [go_sem,seval]
        rw [hE,if_pos (.inl h1)]
      · (simp only [go_sem,seval] <;> first|done|omega)
    have G1:=eq_false h1
    by_cases h2:fV false 32768 0 < fV s m (e + 4)
    · have G2:=eq_true h2
      (refine ACall_fn (cf:=L5.c47) rfl rfl fun hM hA => ?_;simp only [L5.c47,zO,zF,zT];rw [mk1 _ (by decide)];simp -implicitDefEqProofs (disch:=first|omega|(simp only [go_sem,seval,F1,F2,s_neq0,F3,G1,F4,G2];first|done|omega)) only [go_sem,seval,F1,F2,s_neq0,F3,G1,F4,G2])
      (first|refine post_fin ret_ok hM rfl ?_ ?_|refine post_fin0 ret_ok hM rfl ?_ ?_|refine post_fin normal_ok hM rfl ?_ ?_|refine post_fin0 normal_ok hM rfl ?_ ?_)
      · simp -implicitDefEqProofs (disch:=first|omega|(simp only [go_sem,seval];first|done|omega)) only [go_sem,seval]
        rw [hE,if_pos (.inr (.inl h2))]
      · (simp only [go_sem,seval] <;> first|done|omega)
    have G2:=eq_false h2
    have ht:=tr_small (by omega) h1 h2
    have F6:=s_eqi (s:=s) b1 (show -1070 ≤ e + 4 by omega) (show e + 4 ≤ 966 by omega) rfl (by omega)
    (refine ACall_fn (cf:=L5.c47) rfl rfl fun hM hA => ?_;simp only [L5.c47,zO,zF,zT];rw [mk1 _ (by decide)];simp -implicitDefEqProofs (disch:=first|omega|(simp only [go_sem,seval,F1,F2,s_neq0,F3,G1,F4,G2];first|done|omega)) only [go_sem,seval,F1,F2,s_neq0,F3,G1,F4,G2])
    refine callP_q (q_site_units hr (by omega) _) ?_
    by_cases h3:fWhole s m (e + 4) = true
    · simp -implicitDefEqProofs (disch:=first|omega|(simp only [go_sem,seval,F5,F6,h3];first|done|omega)) only [go_sem,seval,F5,F6,h3]
      (first|refine post_fin ret_ok hM rfl ?_ ?_|refine post_fin0 ret_ok hM rfl ?_ ?_|refine post_fin normal_ok hM rfl ?_ ?_|refine post_fin0 normal_ok hM rfl ?_ ?_)
      · simp -implicitDefEqProofs (disch:=first|omega|(simp only [go_sem,seval];first|done|omega)) only [go_sem,seval]
        rw [hE,if_neg (by simp [h1,h2,h3])]
      · (simp only [go_sem,seval] <;> first|done|omega)
    · have h3:fWhole s m (e + 4) = false:=by simpa using h3
      simp -implicitDefEqProofs (disch:=first|omega|(simp only [go_sem,seval,F5,F6,h3];first|done|omega)) only [go_sem,seval,F5,F6,h3]
      (first|refine post_fin ret_ok hM rfl ?_ ?_|refine post_fin0 ret_ok hM rfl ?_ ?_|refine post_fin normal_ok hM rfl ?_ ?_|refine post_fin0 normal_ok hM rfl ?_ ?_)
      · simp -implicitDefEqProofs (disch:=first|omega|(simp only [go_sem,seval];first|done|omega)) only [go_sem,seval]
        rw [hE,if_pos (.inr (.inr h3))]
      · (simp only [go_sem,seval] <;> first|done|omega)
end
end
end Go.Nac.L5
namespace Go.Nac.L5
attribute [local congr] b1_congr b2_congr Wp_congr wpOps_congr thenK_congr blockK_congr gK_congr cK_congr
section
variable {X:XRel}
theorem q_site_first (l:List Int) (hl:l.length ≤ 1048576):Q X 40 [.fs (l.map .I)] (.I (fst0 l)):=by
  intro M
  (refine ACall_fn (cf:=L5.c40) rfl rfl fun hM hA => ?_;simp only [L5.c40,zO,zF,zT];rw [mk1 _ (by decide)];simp -implicitDefEqProofs (disch:=first|omega|(simp only [go_sem,seval];first|done|omega)) only [go_sem,seval])
  refine loop_mk (α:=Nat) 0 (fun k => k ≤ l.length ∧ fst0 l = fst0 (l.drop k)) (fun k => M) (fun k => [(5,.fs (l.map .I)),(6,.I l.length),(7,.I k)]) (fun k => l.length - k) ⟨Nat.zero_le _,rfl⟩ rfl rfl ?_
  rintro k ⟨hk,hs⟩
  by_cases hlt:k < l.length
  · obtain ⟨x,h1⟩:∃ x,l[k]? = some x:=⟨_,List.getElem?_eq_getElem hlt⟩
    have h2:=fst0_drop l k x h1
    simp -implicitDefEqProofs (disch:=first|omega|(simp only [go_sem,seval,hlt,h1];first|done|omega)) only [go_sem,seval,hlt,h1]
    refine cK_cases ?_ ?_ <;> intro hc <;> (try simp only [decide_eq_true_eq,decide_eq_false_iff_not,Classical.not_not,Bool.not_eq_true,Bool.not_eq_true',Bool.not_eq_false',Bool.false_or,Bool.or_false,Bool.true_or,Bool.or_true,Bool.false_and,Bool.and_false,Bool.true_and,Bool.and_true] at hc) <;> simp -implicitDefEqProofs (disch:=first|omega|(simp only [go_sem,seval,h1,hc];first|done|omega)) only [go_sem,seval,h1,hc]
    · (first|refine post_fin ret_ok hM rfl ?_ ?_|refine post_fin0 ret_ok hM rfl ?_ ?_|refine post_fin normal_ok hM rfl ?_ ?_|refine post_fin0 normal_ok hM rfl ?_ ?_)
      · simp -implicitDefEqProofs (disch:=first|omega|(simp only [go_sem,seval];first|done|omega)) only [go_sem,seval]
        rw [hs,h2,if_neg hc]
      · (simp only [go_sem,seval] <;> first|done|omega)
    · exact again' (k + 1) ⟨by omega,by rw [hs,h2,if_pos hc]⟩ (by omega) rfl rfl
  · simp -implicitDefEqProofs (disch:=first|omega|(simp only [go_sem,seval,hlt];first|done|omega)) only [go_sem,seval,hlt]
    (first|refine post_fin ret_ok hM rfl ?_ ?_|refine post_fin0 ret_ok hM rfl ?_ ?_|refine post_fin normal_ok hM rfl ?_ ?_|refine post_fin0 normal_ok hM rfl ?_ ?_)
    · simp -implicitDefEqProofs (disch:=first|omega|(simp only [go_sem,seval];first|done|omega)) only [go_sem,seval]
      rw [hs,List.drop_eq_nil_of_le (by omega)];rfl
    · (simp only [go_sem,seval] <;> first|done|omega)
theorem q_site_checkName (s:ByteArray):Q X 66 [.s (.string s)] (.I (if nameOk s = false then 8 else 0)):=by
  intro M
  (refine ACall_fn (cf:=L5.c66) rfl rfl fun hM hA => ?_;simp only [L5.c66,zO,zF,zT];rw [mk1 _ (by decide)];simp -implicitDefEqProofs (disch:=first|omega|(simp only [go_sem,seval];first|done|omega)) only [go_sem,seval])
  refine callP_q (q_site_IsName s _) ?_
  simp -implicitDefEqProofs (disch:=first|omega|(simp only [go_sem,seval];first|done|omega)) only [go_sem,seval]
  refine callP_q (q_site_when _ _ _) ?_
  simp -implicitDefEqProofs (disch:=first|omega|(simp only [go_sem,seval];first|done|omega)) only [go_sem,seval]
  (first|refine post_fin ret_ok hM rfl ?_ ?_|refine post_fin0 ret_ok hM rfl ?_ ?_|refine post_fin normal_ok hM rfl ?_ ?_|refine post_fin0 normal_ok hM rfl ?_ ?_)
  · simp -implicitDefEqProofs (disch:=first|omega|(simp only [go_sem,seval];first|done|omega)) only [go_sem,seval]
    cases nameOk s <;> rfl
  · (simp only [go_sem,seval] <;> first|done|omega)
theorem q_site_CheckSpan (x:Spn):Q X 89 [encSpn x] (.I (chkSpn x)):=by
  intro M
  (refine ACall_fn (cf:=L5.c89) rfl rfl fun hM hA => ?_;simp only [L5.c89,zO,zF,zT];rw [mk1 _ (by decide)];simp -implicitDefEqProofs (disch:=first|omega|(simp only [go_sem,seval,encSpn_eq];first|done|omega)) only [go_sem,seval,encSpn_eq])
  repeat' (first|(refine callP_q (q_site_when _ _ _) ?_;(try simp -implicitDefEqProofs (disch:=first|omega|(simp only [go_sem,seval,encSpn_eq];first|done|omega)) only [go_sem,seval,encSpn_eq]))|(refine cK_cases ?_ ?_ <;> intro hc <;> (try simp only [decide_eq_true_eq,decide_eq_false_iff_not,Classical.not_not,Bool.not_eq_true,Bool.not_eq_true',Bool.not_eq_false',Bool.false_or,Bool.or_false,Bool.true_or,Bool.or_true,Bool.false_and,Bool.and_false,Bool.true_and,Bool.and_true] at hc) <;> (try simp -implicitDefEqProofs (disch:=first|omega|(simp only [go_sem,seval,encSpn_eq,hc];first|done|omega)) only [go_sem,seval,encSpn_eq,hc]))|(refine gK_cases ?_ ?_ <;> intro hc <;> (try simp only [decide_eq_true_eq,decide_eq_false_iff_not,Classical.not_not,Bool.not_eq_true,Bool.not_eq_true',Bool.not_eq_false',Bool.false_or,Bool.or_false,Bool.true_or,Bool.or_true,Bool.false_and,Bool.and_false,Bool.true_and,Bool.and_true] at hc) <;> (try simp -implicitDefEqProofs (disch:=first|omega|(simp only [go_sem,seval,encSpn_eq,hc];first|done|omega)) only [go_sem,seval,encSpn_eq,hc])))
  (all_goals (first|refine post_fin ret_ok hM rfl ?_ ?_|refine post_fin0 ret_ok hM rfl ?_ ?_|refine post_fin normal_ok hM rfl ?_ ?_|refine post_fin0 normal_ok hM rfl ?_ ?_);all_goals first|(simp only [go_sem,seval] <;> first|done|omega)|skip;all_goals (try simp -implicitDefEqProofs (disch:=first|omega|(simp only [go_sem,seval];first|done|omega)) only [go_sem,seval]))
  all_goals simp [chkSpn, *] <;> omega
theorem q_site_CheckSpans (l:List Spn) (hl:l.length ≤ 1048576):Q X 67 [.fs (l.map encSpn)] (.I (chkSpns l)):=by
  intro M
  (refine ACall_fn (cf:=L5.c67) rfl rfl fun hM hA => ?_;simp only [L5.c67,zO,zF,zT];rw [mk1 _ (by decide)];simp -implicitDefEqProofs (disch:=first|omega|(simp only [go_sem,seval];first|done|omega)) only [go_sem,seval])
  refine cK_cases ?_ ?_ <;> intro hc <;> (try simp only [decide_eq_true_eq,decide_eq_false_iff_not,Classical.not_not,Bool.not_eq_true,Bool.not_eq_true',Bool.not_eq_false',Bool.false_or,Bool.or_false,Bool.true_or,Bool.or_true,Bool.false_and,Bool.and_false,Bool.true_and,Bool.and_true] at hc) <;> simp -implicitDefEqProofs (disch:=first|omega|(simp only [go_sem,seval,hc];first|done|omega)) only [go_sem,seval,hc]
  · (first|refine post_fin ret_ok hM rfl ?_ ?_|refine post_fin0 ret_ok hM rfl ?_ ?_|refine post_fin normal_ok hM rfl ?_ ?_|refine post_fin0 normal_ok hM rfl ?_ ?_)
    · simp -implicitDefEqProofs (disch:=first|omega|(simp only [go_sem,seval];first|done|omega)) only [go_sem,seval]
      congr 2;simp [chkSpns];omega
    · (simp only [go_sem,seval] <;> first|done|omega)
  · refine loop_mk (α:=Nat) 0 (fun k => k ≤ l.length ∧ chkSpns l = chkSpnsF (lastTo l k) (l.drop k)) (fun k => M) (fun k => [(3,.I (lastTo l k)),(10,.fs (l.map encSpn)),(11,.I l.length),(12,.I k)]) (fun k => l.length - k) ⟨Nat.zero_le _,by simp only [chkSpns];rw [if_neg (by omega)];rfl⟩ rfl rfl ?_
    rintro k ⟨hk,hs⟩
    by_cases hlt:k < l.length
    · obtain ⟨x,h1⟩:∃ x,l[k]? = some x:=⟨_,List.getElem?_eq_getElem hlt⟩
      have hd:=chkSpnsF_drop h1 (lastTo l k)
      have hq:∀ e:Int,e = fst0 [chkSpn x,if x.fr ≤ lastTo l k then 11 else 0] → (e = 0 → chkSpns l = chkSpnsF (lastTo l (k + 1)) (l.drop (k + 1))) ∧ (¬ e = 0 → chkSpns l = e):=by
        intro e he
        rw [hs,hd,lastTo_succ h1]
        have h14:chkSpn x = 0 ∨ chkSpn x = 14:=by unfold chkSpn;split <;> simp
        subst he
        simp only [fst0]
        refine ⟨fun h => ?_,fun h => ?_⟩ <;> rcases h14 with h14|h14 <;> by_cases h3:x.fr ≤ lastTo l k <;> simp [h14,h3] at h ⊢
      simp -implicitDefEqProofs (disch:=first|omega|(simp only [go_sem,seval,hlt,h1,encSpn_eq];first|done|omega)) only [go_sem,seval,hlt,h1,encSpn_eq]
      refine callP_q (q_site_CheckSpan x _) ?_
      simp -implicitDefEqProofs (disch:=first|omega|(simp only [go_sem,seval,encSpn_eq];first|done|omega)) only [go_sem,seval,encSpn_eq]
      refine callP_q (q_site_when _ _ _) ?_
      simp -implicitDefEqProofs (disch:=first|omega|(simp only [go_sem,seval];first|done|omega)) only [go_sem,seval]
      refine callP_q (q_site_first [_,_] (by simp) _) ?_
      simp -implicitDefEqProofs (disch:=first|omega|(simp only [go_sem,seval];first|done|omega)) only [go_sem,seval]
      have hqe:=hq _ rfl
      refine cK_cases ?_ ?_ <;> intro hc <;> (try simp only [decide_eq_true_eq,decide_eq_false_iff_not,Classical.not_not,Bool.not_eq_true,Bool.not_eq_true',Bool.not_eq_false',Bool.false_or,Bool.or_false,Bool.true_or,Bool.or_true,Bool.false_and,Bool.and_false,Bool.true_and,Bool.and_true] at hc) <;> simp -implicitDefEqProofs (disch:=first|omega|(simp only [go_sem,seval,hc];first|done|omega)) only [go_sem,seval,hc]
      · (first|refine post_fin ret_ok hM rfl ?_ ?_|refine post_fin0 ret_ok hM rfl ?_ ?_|refine post_fin normal_ok hM rfl ?_ ?_|refine post_fin0 normal_ok hM rfl ?_ ?_)
        · simp -implicitDefEqProofs (disch:=first|omega|(simp only [go_sem,seval];first|done|omega)) only [go_sem,seval]
          congr 2
          rw [(hqe.2 (by simpa using hc))]
        · (simp only [go_sem,seval] <;> first|done|omega)
      · refine Wp_cut_at hM rfl 0 (by simp) (by first|done|(simp only [go_sem,seval,encSpn_low] <;> first|done|(refine ⟨?_,?_⟩ <;> omega)|omega)) (lowL_mk (by first|done|(simp only [go_sem,seval,encSpn_low] <;> first|done|(refine ⟨?_,?_⟩ <;> omega)|omega))) ?_
        simp -implicitDefEqProofs (disch:=first|omega|(simp only [go_sem,seval];first|done|omega)) only [go_sem,seval]
        exact again' (k + 1) ⟨by omega,hqe.1 (by simpa using hc)⟩ (by omega) rfl (by rw [lastTo_succ h1];rfl)
    · simp -implicitDefEqProofs (disch:=first|omega|(simp only [go_sem,seval,hlt];first|done|omega)) only [go_sem,seval,hlt]
      (first|refine post_fin ret_ok hM rfl ?_ ?_|refine post_fin0 ret_ok hM rfl ?_ ?_|refine post_fin normal_ok hM rfl ?_ ?_|refine post_fin0 normal_ok hM rfl ?_ ?_)
      · simp -implicitDefEqProofs (disch:=first|omega|(simp only [go_sem,seval];first|done|omega)) only [go_sem,seval]
        rw [hs,chkSpnsF_end (by omega)]
      · (simp only [go_sem,seval] <;> first|done|omega)
theorem q_site_missing (s:Ser) (hn:s.samples.length ≤ 40000) (hgl:s.gaps.length ≤ 1048576) (hg:∀ x:Spn,x ∈ s.gaps → 0 ≤ x.fr ∧ x.fr < x.to_ ∧ x.to_ ≤ s.samples.length) :
    Q X 68 [encSer s] (.fs (goneRow s.samples.length s.gaps s.gaps.length)):=by
  intro M
  obtain ⟨nm,st,l,g⟩:=s
  simp only at hn hg hgl ⊢
  have hrep:=gone_zero l.length g
  (refine ACall_fn (cf:=L5.c68) rfl rfl fun hM hA => ?_;simp only [L5.c68,zO,zF,zT];rw [mk1 _ (by decide)];simp -implicitDefEqProofs (disch:=first|omega|(simp only [go_sem,seval,encSer_eq,hrep.symm];first|done|omega)) only [go_sem,seval,encSer_eq,hrep.symm])
  have hl0:=goneRow_low (m:=M.length) l.length g
  refine loop_mk (α:=Nat) 0 (fun k => k ≤ g.length) (fun k => M ++ [.row true 1 0 (goneRow l.length g k)]) (fun k => [(3,.os M.length 0 0 l.length),(12,.fs (g.map encSpn)),(13,.I g.length),(14,.I k)]) (fun k => g.length - k) (Nat.zero_le _) (by rw [hrep]) rfl ?_
  intro k hk
  by_cases hlt:k < g.length
  · obtain ⟨x,h1⟩:∃ x,g[k]? = some x:=⟨_,List.getElem?_eq_getElem hlt⟩
    have hx:=hg x (List.mem_of_getElem? h1)
    obtain ⟨a,ha⟩:∃ a:Nat,x.fr = a:=⟨x.fr.toNat,by omega⟩
    obtain ⟨b,hb⟩:∃ b:Nat,x.to_ = b:=⟨x.to_.toNat,by omega⟩
    simp -implicitDefEqProofs (disch:=first|omega|(simp only [go_sem,seval,hlt,h1,encSpn_eq,ha,hb];first|done|omega)) only [go_sem,seval,hlt,h1,encSpn_eq,ha,hb]
    refine loop_mk (α:=Nat) a (fun j => a ≤ j ∧ j ≤ b) (fun j => M ++ [.row true 1 0 (innRow l.length g k x j),.row true 2 0 [.agg [.I a,.I b]]]) (fun j => [(3,.os M.length 0 0 l.length),(5,.op (M.length + 1) 0 0 0),(6,.I j),(12,.fs (g.map encSpn)),(13,.I g.length),(14,.I k)]) (fun j => b - j) ⟨Nat.le_refl _,by omega⟩ (by rw [inn_start ha]) rfl ?_
    rintro j ⟨hj1,hj2⟩
    by_cases hj:j < b
    · have hget:=inn_get (n:=l.length) (g:=g) (k:=k) (x:=x) (j:=j) (i:=j) (by omega)
      have hset:=inn_set (n:=l.length) (g:=g) (k:=k) (x:=x) (j:=j) (by omega) (by omega)
      have hjl:j < l.length:=by omega
      have hlen:=innRow_len l.length g k x j
      simp -implicitDefEqProofs (disch:=first|omega|(simp only [go_sem,seval,hj,hget,hset,hjl,hlen];first|done|omega)) only [go_sem,seval,hj,hget,hset,hjl,hlen]
      exact again' (j + 1) ⟨by omega,by omega⟩ (by omega) rfl rfl
    · simp -implicitDefEqProofs (disch:=first|omega|(simp only [go_sem,seval,hj];first|done|omega)) only [go_sem,seval,hj]
      have hjb:j = b:=by omega
      have hend:=inn_end h1 (n:=l.length) hb
      subst hjb
      rw [hend]
      refine Wp_cut_at hM rfl 1 (by simp) (by first|done|(simp only [go_sem,seval,goneRow_low,encSpn_low] <;> first|done|(refine ⟨?_,?_⟩ <;> omega)|omega)) (lowL_mk (by first|done|(simp only [go_sem,seval,goneRow_low,encSpn_low] <;> first|done|(refine ⟨?_,?_⟩ <;> omega)|omega))) ?_
      simp -implicitDefEqProofs (disch:=first|omega|(simp only [go_sem,seval];first|done|omega)) only [go_sem,seval]
      exact again' (k + 1) (by omega) (by omega) rfl rfl
  · have hk:k = g.length:=by omega
    subst hk
    have hlen:=goneRow_len l.length g g.length
    simp -implicitDefEqProofs (disch:=first|omega|(simp only [go_sem,seval,hlen];first|done|omega)) only [go_sem,seval,hlen]
    (first|refine post_fin ret_ok hM rfl ?_ ?_|refine post_fin0 ret_ok hM rfl ?_ ?_|refine post_fin normal_ok hM rfl ?_ ?_|refine post_fin0 normal_ok hM rfl ?_ ?_)
    · simp -implicitDefEqProofs (disch:=first|omega|(simp only [go_sem,seval,hlen];first|done|omega)) only [go_sem,seval,hlen]
    · (simp only [go_sem,seval,goneRow_low] <;> first|done|omega)
theorem q_site_CheckSeries (s:Ser) (hl:s.samples.length ≤ 1048576) (hgl:s.gaps.length ≤ 1048576):Q X 37 [encSer s] (.I (chkSer s)):=by
  intro M
  have hS:=chkSer_eq s
  have hmiss:=q_site_missing (X:=X) s
  obtain ⟨nm,st,l,g⟩:=s
  simp only at hl hgl hmiss ⊢
  (refine ACall_fn (cf:=L5.c37) rfl rfl fun hM hA => ?_;simp only [L5.c37,zO,zF,zT];rw [mk1 _ (by decide)];simp -implicitDefEqProofs (disch:=first|omega|(simp only [go_sem,seval,encSer_eq];first|done|omega)) only [go_sem,seval,encSer_eq])
  refine callP_q (q_site_checkName nm _) ?_
  simp -implicitDefEqProofs (disch:=first|omega|(simp only [go_sem,seval,encSer_eq];first|done|omega)) only [go_sem,seval,encSer_eq]
  refine callP_q (q_site_within _ _ _ _) ?_
  simp -implicitDefEqProofs (disch:=first|omega|(simp only [go_sem,seval,encSer_eq];first|done|omega)) only [go_sem,seval,encSer_eq]
  refine callP_q (q_site_when _ _ _) ?_
  simp -implicitDefEqProofs (disch:=first|omega|(simp only [go_sem,seval,encSer_eq];first|done|omega)) only [go_sem,seval,encSer_eq]
  refine callP_q (q_site_first [_,_,_] (by simp) _) ?_
  simp -implicitDefEqProofs (disch:=first|omega|(simp only [go_sem,seval];first|done|omega)) only [go_sem,seval]
  have hA:fst0 [if nameOk nm = false then 8 else 0,rng st 0 999999999,if (40000:Int) < (l.length:Int) then 5 else 0] = serA ⟨nm,st,l,g⟩:=by
    unfold serA
    have e:((40000:Int) < (l.length:Int)) = (40000 < l.length):=propext (by omega)
    simp only [e]
  simp only [hA]
  generalize hEA:serA ⟨nm,st,l,g⟩ = eA at hS
  refine cK_cases ?_ ?_ <;> intro hc <;> (try simp only [decide_eq_true_eq,decide_eq_false_iff_not,Classical.not_not,Bool.not_eq_true,Bool.not_eq_true',Bool.not_eq_false',Bool.false_or,Bool.or_false,Bool.true_or,Bool.or_true,Bool.false_and,Bool.and_false,Bool.true_and,Bool.and_true] at hc) <;> simp -implicitDefEqProofs (disch:=first|omega|(simp only [go_sem,seval,hc];first|done|omega)) only [go_sem,seval,hc]
  · (first|refine post_fin ret_ok hM rfl ?_ ?_|refine post_fin0 ret_ok hM rfl ?_ ?_|refine post_fin normal_ok hM rfl ?_ ?_|refine post_fin0 normal_ok hM rfl ?_ ?_)
    · simp -implicitDefEqProofs (disch:=first|omega|(simp only [go_sem,seval];first|done|omega)) only [go_sem,seval]
      rw [hS,if_neg hc]
    · (simp only [go_sem,seval] <;> first|done|omega)
  have hc0:eA = 0:=by simpa using hc
  rw [if_pos hc0] at hS
  rw [hc0] at hEA
  obtain ⟨hn1,hn2,hn3⟩:=serA_zero hEA
  simp only at hn1 hn2 hn3
  clear hA hEA hn1 hn2
  refine loop_mk (α:=Nat) 0 (fun k => k ≤ l.length ∧ fst0 (l.map smpE) = fst0 ((l.map smpE).drop k)) (fun k => M) (fun k => [(1,.fp [.s (.string nm),.I st,.fs (l.map encF),.fs (g.map encSpn)]),(28,.fs (l.map encF)),(29,.I l.length),(30,.I k)]) (fun k => l.length - k) ⟨Nat.zero_le _,rfl⟩ rfl rfl ?_
  rintro k ⟨hk,hs⟩
  by_cases hlt:k < l.length
  · obtain ⟨x,h1⟩:∃ x,l[k]? = some x:=⟨_,List.getElem?_eq_getElem hlt⟩
    have h2:=fst0_drop (l.map smpE) k (smpE x) (by rw [List.getElem?_map,h1];rfl)
    simp -implicitDefEqProofs (disch:=first|omega|(simp only [go_sem,seval,hlt,h1];first|done|omega)) only [go_sem,seval,hlt,h1]
    refine callP_q (q_site_CheckSample x _) ?_
    simp -implicitDefEqProofs (disch:=first|omega|(simp only [go_sem,seval];first|done|omega)) only [go_sem,seval]
    refine cK_cases ?_ ?_ <;> intro hc <;> (try simp only [decide_eq_true_eq,decide_eq_false_iff_not,Classical.not_not,Bool.not_eq_true,Bool.not_eq_true',Bool.not_eq_false',Bool.false_or,Bool.or_false,Bool.true_or,Bool.or_true,Bool.false_and,Bool.and_false,Bool.true_and,Bool.and_true] at hc) <;> simp -implicitDefEqProofs (disch:=first|omega|(simp only [go_sem,seval,hc];first|done|omega)) only [go_sem,seval,hc]
    · (first|refine post_fin ret_ok hM rfl ?_ ?_|refine post_fin0 ret_ok hM rfl ?_ ?_|refine post_fin normal_ok hM rfl ?_ ?_|refine post_fin0 normal_ok hM rfl ?_ ?_)
      · simp -implicitDefEqProofs (disch:=first|omega|(simp only [go_sem,seval];first|done|omega)) only [go_sem,seval]
        rw [hS]
        have:fst0 (l.map smpE) = smpE x:=by rw [hs,h2,if_neg hc]
        unfold serB
        simp only
        rw [if_pos (by rw [this];exact hc),this]
      · (simp only [go_sem,seval] <;> first|done|omega)
    · exact again' (k + 1) ⟨by omega,by rw [hs,h2,if_pos (by simpa using hc)]⟩ (by omega) rfl rfl
  have hF:fst0 (l.map smpE) = 0:=by rw [hs,List.drop_eq_nil_of_le (by simp;omega)];rfl
  have hB:chkSer ⟨nm,st,l,g⟩ = if ¬ chkSpns g = 0 then chkSpns g else if ¬ chkLast l g = 0 then 14 else chkGap l g:=by
    rw [hS];unfold serB;simp only;rw [if_neg (by rw [hF];simp)]
  clear hs hS hF
  simp -implicitDefEqProofs (disch:=first|omega|(simp only [go_sem,seval,hlt,encSer_eq];first|done|omega)) only [go_sem,seval,hlt,encSer_eq]
  refine callP_q (q_site_CheckSpans g hgl _) ?_
  simp -implicitDefEqProofs (disch:=first|omega|(simp only [go_sem,seval];first|done|omega)) only [go_sem,seval]
  refine cK_cases ?_ ?_ <;> intro hc <;> (try simp only [decide_eq_true_eq,decide_eq_false_iff_not,Classical.not_not,Bool.not_eq_true,Bool.not_eq_true',Bool.not_eq_false',Bool.false_or,Bool.or_false,Bool.true_or,Bool.or_true,Bool.false_and,Bool.and_false,Bool.true_and,Bool.and_true] at hc) <;> simp -implicitDefEqProofs (disch:=first|omega|(simp only [go_sem,seval,hc];first|done|omega)) only [go_sem,seval,hc]
  · (first|refine post_fin ret_ok hM rfl ?_ ?_|refine post_fin0 ret_ok hM rfl ?_ ?_|refine post_fin normal_ok hM rfl ?_ ?_|refine post_fin0 normal_ok hM rfl ?_ ?_)
    · simp -implicitDefEqProofs (disch:=first|omega|(simp only [go_sem,seval];first|done|omega)) only [go_sem,seval]
      rw [hB,if_pos hc]
    · (simp only [go_sem,seval] <;> first|done|omega)
  have hcs:chkSpns g = 0:=by simpa using hc
  rw [if_neg (by simpa using hcs)] at hB
  have tail:chkLast l g = 0 → (∀ x:Spn,x ∈ g → 0 ≤ x.fr ∧ x.fr < x.to_ ∧ x.to_ ≤ l.length):=gaps_in hcs
  by_cases hg0:g = []
  · have hL:chkLast l g = 0:=by rw [hg0];exact chkLast_nil
    have hB2:chkSer ⟨nm,st,l,g⟩ = chkGap l g:=by rw [hB,hL];simp
    have ht:=tail hL
    have Z:((0:Int) < (g.length:Int)) = False:=eq_false (by rw [hg0];simp)
    simp -implicitDefEqProofs (disch:=first|omega|(simp only [go_sem,seval,Z,encSer_eq];first|done|omega)) only [go_sem,seval,Z,encSer_eq]
    refine callP_q (hmiss hn3 hgl ht _) ?_
    have hlen:=goneRow_len l.length g g.length
    simp -implicitDefEqProofs (disch:=first|omega|(simp only [go_sem,seval,hlen];first|done|omega)) only [go_sem,seval,hlen]
    refine loop_mk (α:=Nat) 0 (fun k => k ≤ l.length ∧ gapFree l g k) (fun k => M) (fun k => [(1,.fp [.s (.string nm),.I st,.fs (l.map encF),.fs (g.map encSpn)]),(65,.fs (goneRow l.length g g.length)),(66,.I l.length),(67,.I k)]) (fun k => l.length - k) ⟨Nat.zero_le _,gapFree_zero l g⟩ rfl rfl ?_
    rintro k ⟨hk,hs⟩
    by_cases hlt:k < l.length
    · obtain ⟨x,h1⟩:∃ x,l[k]? = some x:=⟨_,List.getElem?_eq_getElem hlt⟩
      have hget:=gone_get (n:=l.length) (g:=g) (k:=g.length) (i:=k) hlt
      rw [List.take_length] at hget
      have F:=s_nz (x:=x)
      by_cases hga:gapAt g k = true
      · by_cases hnz:nz x = true
        · simp -implicitDefEqProofs (disch:=first|omega|(simp only [go_sem,seval,hlt,hget,h1,hga,F,hnz];first|done|omega)) only [go_sem,seval,hlt,hget,h1,hga,F,hnz]
          (first|refine post_fin ret_ok hM rfl ?_ ?_|refine post_fin0 ret_ok hM rfl ?_ ?_|refine post_fin normal_ok hM rfl ?_ ?_|refine post_fin0 normal_ok hM rfl ?_ ?_)
          · simp -implicitDefEqProofs (disch:=first|omega|(simp only [go_sem,seval];first|done|omega)) only [go_sem,seval]
            rw [hB2,chkGap_bad h1 hnz hga]
          · (simp only [go_sem,seval] <;> first|done|omega)
        · have hnz:nz x = false:=by simpa using hnz
          simp -implicitDefEqProofs (disch:=first|omega|(simp only [go_sem,seval,hlt,hget,h1,hga,F,hnz];first|done|omega)) only [go_sem,seval,hlt,hget,h1,hga,F,hnz]
          exact again' (k + 1) ⟨by omega,gapFree_succ hs h1 (by rw [hnz];rfl)⟩ (by omega) rfl rfl
      · have hga:gapAt g k = false:=by simpa using hga
        simp -implicitDefEqProofs (disch:=first|omega|(simp only [go_sem,seval,hlt,hget,h1,hga];first|done|omega)) only [go_sem,seval,hlt,hget,h1,hga]
        exact again' (k + 1) ⟨by omega,gapFree_succ hs h1 (by rw [hga,Bool.and_false])⟩ (by omega) rfl rfl
    · simp -implicitDefEqProofs (disch:=first|omega|(simp only [go_sem,seval,hlt];first|done|omega)) only [go_sem,seval,hlt]
      (first|refine post_fin ret_ok hM rfl ?_ ?_|refine post_fin0 ret_ok hM rfl ?_ ?_|refine post_fin normal_ok hM rfl ?_ ?_|refine post_fin0 normal_ok hM rfl ?_ ?_)
      · simp -implicitDefEqProofs (disch:=first|omega|(simp only [go_sem,seval];first|done|omega)) only [go_sem,seval]
        rw [hB2,gapFree_end hs (by omega)]
      · (simp only [go_sem,seval] <;> first|done|omega)
  · have hglen:0 < g.length:=List.length_pos_iff.2 hg0
    obtain ⟨z,hz⟩:∃ z,g[g.length - 1]? = some z:=⟨_,List.getElem?_eq_getElem (by omega)⟩
    have Z:((0:Int) < (g.length:Int)) = True:=eq_true (by omega)
    have e1:(g.length:Int) - 1 = ((g.length - 1:Nat):Int):=by omega
    have hL:=chkLast_some (l:=l) hz
    by_cases hzl:(l.length:Int) < z.to_
    · have G:=eq_true hzl
      simp -implicitDefEqProofs (disch:=first|omega|(simp only [go_sem,seval,Z,e1,hz,encSpn_eq,G];first|done|omega)) only [go_sem,seval,Z,e1,hz,encSpn_eq,G]
      (first|refine post_fin ret_ok hM rfl ?_ ?_|refine post_fin0 ret_ok hM rfl ?_ ?_|refine post_fin normal_ok hM rfl ?_ ?_|refine post_fin0 normal_ok hM rfl ?_ ?_)
      · simp -implicitDefEqProofs (disch:=first|omega|(simp only [go_sem,seval];first|done|omega)) only [go_sem,seval]
        rw [hB,hL,if_pos hzl];simp
      · (simp only [go_sem,seval] <;> first|done|omega)
    · have G:=eq_false hzl
      rw [if_neg hzl] at hL
      have hB2:chkSer ⟨nm,st,l,g⟩ = chkGap l g:=by rw [hB,hL];simp
      have ht:=tail hL
      simp -implicitDefEqProofs (disch:=first|omega|(simp only [go_sem,seval,Z,e1,hz,encSpn_eq,G,encSer_eq];first|done|omega)) only [go_sem,seval,Z,e1,hz,encSpn_eq,G,encSer_eq]
      refine callP_q (hmiss hn3 hgl ht _) ?_
      have hlen:=goneRow_len l.length g g.length
      simp -implicitDefEqProofs (disch:=first|omega|(simp only [go_sem,seval,hlen];first|done|omega)) only [go_sem,seval,hlen]
      refine loop_mk (α:=Nat) 0 (fun k => k ≤ l.length ∧ gapFree l g k) (fun k => M) (fun k => [(1,.fp [.s (.string nm),.I st,.fs (l.map encF),.fs (g.map encSpn)]),(65,.fs (goneRow l.length g g.length)),(66,.I l.length),(67,.I k)]) (fun k => l.length - k) ⟨Nat.zero_le _,gapFree_zero l g⟩ rfl rfl ?_
      rintro k ⟨hk,hs⟩
      by_cases hlt:k < l.length
      · obtain ⟨x,h1⟩:∃ x,l[k]? = some x:=⟨_,List.getElem?_eq_getElem hlt⟩
        have hget:=gone_get (n:=l.length) (g:=g) (k:=g.length) (i:=k) hlt
        rw [List.take_length] at hget
        have F:=s_nz (x:=x)
        by_cases hga:gapAt g k = true
        · by_cases hnz:nz x = true
          · simp -implicitDefEqProofs (disch:=first|omega|(simp only [go_sem,seval,hlt,hget,h1,hga,F,hnz];first|done|omega)) only [go_sem,seval,hlt,hget,h1,hga,F,hnz]
            (first|refine post_fin ret_ok hM rfl ?_ ?_|refine post_fin0 ret_ok hM rfl ?_ ?_|refine post_fin normal_ok hM rfl ?_ ?_|refine post_fin0 normal_ok hM rfl ?_ ?_)
            · simp -implicitDefEqProofs (disch:=first|omega|(simp only [go_sem,seval];first|done|omega)) only [go_sem,seval]
              rw [hB2,chkGap_bad h1 hnz hga]
            · (simp only [go_sem,seval] <;> first|done|omega)
          · have hnz:nz x = false:=by simpa using hnz
            simp -implicitDefEqProofs (disch:=first|omega|(simp only [go_sem,seval,hlt,hget,h1,hga,F,hnz];first|done|omega)) only [go_sem,seval,hlt,hget,h1,hga,F,hnz]
            exact again' (k + 1) ⟨by omega,gapFree_succ hs h1 (by rw [hnz];rfl)⟩ (by omega) rfl rfl
        · have hga:gapAt g k = false:=by simpa using hga
          simp -implicitDefEqProofs (disch:=first|omega|(simp only [go_sem,seval,hlt,hget,h1,hga];first|done|omega)) only [go_sem,seval,hlt,hget,h1,hga]
          exact again' (k + 1) ⟨by omega,gapFree_succ hs h1 (by rw [hga,Bool.and_false])⟩ (by omega) rfl rfl
      · simp -implicitDefEqProofs (disch:=first|omega|(simp only [go_sem,seval,hlt];first|done|omega)) only [go_sem,seval,hlt]
        (first|refine post_fin ret_ok hM rfl ?_ ?_|refine post_fin0 ret_ok hM rfl ?_ ?_|refine post_fin normal_ok hM rfl ?_ ?_|refine post_fin0 normal_ok hM rfl ?_ ?_)
        · simp -implicitDefEqProofs (disch:=first|omega|(simp only [go_sem,seval];first|done|omega)) only [go_sem,seval]
          rw [hB2,gapFree_end hs (by omega)]
        · (simp only [go_sem,seval] <;> first|done|omega)
def shortB (s:Ser):Bool:=decide (s.name.size ≤ 60) && (decide (s.samples.length ≤ 96) || decide (s.samples.length = 40001)) && (decide (s.gaps.length ≤ 8) || decide (s.gaps.length = 1025))
end
end Go.Nac.L5
