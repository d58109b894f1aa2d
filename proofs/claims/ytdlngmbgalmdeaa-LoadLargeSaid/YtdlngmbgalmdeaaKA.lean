import Derived.Test.YtdlngmbgalmdeaaK19
namespace Go.Nac
attribute [go_sem] Wp_seq Wp_region Wp_block Wp_skip Wp_exit Wp_ret Wp_keep Wp_goto Wp_label Wp_scope wpOps_nil thenK_normal thenK_exit thenK_ret thenK_goto blockK_normal blockK_exit blockK_ret blockK_goto scopeK_normal
attribute [go_sem] scopeK_exit scopeK_ret r_mov r_pick r_build r_load r_bin r_binb r_eqs r_un r_conv r_len r_lens r_max r_min r_ext r_field r_idxa r_idxs r_slstr r_arrp r_nilc r_mkfn r_slice r_faddr r_iaddr r_iaddra
attribute [go_sem] r_look r_onil r_mkmap r_alloc r_box r_bsl r_store r_mksl r_append r_fzmov r_fzapp r_mupd r_call r_callv b1_kont b2_kont mk_put put_none ev_mk ev_k ev_f lk_cons lk_nil keep_mk keepK_nil keepK_cons
attribute [go_sem] List.map_cons List.map_nil Option.map_some Option.map_none r_guard gK_tt gK_ff gK_tf gK_ft gK_unit r_cond cK_t cK_f Wp_holes Wp_regionD lenOf_fs lenOf_os lenOf_nil lensV_s bin_add bin_sub bin_mul
attribute [go_sem] bin_quo bin_rem bin_eql bin_neq bin_lss bin_leq bin_gtr bin_geq binb_eql binb_neq un_neg un_not conv_int pickV_t pickV_f pickV_or pickV_and asNat_int extV_tup foldO_nil foldO_cons maxI_int minI_int
attribute [go_sem] cells_agg cells_s cells_fs cells_os cells_op cells_om cells_fp cells_fn oneB_int oneB_bool oneB_str oneB_nil oneB_fs oneB_os oneB_op oneB_om mkPV_none mkPV_some loadPV_fp loadPV_fp1 loadPV_op storeO_op
attribute [go_sem] allocO_some boxO_own boxO_fp bslO_own bslO_fs mkslO_some iaddrV_fs elemP_some iaddrV_os rowP_some faddrV_fp liveR_some faddrV_op nilcV_fp nilcV_op nilcV_fn fieldV_agg fieldV_aggs held_fs held_nil
attribute [go_sem] held_os heldR_all heldR_some view_int view_bool view_str view_nil view_fs view_fp view_om view_op view_yl view_fn view_tup view_top view_agg view1_int view1_bool view1_str view1_nil view1_fs view_os
attribute [go_sem] view1_os viewR_true viewR_all argV_t argV_k argV_f freezeAll_os freezeAll_fs freezeAll_nil frzR_row freezeO_some mkRes_one mkRes_two outV_int outV_bool outV_str outV_nil outV_fs outV_agg outV_fn
attribute [go_sem] out1_int out1_bool out1_str out1_fs out1_nil out1_os outV_os orTop_some resOf_nil resOf_cons resOf_cell consO_some appO_os appR_own appO_nil okElem_eq getM0 getMj setM0 setMj List.getElem?_cons_zero
attribute [go_sem] List.getElem?_cons_succ List.set_cons_zero List.set_cons_succ List.append_assoc List.cons_append List.nil_append List.length_append List.length_cons List.length_nil List.length_map List.getElem?_map
attribute [go_sem] List.all_cons List.all_nil Bool.and_true Bool.true_and Bool.and_self List.take_succ_cons List.take_zero List.drop_succ_cons List.drop_zero Option.getD_none Option.getD_some Option.bind_some
attribute [go_sem] Option.bind_none Option.map_map decide_eq_true_eq decide_true decide_false Bool.false_eq_true if_true if_false Int.natCast_nonneg Int.toNat_natCast Nat.zero_add Nat.add_zero eq_self beq_self_eq_true
attribute [go_sem] List.getElem?_nil wrap_in fillParts setRange ne_eq not_true not_false_eq_true and_true true_and and_self List.map_map Function.comp_def mk_get Int.ofNat_lt Int.natCast_inj callV_fn callV_yl kont2_eq
attribute [go_sem] Nat.add_assoc List.flatMap_cons List.flatMap_nil List.append_nil decide_eq_false_iff_not Classical.not_not Bool.not_eq_true Bool.not_true Bool.not_false Bool.true_eq_false Option.some.injEq Int.sub_zero
attribute [go_sem] Int.add_zero Int.zero_sub Int.zero_add Bool.decide_eq_true Bool.not_not Bool.false_or Bool.or_false Bool.true_or Bool.or_true Bool.false_and Bool.and_false Bool.or_self Bool.or_eq_true
attribute [go_sem] Bool.or_eq_false_iff Bool.and_eq_true Bool.and_eq_false_iff cellsR_eq cellsE_some eqCells_nil eqCells_int eqCells_bool eqsV_agg bslO_own0 bslO_fs0 Wp_own ownP_some ownO_op ownR_one putE_agg putR_eq
attribute [go_sem] putE_one sliceV_fs sliceV_nil bounds_eq hiN_none hiN_some loN_none loN_some Nat.le_refl Nat.zero_le Nat.sub_zero Nat.sub_self Nat.add_sub_cancel natZ natO min10 Nat.le_add_left List.take_nil
attribute [go_sem] List.drop_nil dK_eq d_op d_nil d_alloc allocD_some hole_eq refs_op refs_os refs_om refs_fs refs_fp refs_s fpOp List.replicate_succ List.replicate_zero Nat.add_sub_add_left d_bsl bslD_nil Wp_fix
attribute [go_sem] fixP_some mk_set List.length_reverse sliceV_os sliceR_row iaddraV_op iaddraV_fp arrpV_os arrpV_fs Nat.zero_mul Nat.one_mul Int.cast_ofNat_Int Int.lt_irrefl List.length_replicate Nat.le_add_right
attribute [go_sem] List.length_take List.length_drop sized_nil lowM_nil' lowM_cons' lowL_app' blow_row blow_map low_s low_agg low_tup low_fs low_fp low_os low_op low_om low_fn low_top lowL_nil lowL_cons
attribute [go_sem] Nat.lt_add_right_iff_pos Nat.lt_succ_self Nat.lt_add_one Nat.add_lt_add_iff_left Nat.zero_lt_succ Nat.lt_irrefl lowL_map' implies_true encRev_low1 encCyc_low1 encLife_low1 encCls_low1 encPnt_low1 low_yl
end Go.Nac

