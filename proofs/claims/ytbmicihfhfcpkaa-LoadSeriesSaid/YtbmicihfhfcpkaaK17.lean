import Derived.Test.YtbmicihfhfcpkaaK16
namespace Go.Nac
structure Rev where
  at_ : Int
  ld : Int
  deriving DecidableEq
def encRev (x : Rev) : PV := .agg [.I x.at_, .I x.ld]
theorem encRev_eq (x : Rev) : encRev x = .agg [.I x.at_, .I x.ld] := nrfl rfl
theorem encRev_cells (x : Rev) : (encRev x).cells = [.I x.at_, .I x.ld] := nrfl rfl
theorem encRev_low1 {n : Nat} (x : Rev) : (encRev x).low n = True := eq_true (by simp [encRev, PV.low, lowL])
theorem encRev_low {n : Nat} (l : List Rev) : lowL n (l.map encRev) = True := eq_true (lowL_map _ _ fun r => by simp [encRev, PV.low, lowL])
theorem encRev_ok (l : List Rev) : (l.map encRev).all (okElem 2) = true := by rw [List.all_eq_true]; intro x hx; obtain ⟨y, _, rfl⟩ := List.mem_map.1 hx; rfl
theorem encRev_sized (l : List Rev) : sized 2 (l.map encRev) = true := by unfold sized; rw [List.all_eq_true]; intro x hx; obtain ⟨y, _, rfl⟩ := List.mem_map.1 hx; rfl
structure Cyc where
  from_ : Int
  to_ : Int
  lo : Int
  hi : Int
  deriving DecidableEq
def encCyc (x : Cyc) : PV := .agg [.I x.from_, .I x.to_, .I x.lo, .I x.hi]
theorem encCyc_cells (x : Cyc) : (encCyc x).cells = [.I x.from_, .I x.to_, .I x.lo, .I x.hi] := nrfl rfl
theorem encCyc_low1 {n : Nat} (x : Cyc) : (encCyc x).low n = True := eq_true (by simp [encCyc, PV.low, lowL])
theorem encCyc_low {n : Nat} (l : List Cyc) : lowL n (l.map encCyc) = True := eq_true (lowL_map _ _ fun r => by simp [encCyc, PV.low, lowL])
structure Life where
  cap : Int
  exp : Int
  deriving DecidableEq
def encLife (x : Life) : PV := .agg [.I x.cap, .I x.exp]
theorem encLife_eq (x : Life) : encLife x = .agg [.I x.cap, .I x.exp] := nrfl rfl
theorem encLife_cells (x : Life) : (encLife x).cells = [.I x.cap, .I x.exp] := nrfl rfl
theorem encLife_low1 {n : Nat} (x : Life) : (encLife x).low n = True := eq_true (by simp [encLife, PV.low, lowL])
theorem encLife_low {n : Nat} (l : List Life) : lowL n (l.map encLife) = True := eq_true (lowL_map _ _ fun r => by simp [encLife, PV.low, lowL])
structure Cls where
  num : Int
  cnt : Int
  deriving DecidableEq
def encCls (x : Cls) : PV := .agg [.I x.num, .I x.cnt]
theorem encCls_low1 {n : Nat} (x : Cls) : (encCls x).low n = True := eq_true (by simp [encCls, PV.low, lowL])
structure Pnt where
  x : Int
  y : Int
  deriving DecidableEq
def encPnt (x : Pnt) : PV := .agg [.I x.x, .I x.y]
theorem encPnt_low1 {n : Nat} (x : Pnt) : (encPnt x).low n = True := eq_true (by simp [encPnt, PV.low, lowL])
theorem encI_low {n : Nat} (l : List Int) : lowL n (l.map PV.I) = True := eq_true (lowL_map _ _ fun r => by simp [PV.low])
end Go.Nac
set_option linter.unusedVariables false
namespace Go.Nac
/-- A function that calls its argument with these values, one behind the other, as long as it is told to go on. -/
def YieldsF (F : Prog) (X : FuncId → List PV → PV → Prop) (g : FuncId) (cap : List PV) (xs : List PV) : Prop :=
  ∀ (i : Nat) (N : Nat → List Blk), (∀ k, k ≤ xs.length → (N k).length = (N 0).length ∧ lowM (N k).length (N k)) →
    (∀ k x E, xs[k]? = some x → ACall F X (.yl i) [x] (N k ++ E) (.B true) (N (k + 1) ++ E)) → ACall F X (.fn g) (.yl i :: cap) (N 0) (.tup []) (N xs.length)
/-- The end of a round: memory is N, and something behind it. -/
def RoundE (N : List Blk) : Post := fun e M' _ => e = .normal ∧ ∃ T, M' = N ++ T
theorem roundE {N M' : List Blk} {t : List PV} (T : List Blk) (h : M' = N ++ T) : RoundE N .normal M' t := ⟨rfl, T, h⟩
/-- Behind the assignments of a round. -/
def RoundA (C : CallR) (m i : Nat) (L LB : Blk) (B : CCode) (N M1 : List Blk) (t1 : List PV) : Prop := M1[i]? = some L ∧ Wp C m B (RoundE N) (M1.set i LB) t1
theorem roundA {C : CallR} {m i : Nat} {L LB : Blk} {B : CCode} {N M1 : List Blk} {t1 : List PV} (h : M1[i]? = some L) (hw : Wp C m B (RoundE N) (M1.set i LB) t1) : RoundA C m i L LB B N M1 t1 := ⟨h, hw⟩
theorem range_iter {F : Prog} {X : FuncId → List PV → PV → Prop} {g : FuncId} {cap xs : List PV} (hg : YieldsF F X g cap xs) {n0 n p : Nat} {Q : Post} {kvs : List (Nat × PV)} {f : CX} {A B : CCode} {M : List Blk} (R : Nat → List Blk)
    (hM : lowM M.length M) (hf : ev (mk n kvs) f = .fn (.func g) [] cap) (hlen : ∀ k, (R k).length = (R 0).length) (hlow : ∀ k, k ≤ xs.length → lowM (M.length + (R 0).length) (R k)) (ht : lowL (M.length + (R 0).length) (kvs.map Prod.snd))
    (hy : ∀ k x E L LB, xs[k]? = some x → lowM (M.length + ((R k).length + (1 + E.length))) E →
      Wp (ACall F X) (M.length + ((R k).length + (1 + E.length))) A (thenK (RoundA (ACall F X) (M.length + ((R k).length + (1 + E.length))) (M.length + (R k).length) L LB B (M ++ (R (k + 1) ++ LB :: E))) (fun _ _ _ => False)) (M ++ (R k ++ L :: E)) (mk n ((p, x) :: kvs)))
    (hq : Q .normal (M ++ R xs.length) (mk n kvs)) : Wp (ACall F X) n0 (.rangeFunc f [p] A B) Q (M ++ R 0) (mk n kvs) := by
  have hlowR : ∀ k, k ≤ xs.length → lowM (M.length + (R 0).length) (M ++ R k) := fun k hk => (lowM_append _ _).2 ⟨lowM_mono (by omega) hM, hlow k hk⟩
  have key := hg (M.length + (R 0).length) (fun k => (M ++ R k) ++ [.loop .ready none (mk n kvs) [p] A B]) (fun k hk => ?_) (fun k x E hx => ?_)
  · refine range_mk (M' := M ++ R xs.length) (A' := A) (B' := B) (ps' := [p]) (t' := mk n kvs) hf ?_ ?_ ?_ hq
    · rw [List.length_append]; exact key
    · simp [hlen]
    · rw [List.length_append]; exact hlowR _ (Nat.le_refl _)
  · have e : ((M ++ R k) ++ [Blk.loop .ready none (mk n kvs) [p] A B]).length = M.length + (R 0).length + 1 := by simp [hlen k]; omega
    refine ⟨by rw [e]; simp; omega, ?_⟩
    rw [e]
    refine (lowM_append _ _).2 ⟨lowM_mono (by omega) (hlowR k hk), ?_⟩
    refine (lowM_cons _ _).2 ⟨?_, lowM_nil⟩
    exact lowL_mono (by omega) _ (lowL_mk ht)
  · have hkx : k < xs.length := (List.getElem?_eq_some_iff.1 hx).1
    have hi : ((M ++ R k) ++ [Blk.loop .ready none (mk n kvs) [p] A B] ++ E)[M.length + (R 0).length]? = some (.loop .ready none (mk n kvs) [p] A B) := by
      rw [List.append_assoc, List.getElem?_append_right (by simp [hlen k]), List.length_append, hlen k, Nat.sub_self]; rfl
    refine yield_mk hi fun h1 h2 => ?_
    have e : ((M ++ R k) ++ [Blk.loop .ready none (mk n kvs) [p] A B] ++ E).length = M.length + ((R k).length + (1 + E.length)) := by simp; omega
    rw [e] at h1 ⊢
    have hE : lowM (M.length + ((R k).length + (1 + E.length))) E := ((lowM_append _ _).1 h1).2
    have := hy k x E (.loop .ready none (mk n kvs) [p] A B) (.loop .busy none (mk n kvs) [p] A B) hx hE
    have e2 : (M ++ R k) ++ [Blk.loop .ready none (mk n kvs) [p] A B] ++ E = M ++ (R k ++ Blk.loop .ready none (mk n kvs) [p] A B :: E) := by simp
    rw [e2, ← hlen k]
    refine Wp_mono (fun _ _ _ _ _ h => h) A (thenK_mono ?_ (fun _ _ _ h => h)) this
    rintro M1 t1 ⟨g1, g2⟩
    refine roundK g1 (Wp_mono (fun _ _ _ _ _ h => h) B ?_ g2)
    rintro ex M' t ⟨rfl, T, rfl⟩
    have hN : (M ++ (R (k + 1) ++ Blk.loop .busy none (mk n kvs) [p] A B :: E)).length = M.length + ((R k).length + (1 + E.length)) := by simp [hlen (k + 1), hlen k]; omega
    have hidx : ∀ (b : Blk) (S : List Blk), (M ++ (R (k + 1) ++ b :: S))[M.length + (R k).length]? = some b := by
      intro b S
      rw [getMj, List.getElem?_append_right (by simp [hlen (k + 1), hlen k]), hlen (k + 1), hlen k, Nat.sub_self]; rfl
    refine ⟨⟨mk n kvs, [p], A, B, ?_⟩, ⟨M.length + ((R k).length + (1 + E.length)), Nat.le_refl _, by rw [List.length_append, hN]; omega, ?_, ?_⟩, rfl⟩
    · rw [show (M ++ (R (k + 1) ++ Blk.loop .busy none (mk n kvs) [p] A B :: E)) ++ T = M ++ (R (k + 1) ++ Blk.loop .busy none (mk n kvs) [p] A B :: (E ++ T)) from by simp]
      exact hidx _ _
    · rw [List.take_left' hN]
      refine (lowM_append _ _).2 ⟨lowM_mono (by omega) hM, (lowM_append _ _).2 ⟨lowM_mono (by rw [hlen k]; omega) (hlow (k + 1) hkx), (lowM_cons _ _).2 ⟨?_, hE⟩⟩⟩
      exact lowL_mono (by rw [hlen k]; omega) _ (lowL_mk ht)
    · rw [List.take_left' hN, setMj, List.set_append_right _ _ (by simp [hlen (k + 1), hlen k]), hlen (k + 1), hlen k, Nat.sub_self]
      simp
end Go.Nac
set_option linter.unusedVariables false
namespace Go.Nac
section
variable {M : List Blk} {k : IntKind} {a : Int}
theorem lookV_om {i : Nat} {sk : SK} {z q : Value} {ok : Bool} : lookV M sk z ok (.om i) (.s q) = lookB z ok sk q M[i]? := nrfl rfl
theorem lookB_no {sk : SK} {z q : Value} {es : List (Value × Value)} (h1 : keyOk sk q = true) (h2 : keysLike q es = true) : lookB z false sk q (some (.map es)) = some (.s ((find q es).getD z)) := by
  simp only [lookB, h1, h2, and_self, if_true]
  cases find q es <;> rfl
theorem lookB_ok {sk : SK} {z q : Value} {es : List (Value × Value)} (h1 : keyOk sk q = true) (h2 : keysLike q es = true) : lookB z true sk q (some (.map es)) = some (.tup [.s ((find q es).getD z), .B (find q es).isSome]) := by
  simp only [lookB, h1, h2, and_self, if_true]
  cases find q es <;> rfl
theorem mupdO_om {i : Nat} {sk : SK} {q u : Value} : mupdO M sk (.om i) (.s q) (.s u) = mupdB M i sk q u M[i]? := nrfl rfl
theorem mupdB_map {i : Nat} {sk : SK} {q u : Value} {es : List (Value × Value)} (h1 : keyOk sk q = true) (h2 : keysLike q es = true) : mupdB M i sk q u (some (.map es)) = some (unit, M.set i (.map (upd q u es))) := by
  simp only [mupdB, h1, h2, and_self, if_true]
theorem keyOk_int : keyOk .int (.int k a) = true := nrfl rfl
theorem keyOk_str {s : ByteArray} : keyOk .str (.string s) = true := nrfl rfl
theorem oneB_mapn : oneB (.s (.map none)) = true := nrfl rfl
section
variable {C : CallR} {K : (List Blk) → List PV → Prop} {t : List PV} {d : Option Nat} {os : List COper} {xs ys : List PV}
def capnV : PV → Option PV
  | .s (.slice none 0 0) => some (.I 0)
  | _ => none
theorem r_capn {x : CX} : wpOps C (⟨d, .capn x, none⟩ :: os) K M t = b1 (capnV (ev t x)) (kont C os K M t d) := wpOps_q rfl (by
  simp only [res, capnV]
  generalize ev t x = vx
  split
  · rfl
  · split
    · rename_i h; exact absurd rfl h
    · rfl)
theorem capnV_nil : capnV (.s (.slice none 0 0)) = some (.I 0) := nrfl rfl
def appzO (M : List Blk) (k : Nat) (g : Option Nat) (z : List Value) (bytes : Nat) : PV → PV → Option (PV × List Blk)
  | .s (.slice none 0 0), .s (.int .i64 l) =>
      if 0 < l ∧ l ≤ 2 ^ 20 ∧ bytes ≤ 2 ^ 20 ∧ z.length = k ∧ 0 < k then
        (mkPV g (z.map .s)).map fun e => (.os M.length 0 0 l.toNat, M ++ [.row true k 0 (List.replicate l.toNat e)])
      else none
  | _, _ => none
theorem r_appz {k : Nat} {g : Option Nat} {z : List Value} {bytes : Nat} {x n : CX} : wpOps C (⟨d, .appz k g z bytes x n, none⟩ :: os) K M t = b2 (appzO M k g z bytes (ev t x) (ev t n)) (kont2 C os K t d) := by
  rw [wpOps_l rfl]; rfl
theorem appzO_some {kk bytes : Nat} {g : Option Nat} {zv : List Value} (h0 : 0 < a) (h1 : a ≤ 1048576) (hb : bytes ≤ 1048576) (hz : zv.length = kk) (hk : 0 < kk) :
    appzO M kk g zv bytes (.s (.slice none 0 0)) (.s (.int .i64 a)) = (mkPV g (zv.map .s)).map fun e => (.os M.length 0 0 a.toNat, M ++ [.row true kk 0 (List.replicate a.toNat e)]) := by
  exact if_pos ⟨h0, by omega, by omega, hz, hk⟩
def copyR (M : List Blk) (k i ver off len : Nat) (ys : List PV) : Option Blk → Option (PV × List Blk)
  | some (.row true k' v xs) => if v = ver ∧ k' = k ∧ off + len ≤ xs.length ∧ ys.all (okElem k) ∧ k ≠ 0 then
          some (.I ((Nat.min ys.length len : Nat) : Int), M.set i (.row true k ver (setRange xs off (ys.take len)))) else none
  | _ => none
def copyO (M : List Blk) (k : Nat) : PV → Option (List PV) → Option (PV × List Blk)
  | .os i ver off len, some ys => copyR M k i ver off len ys M[i]?
  | _, _ => none
theorem r_copy {k : Nat} {x y : CX} : wpOps C (⟨d, .copy k x y, none⟩ :: os) K M t = b2 (copyO M k (ev t x) (held M (ev t y))) (kont2 C os K t d) := by
  rw [wpOps_l rfl]
  simp only [res]
  generalize ev t x = vx; generalize held M (ev t y) = vy
  cases vx <;> cases vy <;> first | rfl | skip
theorem copyO_os {kk i ver off len : Nat} : copyO M kk (.os i ver off len) (some ys) = copyR M kk i ver off len ys M[i]? := nrfl rfl
theorem copyR_all {kk i ver len : Nat} (hl : len = xs.length) (hy : ys.length = len) (ho : ys.all (okElem kk) = true) (hk : kk ≠ 0) :
    copyR M kk i ver 0 len ys (some (.row true kk ver xs)) = some (.I (len : Int), M.set i (.row true kk ver ys)) := by
  show (if _ then _ else _) = _
  rw [if_pos ⟨rfl, rfl, by omega, ho, hk⟩]
  have e1 : ys.take len = ys := List.take_of_length_le (by omega)
  have e2 : setRange xs 0 ys = ys := by simp [setRange]; omega
  rw [e1, e2, hy]; simp
end
end
end Go.Nac
namespace Go.Nac
attribute [go_sem] Wp_seq Wp_region Wp_block Wp_skip Wp_exit Wp_ret Wp_keep Wp_goto Wp_label Wp_scope wpOps_nil thenK_normal thenK_exit thenK_ret thenK_goto blockK_normal blockK_exit blockK_ret blockK_goto scopeK_normal
attribute [go_sem] scopeK_exit scopeK_ret r_mov r_pick r_build r_load r_bin r_binb r_eqs r_un r_conv r_len r_lens r_max r_min r_ext r_field r_idxa r_idxs r_slstr r_arrp r_nilc r_mkfn r_slice r_faddr r_iaddr r_iaddra
attribute [go_sem] r_look r_onil r_mkmap r_alloc r_box r_bsl r_store r_mksl r_append r_fzmov r_fzapp r_mupd r_call r_callv b1_kont b2_kont mk_put put_none ev_mk ev_k ev_f lk_cons lk_nil keep_mk keepK_nil keepK_cons
attribute [go_sem] List.map_cons List.map_nil Option.map_some Option.map_none r_guard gK_tt gK_ff gK_tf gK_ft gK_unit r_cond cK_t cK_f Wp_holes Wp_regionD lenOf_fs lenOf_os lenOf_nil lensV_s bin_add bin_sub bin_mul
attribute [go_sem] bin_quo bin_rem bin_eql bin_neq bin_lss bin_leq bin_gtr bin_geq binb_eql binb_neq un_neg un_not conv_int pickV_t pickV_f pickV_or pickV_and asNat_int extV_tup foldO_nil foldO_cons maxI_int minI_int
attribute [go_sem] cells_agg cells_s cells_fs cells_os cells_op cells_om cells_fp cells_fn oneB_int oneB_bool oneB_str oneB_nil oneB_fs oneB_os oneB_op oneB_om mkPV_none mkPV_some loadPV_fp loadPV_fp1 loadPV_op storeO_op
attribute [go_sem] allocO_some boxO_own boxO_fp bslO_own bslO_fs mkslO_some iaddrV_fs elemP_some iaddrV_os rowP_some faddrV_fp liveR_some faddrV_op nilcV_fp nilcV_op nilcV_fn fieldV_agg fieldV_aggs held_fs held_nil
attribute [go_sem] held_os heldR_all heldR_some view_int view_bool view_str view_nil view_fs view_fp view_om view_op view_yl view_fn view_tup view_top view_agg view1_int view1_bool view1_str view1_nil view1_fs view_os
attribute [go_sem] view1_os viewR_true viewR_all argV_t argV_k argV_f freezeAll_os freezeAll_fs freezeAll_nil frzR_row freezeO_some mkRes_one mkRes_two outV_int outV_bool outV_str outV_nil outV_fs outV_agg outV_fn
attribute [go_sem] out1_int out1_bool out1_str out1_fs out1_nil out1_os outV_os orTop_some resOf_nil resOf_cons resOf_cell consO_some appO_os appR_own appO_nil okElem_eq getM0 getMj setM0 setMj List.getElem?_cons_zero
attribute [go_sem] List.getElem?_cons_succ List.set_cons_zero List.set_cons_succ List.append_assoc List.cons_append List.nil_append List.length_append List.length_cons List.length_nil List.length_map List.getElem?_map
attribute [go_sem] List.all_cons List.all_nil Bool.and_true Bool.true_and Bool.and_self List.take_succ_cons List.take_zero List.drop_succ_cons List.drop_zero Option.getD_none Option.getD_some Option.bind_some
attribute [go_sem] Option.bind_none Option.map_map decide_eq_true_eq decide_true decide_false Bool.false_eq_true if_true if_false Int.natCast_nonneg Int.toNat_natCast Nat.zero_add Nat.add_zero eq_self beq_self_eq_true
attribute [go_sem] List.getElem?_nil wrap_in fillParts setRange ne_eq not_true not_false_eq_true and_true true_and and_self List.map_map Function.comp_def mk_get Int.ofNat_lt Int.natCast_inj callV_fn callV_yl kont2_eq
attribute [go_sem] Nat.add_assoc List.flatMap_cons List.flatMap_nil List.append_nil decide_eq_false_iff_not Classical.not_not Bool.not_eq_true Bool.not_true Bool.not_false Bool.true_eq_false Option.some.injEq Int.sub_zero
attribute [go_sem] Int.add_zero Int.zero_sub Int.zero_add Bool.decide_eq_true Bool.not_not Bool.false_or Bool.or_false Bool.true_or Bool.or_true Bool.false_and Bool.and_false Bool.or_self Bool.or_eq_true
attribute [go_sem] Bool.or_eq_false_iff Bool.and_eq_true Bool.and_eq_false_iff cellsR_eq cellsE_some eqCells_nil eqCells_int eqCells_bool eqsV_agg bslO_own0 bslO_fs0 Wp_own ownP_some ownO_op ownR_one putE_agg putR_eq
attribute [go_sem] putE_one sliceV_fs sliceV_nil bounds_eq hiN_none hiN_some loN_none loN_some Nat.le_refl Nat.zero_le Nat.sub_zero Nat.sub_self Nat.add_sub_cancel natZ natO min10 Nat.le_add_left List.take_nil
attribute [go_sem] r_sop r_srng r_snxt srngO_s snxtO_oi snxtR_some snxtR_none sopV_itf sopV_ff cells_float cells_nan oneB_float oneB_nan view_float view_nan view_oi view1_float view1_nan outV_float outV_nan out1_float refs_oi low_nan low_oi blow_siter
attribute [go_sem] List.drop_nil dK_eq d_op d_nil d_alloc allocD_some hole_eq refs_op refs_os refs_om refs_fs refs_fp refs_s fpOp List.replicate_succ List.replicate_zero Nat.add_sub_add_left d_bsl bslD_nil Wp_fix
attribute [go_sem] fixP_some mk_set List.length_reverse sliceV_os sliceR_row iaddraV_op iaddraV_fp arrpV_os arrpV_fs Nat.zero_mul Nat.one_mul Int.cast_ofNat_Int Int.lt_irrefl List.length_replicate Nat.le_add_right
attribute [go_sem] List.length_take List.length_drop sized_nil lowM_nil' lowM_cons' lowL_app' blow_row blow_map low_s low_agg low_tup low_fs low_fp low_os low_op low_om low_fn low_top lowL_nil lowL_cons
attribute [go_sem] Nat.lt_add_right_iff_pos Nat.lt_succ_self Nat.lt_add_one Nat.add_lt_add_iff_left Nat.zero_lt_succ Nat.lt_irrefl lowL_map' implies_true encRev_low1 encCyc_low1 encLife_low1 encCls_low1 encPnt_low1 low_yl
end Go.Nac

