/- For every input the law TopGaleSeries returns true, ends, and leaves its arguments as they were; the listed variables hold what the program's text lays. -/
import Derived.Test.YtcbfjgpdogcdbaaGreatDoorW11
set_option linter.unusedVariables false
set_option maxRecDepth 100000
namespace Go.Proofs.YtcbfjgpdogcdbaaGreatDoor.topGaleSeries
open Go.ChangeShapes Go.WideShapes Go.ChangeAt Go.RowKit Go.Nac
theorem own:ownKnob Tryz.prog.godebug = none:=by kernel_rfl
theorem laidOut:laidOutB Tryz.prog = true:=by kernel_rfl
theorem spn1:Opens Tryz.prog 35 (fun x:Spn => [.I x.fr,.I x.to_]) (fun _ => True) :=
 (Qks Tryz.underlying35 (by kernel_rfl) ⟨rfl,by kernel_rfl,Tryz.underlying3⟩ ⟨rfl,by kernel_rfl,Tryz.underlying3⟩).map (fun r => (⟨r.at_,r.ld⟩:Spn)) (fun _ => rfl) (fun _ _ => trivial)
theorem spns:Opens Tryz.prog 23 (fun l:List Spn => [.fs (l.map Qa)]) (fun _ => True) :=
 (Qbb Tryz.underlying23 (by kernel_rfl:Tryz.prog.cellsOf 35 = 2) (by decide) Qa (fun _ => rfl) (fun _ => rfl) spn1).map id (fun _ => rfl) (fun _ _ => trivial)
theorem smps:Opens Tryz.prog 22 (fun l:List Nat => [.fs (l.map encF)]) (fun _ => True) :=
 (Qbb Tryz.underlying22 (by kernel_rfl:Tryz.prog.cellsOf 46 = 1) (by decide) encF (fun _ => rfl) (fun _ => rfl) (QjA Tryz.underlying46)).map id (fun _ => rfl) (fun _ _ => trivial)
theorem sers:Opens Tryz.prog 25 (fun x:Ser => [.s (.string x.name),.I x.start,.fs (x.samples.map encF),.fs (x.gaps.map Qa)]) (fun _ => True) :=
 (Opens.struct Tryz.underlying25 (by kernel_rfl) (VD.cons (QiD Tryz.underlying9) rfl (by kernel_rfl:Tryz.prog.cellsOf 9 = 1) (by decide) (VD.cons (Qip Tryz.underlying3) rfl (by kernel_rfl:Tryz.prog.cellsOf 3 = 1) (by decide) (VD.cons smps rfl (by kernel_rfl:Tryz.prog.cellsOf 22 = 1) (by decide) (VD.cons spns rfl (by kernel_rfl:Tryz.prog.cellsOf 23 = 1) (by decide) VD.nil))))).map (fun p => (⟨p.1,p.2.1,p.2.2.1,p.2.2.2.1⟩:Ser)) (fun _ => rfl) (fun _ _ => trivial)
theorem lifted (os:Os) (started:os.Started) (H:Type) (enc:TypeId × Value → H) :
  ReturnsInHanded {} Tryz.checked os 3 .any (fun w args => (Rows.topGaleSeriesSpec.pre enc Tryz.prog Tryz.f3 [] false w args ∧ laidMetH Tryz.prog Rows.topGaleSeriesRow.laid w) ∧ sizedMet enc Tryz.prog Tryz.f3 (OpenSpec.ofChange Rows.topGaleSeriesSpec) false w args)
   (Rows.topGaleSeriesSpec.post enc Tryz.prog Tryz.f3 false true false false):=by
 refine returnsInHanded_of_change_and (C:=Tryz.checked) (X:=fun w _ => laidMetH Tryz.prog Rows.topGaleSeriesRow.laid w) (fun _ _ _ hh h => h.of_heap hh) own started (by kernel_rfl) Tryz.func3
  (ChangeSpec.witness_shaped (enc:=enc) (C:=Tryz.checked) (os:=os) (X:=fun w _ => laidMetH Tryz.prog Rows.topGaleSeriesRow.laid w) false (door os) #[.agg #[.string ⟨#[]⟩,.int .i64 0,.slice none 0 0,.slice none 0 0],.int .u8 0,.int .u16 0] 8 (World.laidAll_os _ _ _) (World.shaped_of_RefB (by kernel_rfl) (by kernel_rfl)) (by kernel_rfl) (by kernel_rfl) (by kernel_rfl) (QkG os _)) ?_
 intro W base args ds gs before hval0 hW _ _ hL _
 have hval:∀ (j:Nat) t v,Tryz.f3.params[j]? = some t → args[j]? = some v → Value.okWide Tryz.prog W .any base t v:=hval0
 have hW':=hW
 obtain ⟨p,q,hA0,hV,rfl,hfz,hnd⟩:=hW
 have hA:DataW.TrodAll enc Tryz.prog W 0 (fun _ => true) true Tryz.f3.params.toList args.toList ds p:=hA0
 rw [Tryz.params3] at hA hval
 obtain ⟨v0,vs0,d0,ds0,p0,q0,hargs,rfl,rfl,h0,r0⟩:=trodAll_cons hA
 obtain ⟨v1,vs1,d1,ds1,p1,q1,rfl,rfl,rfl,h1,r1⟩:=trodAll_cons r0
 obtain ⟨v2,vs2,d2,ds2,p2,q2,rfl,rfl,rfl,h2,r2⟩:=trodAll_cons r1
 obtain ⟨rfl,rfl,rfl⟩:=trodAll_nil r2
 obtain rfl:args = #[v0,v1,v2]:=by cases args;simp_all
 obtain ⟨rfl,rfl⟩:=trodVars_none hV
 have k0:=h0
 have lt0:∀ x ∈ p0,x.block < W.heap.size:=by obtain ⟨m,hm⟩:=k0;exact DataW.trod_lt m _ _ _ hm
 have k1:=h1
 have lt1:∀ x ∈ p1,x.block < W.heap.size:=by obtain ⟨m,hm⟩:=k1;exact DataW.trod_lt m _ _ _ hm
 have k2:=h2
 have lt2:∀ x ∈ p2,x.block < W.heap.size:=by obtain ⟨m,hm⟩:=k2;exact DataW.trod_lt m _ _ _ hm
 obtain ⟨z0,rfl,_⟩:=okWide_struct Tryz.underlying25 (hval 0 25 v0 rfl rfl)
 obtain ⟨x0,o0,y0⟩:=sers.argA h0 (fun _ => none)
 obtain ⟨x1,rfl⟩:=okWide_int Tryz.underlying5 (hval 1 5 v1 rfl rfl)
 obtain ⟨o1,y1⟩:=Qgz Tryz.underlying5 h1 (fun _ => none)
 obtain ⟨x2,rfl⟩:=okWide_int Tryz.underlying26 (hval 2 26 v2 rfl rfl)
 obtain ⟨o2,y2⟩:=Qgz Tryz.underlying26 h2 (fun _ => none)
 letI:=envT
 refine (Qhx mixed okF xsOk rfl (L6.q_top_TopGaleSeries Qpr sortX Qit Qjt (L6.q_top_galeRecord sortX itoaX joinX Qit Qjt) x0 x1 x2 (wf_u8 o1) (Qpy o2)) (W:=W) (cargs:=#[.agg z0,.int .u8 x1,.int .u16 x2]) (QmO hL) (.cons _ _ _ _ y0 (.cons _ _ _ _ y1 (.cons _ _ _ _ y2 .nil)))).mono fun e W' ⟨he,bel⟩ => ?_
 subst he
 exact ⟨_,rfl,_,_,_,[],_,[],hW',trodAll_mk1 (shut_bool Tryz.underlying4 _),(trodAll_cons_mk (Below.trod laidOut (by kernel_rfl) (of_decide_eq_true (by kernel_rfl)) k0 bel lt0) (trodAll_cons_mk (Below.trod laidOut (by kernel_rfl) (of_decide_eq_true (by kernel_rfl)) k1 bel lt1) (trodAll_cons_mk (Below.trod laidOut (by kernel_rfl) (of_decide_eq_true (by kernel_rfl)) k2 bel lt2) trodAll_mk0))),rfl,bel.frame _,fun h => by cases h⟩
theorem named:Tryz.pinned.checked.prog.funcNamed Rows.topGaleSeriesRow.func = some 3:=by kernel_rfl
set_option maxHeartbeats 8000000 in
theorem closed:joinedFacts Tryz.pinned.checked.prog 3 Tryz.f3 Rows.topGaleSeriesSpec Rows.topGaleSeriesRow = true:=by
 unfold joinedFacts
 simp only [Bool.and_eq_true]
 repeat' refine And.intro ?_ ?_
 all_goals decide +kernel
theorem over:Rows.TopGaleSeriesSaid :=
 OpenClaim.holds_of_wide 3 Tryz.f3 rfl rfl rfl rfl rfl rfl rfl ⟨rfl,rfl,rfl,rfl,rfl⟩ rfl rfl rfl rfl rfl named Tryz.func3 closed
  (of_decide_eq_true (by kernel_rfl)) (by unfold Func.isWrapper;first|(rw [if_pos (by decide +kernel)];kernel_rfl)|(rw [if_neg (by decide +kernel)];exact ⟨rfl,rfl⟩))
  (fun os started H enc _ => lifted os started H enc)
theorem wfT:Rows.topGaleSeriesRow.wfByText (OpenSpec.ofChange Rows.topGaleSeriesSpec) = true:=by kernel_rfl
theorem looks:true = Tryz.pinned.checked.prog.looks []:=by kernel_rfl
theorem goes:false = Rows.topGaleSeriesRow.goesBy Tryz.pinned.checked.prog:=by kernel_rfl
theorem mainIs : Tryz.pinned.checked.prog.mainIs = some (true, "a25dffce3c30546b94e8ee5d41b68ac28fd268b24cbd70f5808d3193a1aab2f2".toList) := by kernel_rfl
theorem want5:Tryz.pinned.checked.prog.wantsStandIn 5 = false:=by kernel_rfl
theorem want26:Tryz.pinned.checked.prog.wantsStandIn 26 = false:=by kernel_rfl
theorem want25:Tryz.pinned.checked.prog.wantsStandIn 25 = false:=by kernel_rfl
theorem wants (f:FuncId) (fn:Func) (hf:Tryz.pinned.checked.prog.funcNamed Rows.topGaleSeriesRow.func = some f) (hfn:Tryz.pinned.checked.prog.funcs[f]? = some fn):true = Tryz.pinned.checked.prog.looks [] ∧ ∀ (j:Nat) t,fn.params[j]? = some t → Tryz.pinned.checked.prog.wantsStandIn t = false:=by
 obtain rfl:f = 3:=(Option.some.inj (named.symm.trans hf)).symm
 obtain rfl:fn = Tryz.f3:=(Option.some.inj (Tryz.func3.symm.trans hfn)).symm
 refine ⟨looks,fun j t ht => ?_⟩
 rw [Tryz.params3] at ht
 have h3:t ∈ [25,5,26]:=List.mem_of_getElem? (by simpa using ht)
 simp only [List.mem_cons,List.not_mem_nil,or_false] at h3
 rcases h3 with rfl|rfl|rfl
 ·exact want25
 ·exact want5
 ·exact want26
theorem proved:Rows.TopGaleSeriesCardSaid :=
  Claim7.holds_tied_plain_at .later [] [.data, .data, .data] true (true, "a25dffce3c30546b94e8ee5d41b68ac28fd268b24cbd70f5808d3193a1aab2f2") true
    over (fun _ h => by cases h) wfT (fun _ h => by cases h) topGaleSeries_row_tie rfl ⟨rfl,rfl⟩ mainIs rfl wants goes
end Go.Proofs.YtcbfjgpdogcdbaaGreatDoor.topGaleSeries
