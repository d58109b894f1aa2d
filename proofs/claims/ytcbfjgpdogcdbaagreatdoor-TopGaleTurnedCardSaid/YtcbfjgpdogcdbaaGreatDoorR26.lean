/- For every input the law TopGaleTurned returns true, ends, and leaves its arguments as they were; the listed variables hold what the program's text lays. -/
import Derived.Test.YtcbfjgpdogcdbaaGreatDoorW13
set_option linter.unusedVariables false
set_option maxRecDepth 100000
namespace Go.Proofs.YtcbfjgpdogcdbaaGreatDoor.topGaleTurned
open Go.ChangeShapes Go.WideShapes Go.ChangeAt Go.RowKit Go.Nac U
theorem own:ownKnob Tryz.prog.godebug = none:=by kernel_rfl
theorem laidOut:laidOutB Tryz.prog = true:=by kernel_rfl
theorem pnts:Opens Tryz.prog 74 (fun p:Pt => [.I p.x,.I p.y]) (fun p => (-9223372036854775808 ≤ p.x ∧ p.x ≤ 9223372036854775807) ∧ (-9223372036854775808 ≤ p.y ∧ p.y ≤ 9223372036854775807)) :=
  (opens_rev Tryz.underlying74 (by kernel_rfl) ⟨rfl,by kernel_rfl,Tryz.underlying3⟩ ⟨rfl,by kernel_rfl,Tryz.underlying3⟩).map (fun r => (⟨r.at_,r.ld⟩:Pt)) (fun _ => rfl) (fun _ h => h)
theorem turb:Opens Tryz.prog 83 (fun t:Tb => [.s (.string t.name),.I t.x,.I t.y]) (fun _ => True) :=
  (Opens.struct Tryz.underlying83 (by kernel_rfl) (OpensFs.cons (opens_str Tryz.underlying9) rfl (by kernel_rfl:Tryz.prog.cellsOf 9 = 1) (by decide) (OpensFs.cons pnts rfl (by kernel_rfl:Tryz.prog.cellsOf 74 = 2) (by decide) OpensFs.nil))).map (fun p => (⟨p.1,p.2.1.x,p.2.1.y⟩:Tb)) (fun _ => rfl) (fun _ _ => trivial)
theorem turbs:Opens Tryz.prog 53 (fun l:List Tb => [.fs (l.map encTb)]) (fun _ => True) :=
  (opens_slice Tryz.underlying53 (by kernel_rfl:Tryz.prog.cellsOf 83 = 3) (by decide) encTb (fun _ => rfl) (fun _ => rfl) turb).map id (fun _ => rfl) (fun _ _ => trivial)
theorem sites:Opens Tryz.prog 55 (fun s:Ste => [.s (.string s.name),.I s.least,.fs (s.tbs.map encTb)]) (fun _ => True) :=
  (Opens.struct Tryz.underlying55 (by kernel_rfl) (OpensFs.cons (opens_str Tryz.underlying9) rfl (by kernel_rfl:Tryz.prog.cellsOf 9 = 1) (by decide) (OpensFs.cons (opens_int Tryz.underlying3) rfl (by kernel_rfl:Tryz.prog.cellsOf 3 = 1) (by decide) (OpensFs.cons turbs rfl (by kernel_rfl:Tryz.prog.cellsOf 53 = 1) (by decide) OpensFs.nil)))).map (fun p => (⟨p.1,p.2.1,p.2.2.1⟩:Ste)) (fun _ => rfl) (fun _ _ => trivial)
theorem roses:Opens Tryz.prog 58 (fun r:Rse => r.map PV.I) (fun r => r.length = 408) :=
  opens_rose Tryz.underlying58 (by kernel_rfl) Tryz.underlying56 (by kernel_rfl) Tryz.underlying3 (by kernel_rfl)
theorem opens_u8 {P:Program} {t:TypeId} (ht:P.underlying t = some (.int .u8)):Opens P t (fun z:Int => [.s (.int .u8 z)]) (fun z => 0 ≤ z ∧ z ≤ 255):=by
  intro H enc W L n cs x h
  obtain ⟨z,rfl,_,hw⟩:=DataW.trod_int ht h
  exact ⟨z,wf_u8 hw,.cons _ _ _ _ (.s _ rfl) .nil⟩
theorem arr2u8:Opens Tryz.prog 59 (fun l:List Int => l.flatMap fun z => [PV.s (.int .u8 z)]) (fun l => l.length = 2 ∧ ∀ z ∈ l,0 ≤ z ∧ z ≤ 255) :=
  opens_array (k:=1) Tryz.underlying59 (by kernel_rfl) (by kernel_rfl) (opens_u8 Tryz.underlying5)
theorem lifted (os:Os) (started:os.Started) (H:Type) (enc:TypeId × Value → H) :
    ReturnsInHanded {} Tryz.checked os 4 .any (fun w args => (Rows.topGaleTurnedSpec.pre enc Tryz.prog Tryz.f4 [] false w args ∧ laidMetH Tryz.prog Rows.topGaleTurnedRow.laid w) ∧ sizedMet enc Tryz.prog Tryz.f4 (OpenSpec.ofChange Rows.topGaleTurnedSpec) false w args)
      (Rows.topGaleTurnedSpec.post enc Tryz.prog Tryz.f4 false true false false):=by
  refine returns_shaped (C:=Tryz.checked) (X:=fun w _ => laidMetH Tryz.prog Rows.topGaleTurnedRow.laid w) (fun _ _ _ hh h => h.of_heap hh) own started (by kernel_rfl) Tryz.func4
    (ChangeSpec.witness_shaped (enc:=enc) (C:=Tryz.checked) (os:=os) (X:=fun w _ => laidMetH Tryz.prog Rows.topGaleTurnedRow.laid w) false (door os) #[.agg #[.string ⟨#[]⟩,.int .i64 0,.slice none 0 0],.agg (Array.replicate 408 (.int .i64 0)),.agg #[.int .u8 0,.int .u8 0]] 8 (World.laidAll_os _ _ _) (World.shaped_of_RefB (by kernel_rfl) (by kernel_rfl)) (by kernel_rfl) (by kernel_rfl) (by kernel_rfl) (door_met os _)) ?_
  intro W base args ds gs before hval0 hW hL hsh
  obtain ⟨mx,ta,tb,va,vb,hglb⟩:=of_laid hL hsh
  have hval:∀ (j:Nat) t v,Tryz.f4.params[j]? = some t → args[j]? = some v → Value.okWide Tryz.prog W .any base t v:=hval0
  have hW':=hW
  obtain ⟨p,q,hA0,hV,rfl,hfz,hnd⟩:=hW
  have hA:DataW.TrodAll enc Tryz.prog W 0 (fun _ => true) true Tryz.f4.params.toList args.toList ds p:=hA0
  rw [Tryz.params4] at hA hval
  obtain ⟨v0,vs0,d0,ds0,p0,q0,hargs,rfl,rfl,h0,r0⟩:=trodAll_cons hA
  obtain ⟨v1,vs1,d1,ds1,p1,q1,rfl,rfl,rfl,h1,r1⟩:=trodAll_cons r0
  obtain ⟨v2,vs2,d2,ds2,p2,q2,rfl,rfl,rfl,h2,r2⟩:=trodAll_cons r1
  obtain ⟨rfl,rfl,rfl⟩:=trodAll_nil r2
  obtain rfl:args = #[v0,v1,v2]:=by cases args;simp_all
  obtain ⟨rfl,rfl⟩:=trodVars_none hV
  have k0:=h0
  have lt0:∀ x ∈ p0,x.block < W.heap.size:=by obtain ⟨m,hm⟩:=k0;exact DataW.trod_lt m _ _ _ hm
  have k1:=h1
  have lt1:∀ x ∈ p1,x.block < W.heap.size:=by obtain ⟨m,hm⟩:=k1;exact DataW.trod_lt m _ _ _ hm
  have k2:=h2
  have lt2:∀ x ∈ p2,x.block < W.heap.size:=by obtain ⟨m,hm⟩:=k2;exact DataW.trod_lt m _ _ _ hm
  obtain ⟨z0,rfl,_⟩:=okWide_struct Tryz.underlying55 (hval 0 55 v0 rfl rfl)
  obtain ⟨x0,o0,y0⟩:=sites.argA h0 (fun _ => none)
  obtain ⟨z1,rfl⟩:=Nac.okWide_arr Tryz.underlying58 (hval 1 58 v1 rfl rfl)
  obtain ⟨x1,o1,y1⟩:=roses.argA h1 (fun _ => none)
  obtain ⟨z2,rfl⟩:=Nac.okWide_arr Tryz.underlying59 (hval 2 59 v2 rfl rfl)
  obtain ⟨x2,o2,y2⟩:=arr2u8.argA h2 (fun _ => none)
  letI:=envU mx (.iface ta va) (.iface tb vb)
  refine (law_callsX mixed (okF _ _ _) (xsOk mx ta tb va vb) rfl (L5.q_top_TopGaleTurnedL itoaX joinX cutX splitX atoiX trimX (L5.q_top_galeRecord sortX itoaX joinX fbitsX frombX) x0 x1 x2 o1 o2) (W:=W) (cargs:=#[.agg z0,.agg z1,.agg z2]) hglb (.cons _ _ _ _ y0 (.cons _ _ _ _ y1 (.cons _ _ _ _ y2 .nil)))).mono fun e W' ⟨he,bel⟩ => ?_
  subst he
  exact ⟨_,rfl,_,_,_,[],_,[],hW',trodAll_mk1 (shut_bool Tryz.underlying4 _),(trodAll_cons_mk (Below.trod laidOut (by kernel_rfl) (of_decide_eq_true (by kernel_rfl)) k0 bel lt0) (trodAll_cons_mk (Below.trod laidOut (by kernel_rfl) (of_decide_eq_true (by kernel_rfl)) k1 bel lt1) (trodAll_cons_mk (Below.trod laidOut (by kernel_rfl) (of_decide_eq_true (by kernel_rfl)) k2 bel lt2) trodAll_mk0))),rfl,bel.frame _,fun h => by cases h⟩
theorem named:Tryz.pinned.checked.prog.funcNamed Rows.topGaleTurnedRow.func = some 4:=by kernel_rfl
set_option maxHeartbeats 8000000 in
theorem closed:joinedFacts Tryz.pinned.checked.prog 4 Tryz.f4 Rows.topGaleTurnedSpec Rows.topGaleTurnedRow = true:=by
  unfold joinedFacts
  simp only [Bool.and_eq_true]
  repeat' refine And.intro ?_ ?_
  all_goals decide +kernel
theorem over:Rows.TopGaleTurnedSaid :=
  OpenClaim.holds_of_wide 4 Tryz.f4 rfl rfl rfl rfl rfl rfl rfl ⟨rfl,rfl,rfl,rfl,rfl⟩ rfl rfl rfl rfl rfl named Tryz.func4 closed
    (of_decide_eq_true (by kernel_rfl)) (by unfold Func.isWrapper;first|(rw [if_pos (by decide +kernel)];kernel_rfl)|(rw [if_neg (by decide +kernel)];exact ⟨rfl,rfl⟩))
    (fun os started H enc _ => lifted os started H enc)
theorem wfT:Rows.topGaleTurnedRow.wfByText (OpenSpec.ofChange Rows.topGaleTurnedSpec) = true:=by kernel_rfl
theorem looks:true = Tryz.pinned.checked.prog.looks []:=by kernel_rfl
theorem goes:false = Rows.topGaleTurnedRow.goesBy Tryz.pinned.checked.prog:=by kernel_rfl
theorem mainIs : Tryz.pinned.checked.prog.mainIs = some (true, "a25dffce3c30546b94e8ee5d41b68ac28fd268b24cbd70f5808d3193a1aab2f2".toList) := by kernel_rfl
theorem want55:Tryz.pinned.checked.prog.wantsStandIn 55 = false:=by kernel_rfl
theorem want58:Tryz.pinned.checked.prog.wantsStandIn 58 = false:=by kernel_rfl
theorem want59:Tryz.pinned.checked.prog.wantsStandIn 59 = false:=by kernel_rfl
theorem wants (f:FuncId) (fn:Func) (hf:Tryz.pinned.checked.prog.funcNamed Rows.topGaleTurnedRow.func = some f) (hfn:Tryz.pinned.checked.prog.funcs[f]? = some fn):true = Tryz.pinned.checked.prog.looks [] ∧ ∀ (j:Nat) t,fn.params[j]? = some t → Tryz.pinned.checked.prog.wantsStandIn t = false:=by
  obtain rfl:f = 4:=(Option.some.inj (named.symm.trans hf)).symm
  obtain rfl:fn = Tryz.f4:=(Option.some.inj (Tryz.func4.symm.trans hfn)).symm
  refine ⟨looks,fun j t ht => ?_⟩
  rw [Tryz.params4] at ht
  have h3:t ∈ [55,58,59]:=List.mem_of_getElem? (by simpa using ht)
  simp only [List.mem_cons,List.not_mem_nil,or_false] at h3
  rcases h3 with rfl|rfl|rfl
  · exact want55
  · exact want58
  · exact want59
theorem proved:Rows.TopGaleTurnedCardSaid :=
  Claim7.holds_tied_plain_at .later [] [.data, .data, .data, .data, .sentinel, .sentinel, .data, .pinned] true (true, "a25dffce3c30546b94e8ee5d41b68ac28fd268b24cbd70f5808d3193a1aab2f2") true
    over (fun _ h => by cases h) wfT (fun _ h => by cases h) topGaleTurned_row_tie rfl ⟨rfl,rfl⟩ mainIs rfl wants goes
end Go.Proofs.YtcbfjgpdogcdbaaGreatDoor.topGaleTurned
