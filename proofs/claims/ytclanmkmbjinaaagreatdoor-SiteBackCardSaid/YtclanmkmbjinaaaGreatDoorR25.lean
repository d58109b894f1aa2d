/- For every input the law SiteBack returns true, ends, and leaves its arguments as they were; the listed variables hold what the program's text lays. -/
import Derived.Test.YtclanmkmbjinaaaGreatDoorW13
set_option linter.unusedVariables false
set_option maxRecDepth 100000
namespace Go.Proofs.YtclanmkmbjinaaaGreatDoor.siteBack
open Go.ChangeShapes Go.WideShapes Go.ChangeAt Go.RowKit Go.Nac U
theorem own:ownKnob Tryz.prog.godebug = none:=by kernel_rfl
theorem laidOut:laidOutB Tryz.prog = true:=by kernel_rfl
theorem pnts:Opens Tryz.prog 51 (fun p:Pt => [.I p.x,.I p.y]) (fun p => (-9223372036854775808 ≤ p.x ∧ p.x ≤ 9223372036854775807) ∧ (-9223372036854775808 ≤ p.y ∧ p.y ≤ 9223372036854775807)) :=
 (Qfk Tryz.underlying51 (by kernel_rfl) ⟨rfl,by kernel_rfl,Tryz.underlying3⟩ ⟨rfl,by kernel_rfl,Tryz.underlying3⟩).map (fun r => (⟨r.at_,r.ld⟩:Pt)) (fun _ => rfl) (fun _ h => h)
theorem turb:Opens Tryz.prog 78 (fun t:Tb => [.s (.string t.name),.I t.x,.I t.y]) (fun _ => True) :=
 (Opens.struct Tryz.underlying78 (by kernel_rfl) (Q5.cons (QbI Tryz.underlying9) rfl (by kernel_rfl:Tryz.prog.cellsOf 9 = 1) (by decide) (Q5.cons pnts rfl (by kernel_rfl:Tryz.prog.cellsOf 51 = 2) (by decide) Q5.nil))).map (fun p => (⟨p.1,p.2.1.x,p.2.1.y⟩:Tb)) (fun _ => rfl) (fun _ _ => trivial)
theorem turbs:Opens Tryz.prog 47 (fun l:List Tb => [.fs (l.map encTb)]) (fun _ => True) :=
 (J9 Tryz.underlying47 (by kernel_rfl:Tryz.prog.cellsOf 78 = 3) (by decide) encTb (fun _ => rfl) (fun _ => rfl) turb).map id (fun _ => rfl) (fun _ _ => trivial)
theorem sites:Opens Tryz.prog 49 (fun s:Ste => [.s (.string s.name),.I s.least,.fs (s.tbs.map encTb)]) (fun _ => True) :=
 (Opens.struct Tryz.underlying49 (by kernel_rfl) (Q5.cons (QbI Tryz.underlying9) rfl (by kernel_rfl:Tryz.prog.cellsOf 9 = 1) (by decide) (Q5.cons (Qfe Tryz.underlying3) rfl (by kernel_rfl:Tryz.prog.cellsOf 3 = 1) (by decide) (Q5.cons turbs rfl (by kernel_rfl:Tryz.prog.cellsOf 47 = 1) (by decide) Q5.nil)))).map (fun p => (⟨p.1,p.2.1,p.2.2.1⟩:Ste)) (fun _ => rfl) (fun _ _ => trivial)
theorem spn1:Opens Tryz.prog 23 (fun x:Spn => [.I x.fr,.I x.to_]) (fun _ => True) :=
 (Qfk Tryz.underlying23 (by kernel_rfl) ⟨rfl,by kernel_rfl,Tryz.underlying3⟩ ⟨rfl,by kernel_rfl,Tryz.underlying3⟩).map (fun r => (⟨r.at_,r.ld⟩:Spn)) (fun _ => rfl) (fun _ _ => trivial)
theorem spns:Opens Tryz.prog 24 (fun l:List Spn => [.fs (l.map Qb)]) (fun _ => True) :=
 (J9 Tryz.underlying24 (by kernel_rfl:Tryz.prog.cellsOf 23 = 2) (by decide) Qb (fun _ => rfl) (fun _ => rfl) spn1).map id (fun _ => rfl) (fun _ _ => trivial)
theorem smps:Opens Tryz.prog 90 (fun l:List Nat => [.fs (l.map encF)]) (fun _ => True) :=
 (J9 Tryz.underlying90 (by kernel_rfl:Tryz.prog.cellsOf 93 = 1) (by decide) encF (fun _ => rfl) (fun _ => rfl) (QkM Tryz.underlying93)).map id (fun _ => rfl) (fun _ _ => trivial)
theorem sers:Opens Tryz.prog 92 (fun x:Ser => [.s (.string x.name),.I x.start,.fs (x.samples.map encF),.fs (x.gaps.map Qb)]) (fun _ => True) :=
 (Opens.struct Tryz.underlying92 (by kernel_rfl) (Q5.cons (QbI Tryz.underlying9) rfl (by kernel_rfl:Tryz.prog.cellsOf 9 = 1) (by decide) (Q5.cons (Qfe Tryz.underlying3) rfl (by kernel_rfl:Tryz.prog.cellsOf 3 = 1) (by decide) (Q5.cons smps rfl (by kernel_rfl:Tryz.prog.cellsOf 90 = 1) (by decide) (Q5.cons spns rfl (by kernel_rfl:Tryz.prog.cellsOf 24 = 1) (by decide) Q5.nil))))).map (fun p => (⟨p.1,p.2.1,p.2.2.1,p.2.2.2.1⟩:Ser)) (fun _ => rfl) (fun _ _ => trivial)
theorem lifted (os:Os) (started:os.Started) (H:Type) (enc:TypeId × Value → H) :
  ReturnsInHanded {} Tryz.checked os 16 .any (fun w args => (Rows.siteBackSpec.pre enc Tryz.prog Tryz.f16 [] false w args ∧ laidMetH Tryz.prog Rows.siteBackRow.laid w) ∧ sizedMet enc Tryz.prog Tryz.f16 (OpenSpec.ofChange Rows.siteBackSpec) false w args)
   (Rows.siteBackSpec.post enc Tryz.prog Tryz.f16 false true false false):=by
 refine QeV (C:=Tryz.checked) (X:=fun w _ => laidMetH Tryz.prog Rows.siteBackRow.laid w) (fun _ _ _ hh h => h.of_heap hh) own started (by kernel_rfl) Tryz.func16
  (ChangeSpec.witness_shaped (enc:=enc) (C:=Tryz.checked) (os:=os) (X:=fun w _ => laidMetH Tryz.prog Rows.siteBackRow.laid w) false (door os) #[.agg #[.string ⟨#[]⟩,.int .i64 0,.slice none 0 0],.agg #[.string ⟨#[]⟩,.int .i64 0,.slice none 0 0,.slice none 0 0],.string ⟨#[]⟩] 8 (World.laidAll_os _ _ _) (World.shaped_of_RefB (by kernel_rfl) (by kernel_rfl)) (by kernel_rfl) (by kernel_rfl) (by kernel_rfl) (Qm6 os _)) ?_
 intro W base args ds gs before hval0 hW hL hsh
 obtain ⟨mx,ta,tb,va,vb,hglb⟩:=Qqz hL hsh
 have hval:∀ (j:Nat) t v,Tryz.f16.params[j]? = some t → args[j]? = some v → Value.okWide Tryz.prog W .any base t v:=hval0
 have hW':=hW
 obtain ⟨p,q,hA0,hV,rfl,hfz,hnd⟩:=hW
 have hA:DataW.TrodAll enc Tryz.prog W 0 (fun _ => true) true Tryz.f16.params.toList args.toList ds p:=hA0
 rw [Tryz.params16] at hA hval
 obtain ⟨v0,vs0,d0,ds0,p0,q0,hargs,rfl,rfl,h0,r0⟩:=trodAll_cons hA
 obtain ⟨v1,vs1,d1,ds1,p1,q1,rfl,rfl,rfl,h1,r1⟩:=trodAll_cons r0
 obtain ⟨v2,vs2,d2,ds2,p2,q2,rfl,rfl,rfl,h2,r2⟩:=trodAll_cons r1
 obtain ⟨rfl,rfl,rfl⟩:=trodAll_nil r2
 obtain rfl:args = #[v0,v1,v2]:=by cases args;simp_all
 obtain ⟨rfl,rfl⟩:=trodVars_none hV
 have k0:=h0
 have lt0:∀ x ∈ p0,x.block < W.heap.size:=by obtain ⟨m,hm⟩:=k0;exact DataW.trod_lt m _ _ _ hm
 have k1:=h1
 have lt1:∀ x ∈ p1,x.block < W.heap.size:=by obtain ⟨m,hm⟩:=k1;exact DataW.trod_lt m _ _ _ hm
 have k2:=h2
 have lt2:∀ x ∈ p2,x.block < W.heap.size:=by obtain ⟨m,hm⟩:=k2;exact DataW.trod_lt m _ _ _ hm
 obtain ⟨z0,rfl,_⟩:=okWide_struct Tryz.underlying49 (hval 0 49 v0 rfl rfl)
 obtain ⟨x0,o0,y0⟩:=sites.argA h0 (fun _ => none)
 obtain ⟨z1,rfl,_⟩:=okWide_struct Tryz.underlying92 (hval 1 92 v1 rfl rfl)
 obtain ⟨x1,o1,y1⟩:=sers.argA h1 (fun _ => none)
 obtain ⟨x2,rfl⟩:=okWide_string Tryz.underlying9 (hval 2 9 v2 rfl rfl)
 have y2:VRel [] (fun _ => none) W (.s (.string x2)) (.string x2):=.s _ rfl
 letI:=envU mx (.iface ta va) (.iface tb vb)
 refine (QjC mixed (okF _ _ _) (xsOk mx ta tb va vb) rfl (L4.q_law01_SiteBack itoaX joinX cutX QsK atoiX trimX QrU QlV Qsi (L4.q_law01_awake sortX itoaX joinX QlV) x0 x1 x2) (W:=W) (cargs:=#[.agg z0,.agg z1,.string x2]) hglb (.cons _ _ _ _ y0 (.cons _ _ _ _ y1 (.cons _ _ _ _ y2 .nil)))).mono fun e W' ⟨he,bel⟩ => ?_
 subst he
 exact ⟨_,rfl,_,_,_,[],_,[],hW',trodAll_mk1 (shut_bool Tryz.underlying4 _),(trodAll_cons_mk (Below.trod laidOut (by kernel_rfl) (of_decide_eq_true (by kernel_rfl)) k0 bel lt0) (trodAll_cons_mk (Below.trod laidOut (by kernel_rfl) (of_decide_eq_true (by kernel_rfl)) k1 bel lt1) (trodAll_cons_mk (Below.trod laidOut (by kernel_rfl) (of_decide_eq_true (by kernel_rfl)) k2 bel lt2) trodAll_mk0))),rfl,bel.frame _,fun h => by cases h⟩
theorem named:Tryz.pinned.checked.prog.funcNamed Rows.siteBackRow.func = some 16:=by kernel_rfl
set_option maxHeartbeats 8000000 in
theorem closed:joinedFacts Tryz.pinned.checked.prog 16 Tryz.f16 Rows.siteBackSpec Rows.siteBackRow = true:=by
 unfold joinedFacts
 simp only [Bool.and_eq_true]
 repeat' refine And.intro ?_ ?_
 all_goals decide +kernel
theorem over:Rows.SiteBackSaid :=
 OpenClaim.holds_of_wide 16 Tryz.f16 rfl rfl rfl rfl rfl rfl rfl ⟨rfl,rfl,rfl,rfl,rfl⟩ rfl rfl rfl rfl rfl named Tryz.func16 closed
  (of_decide_eq_true (by kernel_rfl)) (by unfold Func.isWrapper;first|(rw [if_pos (by decide +kernel)];kernel_rfl)|(rw [if_neg (by decide +kernel)];exact ⟨rfl,rfl⟩))
  (fun os started H enc _ => lifted os started H enc)
theorem wfT:Rows.siteBackRow.wfByText (OpenSpec.ofChange Rows.siteBackSpec) = true:=by kernel_rfl
theorem looks:true = Tryz.pinned.checked.prog.looks []:=by kernel_rfl
theorem goes:false = Rows.siteBackRow.goesBy Tryz.pinned.checked.prog:=by kernel_rfl
theorem mainIs : Tryz.pinned.checked.prog.mainIs = some (true, "38e7c6aea81c656adca26251d7389b511e31ca28a75eea5c7c89ce124f93e9f9".toList) := by kernel_rfl
theorem want49:Tryz.pinned.checked.prog.wantsStandIn 49 = false:=by kernel_rfl
theorem want9:Tryz.pinned.checked.prog.wantsStandIn 9 = false:=by kernel_rfl
theorem want92:Tryz.pinned.checked.prog.wantsStandIn 92 = false:=by kernel_rfl
theorem wants (f:FuncId) (fn:Func) (hf:Tryz.pinned.checked.prog.funcNamed Rows.siteBackRow.func = some f) (hfn:Tryz.pinned.checked.prog.funcs[f]? = some fn):true = Tryz.pinned.checked.prog.looks [] ∧ ∀ (j:Nat) t,fn.params[j]? = some t → Tryz.pinned.checked.prog.wantsStandIn t = false:=by
 obtain rfl:f = 16:=(Option.some.inj (named.symm.trans hf)).symm
 obtain rfl:fn = Tryz.f16:=(Option.some.inj (Tryz.func16.symm.trans hfn)).symm
 refine ⟨looks,fun j t ht => ?_⟩
 rw [Tryz.params16] at ht
 have h3:t ∈ [49,92,9]:=List.mem_of_getElem? (by simpa using ht)
 simp only [List.mem_cons,List.not_mem_nil,or_false] at h3
 rcases h3 with rfl|rfl|rfl
 ·exact want49
 ·exact want92
 ·exact want9
theorem proved:Rows.SiteBackCardSaid :=
  Claim7.holds_tied_plain_at .later [] [.data, .data, .data, .data, .sentinel, .sentinel, .data, .pinned] true (true, "38e7c6aea81c656adca26251d7389b511e31ca28a75eea5c7c89ce124f93e9f9") true
    over (fun _ h => by cases h) wfT (fun _ h => by cases h) siteBack_row_tie rfl ⟨rfl,rfl⟩ mainIs rfl wants goes
end Go.Proofs.YtclanmkmbjinaaaGreatDoor.siteBack
