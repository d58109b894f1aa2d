/- For every input the law SiteSets returns true, ends, and leaves its arguments as they were; the listed variables hold what the program's text lays. -/
import Derived.Test.YtclanmkmbjinaaaGreatDoorW10
set_option linter.unusedVariables false
set_option maxRecDepth 100000
namespace Go.Proofs.YtclanmkmbjinaaaGreatDoor.siteSets
open Go.ChangeShapes Go.WideShapes Go.ChangeAt Go.RowKit Go.Nac
theorem own:ownKnob Tryz.prog.godebug = none:=by kernel_rfl
theorem laidOut:laidOutB Tryz.prog = true:=by kernel_rfl
theorem spn1:Opens Tryz.prog 23 (fun x:Spn => [.I x.fr,.I x.to_]) (fun _ => True) :=
  (opens_rev Tryz.underlying23 (by kernel_rfl) ⟨rfl,by kernel_rfl,Tryz.underlying3⟩ ⟨rfl,by kernel_rfl,Tryz.underlying3⟩).map (fun r => (⟨r.at_,r.ld⟩:Spn)) (fun _ => rfl) (fun _ _ => trivial)
theorem spns:Opens Tryz.prog 24 (fun l:List Spn => [.fs (l.map encSpn)]) (fun _ => True) :=
  (opens_slice Tryz.underlying24 (by kernel_rfl:Tryz.prog.cellsOf 23 = 2) (by decide) encSpn (fun _ => rfl) (fun _ => rfl) spn1).map id (fun _ => rfl) (fun _ _ => trivial)
theorem lifted (os:Os) (started:os.Started) (H:Type) (enc:TypeId × Value → H) :
    ReturnsInHanded {} Tryz.checked os 4 .any (fun w args => (Rows.siteSetsSpec.pre enc Tryz.prog Tryz.f4 [] false w args ∧ laidMetH Tryz.prog Rows.siteSetsRow.laid w) ∧ sizedMet enc Tryz.prog Tryz.f4 (OpenSpec.ofChange Rows.siteSetsSpec) false w args)
      (Rows.siteSetsSpec.post enc Tryz.prog Tryz.f4 false true false false):=by
  refine returnsInHanded_of_change_and (C:=Tryz.checked) (X:=fun w _ => laidMetH Tryz.prog Rows.siteSetsRow.laid w) (fun _ _ _ hh h => h.of_heap hh) own started (by kernel_rfl) Tryz.func4
    (ChangeSpec.witness_shaped (enc:=enc) (C:=Tryz.checked) (os:=os) (X:=fun w _ => laidMetH Tryz.prog Rows.siteSetsRow.laid w) false (World.doorLaid Tryz.prog 85 os) #[.slice none 0 0,.slice none 0 0] 8 rfl (World.shaped_of_RefB (by kernel_rfl) (by kernel_rfl)) (by kernel_rfl) (by kernel_rfl) (by kernel_rfl) (door_met os _)) ?_
  intro W base args ds gs before hval0 hW _ _ hL _
  have hval:∀ (j:Nat) t v,Tryz.f4.params[j]? = some t → args[j]? = some v → Value.okWide Tryz.prog W .any base t v:=hval0
  have hW':=hW
  obtain ⟨p,q,hA0,hV,rfl,hfz,hnd⟩:=hW
  have hA:DataW.TrodAll enc Tryz.prog W 0 (fun _ => true) true Tryz.f4.params.toList args.toList ds p:=hA0
  rw [Tryz.params4] at hA hval
  obtain ⟨v0,vs0,d0,ds0,p0,q0,hargs,rfl,rfl,h0,r0⟩:=trodAll_cons hA
  obtain ⟨v1,vs1,d1,ds1,p1,q1,rfl,rfl,rfl,h1,r1⟩:=trodAll_cons r0
  obtain ⟨rfl,rfl,rfl⟩:=trodAll_nil r1
  obtain rfl:args = #[v0,v1]:=by cases args;simp_all
  obtain ⟨rfl,rfl⟩:=trodVars_none hV
  have k0:=h0
  have lt0:∀ x ∈ p0,x.block < W.heap.size:=by obtain ⟨m,hm⟩:=k0;exact DataW.trod_lt m _ _ _ hm
  have k1:=h1
  have lt1:∀ x ∈ p1,x.block < W.heap.size:=by obtain ⟨m,hm⟩:=k1;exact DataW.trod_lt m _ _ _ hm
  obtain ⟨a0,len0,cap0,rfl⟩:=okWide_slice Tryz.underlying24 (hval 0 24 v0 rfl rfl)
  obtain ⟨x0,o0,y0⟩:=spns.arg (fun l => .fs (l.map encSpn)) (fun _ => rfl) rfl h0 (fun _ => none)
  obtain ⟨a1,len1,cap1,rfl⟩:=okWide_slice Tryz.underlying24 (hval 1 24 v1 rfl rfl)
  obtain ⟨x1,o1,y1⟩:=spns.arg (fun l => .fs (l.map encSpn)) (fun _ => rfl) rfl h1 (fun _ => none)
  letI:=envT
  refine (law_callsX mixed okF xsOk rfl (L4.q_law01_SiteSets sortX (L4.q_law01_awake sortX itoaX joinX fbitsX) x0 x1) (W:=W) (cargs:=#[.slice a0 len0 cap0,.slice a1 len1 cap1]) (of_laid hL) (.cons _ _ _ _ y0 (.cons _ _ _ _ y1 .nil))).mono fun e W' ⟨he,bel⟩ => ?_
  subst he
  exact ⟨_,rfl,_,_,_,[],_,[],hW',trodAll_mk1 (shut_bool Tryz.underlying4 _),(trodAll_cons_mk (Below.trod laidOut (by kernel_rfl) (of_decide_eq_true (by kernel_rfl)) k0 bel lt0) (trodAll_cons_mk (Below.trod laidOut (by kernel_rfl) (of_decide_eq_true (by kernel_rfl)) k1 bel lt1) trodAll_mk0)),rfl,bel.frame _,fun h => by cases h⟩
theorem named:Tryz.pinned.checked.prog.funcNamed Rows.siteSetsRow.func = some 4:=by kernel_rfl
set_option maxHeartbeats 8000000 in
theorem closed:joinedFacts Tryz.pinned.checked.prog 4 Tryz.f4 Rows.siteSetsSpec Rows.siteSetsRow = true:=by
  unfold joinedFacts
  simp only [Bool.and_eq_true]
  repeat' refine And.intro ?_ ?_
  all_goals decide +kernel
theorem over:Rows.SiteSetsSaid :=
  OpenClaim.holds_of_wide 4 Tryz.f4 rfl rfl rfl rfl rfl rfl rfl ⟨rfl,rfl,rfl,rfl,rfl⟩ rfl rfl rfl rfl rfl named Tryz.func4 closed
    (of_decide_eq_true (by kernel_rfl)) (by unfold Func.isWrapper;first|(rw [if_pos (by decide +kernel)];kernel_rfl)|(rw [if_neg (by decide +kernel)];exact ⟨rfl,rfl⟩))
    (fun os started H enc _ => lifted os started H enc)
theorem wfT:Rows.siteSetsRow.wfByText (OpenSpec.ofChange Rows.siteSetsSpec) = true:=by kernel_rfl
theorem looks:true = Tryz.pinned.checked.prog.looks []:=by kernel_rfl
theorem goes:false = Rows.siteSetsRow.goesBy Tryz.pinned.checked.prog:=by kernel_rfl
theorem mainIs : Tryz.pinned.checked.prog.mainIs = some (true, "38e7c6aea81c656adca26251d7389b511e31ca28a75eea5c7c89ce124f93e9f9".toList) := by kernel_rfl
theorem want24:Tryz.pinned.checked.prog.wantsStandIn 24 = false:=by kernel_rfl
theorem wants (f:FuncId) (fn:Func) (hf:Tryz.pinned.checked.prog.funcNamed Rows.siteSetsRow.func = some f) (hfn:Tryz.pinned.checked.prog.funcs[f]? = some fn):true = Tryz.pinned.checked.prog.looks [] ∧ ∀ (j:Nat) t,fn.params[j]? = some t → Tryz.pinned.checked.prog.wantsStandIn t = false:=by
  obtain rfl:f = 4:=(Option.some.inj (named.symm.trans hf)).symm
  obtain rfl:fn = Tryz.f4:=(Option.some.inj (Tryz.func4.symm.trans hfn)).symm
  refine ⟨looks,fun j t ht => ?_⟩
  rw [Tryz.params4] at ht
  have h3:t ∈ [24,24]:=List.mem_of_getElem? (by simpa using ht)
  simp only [List.mem_cons,List.not_mem_nil,or_false] at h3
  rcases h3 with rfl|rfl
  · exact want24
  · exact want24
theorem proved:Rows.SiteSetsCardSaid :=
  Claim7.holds_tied_plain_at .later [] [.data, .data, .data, .data] true (true, "38e7c6aea81c656adca26251d7389b511e31ca28a75eea5c7c89ce124f93e9f9") true
    over (fun _ h => by cases h) wfT (fun _ h => by cases h) siteSets_row_tie rfl ⟨rfl,rfl⟩ mainIs rfl wants goes
end Go.Proofs.YtclanmkmbjinaaaGreatDoor.siteSets
