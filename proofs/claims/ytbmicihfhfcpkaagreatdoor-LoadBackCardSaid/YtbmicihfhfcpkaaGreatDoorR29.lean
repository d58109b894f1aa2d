/- For every input the law LoadBack returns true, ends, and leaves its arguments as they were; the listed variables hold what the program's text lays. -/
import Derived.Test.YtbmicihfhfcpkaaGreatDoorW10
set_option linter.unusedVariables false
set_option maxRecDepth 100000
namespace Go.Proofs.YtbmicihfhfcpkaaGreatDoor.loadBack
open Go.ChangeShapes Go.WideShapes Go.ChangeAt Go.RowKit Go.Nac U
theorem own:ownKnob Tryz.prog.godebug = none:=by kernel_rfl
theorem laidOut:laidOutB Tryz.prog = true:=by kernel_rfl
theorem revs:Opens Tryz.prog 22 (fun l:List Rev => [.fs (l.map Qc)]) (fun l => ∀ r ∈ l,(-9223372036854775808 ≤ r.at_ ∧ r.at_ ≤ 9223372036854775807) ∧ (-9223372036854775808 ≤ r.ld ∧ r.ld ≤ 9223372036854775807)) :=
 Qfe Tryz.underlying22 (by kernel_rfl:Tryz.prog.cellsOf 43 = 2) (by decide) Qc (fun _ => rfl) (fun _ => rfl)
  (Qhp Tryz.underlying43 (by kernel_rfl) ⟨rfl,by kernel_rfl,Tryz.underlying3⟩ ⟨rfl,by kernel_rfl,Tryz.underlying3⟩)
theorem lifted (os:Os) (started:os.Started) (H:Type) (enc:TypeId × Value → H) :
  ReturnsInHanded {} Tryz.checked os 4 .any (fun w args => (Rows.loadBackSpec.pre enc Tryz.prog Tryz.f4 [] false w args ∧ laidMetH Tryz.prog Rows.loadBackRow.laid w) ∧ sizedMet enc Tryz.prog Tryz.f4 (OpenSpec.ofChange Rows.loadBackSpec) false w args)
   (Rows.loadBackSpec.post enc Tryz.prog Tryz.f4 false true false false):=by
 refine Qct (C:=Tryz.checked) (X:=fun w _ => laidMetH Tryz.prog Rows.loadBackRow.laid w) (fun _ _ _ hh h => h.of_heap hh) own started (by kernel_rfl) Tryz.func4
  (ChangeSpec.witness_shaped (enc:=enc) (C:=Tryz.checked) (os:=os) (X:=fun w _ => laidMetH Tryz.prog Rows.loadBackRow.laid w) false (door os) #[.slice none 0 0,.string ⟨#[]⟩] 8 (World.laidAll_os _ _ _) (World.shaped_of_RefB (by kernel_rfl) (by kernel_rfl)) (by kernel_rfl) (by kernel_rfl) (by kernel_rfl) (QjW os _)) ?_
 intro W base args ds gs before hval0 hW hL hsh
 obtain ⟨mx,ta,tb,va,vb,hglb⟩:=Qm5 hL hsh
 have hval:∀ (j:Nat) t v,Tryz.f4.params[j]? = some t → args[j]? = some v → Value.okWide Tryz.prog W .any base t v:=hval0
 have hW':=hW
 obtain ⟨p,q,hA0,hV,rfl,hfz,hnd⟩:=hW
 have hA:DataW.TrodAll enc Tryz.prog W 0 (fun _ => true) true Tryz.f4.params.toList args.toList ds p:=hA0
 rw [Tryz.params4] at hA hval
 obtain ⟨v0,vs0,d0,ds0,p0,q0,hargs,rfl,rfl,h0,r0⟩:=trodAll_cons hA
 obtain ⟨v1,vs1,d1,ds1,p1,q1,rfl,rfl,rfl,h1,r1⟩:=trodAll_cons r0
 obtain ⟨rfl,rfl,rfl⟩:=trodAll_nil r1
 obtain rfl:args = #[v0,v1]:=by cases args;simp_all
 obtain ⟨rfl,rfl⟩:=trodVars_none hV
 have k0:=h0
 have lt0:∀ x ∈ p0,x.block < W.heap.size:=by obtain ⟨m,hm⟩:=k0;exact DataW.trod_lt m _ _ _ hm
 have k1:=h1
 have lt1:∀ x ∈ p1,x.block < W.heap.size:=by obtain ⟨m,hm⟩:=k1;exact DataW.trod_lt m _ _ _ hm
 obtain ⟨a0,len0,cap0,rfl⟩:=okWide_slice Tryz.underlying22 (hval 0 22 v0 rfl rfl)
 obtain ⟨x0,o0,y0⟩:=revs.arg (fun l => .fs (l.map Qc)) (fun _ => rfl) rfl h0 (fun _ => none)
 obtain ⟨x1,rfl⟩:=okWide_string Tryz.underlying9 (hval 1 9 v1 rfl rfl)
 have y1:VRel [] (fun _ => none) W (.s (.string x1)) (.string x1):=.s _ rfl
 letI:=envU mx (.iface ta va) (.iface tb vb)
 refine (QgI mixed (okF _ _ _) (xsOk mx ta tb va vb) rfl (L7.q_law07_LoadBack copyX cutX QnZ itoaX atoiX trimX x0 x1) (W:=W) (cargs:=#[.slice a0 len0 cap0,.string x1]) hglb (.cons _ _ _ _ y0 (.cons _ _ _ _ y1 .nil))).mono fun e W' ⟨he,bel⟩ => ?_
 subst he
 exact ⟨_,rfl,_,_,_,[],_,[],hW',trodAll_mk1 (shut_bool Tryz.underlying4 _),(trodAll_cons_mk (Below.trod laidOut (by kernel_rfl) (of_decide_eq_true (by kernel_rfl)) k0 bel lt0) (trodAll_cons_mk (Below.trod laidOut (by kernel_rfl) (of_decide_eq_true (by kernel_rfl)) k1 bel lt1) trodAll_mk0)),rfl,bel.frame _,fun h => by cases h⟩
theorem named:Tryz.pinned.checked.prog.funcNamed Rows.loadBackRow.func = some 4:=by kernel_rfl
set_option maxHeartbeats 8000000 in
theorem closed:joinedFacts Tryz.pinned.checked.prog 4 Tryz.f4 Rows.loadBackSpec Rows.loadBackRow = true:=by
 unfold joinedFacts
 simp only [Bool.and_eq_true]
 repeat' refine And.intro ?_ ?_
 all_goals decide +kernel
theorem over:Rows.LoadBackSaid :=
 OpenClaim.holds_of_wide 4 Tryz.f4 rfl rfl rfl rfl rfl rfl rfl ⟨rfl,rfl,rfl,rfl,rfl⟩ rfl rfl rfl rfl rfl named Tryz.func4 closed
  (of_decide_eq_true (by kernel_rfl)) (by unfold Func.isWrapper;first|(rw [if_pos (by decide +kernel)];kernel_rfl)|(rw [if_neg (by decide +kernel)];exact ⟨rfl,rfl⟩))
  (fun os started H enc _ => lifted os started H enc)
theorem wfT:Rows.loadBackRow.wfByText (OpenSpec.ofChange Rows.loadBackSpec) = true:=by kernel_rfl
theorem looks:true = Tryz.pinned.checked.prog.looks []:=by kernel_rfl
theorem goes:false = Rows.loadBackRow.goesBy Tryz.pinned.checked.prog:=by kernel_rfl
theorem mainIs : Tryz.pinned.checked.prog.mainIs = some (true, "fbd6228b2e06c545e4e5b77b5a2c8800b3b6d9d073f3c029d1a38dec7cde0e09".toList) := by kernel_rfl
theorem want22:Tryz.pinned.checked.prog.wantsStandIn 22 = false:=by kernel_rfl
theorem want9:Tryz.pinned.checked.prog.wantsStandIn 9 = false:=by kernel_rfl
theorem wants (f:FuncId) (fn:Func) (hf:Tryz.pinned.checked.prog.funcNamed Rows.loadBackRow.func = some f) (hfn:Tryz.pinned.checked.prog.funcs[f]? = some fn):true = Tryz.pinned.checked.prog.looks [] ∧ ∀ (j:Nat) t,fn.params[j]? = some t → Tryz.pinned.checked.prog.wantsStandIn t = false:=by
 obtain rfl:f = 4:=(Option.some.inj (named.symm.trans hf)).symm
 obtain rfl:fn = Tryz.f4:=(Option.some.inj (Tryz.func4.symm.trans hfn)).symm
 refine ⟨looks,fun j t ht => ?_⟩
 rw [Tryz.params4] at ht
 have h3:t ∈ [22,9]:=List.mem_of_getElem? (by simpa using ht)
 simp only [List.mem_cons,List.not_mem_nil,or_false] at h3
 rcases h3 with rfl|rfl
 ·exact want22
 ·exact want9
theorem proved:Rows.LoadBackCardSaid :=
  Claim7.holds_tied_plain_at .later [] [.data, .data, .data, .data, .sentinel, .sentinel, .pinned] true (true, "fbd6228b2e06c545e4e5b77b5a2c8800b3b6d9d073f3c029d1a38dec7cde0e09") true
    over (fun _ h => by cases h) wfT (fun _ h => by cases h) loadBack_row_tie rfl ⟨rfl,rfl⟩ mainIs rfl wants goes
end Go.Proofs.YtbmicihfhfcpkaaGreatDoor.loadBack
