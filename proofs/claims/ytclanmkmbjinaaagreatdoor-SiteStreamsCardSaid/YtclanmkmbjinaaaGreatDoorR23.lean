/- For every input the law SiteStreams returns true, ends, and leaves its arguments as they were; the listed variables hold what the program's text lays. -/
import Derived.Test.YtclanmkmbjinaaaGreatDoorW11
set_option linter.unusedVariables false
set_option maxRecDepth 100000
namespace Go.Proofs.YtclanmkmbjinaaaGreatDoor.siteStreams
open Go.ChangeShapes Go.WideShapes Go.ChangeAt Go.RowKit Go.Nac
theorem own:ownKnob Tryz.prog.godebug = none:=by kernel_rfl
theorem laidOut:laidOutB Tryz.prog = true:=by kernel_rfl
theorem spn1:Opens Tryz.prog 23 (fun x:Spn => [.I x.fr,.I x.to_]) (fun _ => True) :=
  (opens_rev Tryz.underlying23 (by kernel_rfl) ⟨rfl,by kernel_rfl,Tryz.underlying3⟩ ⟨rfl,by kernel_rfl,Tryz.underlying3⟩).map (fun r => (⟨r.at_,r.ld⟩:Spn)) (fun _ => rfl) (fun _ _ => trivial)
theorem spns:Opens Tryz.prog 24 (fun l:List Spn => [.fs (l.map encSpn)]) (fun _ => True) :=
  (opens_slice Tryz.underlying24 (by kernel_rfl:Tryz.prog.cellsOf 23 = 2) (by decide) encSpn (fun _ => rfl) (fun _ => rfl) spn1).map id (fun _ => rfl) (fun _ _ => trivial)
theorem smps:Opens Tryz.prog 90 (fun l:List Nat => [.fs (l.map encF)]) (fun _ => True) :=
  (opens_slice Tryz.underlying90 (by kernel_rfl:Tryz.prog.cellsOf 93 = 1) (by decide) encF (fun _ => rfl) (fun _ => rfl) (opens_f32 Tryz.underlying93)).map id (fun _ => rfl) (fun _ _ => trivial)
theorem sers:Opens Tryz.prog 92 (fun x:Ser => [.s (.string x.name),.I x.start,.fs (x.samples.map encF),.fs (x.gaps.map encSpn)]) (fun _ => True) :=
  (Opens.struct Tryz.underlying92 (by kernel_rfl) (OpensFs.cons (opens_str Tryz.underlying9) rfl (by kernel_rfl:Tryz.prog.cellsOf 9 = 1) (by decide) (OpensFs.cons (opens_int Tryz.underlying3) rfl (by kernel_rfl:Tryz.prog.cellsOf 3 = 1) (by decide) (OpensFs.cons smps rfl (by kernel_rfl:Tryz.prog.cellsOf 90 = 1) (by decide) (OpensFs.cons spns rfl (by kernel_rfl:Tryz.prog.cellsOf 24 = 1) (by decide) OpensFs.nil))))).map (fun p => (⟨p.1,p.2.1,p.2.2.1,p.2.2.2.1⟩:Ser)) (fun _ => rfl) (fun _ _ => trivial)
theorem opens_byte {P:Program} {t:TypeId} (ht:P.underlying t = some (.int .u8)):Opens P t (fun c:UInt8 => [bt c]) (fun _ => True):=by
  intro H enc W L n cs x h
  obtain ⟨z,rfl,_,hw⟩:=DataW.trod_int ht h
  have hz:=wf_u8 hw
  have e:bt (UInt8.ofNat z.toNat) = .s (.int .u8 z):=by
    have h1:(UInt8.ofNat z.toNat).toNat = z.toNat:=UInt8.toNat_ofNat_of_lt' (by show z.toNat < 256;omega)
    rw [bt_eq,h1,Int.toNat_of_nonneg (by omega)]
  exact ⟨UInt8.ofNat z.toNat,trivial,by show LRel [] L W [bt (UInt8.ofNat z.toNat)] _;rw [e];exact .cons _ _ _ _ (.s _ rfl) .nil⟩
theorem byteA:Opens Tryz.prog 133 (fun l:List UInt8 => [.fs (l.map bt)]) (fun _ => True) :=
  (opens_slice Tryz.underlying133 (by kernel_rfl:Tryz.prog.cellsOf 5 = 1) (by decide) bt (fun _ => rfl) (fun _ => rfl) (opens_byte Tryz.underlying5)).map id (fun _ => rfl) (fun _ _ => trivial)
theorem lifted (os:Os) (started:os.Started) (H:Type) (enc:TypeId × Value → H) :
    ReturnsInHanded {} Tryz.checked os 14 .any (fun w args => (Rows.siteStreamsSpec.pre enc Tryz.prog Tryz.f14 [] false w args ∧ laidMetH Tryz.prog Rows.siteStreamsRow.laid w) ∧ sizedMet enc Tryz.prog Tryz.f14 (OpenSpec.ofChange Rows.siteStreamsSpec) false w args)
      (Rows.siteStreamsSpec.post enc Tryz.prog Tryz.f14 false true false false):=by
  refine returnsInHanded_of_change_and (C:=Tryz.checked) (X:=fun w _ => laidMetH Tryz.prog Rows.siteStreamsRow.laid w) (fun _ _ _ hh h => h.of_heap hh) own started (by kernel_rfl) Tryz.func14
    (ChangeSpec.witness_shaped (enc:=enc) (C:=Tryz.checked) (os:=os) (X:=fun w _ => laidMetH Tryz.prog Rows.siteStreamsRow.laid w) false (World.doorLaid Tryz.prog 85 os) #[.agg #[.string ⟨#[]⟩,.int .i64 0,.slice none 0 0,.slice none 0 0],.slice none 0 0] 8 rfl (World.shaped_of_RefB (by kernel_rfl) (by kernel_rfl)) (by kernel_rfl) (by kernel_rfl) (by kernel_rfl) (door_met os _)) ?_
  intro W base args ds gs before hval0 hW _ _ hL _
  have hval:∀ (j:Nat) t v,Tryz.f14.params[j]? = some t → args[j]? = some v → Value.okWide Tryz.prog W .any base t v:=hval0
  have hW':=hW
  obtain ⟨p,q,hA0,hV,rfl,hfz,hnd⟩:=hW
  have hA:DataW.TrodAll enc Tryz.prog W 0 (fun _ => true) true Tryz.f14.params.toList args.toList ds p:=hA0
  rw [Tryz.params14] at hA hval
  obtain ⟨v0,vs0,d0,ds0,p0,q0,hargs,rfl,rfl,h0,r0⟩:=trodAll_cons hA
  obtain ⟨v1,vs1,d1,ds1,p1,q1,rfl,rfl,rfl,h1,r1⟩:=trodAll_cons r0
  obtain ⟨rfl,rfl,rfl⟩:=trodAll_nil r1
  obtain rfl:args = #[v0,v1]:=by cases args;simp_all
  obtain ⟨rfl,rfl⟩:=trodVars_none hV
  have k0:=h0
  have lt0:∀ x ∈ p0,x.block < W.heap.size:=by obtain ⟨m,hm⟩:=k0;exact DataW.trod_lt m _ _ _ hm
  have k1:=h1
  have lt1:∀ x ∈ p1,x.block < W.heap.size:=by obtain ⟨m,hm⟩:=k1;exact DataW.trod_lt m _ _ _ hm
  obtain ⟨z0,rfl,_⟩:=okWide_struct Tryz.underlying92 (hval 0 92 v0 rfl rfl)
  obtain ⟨x0,o0,y0⟩:=sers.argA h0 (fun _ => none)
  obtain ⟨a1,len1,cap1,rfl⟩:=okWide_slice Tryz.underlying133 (hval 1 133 v1 rfl rfl)
  obtain ⟨x1,o1,y1⟩:=byteA.arg (fun l => .fs (l.map bt)) (fun _ => rfl) rfl h1 (fun _ => none)
  letI:=envT
  refine (law_callsX mixed okF xbOk rfl (L4.q_law01_SiteStreams floorXB fbitsXB frombXB (L4.q_law01_awake sortXB itoaXB joinXB fbitsXB) x0 x1) (W:=W) (cargs:=#[.agg z0,.slice a1 len1 cap1]) (of_laid hL) (.cons _ _ _ _ y0 (.cons _ _ _ _ y1 .nil))).mono fun e W' ⟨he,bel⟩ => ?_
  subst he
  exact ⟨_,rfl,_,_,_,[],_,[],hW',trodAll_mk1 (shut_bool Tryz.underlying4 _),(trodAll_cons_mk (Below.trod laidOut (by kernel_rfl) (of_decide_eq_true (by kernel_rfl)) k0 bel lt0) (trodAll_cons_mk (Below.trod laidOut (by kernel_rfl) (of_decide_eq_true (by kernel_rfl)) k1 bel lt1) trodAll_mk0)),rfl,bel.frame _,fun h => by cases h⟩
theorem named:Tryz.pinned.checked.prog.funcNamed Rows.siteStreamsRow.func = some 14:=by kernel_rfl
set_option maxHeartbeats 8000000 in
theorem closed:joinedFacts Tryz.pinned.checked.prog 14 Tryz.f14 Rows.siteStreamsSpec Rows.siteStreamsRow = true:=by
  unfold joinedFacts
  simp only [Bool.and_eq_true]
  repeat' refine And.intro ?_ ?_
  all_goals decide +kernel
theorem over:Rows.SiteStreamsSaid :=
  OpenClaim.holds_of_wide 14 Tryz.f14 rfl rfl rfl rfl rfl rfl rfl ⟨rfl,rfl,rfl,rfl,rfl⟩ rfl rfl rfl rfl rfl named Tryz.func14 closed
    (of_decide_eq_true (by kernel_rfl)) (by unfold Func.isWrapper;first|(rw [if_pos (by decide +kernel)];kernel_rfl)|(rw [if_neg (by decide +kernel)];exact ⟨rfl,rfl⟩))
    (fun os started H enc _ => lifted os started H enc)
theorem wfT:Rows.siteStreamsRow.wfByText (OpenSpec.ofChange Rows.siteStreamsSpec) = true:=by kernel_rfl
theorem looks:true = Tryz.pinned.checked.prog.looks []:=by kernel_rfl
theorem goes:false = Rows.siteStreamsRow.goesBy Tryz.pinned.checked.prog:=by kernel_rfl
theorem mainIs : Tryz.pinned.checked.prog.mainIs = some (true, "38e7c6aea81c656adca26251d7389b511e31ca28a75eea5c7c89ce124f93e9f9".toList) := by kernel_rfl
theorem want133:Tryz.pinned.checked.prog.wantsStandIn 133 = false:=by kernel_rfl
theorem want92:Tryz.pinned.checked.prog.wantsStandIn 92 = false:=by kernel_rfl
theorem wants (f:FuncId) (fn:Func) (hf:Tryz.pinned.checked.prog.funcNamed Rows.siteStreamsRow.func = some f) (hfn:Tryz.pinned.checked.prog.funcs[f]? = some fn):true = Tryz.pinned.checked.prog.looks [] ∧ ∀ (j:Nat) t,fn.params[j]? = some t → Tryz.pinned.checked.prog.wantsStandIn t = false:=by
  obtain rfl:f = 14:=(Option.some.inj (named.symm.trans hf)).symm
  obtain rfl:fn = Tryz.f14:=(Option.some.inj (Tryz.func14.symm.trans hfn)).symm
  refine ⟨looks,fun j t ht => ?_⟩
  rw [Tryz.params14] at ht
  have h3:t ∈ [92,133]:=List.mem_of_getElem? (by simpa using ht)
  simp only [List.mem_cons,List.not_mem_nil,or_false] at h3
  rcases h3 with rfl|rfl
  · exact want92
  · exact want133
theorem proved:Rows.SiteStreamsCardSaid :=
  Claim7.holds_tied_plain_at .later [] [.data, .data, .data, .data] true (true, "38e7c6aea81c656adca26251d7389b511e31ca28a75eea5c7c89ce124f93e9f9") true
    over (fun _ h => by cases h) wfT (fun _ h => by cases h) siteStreams_row_tie rfl ⟨rfl,rfl⟩ mainIs rfl wants goes
end Go.Proofs.YtclanmkmbjinaaaGreatDoor.siteStreams
