/- For every input the law LoadClasses returns true, ends, and leaves its arguments as they were; no conditions. -/
import Derived.Test.YtbmicihfhfcpkaaW10
import Derived.Test.YtbmicihfhfcpkaaChecked
import Derived.Test.YtbmicihfhfcpkaaRows
import Derived.WalkKit
import Derived.ProofKit
import Derived.OpenShut
import Derived.ShutString
import Derived.ChangeOld
import Derived.Below
import Derived.SizedLaws
set_option linter.unusedVariables false
set_option maxRecDepth 100000
namespace Go.Proofs.Ytbmicihfhfcpkaa.loadClasses
open Go.ChangeShapes Go.WideShapes Go.ChangeAt Go.RowKit Go.Nac U
theorem own:ownKnob Try.prog.godebug = none:=by kernel_rfl
theorem laidOut:laidOutB Try.prog = true:=by kernel_rfl
theorem cycs:Opens Try.prog 37 (fun l:List Cyc => [.fs (l.map Qn)]) (fun l => ∀ c ∈ l,(-9223372036854775808 ≤ c.from_ ∧ c.from_ ≤ 9223372036854775807) ∧ (-9223372036854775808 ≤ c.to_ ∧ c.to_ ≤ 9223372036854775807) ∧ (-9223372036854775808 ≤ c.lo ∧ c.lo ≤ 9223372036854775807) ∧ (-9223372036854775808 ≤ c.hi ∧ c.hi ≤ 9223372036854775807)) :=
 QaG Try.underlying37 (by kernel_rfl:Try.prog.cellsOf 83 = 4) (by decide) Qn (fun _ => rfl) (fun _ => rfl)
  (Qh3 Try.underlying83 (by kernel_rfl) ⟨rfl,by kernel_rfl,Try.underlying3⟩ ⟨rfl,by kernel_rfl,Try.underlying3⟩ ⟨rfl,by kernel_rfl,Try.underlying3⟩ ⟨rfl,by kernel_rfl,Try.underlying3⟩)
theorem revs:Opens Try.prog 38 (fun l:List Rev => [.fs (l.map Qd)]) (fun l => ∀ r ∈ l,(-9223372036854775808 ≤ r.at_ ∧ r.at_ ≤ 9223372036854775807) ∧ (-9223372036854775808 ≤ r.ld ∧ r.ld ≤ 9223372036854775807)) :=
 QaG Try.underlying38 (by kernel_rfl:Try.prog.cellsOf 80 = 2) (by decide) Qd (fun _ => rfl) (fun _ => rfl)
  (QhR Try.underlying80 (by kernel_rfl) ⟨rfl,by kernel_rfl,Try.underlying3⟩ ⟨rfl,by kernel_rfl,Try.underlying3⟩)
theorem lifted (os:Os) (started:os.Started) (H:Type) (enc:TypeId × Value → H) :
  ReturnsInHanded {} Try.checked os 4 .any (Rows.loadClassesSpec.pre6 enc Try.prog Try.f4 Rows.loadClassesRow.domain false) (Rows.loadClassesSpec.post enc Try.prog Try.f4 false true false false):=by
 refine returnsInHanded_of_change_sized (C:=Try.checked) own started (by kernel_rfl) Try.func4
  (ChangeSpec.witness6 (enc:=enc) (C:=Try.checked) false ⟨#[],#[.slice none 0 0,.slice none 0 0,.agg #[.int .i64 0,.int .i64 0]],[]⟩ 8 (by kernel_rfl) (by kernel_rfl) (by kernel_rfl) (by kernel_rfl)) ?_
 intro W base args ds gs before hval0 hW hcnd hsz0 _
 have hval:∀ (j:Nat) t v,Try.f4.params[j]? = some t → args[j]? = some v → Value.okWide Try.prog W .any base t v:=hval0
 have hW':=hW
 obtain ⟨p,q,hA0,hV,rfl,hfz,hnd⟩:=hW
 have hA:DataW.TrodAll enc Try.prog W 0 (fun _ => true) true Try.f4.params.toList args.toList ds p:=hA0
 rw [Try.params4] at hA hval
 obtain ⟨v0,vs0,d0,ds0,p0,q0,hargs,rfl,rfl,h0,r0⟩:=trodAll_cons hA
 obtain ⟨v1,vs1,d1,ds1,p1,q1,rfl,rfl,rfl,h1,r1⟩:=trodAll_cons r0
 obtain ⟨v2,vs2,d2,ds2,p2,q2,rfl,rfl,rfl,h2,r2⟩:=trodAll_cons r1
 obtain ⟨rfl,rfl,rfl⟩:=trodAll_nil r2
 obtain rfl:args = #[v0,v1,v2]:=by cases args;simp_all
 obtain ⟨rfl,rfl⟩:=trodVars_none hV
 have k0:=h0
 have lt0:∀ x ∈ p0,x.block < W.heap.size:=by obtain ⟨m,hm⟩:=k0;exact DataW.trod_lt m _ _ _ hm
 have k1:=h1
 have lt1:∀ x ∈ p1,x.block < W.heap.size:=by obtain ⟨m,hm⟩:=k1;exact DataW.trod_lt m _ _ _ hm
 have k2:=h2
 have lt2:∀ x ∈ p2,x.block < W.heap.size:=by obtain ⟨m,hm⟩:=k2;exact DataW.trod_lt m _ _ _ hm
 obtain ⟨a0,len0,cap0,rfl⟩:=okWide_slice Try.underlying37 (hval 0 37 v0 rfl rfl)
 obtain ⟨x0,_,y0⟩:=cycs.arg (fun l => .fs (l.map Qn)) (fun _ => rfl) rfl h0 (fun _ => none)
 obtain ⟨a1,len1,cap1,rfl⟩:=okWide_slice Try.underlying38 (hval 1 38 v1 rfl rfl)
 obtain ⟨x1,_,y1⟩:=revs.arg (fun l => .fs (l.map Qd)) (fun _ => rfl) rfl h1 (fun _ => none)
 obtain ⟨z2,rfl⟩:=Nac.okWide_arr Try.underlying39 (hval 2 39 v2 rfl rfl)
 obtain ⟨x2,x2b,_,_,y2⟩:=Qkr (g:=PV.I) Try.underlying39 (by kernel_rfl) (by kernel_rfl) (Qh2 Try.underlying3) h2 (fun _ => none)
 letI:=env9
 refine (QfN mixed okF xsOk rfl (L9.q_law07_LoadClasses sortX x0 x1 x2 x2b) (W:=W) (cargs:=#[.slice a0 len0 cap0,.slice a1 len1 cap1,.agg z2]) (fun g cs h => by cases h) (.cons _ _ _ _ y0 (.cons _ _ _ _ y1 (.cons _ _ _ _ y2 .nil)))).mono fun e W' ⟨he,bel⟩ => ?_
 subst he
 exact ⟨_,rfl,_,_,_,[],_,[],hW',trodAll_mk1 (shut_bool Try.underlying4 _),(trodAll_cons_mk (Below.trod laidOut (by kernel_rfl) (of_decide_eq_true (by kernel_rfl)) k0 bel lt0) (trodAll_cons_mk (Below.trod laidOut (by kernel_rfl) (of_decide_eq_true (by kernel_rfl)) k1 bel lt1) (trodAll_cons_mk (Below.trod laidOut (by kernel_rfl) (of_decide_eq_true (by kernel_rfl)) k2 bel lt2) trodAll_mk0))),rfl,bel.frame _,fun h => by cases h⟩
theorem over:Rows.loadClassesRow.holds Try.pinned (OpenSpec.ofChange Rows.loadClassesSpec) :=
 OpenClaim.holds_of_wide 4 Try.f4 rfl rfl rfl rfl rfl rfl rfl ⟨rfl,rfl,rfl,rfl,rfl⟩ rfl rfl rfl rfl rfl (by kernel_rfl) Try.func4 (by kernel_rfl)
  (of_decide_eq_true (by kernel_rfl)) (by unfold Func.isWrapper;first|(rw [if_pos (by decide +kernel)];kernel_rfl)|(rw [if_neg (by decide +kernel)];exact ⟨rfl,rfl⟩))
  (fun os started H enc _ => lifted os started H enc)
theorem proved:Rows.LoadClassesSaid:=over
end Go.Proofs.Ytbmicihfhfcpkaa.loadClasses
