/- Sorting by a comparison, as the shelf's contract has it. -/
import Derived.Test.YtcbfjgpdogcdbaaGreatDoorW07
import Derived.Shelf.SlSortCmp.WholeK
import Derived.Shelf.SlSortCmp.NoneTotal
import Derived.Shelf.Strconv.Itoa3
import Derived.Shelf.Strconv.AtoiAll
import Derived.Shelf.Strings.Cut
import Derived.Shelf.Strings.Split
import Derived.Shelf.Strings.Prefix
import Derived.Shelf.Strings.OnBuilder
import Derived.Shelf.Bytes.SlSmallAll
import Derived.LaidMore
import Derived.ChangeArms
import Derived.OpenShut
import Derived.Lib.ItoaLen
import Derived.Laws.FloatBits
set_option linter.unusedVariables false
set_option linter.unusedSectionVars false
namespace Go.Nac
open Go.Shelf Go.Sort Go.Proofs Go.RowKit
section
variable {α:Type} [Inhabited α]
theorem Qjd {enc:α → List Value} {k:Nat} (hk:∀ x,(enc x).length = k):∀ (l:List α) (t:Nat),t < l.length * k → (l.flatMap enc)[t]? = (enc (l[t / k]?.getD default))[t % k]?:=by
 intro l
 induction l with
 | nil => intro t h;simp at h
 | cons x l ih =>
  intro t h
  rcases Nat.eq_zero_or_pos k with hk0|hk0
  ·subst hk0;simp at h
  by_cases ht:t < k
  ·rw [Nat.div_eq_of_lt ht,Nat.mod_eq_of_lt ht,List.flatMap_cons,List.getElem?_append_left (by rw [hk];exact ht)];rfl
  ·obtain ⟨s,rfl⟩:∃ s,t = s + k:=⟨t - k,by omega⟩
   rw [List.length_cons,Nat.add_mul,Nat.one_mul] at h
   rw [List.flatMap_cons,List.getElem?_append_right (by rw [hk];omega),hk,Nat.add_sub_cancel,ih s (by omega),Nat.add_div_right _ hk0,Nat.add_mod_right]
   rfl
theorem QeD {enc:α → List Value} {k:Nat} (hk:∀ x,(enc x).length = k) (l:List α):(l.flatMap enc).length = l.length * k:=by
 induction l with
 | nil => simp
 | cons x l ih => rw [List.flatMap_cons,List.length_append,hk,ih,List.length_cons,Nat.add_mul];omega
theorem QeM {enc:α → List Value} {k:Nat} (hk:∀ x,(enc x).length = k) (d:Array α) (t:Nat) (h:t < d.size * k):(d.toList.flatMap enc)[t]? = some (flatK enc k d)[t]!:=by
 rcases Nat.eq_zero_or_pos k with hk0|hk0
 ·subst hk0;simp at h
 have h1:t / k < d.size:=by rw [Nat.div_lt_iff_lt_mul hk0];exact h
 rw [Qjd hk _ t (by simpa using h),get_flatK _ _ _ _ h]
 have e:d.toList[t / k]?.getD default = d[t / k]!:=by simp [h1]
 rw [e]
 have h2:t % k < (enc d[t / k]!).length:=by rw [hk];exact Nat.mod_lt _ hk0
 rw [List.getElem?_eq_getElem h2]
 exact congrArg some (getElem!_pos (enc d[t / k]!) (t % k) h2).symm
variable [Env] {P:Program} {M:List Blk}
def encV (enc:α → List Value) (x:α):PV:=.agg ((enc x).map .s)
theorem QaP {L:Loc} {w:World}:∀ {vs us:List Value},LRel M L w (vs.map .s) us → us = vs
 | [],us,h => by cases h;rfl
 | v :: vs,us,h => by
  cases h with
  | cons _ u _ us h1 h2 => rw [h1.s_inv,QaP h2]
theorem ZV {L:Loc} {w:World}:∀ {vs:List Value},(∀ v ∈ vs,aggV v = false) → LRel M L w (vs.map .s) vs
 | [],_ => .nil
 | v :: vs,h => .cons _ _ _ _ (.s v (h v (by simp))) (ZV fun u hu => h u (by simp [hu]))
theorem Qat (enc:α → List Value) (l:List α):(l.map (encV enc)).flatMap PV.cells = (l.flatMap enc).map .s:=by
 induction l with
 | nil => rfl
 | cons x l ih => rw [List.map_cons,List.flatMap_cons,ih,List.flatMap_cons,List.map_append];rfl
theorem Qoi {enc:α → List Value} {k:Nat} (hk:∀ x,(enc x).length = k) (h2:∀ x,∀ v ∈ enc x,aggV v = false) {L:Loc} {w:World} (S:Sim (RO P) M L w) {i ver n:Nat} {d d':List α} (hlen:d'.length = d.length)
  (hi:M[i]? = some (.row true k ver (d.map (encV enc)))) {b o:Nat} (hL:L i = some (b,o)) (os:Array Obj) :
  Fin P M L w (.tup []) (M.set i (.row true k ver (d'.map (encV enc)))) (.returned (.tuple #[])) (sortWorldK enc k w b o n d'.toArray os):=by
 obtain ⟨hs,hc,_⟩:=S.mem i _ hi
 obtain ⟨c,el,vs,g1,g2,g3⟩:=hc b o hL
 rw [Qat] at g2
 have hvs:=QaP g2
 subst hvs
 have g0:=g1
 obtain ⟨z,g1,hz⟩:=g1
 have hblk:=(Array.getElem?_eq_some_iff.1 g1).1
 have hput:(sortWorldK enc k w b o n d'.toArray os).heap[b]? = some (.cells (putCells id o (flatK enc k d'.toArray) c) el z):=by
  show ((w.heap.modify b _) ++ os)[b]? = _
  rw [Array.getElem?_append_left (by simpa using hblk),Array.getElem?_modify,if_pos rfl,g1];rfl
 have hoth:∀ j,j < w.heap.size → j ≠ b → (sortWorldK enc k w b o n d'.toArray os).heap[j]? = w.heap[j]?:=by
  intro j hj hne
  show ((w.heap.modify b _) ++ os)[j]? = _
  rw [Array.getElem?_append_left (by simpa using hj),Array.getElem?_modify,if_neg (Ne.symm hne)]
 have hcs:(putCells id o (flatK enc k d'.toArray) c).size = c.size:=by simp [putCells]
 have key:=change S hi (blk':=.row true k ver (d'.map (encV enc))) L (fun _ _ => rfl) (w':=sortWorldK enc k w b o n d'.toArray os) ⟨rfl,rfl,rfl,Nat.le_add_right _ _⟩ (.inl rfl)
  (by show w.heap.size ≤ ((w.heap.modify b _) ++ os).size;simp)
  (fun j hj hp => hoth j hj fun e => hp (b,o) rfl hL e.symm) (fun p hp => .inl ⟨p,hp,rfl⟩)
  ⟨Nat.le_refl _,fun _ => ⟨rfl,by simp [hlen],rfl,fun b1 o1 c1 el1 e1 e2 => by
   rw [hL] at e1;cases e1
   obtain ⟨rfl,rfl⟩:=g0.uniq e2
   exact ⟨_,⟨z,hput,by rw [hcs];exact hz⟩,hcs⟩⟩⟩
  (fun E => by
   refine ⟨fun x hx => by obtain ⟨y,_,rfl⟩:=List.mem_map.1 hx;simp [encV,PV.cells,hk],fun b1 o1 e1 => ?_,fun e => by rw [hL] at e;cases e⟩
   rw [hL] at e1;cases e1
   refine ⟨_,el,d'.flatMap enc,⟨z,hput,by rw [hcs];exact hz⟩,by rw [Qat];exact ZV fun v hv => by obtain ⟨x,_,hx⟩:=List.mem_flatMap.1 hv;exact h2 x v hx,fun m v hv => ?_⟩
   have hm:m < (d'.flatMap enc).length:=(List.getElem?_eq_some_iff.1 hv).1
   rw [QeD hk] at hm
   have hold:∃ u,c[o + m]? = some u:=by
    obtain ⟨u,hu⟩:∃ u,(d.flatMap enc)[m]? = some u:=⟨_,List.getElem?_eq_getElem (by rw [QeD hk,← hlen];exact hm)⟩
    exact ⟨u,g3 m u hu⟩
   obtain ⟨u,hu⟩:=hold
   have h3:=QeM hk d'.toArray m (by simpa using hm)
   rw [show d'.toArray.toList = d' from by simp] at h3
   rw [hv] at h3
   rw [show putCells id o (flatK enc k d'.toArray) c = c.mapIdx _ from rfl,Array.getElem?_mapIdx,hu,Option.map_some,if_pos ⟨by omega,by simp;exact hm⟩,show o + m - o = m from by omega]
   exact h3.symm)
 exact ⟨L,key.1,key.2,.tup [] #[] .nil⟩
def CmpAt (P:Program) (g:FuncId) (enc:α → List Value) (cf:α → α → Int):Prop :=
 ∀ (W:World) (x y:α),Calls P g #[.agg (enc x).toArray,.agg (enc y).toArray] W fun e W' => e = .returned (.int .i64 (cf x y)) ∧ Below W.heap.size W W' ∧ W.drawn ≤ W'.drawn
theorem QdI {W W':World} (h:Below W.heap.size W W') (hd:W.drawn ≤ W'.drawn):∃ q os,W' = Sort.grow (W.drewN q) os:=by
 refine ⟨W'.drawn - W.drawn,W'.heap.extract W.heap.size W'.heap.size,?_⟩
 obtain ⟨h1,h2,h3,h4,h5⟩:=h
 have hh:W'.heap = W.heap ++ W'.heap.extract W.heap.size W'.heap.size:=by
  apply Array.ext_getElem?
  intro k
  rcases Nat.lt_or_ge k W.heap.size with hk|hk
  ·rw [Array.getElem?_append_left hk];exact h5 k hk
  ·rw [Array.getElem?_append_right hk,Array.getElem?_extract]
   split
   ·congr 1;omega
   ·rw [Array.getElem?_eq_none];omega
 have hn:W'.drawn = W.drawn + (W'.drawn - W.drawn):=by omega
 cases W with|mk a b c d e =>
 cases W' with|mk a' b' c' d' e' =>
 simp only at h1 h2 h3 hh hn
 subst h1;subst h2;subst h3
 show World.mk a' _ c' _ _ = World.mk (a ++ _) _ (c + _) _ _
 rw [← hn]
 exact congrArg (fun x => World.mk x _ _ _ _) hh
def srtL (cf:α → α → Int) (d:List α):List α:=(pdq (ltOf cf) d.toArray 0 d.length (Lib.bitLen d.length) true true).toList
theorem Qjs {ρ:Ren} (Ls:SlLaysF0.n6 P ρ) {k:Nat} (aE:∀ w,(isAgg (ρ.t 24)).run P w = .ok true w) (zE:∀ w,(Go.sizeOf (ρ.t 24)).run P w = .ok k w) {enc:α → List Value} (hk:∀ x,(enc x).length = k)
  (h1:∀ x,∀ v ∈ enc x,v.oneCell' = true) (h2:∀ x,∀ v ∈ enc x,aggV v = false) {cf:α → α → Int} (hO:SWO (ltOf cf)) {g:FuncId} (eg:∀ args w,(callFunc g args).run P w = .ok (.enter g args) w) (hcmp:CmpAt P g enc cf)
  {f:FuncId} (hf:f = ρ.f 6) {i ver:Nat} {d:List α} (hd:d.length < 4611686018427387904) (hi:M[i]? = some (.row true k ver (d.map (encV enc)))) :
  Conc P (.fn f) [.os i ver 0 d.length,.fn (.func g) [] []] M (.tup []) (M.set i (.row true k ver ((srtL cf d).map (encV enc)))):=by
 intro L w cargs S A
 subst hf
 obtain ⟨cargs⟩:=cargs
 cases A with|cons _ v0 _ vs a0 A =>
 cases A with|cons _ v1 _ vs a1 A =>
 cases A
 cases a1 with|fn _ _ _ va vc g1 g2 =>
 obtain ⟨va⟩:=va;obtain ⟨vc⟩:=vc
 cases g1;cases g2
 obtain ⟨a,cap,rfl,_,hcap,hm⟩:=a0.os_live hi
 refine .inl ⟨Ls.f6.enters rfl _ _,?_⟩
 have hsz:(srtL cf d).length = d.length:=by
  have:=(pdq_sorts (ltOf cf) hO d.toArray 0 d.toArray.size (Lib.bitLen d.length) true true (Nat.zero_le _) (Nat.le_refl _) (Or.inl rfl)).1.1
  simpa [srtL] using this
 cases d with
 | nil =>
  refine (AnyF.slices_SortFunc_none Ls a cap _ w).mono ?_
  rintro e w' ⟨rfl,rfl⟩
  have e1:srtL cf ([]:List α) = []:=List.eq_nil_of_length_eq_zero (by simpa using hsz)
  rw [e1]
  have e2:M.set i (.row true k ver (([]:List α).map (encV enc))) = M:=by
   obtain ⟨hlt,he⟩:=List.getElem?_eq_some_iff.1 hi
   rw [← he];exact List.set_getElem_self hlt
  rw [e2]
  exact ⟨L,Evo.refl _ _ _,S,.tup [] #[] .nil⟩
 | cons x d =>
  obtain ⟨b,o,c,el,hL,rfl,hb,hsz2⟩:=hm (by simp at hcap;omega)
  rw [Nat.zero_mul,Nat.add_zero] at *
  obtain ⟨hs,hc,_⟩:=S.mem i _ hi
  obtain ⟨c',el',us,g1,g2,g3⟩:=hc b o hL
  obtain ⟨rfl,rfl⟩:=hb.uniq g1
  rw [Qat] at g2
  have hus:=QaP g2
  subst hus
  have hH:HoldsK enc k w b o (x :: d).toArray:=by
   intro j hj
   have hj':j < (x :: d).toArray.size * k:=by simpa using hj
   have h3:=QeM hk (x :: d).toArray j hj'
   rw [show (x :: d).toArray.toList = x :: d from by simp] at h3
   have h4:=g3 j _ h3
   refine ⟨(hb.cell _).trans h4,hb.unfrozen (Array.getElem?_eq_some_iff.1 h4).1⟩
  have hcl:CmpLays P g #[] enc k cf b o (x :: d).toArray.size w:=by
   intro m os dk _ y z
   refine (hcmp _ y z).mono ?_
   rintro e W' ⟨rfl,hbl,hdr⟩
   exact ⟨rfl,QdI hbl hdr⟩
  have key:=AnyQ.slices_SortFunc_eq Ls k aE zE enc hk h1 cf hO g #[] b o cap (x :: d).toArray w eg hcl hH hb.lt (by simpa using hd)
  refine Calls.mono key ?_
  rintro e w' ⟨rfl,n,os,rfl⟩
  have:=Qoi hk h2 S hsz hi hL (n:=n) os
  simpa [srtL] using this
end
end Go.Nac
namespace Go.Nac
open Go.RowKit
abbrev env0:Env:=⟨fun _ => none,True⟩
theorem Qqd {P:Program} (hmix:P.follows .mixedOrders = true) {F:Prog} (hF:∀ f cf,F f = some cf → @okFn env0 P f cf = true) {g:FuncId} (hroot:(F g).isSome = true) {α:Type} {enc:α → List Value} (h2:∀ x,∀ v ∈ enc x,aggV v = false) {cf:α → α → Int}
  (h:∀ x y,ACall F (fun _ _ _ _ _ => False) (.fn g) [encV enc x,encV enc y] [] (.I (cf x y)) []):CmpAt P g enc cf:=by
 letI:=env0
 intro W x y
 have S:Sim (RO P) [] (fun _ => none) W:=⟨fun i b hi => by simp at hi,fun i j bi bj p q hi => by simp at hi,fun g cs h => by cases h⟩
 refine (Qbj hmix hF (fun _ _ _ _ _ h => h.elim) hroot (h x y) (L:=fun _ => none) S (.cons _ _ _ _ (.agg _ _ ?_) (.cons _ _ _ _ (.agg _ _ ?_) .nil))).mono fun e W' he => ?_
 ·exact ZV (h2 x)
 ·exact ZV (h2 y)
 cases e with
 | returned v =>
  obtain ⟨L',E,S',R⟩:=he
  refine ⟨?_,⟨E.os,E.tape,E.output,E.size,fun k hk => (E.frame k hk fun ⟨i,b,p,hi,_⟩ => by simp at hi).1⟩,E.drawn trivial⟩
  cases R with
  | s _ _ => rfl
 | _ => exact he.elim
end Go.Nac
namespace Go.Nac
open Go.Shelf Go.Sort Go.Proofs Go.RowKit
variable [Env] {P:Program} {ρ:Ren} {M:List Blk}
abbrev PV.S (l:List UInt8):PV:=.s (.string ⟨l.toArray⟩)
theorem QmZ {L:Loc} {w:World} (S:Sim (RO P) M L w) {g:Nat} {k:IntKind} {zs:List Int} {n:String} (hn:P.globalNamed n = some g) (h:Env.glb g = some (zs.map (.int k))):Lib.TabIs P w n k zs:=by
 obtain ⟨⟨el,h1⟩,_⟩:=S.env g _ h
 simp [Lib.TabIs,World.var?,hn,h1]
theorem Qj8 (Ls : LaysM.n171 P ρ) {f : FuncId} (hf : f = ρ.f 171) (he : ∀ args w, (callFunc f args).run P w = .ok (.enter f args) w) {g : Nat} (hn : P.globalNamed "internal/strconv.uint64pow10" = some g) (hg : Env.glb g = some (Lib.pow10Tab.map (.int .u64))) {n : Int} (h0 : -9223372036854775808 ≤ n) (h1 : n ≤ 9223372036854775807) :
    Conc P (.fn f) [.I n] M (.S (Lib.itoa n)) M:=by
  refine Qdj fun L w cargs S A => ?_
  subst hf
  obtain ⟨cargs⟩:=cargs
  cases A with|cons _ v _ vs h hs =>
  cases hs
  have hv:=h.s_inv
  subst hv
  refine ⟨he _ _,(Any.strconv_Itoa Ls n h0 h1 w (QmZ S hn hg)).mono ?_⟩
  rintro e w' ⟨rfl,k,os,rfl⟩
  exact ⟨_,rfl,Qhr w k os,fun _ => Nat.le_add_right _ _,.s _ rfl⟩
theorem QiN (Ls:Lays.n156 P ρ) (X:Builder.Extra P ρ) (hm:¬ Env.mono) {f:FuncId} (hf:f = ρ.f 156) (he:∀ args w,(callFunc f args).run P w = .ok (.enter f args) w) {xs:List ByteArray} {sep:ByteArray} (hN:xs.length ≤ 140737488355328)
  (hlen:(Lib.join (xs.map (·.data.toList)) sep.data.toList).length ≤ 140737488355328):Conc P (.fn f) [.fs (xs.map fun s => .s (.string s)),.s (.string sep)] M (.S (Lib.join (xs.map (·.data.toList)) sep.data.toList)) M:=by
 refine Qdj fun L w cargs S A => ?_
 subst hf
 obtain ⟨cargs⟩:=cargs
 cases A with|cons _ v _ vs h hs =>
 cases hs with|cons _ v' _ vs' h' hs' =>
 cases hs'
 have hv:=h'.s_inv
 subst hv
 obtain ⟨a,cap,rfl,hcap,hmem⟩:=QoY h
 refine ⟨he _ _,?_⟩
 cases xs with
 | nil =>
  refine (Any.strings_Join_none Ls X a cap sep w).mono ?_
  rintro e w' ⟨rfl,rfl⟩
  exact ⟨_,rfl,Qh9 _ _,fun _ => Nat.le_refl _,.s _ rfl⟩
 | cons x xs =>
  obtain ⟨b,o,rfl,hb,hc⟩:=hmem (by simp)
  refine (Any.strings_Join Ls X b o cap (x :: xs) sep w hc hb hN hcap hlen).mono ?_
  rintro e w' ⟨rfl,hbl⟩
  exact ⟨_,rfl,hbl,fun m => absurd m hm,.s _ rfl⟩
end Go.Nac
namespace Go.Nac
open Go.Shelf Go.Sort Go.Proofs Go.RowKit
variable [Env] {P:Program} {ρ:Ren} {M:List Blk}
def atoiV (s:ByteArray):PV :=
 match Lib.atoiAll s.data.toList with
 | .ok v => .tup [.I v,.s .nilIface]
 | .range => .tup [.I (Lib.atoiSat s.data.toList),.err]
 | _ => .tup [.I 0,.err]
end Go.Nac
namespace Go.Nac
section
variable [Env]
theorem Qhv {P : Program} {f : FuncId} {fn : Func} (hf : P.funcs[f]? = some fn) (hname : (fn.name == "runtime.NumGoroutine") = false) (hb : fn.body.isNone = true) (hn : Extern.findNext fn = none)
    (he:Extern.find fn = some Extern.MathFloatBits.float32bits) (x:Nat) (M:List Blk):Conc P (.fn f) [.s (.float .f32 x)] M (.s (.int .u32 x)) M:=by
  intro L w cargs S A
  obtain ⟨cargs⟩:=cargs
  cases A with
  | cons _ v _ vs h hs =>
    cases hs
    have hv:=h.s_inv
    subst hv
    refine .inr ⟨rfl,_,w,?_,L,Evo.refl _ _ _,S,.s _ rfl⟩
    rw [run_callFunc_extern hf hname hb hn he]
    rfl
theorem QdO {P : Program} {f : FuncId} {fn : Func} (hf : P.funcs[f]? = some fn) (hname : (fn.name == "runtime.NumGoroutine") = false) (hb : fn.body.isNone = true) (hn : Extern.findNext fn = none)
    (he:Extern.find fn = some Extern.MathFloatBits.float32frombits) (x:Nat) (M:List Blk):Conc P (.fn f) [.s (.int .u32 x)] M (.s (.float .f32 x)) M:=by
  intro L w cargs S A
  obtain ⟨cargs⟩:=cargs
  cases A with
  | cons _ v _ vs h hs =>
    cases hs
    have hv:=h.s_inv
    subst hv
    refine .inr ⟨rfl,_,w,?_,L,Evo.refl _ _ _,S,.s _ rfl⟩
    rw [run_callFunc_extern hf hname hb hn he]
    rfl
end
theorem QnC {H:Type} {enc:TypeId × Value → H} {P:Program} {W:World} {t:TypeId} {k:IntKind} {held:Bool} {m:Nat} {cs:List Value} {z:Int} {q:List MemPlace} {x:DataW H × List MemPlace} (ht:P.underlying t = some (.int k))
  (h:DataW.trod enc P W 0 (fun _ => true) held m t cs = some x) (hx:x.1 = .lit (.int k z)):cs = [.int k z]:=by
 obtain ⟨n,h1,h2,_⟩:=DataW.trod_int ht h
 rw [h2] at hx
 cases hx
 exact h1
theorem QlQ {H:Type} {enc:TypeId × Value → H} {P:Program} {W:World} {t e:TypeId} {n:Nat} {k:IntKind} {held:Bool} {fuel:Nat} {cs:List Value} {zs:List Int} {p:List MemPlace} (ht:P.underlying t = some (.array n e)) (he:P.underlying e = some (.int k))
  (hc:P.cellsOf e = 1) (hct:P.cellsOf t = n) (hz:zs.length = n) (h:DataW.trod enc P W 0 (fun _ => true) held fuel t cs = some (.agg (zs.map fun z => .lit (.int k z)),p)):cs = zs.map (.int k):=by
 obtain ⟨xs,m,_,hx,hl,hxl,hel⟩:=DataW.trod_array ht h
 rw [hc] at hel
 simp only [Prod.mk.injEq,DataW.agg.injEq] at hx
 apply List.ext_getElem?
 intro i
 rcases Nat.lt_or_ge i n with hi|hi
 ·have h1:=hel i hi
  obtain ⟨x,hx2⟩:∃ x,xs[i]? = some x:=⟨_,List.getElem?_eq_getElem (by omega)⟩
  rw [hx2] at h1
  have h2:x.1 = .lit (.int k (zs[i]'(by omega))):=by
   have h3:=congrArg (·[i]?) hx.1
   simp only [List.getElem?_map,hx2,List.getElem?_eq_getElem (show i < zs.length by omega),Option.map_some,Option.some.injEq] at h3
   exact h3.symm
  have h4:=QnC (q:=[]) he h1 h2
  have h5:cs[i]? = some (.int k (zs[i]'(by omega))):=by
   rw [Nat.mul_one] at h4
   have h6:((cs.drop i).take 1)[0]? = some (.int k (zs[i]'(by omega))):=by rw [h4];rfl
   rw [List.getElem?_take_of_lt (by decide),List.getElem?_drop] at h6
   simpa using h6
  rw [h5,List.getElem?_map,List.getElem?_eq_getElem (show i < zs.length by omega)];rfl
 ·rw [List.getElem?_eq_none (by omega),List.getElem?_eq_none (by simp;omega)]
theorem Qk7 {P:Program} {W:World} {name:String} {g:Nat} {cs:Array Value} (hg:P.globalNamed name = some g) (hv:W.var? P name = some cs) (hc:∃ c t,W.heap[g]? = some (.cells c t (0,0))):∃ el,W.heap[g]? = some (.cells cs el (0,0)):=by
 obtain ⟨c,t,hc⟩:=hc
 unfold World.var? at hv
 rw [hg] at hv
 simp only [Option.bind_some,hc,Option.some.injEq] at hv
 subst hv
 exact ⟨t,hc⟩
end Go.Nac
namespace Go.Nac
end Go.Nac
namespace Go.Nac
open Go.Sort
instance:Inhabited Spn:=⟨⟨0,0⟩⟩
def spnV (x:Spn):List Value:=[.int .i64 x.fr,.int .i64 x.to_]
def Q0 (x y:Spn):Int:=if x.fr < y.fr then -1 else if y.fr < x.fr then 1 else 0
theorem Y5 (x y:Spn):Proofs.ltOf Q0 x y = decide (x.fr < y.fr):=by
 unfold Proofs.ltOf Q0
 by_cases h1:x.fr < y.fr
 ·simp [h1]
 ·by_cases h2:y.fr < x.fr <;> simp [h1,h2]
theorem Qb4:SWO (Proofs.ltOf Q0) where
 irrefl x:=by rw [Y5];simp
 trans x y z h1 h2:=by rw [Y5] at *;simp at *;omega
 ntrans x y z h1 h2:=by rw [Y5] at *;simp at *;omega
theorem Qnm {l:List Spn} {d:Array Spn} (h1:PermIn 0 l.length l.toArray d) (h2:SortedIn (Proofs.ltOf Q0) 0 l.length d):d.toList.Perm l ∧ d.toList.Pairwise (fun x y => x.fr ≤ y.fr):=by
 have hs:d.size = l.length:=by simpa using h1.1
 constructor
 ·have h3:=h1.2.2
  have e1:(l.toArray.extract 0 l.length).toList = l:=by simp
  have e2:d.extract 0 l.length = d:=by rw [← hs];simp
  rw [e1,e2] at h3
  exact h3
 ·rw [List.pairwise_iff_getElem]
  intro i j hi hj hij
  have hi':i < d.size:=by simpa using hi
  have hj':j < d.size:=by simpa using hj
  have h3:=h2 i j (Nat.zero_le _) hij (by omega)
  rw [Y5] at h3
  simp only [decide_eq_false_iff_not,Int.not_lt] at h3
  rw [getElem!_pos d i hi',getElem!_pos d j hj'] at h3
  simpa using h3
theorem Qej (l:List Spn):(srtL Q0 l).Perm l ∧ (srtL Q0 l).Pairwise (fun x y => x.fr ≤ y.fr):=by
 obtain ⟨h1,h2⟩:=pdq_sorts (Proofs.ltOf Q0) Qb4 l.toArray 0 l.toArray.size (Lib.bitLen l.length) true true (Nat.zero_le _) (Nat.le_refl _) (Or.inl rfl)
 rw [show l.toArray.size = l.length from by simp] at h1 h2
 exact Qnm h1 h2
theorem QcU (l:List Spn):(srtL Q0 l).length = l.length:=(Qej l).1.length_eq
def QQ (o:List Spn) (s:Spn):List Spn :=
 match o[o.length - 1]? with
 | some p => if s.fr ≤ p.to_ then o.set (o.length - 1) ⟨p.fr,max p.to_ s.to_⟩ else o ++ [s]
 | none => [s]
def QN (l:List Spn):List Spn:=l.foldl QQ []
def Zr (l:List Spn):List Spn:=QN (srtL Q0 l)
theorem Qdd {o:List Spn} {s:Spn} (h:o.length = 0):QQ o s = [s]:=by
 have:o = []:=List.eq_nil_of_length_eq_zero h
 subst this;rfl
theorem QhT {o:List Spn} {s p:Spn} (h:o[o.length - 1]? = some p) (hc:s.fr ≤ p.to_):QQ o s = o.set (o.length - 1) ⟨p.fr,max p.to_ s.to_⟩:=by
 unfold QQ;rw [h];exact if_pos hc
theorem Qf2 {o:List Spn} {s p:Spn} (h:o[o.length - 1]? = some p) (hc:¬ s.fr ≤ p.to_):QQ o s = o ++ [s]:=by
 unfold QQ;rw [h];exact if_neg hc
theorem QfR (o:List Spn) (s:Spn):(QQ o s).length ≤ o.length + 1:=by
 unfold QQ
 split
 ·split <;> simp
 ·simp
theorem Qd4 {l:List Spn} {k:Nat} {x:Spn} (h:l[k]? = some x):QN (l.take (k + 1)) = QQ (QN (l.take k)) x:=by
 obtain ⟨h1,h2⟩:=List.getElem?_eq_some_iff.1 h
 unfold QN
 rw [List.take_succ_eq_append_getElem h1,h2,List.foldl_append];rfl
theorem Qap (l:List Spn):(QN l).length ≤ l.length:=by
 unfold QN
 have:∀ (l o:List Spn),(l.foldl QQ o).length ≤ o.length + l.length:=by
  intro l
  induction l with
  | nil => intro o;simp
  | cons x l ih => intro o;have:=ih (QQ o x);have:=QfR o x;simp only [List.foldl_cons,List.length_cons];omega
 simpa using this l []
theorem Qgd (l:List Spn):(Zr l).length ≤ l.length:=by
 have:=Qap (srtL Q0 l);rw [QcU] at this;exact this
end Go.Nac
namespace Go.Nac
def mrow (N:Nat) (c:Nat → Int) (w:Int) (g:Nat → Bool):List PV:=(List.range N).map fun t => PV.I (c t + if g t = true then w else 0)
def gapN (l:List Spn) (t:Nat):Bool:=gapAt l (t:Int)
def mG (l:List Spn) (k:Nat) (x:Spn) (j:Nat) (t:Nat):Bool:=gapAt (l.take k) t || decide (x.fr ≤ (t:Int) ∧ (t:Int) < (j:Int))
def andI (a b:Int):Int:=IntKind.i64.wrap ((BitVec.ofInt 64 a &&& BitVec.ofInt 64 b).toNat:Nat)
def mark2 (a b:List Spn) (t:Nat):Int:=(if gapAt a t = true then 1 else 0) + if gapAt b t = true then 2 else 0
def Qma (p:Nat → Bool) (s:List Spn × Int) (t:Nat):List Spn × Int :=
 if p t = true ∧ s.2 < 0 then (s.1,t) else if p t = false ∧ 0 ≤ s.2 then (s.1 ++ [⟨s.2,t⟩],-1) else s
def QpQ (p:Nat → Bool) (n:Nat):List Spn × Int:=(List.range n).foldl (Qma p) ([],-1)
def Qcm (p:Nat → Bool):List Spn:=(QpQ p 40001).1
def QbX (want:List Int) (a b:List Spn) (t:Nat):Bool:=decide (¬ mark2 a b t = 0) && decide (mark2 a b t ∈ want)
end Go.Nac
namespace Go.Nac
def Qor (s:List Spn × Int) (x:Spn):List Spn × Int:=(if s.2 < x.fr then s.1 ++ [⟨s.2,x.fr⟩] else s.1,x.to_)
def othTo (l:List Spn):List Spn × Int:=l.foldl Qor ([],0)
def QlY (l:List Spn):List Spn:=if (othTo l).2 < 40000 then (othTo l).1 ++ [⟨(othTo l).2,40000⟩] else (othTo l).1
def meetN:Nat → List Spn → List Spn → List Spn
 | n + 1,x :: a,y :: b => (if max x.fr y.fr < min x.to_ y.to_ then [⟨max x.fr y.fr,min x.to_ y.to_⟩] else []) ++ if x.to_ < y.to_ then meetN n a (y :: b) else meetN n (x :: a) b
 | _,_,_ => []
def Qp0 (a b:List Spn):List Spn:=meetN (a.length + b.length) a b
end Go.Nac
namespace Go.Nac
def spOk (l:List Spn):Prop:=∀ x ∈ l,0 ≤ x.fr ∧ x.fr < x.to_ ∧ x.to_ ≤ 40000
theorem QfT {l:List Spn}:∀ {last:Int},QO last l = 0 → spOk l:=by
 induction l with
 | nil => intro last _ x hx;cases hx
 | cons a l ih =>
  intro last h
  rw [QO] at h
  split at h
  ·rename_i h0
   split at h
   ·cases h
   ·intro x hx
    rcases List.mem_cons.1 hx with rfl|hx
    ·exact Y3 h0
    ·exact ih h x hx
  ·cases h
theorem YB {l:List Spn} (h:Qm l = 0):spOk l ∧ l.length ≤ 1024:=by
 unfold Qm at h
 split at h
 ·cases h
 ·exact ⟨QfT h,by omega⟩
def totOf (l:List Spn):Int:=l.foldl (fun s x => s + (x.to_ - x.fr)) 0
def YR (f:List Spn → List Spn → List Spn) (a b:List Spn):List Spn × Int :=
 if fst0 [Qm a,Qm b] = 0 then (if 1024 < (f a b).length then ([],5) else (f a b,0)) else ([],fst0 [Qm a,Qm b])
def QqP (c:List Spn) (e w:Int) (v:List Spn):Bool :=
 if w = 0 then (if 1024 < v.length then decide (c = []) && decide (e = 5) else decide (e = 0) && decide (c = v)) else decide (c = []) && decide (e = w)
def VH (a b:List Spn):List Spn:=Zr (a ++ b)
def QqV (a b:List Spn):List Spn:=Qp0 a (QlY b)
end Go.Nac
namespace Go.Nac
structure Tb where
 name:ByteArray
 x:Int
 y:Int
 deriving DecidableEq
def encTb (t:Tb):PV:=.agg [.s (.string t.name),.I t.x,.I t.y]
theorem QB (t:Tb):encTb t = .agg [.s (.string t.name),.I t.x,.I t.y]:=rfl
theorem Qv (t:Tb):(encTb t).cells = [.s (.string t.name),.I t.x,.I t.y]:=nrfl rfl
theorem Vk {n:Nat} (l:List Tb):lowL n (l.map encTb) = True:=eq_true (VB _ _ fun r => by simp [encTb,PV.low,lowL])
theorem Ql0 (l:List Tb):(l.map encTb).all (QS 3) = true:=by rw [List.all_eq_true];intro x hx;obtain ⟨y,_,rfl⟩:=List.mem_map.1 hx;rfl
theorem Yc (l:List Tb):sized 3 (l.map encTb) = true:=by unfold sized;rw [List.all_eq_true];intro x hx;obtain ⟨y,_,rfl⟩:=List.mem_map.1 hx;rfl
structure Ste where
 name:ByteArray
 least:Int
 tbs:List Tb
def Q1 (s:Ste):PV:=.agg [.s (.string s.name),.I s.least,.fs (s.tbs.map encTb)]
theorem Vv (s:Ste):Q1 s = .agg [.s (.string s.name),.I s.least,.fs (s.tbs.map encTb)]:=rfl
theorem Yb {n:Nat} (s:Ste):(Q1 s).low n = True:=eq_true (by simp [Q1,PV.low,lowL,Vk])
def zSte:PV:=.agg [.s (.string ⟨#[]⟩),.I 0,.s (.slice none 0 0)]
theorem Qeh {n:Nat}:zSte.low n = True:=eq_true (by simp [zSte,PV.low,lowL])
structure Pt where
 x:Int
 y:Int
 deriving DecidableEq
def encPt (p:Pt):PV:=.agg [.I p.x,.I p.y]
theorem QM (p:Pt):encPt p = .agg [.I p.x,.I p.y]:=rfl
def Tb.at_ (t:Tb):Pt:=⟨t.x,t.y⟩
def VY (a b:Pt):Int:=(a.x - b.x) * (a.x - b.x) + (a.y - b.y) * (a.y - b.y)
def ptE (p:Pt):Int:=fst0 [rng p.x (-1000) 1000,rng p.y (-1000) 1000]
def ptIn (p:Pt):Prop:=-1000 ≤ p.x ∧ p.x ≤ 1000 ∧ -1000 ≤ p.y ∧ p.y ≤ 1000
theorem Z0 {n a b:Int}:rng n a b = 0 ↔ a ≤ n ∧ n ≤ b:=by unfold rng;split <;> omega
theorem Qjp {p:Pt} (h:ptE p = 0):ptIn p:=by
 unfold ptE at h
 simp only [fst0] at h
 split at h
 ·rename_i h1
  split at h
  ·rename_i h2
   rw [Z0] at h1 h2
   exact ⟨h1.1,h1.2,h2.1,h2.2⟩
  ·rename_i h2;exact absurd h h2
 ·rename_i h1;exact absurd h h1
theorem sqBd {d:Int} {n:Int} (h0:0 ≤ n) (h1:-n ≤ d) (h2:d ≤ n):0 ≤ d * d ∧ d * d ≤ n * n:=by
 constructor
 ·rcases Int.le_total 0 d with h|h
  ·exact Int.mul_nonneg h h
  ·exact Int.mul_nonneg_of_nonpos_of_nonpos h h
 ·rcases Int.le_total 0 d with h|h
  ·exact Int.mul_le_mul h2 h2 h h0
  ·have h3:(-d) * (-d) ≤ n * n:=Int.mul_le_mul (by omega) (by omega) (by omega) h0
   rw [Int.neg_mul_neg] at h3
   exact h3
def ptW (p:Pt):Prop:=-100000 ≤ p.x ∧ p.x ≤ 100000 ∧ -100000 ≤ p.y ∧ p.y ≤ 100000
theorem QjC {p:Pt} (h:ptIn p):ptW p:=by unfold ptIn at h;unfold ptW;omega
theorem QjL {a b:Pt} (ha:ptW a) (hb:ptW b):(0 ≤ (a.x - b.x) * (a.x - b.x) ∧ (a.x - b.x) * (a.x - b.x) ≤ 40000000000) ∧ 0 ≤ (a.y - b.y) * (a.y - b.y) ∧ (a.y - b.y) * (a.y - b.y) ≤ 40000000000:=by
 unfold ptW at ha hb
 have h1:=sqBd (d:=a.x - b.x) (n:=200000) (by omega) (by omega) (by omega)
 have h2:=sqBd (d:=a.y - b.y) (n:=200000) (by omega) (by omega) (by omega)
 omega
def tbE (least:Int) (pre:List Tb) (t:Tb):Int :=
 fst0 [if Qn t.name = false then 8 else 0,ptE t.at_,if pre.any (fun o => decide (o.name = t.name)) = true then 9 else 0,if pre.any (fun o => decide (VY t.at_ o.at_ < least * least)) = true then 15 else 0]
def tbL (least:Int) (l:List Tb):List Int:=l.zipIdx.map fun p => tbE least (l.take p.2) p.1
theorem QgV {least:Int} {l:List Tb} {k:Nat} {t:Tb} (h:l[k]? = some t):(tbL least l)[k]? = some (tbE least (l.take k) t):=by
 simp [tbL,h]
theorem QnQ {least:Int} {l:List Tb}:(tbL least l).length = l.length:=by simp [tbL]
def QZ (s:Ste):Int :=
 if Qn s.name = false then 8 else if ¬ rng s.least 1 1000 = 0 then 3 else if 64 < s.tbs.length then 5 else fst0 (tbL s.least s.tbs)
def tbsIn (least:Int) (l:List Tb) (k:Nat):Prop:=∀ (i:Nat) (t:Tb),i < k → l[i]? = some t → tbE least (l.take i) t = 0
theorem Qhg {least:Int} {l:List Tb}:tbsIn least l 0:=fun i t hi _ => absurd hi (by omega)
theorem Qhs {least:Int} {l:List Tb} {k:Nat} {t:Tb} (h:tbsIn least l k) (hk:l[k]? = some t) (h0:tbE least (l.take k) t = 0):tbsIn least l (k + 1):=by
 intro i u hi hu
 by_cases hik:i = k
 ·subst hik;rw [hk] at hu;cases hu;exact h0
 ·exact h i u (by omega) hu
theorem Qdv {least:Int} {pre:List Tb} {t:Tb} (h:tbE least pre t = 0):Qn t.name = true ∧ ptIn t.at_ ∧ pre.any (fun o => decide (o.name = t.name)) = false ∧ pre.any (fun o => decide (VY t.at_ o.at_ < least * least)) = false:=by
 unfold tbE at h
 simp only [fst0] at h
 by_cases h1:Qn t.name = false
 ·simp [h1] at h
 ·by_cases h2:ptE t.at_ = 0
  ·by_cases h3:pre.any (fun o => decide (o.name = t.name)) = true
   ·simp [h1,h2,h3] at h
   ·by_cases h4:pre.any (fun o => decide (VY t.at_ o.at_ < least * least)) = true
    ·simp [h1,h2,h3,h4] at h
    ·exact ⟨by simpa using h1,Qjp h2,by simpa using h3,by simpa using h4⟩
  ·simp [h1,h2] at h
theorem QeW {least:Int} {l:List Tb} {k i:Nat} {t:Tb} (h:tbsIn least l k) (hi:i < k) (ht:l[i]? = some t):ptIn t.at_:=(Qdv (h i t hi ht)).2.1
theorem ptE_v (p:Pt):ptE p = 0 ∨ ptE p = 3:=by
 have h:∀ n a b:Int,rng n a b = 0 ∨ rng n a b = 3:=by intro n a b;unfold rng;split <;> simp
 unfold ptE
 simp only [fst0]
 rcases h p.x (-1000) 1000 with h1|h1 <;> rcases h p.y (-1000) 1000 with h2|h2 <;> simp [h1,h2]
theorem Qli {least:Int} {pre:List Tb} {t:Tb} (h:Qn t.name = false):tbE least pre t = 8:=by simp [tbE,fst0,h]
theorem QpB {least:Int} {pre:List Tb} {t:Tb} (h:Qn t.name = true) (h2:¬ ptE t.at_ = 0):tbE least pre t = 3:=by
 rcases ptE_v t.at_ with h3|h3
 ·exact absurd h3 h2
 ·simp [tbE,fst0,h,h3]
theorem QjT {least:Int} {pre:List Tb} {t:Tb} (h:Qn t.name = true) (h2:ptE t.at_ = 0) (h3:pre.any (fun o => decide (o.name = t.name)) = true):tbE least pre t = 9:=by
 unfold tbE;rw [h3];simp [fst0,h,h2]
theorem QkT {least:Int} {pre:List Tb} {t:Tb} (h:Qn t.name = true) (h2:ptE t.at_ = 0) (h3:pre.any (fun o => decide (o.name = t.name)) = false) (h4:pre.any (fun o => decide (VY t.at_ o.at_ < least * least)) = true):tbE least pre t = 15:=by
 unfold tbE;rw [h3,h4];simp [fst0,h,h2]
theorem QpX {least:Int} {pre:List Tb} {t:Tb} (h:Qn t.name = true) (h2:ptE t.at_ = 0) (h3:pre.any (fun o => decide (o.name = t.name)) = false) (h4:pre.any (fun o => decide (VY t.at_ o.at_ < least * least)) = false):tbE least pre t = 0:=by
 unfold tbE;rw [h3,h4];simp [fst0,h,h2]
theorem QlA {l:List Tb} {k:Nat} {t:Tb} (p:Tb → Bool) (h:l[k]? = some t):(l.take (k + 1)).any p = ((l.take k).any p || p t):=by
 obtain ⟨h1,h2⟩:=List.getElem?_eq_some_iff.1 h
 rw [List.take_succ_eq_append_getElem h1,h2,List.any_append];simp
theorem QnA {l:List Tb} {j k:Nat} {t:Tb} (p:Tb → Bool) (h:l[j]? = some t) (hj:j < k) (ht:p t = true):(l.take k).any p = true:=by
 rw [List.any_eq_true]
 refine ⟨t,?_,ht⟩
 rw [List.mem_take_iff_getElem]
 obtain ⟨h1,h2⟩:=List.getElem?_eq_some_iff.1 h
 exact ⟨j,by omega,h2⟩
def ZX (l:List Tb):List (Value × Value):=l.map fun t => (.string t.name,.bool true)
theorem QfX (q:ByteArray) (l:List Tb):Vz (.string q) (ZX l) = true:=by
 unfold Vz ZX
 rw [List.all_eq_true];intro x hx
 obtain ⟨y,_,rfl⟩:=List.mem_map.1 hx
 rfl
theorem Qjf (a b:ByteArray):(a == b) = decide (a = b):=by
 cases a with|mk x => cases b with|mk y =>
 have h:((ByteArray.mk x) == (ByteArray.mk y)) = (x == y):=rfl
 rw [h,Bool.eq_iff_iff]
 simp
theorem Qcu (a b:ByteArray):(a.toList == b.toList) = decide (a = b):=by
 rw [ByteArray.toList_eq,ByteArray.toList_eq,← Qjf]
 obtain ⟨⟨x⟩⟩:=a
 obtain ⟨⟨y⟩⟩:=b
 show (x == y) = ((⟨x⟩:Array UInt8) == ⟨y⟩)
 simp
theorem Vs {a b:ByteArray}:bin .eql (.s (.string a)) (.s (.string b)) = some (.B (decide (a = b))):=by
 simp only [bin,Yg,Option.map_some,Qcu]
theorem Jc {a b:ByteArray}:bin .neq (.s (.string a)) (.s (.string b)) = some (.B (decide (¬ a = b))):=by
 simp only [bin,Yg,Option.map_some,Qcu,decide_not]
theorem Qbn {a b:ByteArray}:VG (.string a) (.string b) = decide (a = b):=by
 unfold VG
 simp only [Zw,Option.getD_some]
 exact Qjf a b
theorem Qg4 (q:ByteArray) (l:List Tb):(find (.string q) (ZX l)).getD (.bool false) = .bool (l.any fun o => decide (o.name = q)):=by
 induction l with
 | nil => rfl
 | cons t l ih =>
  show (if VG (.string q) (.string t.name) = true then some (Value.bool true) else find (.string q) (ZX l)).getD (.bool false) = _
  rw [Qbn,List.any_cons]
  by_cases h:q = t.name
  ·subst h;simp
  ·have h':¬ t.name = q:=fun e => h e.symm
   simp only [h,h',decide_false,Bool.false_eq_true,if_false,Bool.false_or]
   exact ih
theorem Qj0 (t:Tb) (l:List Tb) (h:l.any (fun o => decide (o.name = t.name)) = false):upd (.string t.name) (.bool true) (ZX l) = ZX (l ++ [t]):=by
 induction l with
 | nil => rfl
 | cons u l ih =>
  rw [List.any_cons,Bool.or_eq_false_iff] at h
  show (if VG (.string t.name) (.string u.name) = true then _ else _) = _
  rw [Qbn]
  have h':¬ t.name = u.name:=fun e => by simp [e] at h
  simp only [h',decide_false,Bool.false_eq_true,if_false]
  show _ :: upd (.string t.name) (.bool true) (ZX l) = _
  rw [ih h.2]
  rfl
end Go.Nac
namespace Go.Nac
def tb0:Tb:=⟨⟨#[]⟩,0,0⟩
def nearK (x:Tb) (m:Int) (l:List Tb):Int:=l.foldl (fun m o => min m (VY x.at_ o.at_)) m
def spcTo (l:List Tb):Nat → Int
 | 0 => VY (l.getD 0 tb0).at_ (l.getD 1 tb0).at_
 | k + 1 => nearK (l.getD k tb0) (spcTo l k) (l.take k)
def spcOf (l:List Tb):Int:=spcTo l l.length
def spcE (s:Ste):Int:=fst0 [QZ s,if s.tbs.length < 2 then 7 else 0]
theorem Qdt {s:Ste} (h:QZ s = 0):Qn s.name = true ∧ (1 ≤ s.least ∧ s.least ≤ 1000) ∧ s.tbs.length ≤ 64 ∧ tbsIn s.least s.tbs s.tbs.length:=by
 unfold QZ at h
 split at h
 ·cases h
 ·rename_i h1
  split at h
  ·cases h
  ·rename_i h2
   have h2:rng s.least 1 1000 = 0:=Decidable.of_not_not h2
   split at h
   ·cases h
   ·rename_i h3
    refine ⟨by simpa using h1,Z0.1 h2,by omega,?_⟩
    intro i t hi ht
    have key:∀ (k:Nat) (L:List Int),fst0 (L.drop k) = 0 → fst0 (L.drop (k + 1)) = 0 ∧ ∀ v,L[k]? = some v → v = 0:=by
     intro k L hL
     rcases Nat.lt_or_ge k L.length with hk|hk
     ·have:=ZC L k _ (List.getElem?_eq_getElem hk)
      rw [this] at hL
      split at hL
      ·rename_i h0
       refine ⟨hL,fun v hv => ?_⟩
       rw [List.getElem?_eq_getElem hk] at hv;cases hv;exact h0
      ·rename_i h0;exact absurd hL h0
     ·rw [List.drop_of_length_le (by omega)]
      refine ⟨rfl,fun v hv => ?_⟩
      rw [List.getElem?_eq_none hk] at hv;cases hv
    have all:∀ k:Nat,fst0 ((tbL s.least s.tbs).drop k) = 0:=by
     intro k
     induction k with
     | zero => exact h
     | succ k ih => exact (key k _ ih).1
    exact (key i _ (all i)).2 _ (QgV ht)
def trnN:Nat → Pt → Pt
 | 0,p => p
 | n + 1,p => ⟨(trnN n p).y,-(trnN n p).x⟩
theorem Qp7 {p:Pt} (h:ptIn p) (n:Nat):ptIn (trnN n p):=by
 induction n with
 | zero => exact h
 | succ n ih => unfold ptIn at *;simp only [trnN];omega
def mvT (f:Pt → Pt) (t:Tb):Tb:=⟨t.name,(f t.at_).x,(f t.at_).y⟩
def mvK (f:Pt → Pt) (l:List Tb) (k:Nat):List Tb:=(l.take k).map (mvT f) ++ l.drop k
theorem Ql2 (f:Pt → Pt) (l:List Tb):mvK f l 0 = l:=by simp [mvK]
theorem QoJ (f:Pt → Pt) (l:List Tb) {k:Nat} (h:l.length ≤ k):mvK f l k = l.map (mvT f):=by simp [mvK,List.take_of_length_le h,List.drop_of_length_le h]
theorem QoG (f:Pt → Pt) (l:List Tb) (k:Nat):(mvK f l k).length = l.length:=by
 unfold mvK
 rw [List.length_append,List.length_map,List.length_take,List.length_drop];omega
theorem QnK {f:Pt → Pt} {l:List Tb} {k:Nat} {t:Tb} (h:l[k]? = some t):(mvK f l k)[k]? = some t:=by
 obtain ⟨h1,h2⟩:=List.getElem?_eq_some_iff.1 h
 unfold mvK
 have e:((l.take k).map (mvT f)).length = k:=by rw [List.length_map,List.length_take];omega
 rw [List.getElem?_append_right (by omega),e,Nat.sub_self,List.getElem?_drop,Nat.add_zero,h]
theorem QnL {f:Pt → Pt} {l:List Tb} {k:Nat} {t:Tb} (h:l[k]? = some t):(mvK f l k).set k (mvT f t) = mvK f l (k + 1):=by
 obtain ⟨h1,h2⟩:=List.getElem?_eq_some_iff.1 h
 unfold mvK
 have e:((l.take k).map (mvT f)).length = k:=by rw [List.length_map,List.length_take];omega
 rw [List.set_append_right _ _ (by omega),e,Nat.sub_self,List.drop_eq_getElem_cons h1,List.set_cons_zero,List.take_succ_eq_append_getElem h1,List.map_append,h2]
 simp
end Go.Nac
namespace Go.Nac
abbrev Rse:=List Int
def encRs (r:Rse):PV:=.agg (r.map .I)
def z408:Rse:=List.replicate 408 0
def Qo8 (r:Rse):Int:=fst0 (r.map fun n => rng n 0 40000)
theorem JQ {l:List Int} (h:fst0 l = 0):∀ x ∈ l,x = 0:=by
 induction l with
 | nil => intro x hx;cases hx
 | cons a l ih =>
  rw [fst0] at h
  split at h
  ·rename_i h0
   intro x hx
   rcases List.mem_cons.1 hx with rfl|hx
   ·exact h0
   ·exact ih h x hx
  ·rename_i h0;exact absurd h h0
def blk (r:Rse) (k:Nat):List Int:=(r.drop (k * 51)).take 51
def Qqv (r:Rse) (k:Nat) (b:List Int):Rse:=r.take (k * 51) ++ b ++ r.drop (k * 51 + b.length)
def trnR (r:Rse) (q:Nat):Nat → Rse
 | 0 => z408
 | k + 1 => Qqv (trnR r q k) ((k + 2 * q) % 8) (blk r k)
def sumR (r:Rse) (i:Nat):Int:=(r.take i).foldl (· + ·) 0
end Go.Nac
namespace Go.Nac
structure Tells (tk:Nat → List PV) (bk:Nat → List PV) (at_:Nat → Nat):Prop where
 len:∀ k:Nat,k ≤ 8 → (tk k).length = 408
 low:∀ k m:Nat,lowL m (tk k) = True
 one:∀ k:Nat,(tk k).all oneB = true
 vw:∀ (k:Nat) (M:List Blk),(tk k).map (view1 M) = tk k
 ow:∀ (k n:Nat) (M:List Blk),(tk k).map (out1 n M) = tk k
 stp:∀ k:Nat,k < 8 → setRange (tk k) (at_ k * 51) (bk k) = tk (k + 1)
structure Cells (r:Rse) (cs:List PV) (bk:Nat → List PV):Prop where
 len:cs.length = 408
 tk:cs.take 408 = cs
 low:∀ m:Nat,lowL m cs = True
 one:cs.all oneB = true
 bone:∀ k:Nat,(bk k).all oneB = true
 vw:∀ M:List Blk,cs.map (view1 M) = cs
 bvw:∀ (k:Nat) (M:List Blk),(bk k).map (view1 M) = bk k
 eq:∀ (r':Rse),r'.length = 408 → QC (List.replicate 408 .int) cs (r'.map .I) = some (decide (r = r'))
 idx:∀ k:Nat,k < 8 → idxaV 8 51 (some 51) (.agg cs) (some k) = some (.agg (bk k))
 drop:∀ k:Nat,k < 8 → (cs.drop (k * 51)).take 51 = bk k
 blen:∀ k:Nat,k < 8 → (bk k).length = 51
 btk:∀ k:Nat,k < 8 → (bk k).take 51 = bk k
 blow:∀ k m:Nat,lowL m (bk k) = True
 bidx:∀ (k v:Nat) (x:Int),k < 8 → v < 51 → r[k * 51 + v]? = some x → idxaV 51 1 none (.agg (bk k)) (some v) = some (.I x)
 bget:∀ (k v:Nat) (x:Int),k < 8 → v < 51 → r[k * 51 + v]? = some x → (bk k)[v]? = some (.I x)
end Go.Nac
namespace Go.Nac
def recK (l:List Nat) (g:List Spn) (k:Nat):List (Nat × Nat):=((l.take k).zipIdx.filter fun p => !gapAt g p.2).map fun p => (p.2,p.1)
def recOf (l:List Nat) (g:List Spn):List (Nat × Nat):=recK l g l.length
theorem YY {l:List Nat} {g:List Spn} {k x:Nat} (h:l[k]? = some x):recK l g (k + 1) = recK l g k ++ if gapAt g k = true then [] else [(k,x)]:=by
 obtain ⟨h1,h2⟩:=List.getElem?_eq_some_iff.1 h
 unfold recK
 rw [List.take_succ_eq_append_getElem h1,h2,List.zipIdx_append,List.filter_append,List.map_append]
 congr 1
 have hl:(l.take k).length = k:=by simp;omega
 simp only [List.zipIdx_cons,List.zipIdx_nil,hl,Nat.zero_add]
 by_cases hg:gapAt g k = true
 ·simp [hg]
 ·simp [hg]
theorem QkV {l:List Nat} {g:List Spn}:∀ {k j:Nat},k ≤ j → j ≤ l.length → recK l g k <+: recK l g j:=by
 intro k j hkj
 induction j with
 | zero => intro _;rw [Nat.le_zero.1 hkj];exact List.prefix_refl _
 | succ j ih =>
  intro hj
  rcases Nat.lt_or_ge k (j + 1) with h|h
  ·obtain ⟨x,hx⟩:∃ x,l[j]? = some x:=⟨_,List.getElem?_eq_getElem (by omega)⟩
   rw [YY hx]
   exact (ih (by omega) (by omega)).trans (List.prefix_append _ _)
  ·have:k = j + 1:=by omega
   rw [this];exact List.prefix_refl _
theorem Qnz {l:List Nat} {g:List Spn} {k x:Nat} (h:l[k]? = some x) (hg:gapAt g k = false):(recOf l g)[(recK l g k).length]? = some (k,x):=by
 obtain ⟨h1,h2⟩:=List.getElem?_eq_some_iff.1 h
 have hp:recK l g (k + 1) <+: recOf l g:=QkV (by omega) (Nat.le_refl _)
 rw [YY h,hg] at hp
 simp only [Bool.false_eq_true,if_false] at hp
 obtain ⟨t,ht⟩:=hp
 rw [← ht,List.append_assoc,List.getElem?_append_right (Nat.le_refl _),Nat.sub_self];rfl
theorem QcK (l:List Nat) (g:List Spn) (k:Nat):(recK l g k).length ≤ k:=by
 unfold recK
 rw [List.length_map]
 refine Nat.le_trans (List.length_filter_le _ _) ?_
 simp;omega
def recP (l:List Nat) (g:List Spn):List (PV × PV):=(recOf l g).map fun p => (PV.I p.1,encF p.2)
theorem QkR {l:List Nat} {g:List Spn} {k x:Nat} (h:l[k]? = some x) (hg:gapAt g k = false):(recP l g)[(recK l g k).length]? = some (.I k,encF x):=by
 unfold recP;rw [List.getElem?_map,Qnz h hg];rfl
theorem Qe4 (l:List Nat) (g:List Spn):(recP l g).length = (recOf l g).length:=by simp [recP]
end Go.Nac
namespace Go.Nac
open Ieee
theorem V2 {x:Nat} (h:smpE x = 0):∃ s m e,single.read x = .number s m e:=by
 unfold smpE at h
 split at h
 ·exact ⟨_,_,_,by assumption⟩
 ·cases h
def fOf (x:Nat):Int:=match single.read x with|.number s m e => fV s m e|_ => 0
theorem Qnr {x y:Nat} (hx:smpE x = 0) (hy:smpE y = 0):FloatKind.f32.format.order x y = some (compare (fOf x) (fOf y)):=by
 obtain ⟨s,m,e,h1⟩:=V2 hx
 obtain ⟨s',m',e',h2⟩:=V2 hy
 have g1:=(QE h1).2.1
 have g2:=(QE h2).2.1
 show (single.read x).order (single.read y) = _
 unfold fOf
 rw [h1,h2]
 exact J8 (by omega) (by omega)
def minB (x y:Nat):Nat:=(fMinB .f32 x y).getD 0
def maxB (x y:Nat):Nat:=(fMaxB .f32 x y).getD 0
structure Stt where
 count:Int
 sum:Int
 least:Nat
 most:Nat
 deriving DecidableEq
def encSt (s:Stt):PV:=.agg [.I s.count,.I s.sum,encF s.least,encF s.most]
def st0:Stt:=⟨0,0,0,0⟩
def QoV (s:Stt) (x:Nat):Stt:=⟨s.count + 1,s.sum + six x,minB (if s.count = 0 then x else s.least) x,maxB (if s.count = 0 then x else s.most) x⟩
def sttTo (l:List (Nat × Nat)):Stt:=l.foldl (fun s p => QoV s p.2) st0
end Go.Nac
namespace Go.Nac
open Ieee
def Zm (x y:Nat):Bool:=decide (fOf y < fOf x)
theorem QjZ {x y:Nat} (hx:smpE x = 0) (hy:smpE y = 0):sopV (.fbin .gtr) [.s (.float .f32 x),.s (.float .f32 y)] = some (.B (Zm x y)) :=
 Zy rfl (by show fCmp .gtr (FloatKind.f32.format.order x y) = _;rw [Qnr hx hy,QcN];rfl)
def Q5 (lv:Nat) (o:List Spn) (p:Nat × Nat):List Spn :=
 if Zm p.2 lv = true then o else
 match o[o.length - 1]? with
 | some z => if z.to_ = p.1 then o.set (o.length - 1) ⟨z.fr,p.1 + 1⟩ else o ++ [⟨p.1,p.1 + 1⟩]
 | none => o ++ [⟨p.1,p.1 + 1⟩]
def spTo (lv:Nat) (l:List (Nat × Nat)):List Spn:=l.foldl (Q5 lv) []
theorem QjH {lv:Nat} {l:List (Nat × Nat)} {k:Nat} {p:Nat × Nat} (h:l[k]? = some p):spTo lv (l.take (k + 1)) = Q5 lv (spTo lv (l.take k)) p:=by
 obtain ⟨h1,h2⟩:=List.getElem?_eq_some_iff.1 h
 unfold spTo
 rw [List.take_succ_eq_append_getElem h1,h2,List.foldl_append];rfl
theorem Qae {lv:Nat} {o:List Spn} {i x:Nat} (h:Zm x lv = true):Q5 lv o (i,x) = o:=if_pos h
theorem Qbu {lv:Nat} {o:List Spn} {i x:Nat} {z:Spn} (h:Zm x lv = false) (hz:o[o.length - 1]? = some z) (he:z.to_ = i):Q5 lv o (i,x) = o.set (o.length - 1) ⟨z.fr,i + 1⟩:=by
 unfold Q5;simp only [h,hz,he];simp
theorem Qbr {lv:Nat} {o:List Spn} {i x:Nat} {z:Spn} (h:Zm x lv = false) (hz:o[o.length - 1]? = some z) (he:¬ z.to_ = i):Q5 lv o (i,x) = o ++ [⟨i,i + 1⟩]:=by
 unfold Q5;simp only [h,hz,he];simp
theorem Qbg {lv:Nat} {i x:Nat} (h:Zm x lv = false):Q5 lv [] (i,x) = [⟨i,i + 1⟩]:=by
 unfold Q5;simp [h]
theorem Qf8 (lv:Nat) (o:List Spn) (p:Nat × Nat):(Q5 lv o p).length ≤ o.length + 1:=by
 unfold Q5
 split
 ·omega
 ·split
  ·split <;> simp
  ·simp
theorem JS (lv:Nat) (l:List (Nat × Nat)):(spTo lv l).length ≤ l.length:=by
 unfold spTo
 have:∀ (l:List (Nat × Nat)) (o:List Spn),(l.foldl (Q5 lv) o).length ≤ o.length + l.length:=by
  intro l
  induction l with
  | nil => intro o;simp
  | cons x l ih => intro o;have h1:=ih (Q5 lv o x);have h2:=Qf8 lv o x;simp only [List.foldl_cons,List.length_cons];omega
 simpa using this l []
def spIn (n:Nat) (o:List Spn):Prop:=∀ z ∈ o,0 ≤ z.fr ∧ z.fr < z.to_ ∧ z.to_ ≤ n
theorem Qon {lv n:Nat} {l:List (Nat × Nat)} (hl:∀ p ∈ l,p.1 < n):spIn n (spTo lv l):=by
 unfold spTo
 have:∀ (l:List (Nat × Nat)) (o:List Spn),(∀ p ∈ l,p.1 < n) → spIn n o → spIn n (l.foldl (Q5 lv) o):=by
  intro l
  induction l with
  | nil => intro o _ h;exact h
  | cons p l ih =>
   intro o hl ho
   refine ih _ (fun q hq => hl q (by simp [hq])) ?_
   have hp:=hl p (by simp)
   have hnew:spIn n (o ++ [⟨p.1,p.1 + 1⟩]):=by
    intro z hz
    rcases List.mem_append.1 hz with hz|hz
    ·exact ho z hz
    ·simp only [List.mem_singleton] at hz;subst hz
     refine ⟨by show (0:Int) ≤ p.1;omega,by show (p.1:Int) < p.1 + 1;omega,by show (p.1:Int) + 1 ≤ n;omega⟩
   unfold Q5
   split
   ·exact ho
   ·split
    ·rename_i z0 hz0
     split
     ·rename_i he
      have h0:=ho z0 (List.mem_of_getElem? hz0)
      intro z hz
      rcases List.mem_or_eq_of_mem_set hz with hz|rfl
      ·exact ho z hz
      ·refine ⟨h0.1,by show z0.fr < (p.1:Int) + 1;omega,by show (p.1:Int) + 1 ≤ n;omega⟩
     ·exact hnew
    ·exact hnew
 exact this l [] hl (fun z hz => by cases hz)
def longK (least:Int) (l:List Spn):List Spn:=l.filter fun z => decide (least ≤ z.to_ - z.fr)
theorem Qho {least:Int} {l:List Spn} {k:Nat} {z:Spn} (h:l[k]? = some z):longK least (l.take (k + 1)) = longK least (l.take k) ++ if least ≤ z.to_ - z.fr then [z] else []:=by
 obtain ⟨h1,h2⟩:=List.getElem?_eq_some_iff.1 h
 unfold longK
 rw [List.take_succ_eq_append_getElem h1,h2,List.filter_append]
 congr 1
 by_cases hz:least ≤ z.to_ - z.fr <;> simp [hz]
theorem Qam (least:Int) (l:List Spn):(longK least l).length ≤ l.length:=List.length_filter_le _ _
end Go.Nac
namespace Go.Nac
open Ieee
def isNum (x:Nat):Prop:=∃ s m e,single.read x = .number s m e
theorem QmW {x y:Nat} (hx:isNum x) (hy:isNum y):FloatKind.f32.format.order x y = some (compare (fOf x) (fOf y)):=by
 obtain ⟨s,m,e,h1⟩:=hx
 obtain ⟨s',m',e',h2⟩:=hy
 have g1:=(QE h1).2.1
 have g2:=(QE h2).2.1
 show (single.read x).order (single.read y) = _
 unfold fOf
 rw [h1,h2]
 exact J8 (by omega) (by omega)
theorem f_neq {x y:Nat} (hx:isNum x) (hy:isNum y):sopV (.fbin .neq) [.s (.float .f32 x),.s (.float .f32 y)] = some (.B (decide (fOf x ≠ fOf y))):=Zy rfl (by rw [QmW hx hy,QaY])
def uP:Int:=2 ^ uE
theorem Qjv:0 < uP:=Int.pow_pos (by decide)
theorem Qc0 {x:Nat} (h:smpE x = 0):16 * fOf x = six x * uP:=by
 obtain ⟨s,m,e,hr⟩:=V2 h
 obtain ⟨g1,g2,g3⟩:=QE hr
 unfold smpE at h
 unfold fOf six uP
 rw [hr] at h ⊢
 simp only at h ⊢
 split at h
 ·cases h
 ·rename_i hc
  simp only [not_or,Bool.not_eq_false] at hc
  have hw:=hc.2.2
  unfold VE at hw
  rw [decide_eq_true_eq] at hw
  rw [hw,fV_16 g1 (by omega) (by omega)];omega
theorem Qdp {x:Nat} (h:smpE x = 0):isNum x:=V2 h
end Go.Nac
namespace Go.Nac
def Qm0 (x y:Nat):Bool:=decide (six x < 0) || decide (816 ≤ six x) || decide (six y < 0) || decide (112 < six y) || decide (¬ six y % 16 = 0)
def Qpz (x y:Nat):Nat:=(six y / 16).toNat * 51 + (six x / 16).toNat
def incR (r:Rse) (i:Nat):Rse:=r.set i (r.getD i 0 + 1)
def Qio (b:Ser) (o:Option Rse) (p:Nat × Nat):Option Rse :=
 match o with
 | none => none
 | some r => if gapAt b.gaps p.1 = true then some r else if Qm0 p.2 (b.samples.getD p.1 0) = true then none else some (incR r (Qpz p.2 (b.samples.getD p.1 0)))
def blTo (b:Ser) (l:List (Nat × Nat)):Option Rse:=l.foldl (Qio b) (some z408)
def rseIn (n:Nat) (r:Rse):Prop:=r.length = 408 ∧ ∀ v ∈ r,0 ≤ v ∧ v ≤ (n:Int)
def Qi9 (a b:Ser):Int:=fst0 [Qk a,Qk b,if a.start ≠ b.start ∨ a.samples.length ≠ b.samples.length then 2 else 0]
def Qq0 (a b:Ser):Rse × Int :=
 if Qi9 a b = 0 then (match blTo b (recOf a.samples a.gaps) with|none => (z408,3)|some r => (r,0)) else (z408,Qi9 a b)
end Go.Nac
namespace Go.Nac
abbrev bs (l:List UInt8):ByteArray:=⟨l.toArray⟩
def itoaB (n:Int):ByteArray:=⟨(Lib.itoa n).toArray⟩
def tbTxt (t:Tb):ByteArray:=(((((⟨#[116,117,114,98,105,110,101,32]⟩:ByteArray) ++ t.name) ++ ⟨#[32]⟩) ++ itoaB t.x) ++ ⟨#[32]⟩) ++ itoaB t.y ++ ⟨#[10]⟩
def joinB (l:List ByteArray):ByteArray:=⟨(Lib.join (l.map (·.data.toList)) []).toArray⟩
def QcI (s:Ste):ByteArray:=((((⟨#[115,105,116,101,32]⟩:ByteArray) ++ s.name) ++ ⟨#[32]⟩) ++ itoaB s.least ++ ⟨#[10]⟩) ++ joinB (s.tbs.map tbTxt)
theorem Vj {a b:ByteArray} (h:a.size + b.size ≤ 1099511627776):bin .add (.s (.string a)) (.s (.string b)) = some (.s (.string (a ++ b))):=by
 simp only [bin,Yg]
 rw [if_pos (by omega)];rfl
theorem Qn8 {xs:List (List UInt8)} {n:Nat} (h:∀ x ∈ xs,x.length ≤ n):Lib.lens xs ≤ n * xs.length:=by
 induction xs with
 | nil => exact Nat.zero_le _
 | cons a xs ih =>
  have h1:=h a (by simp)
  have h2:=ih fun x hx => h x (by simp [hx])
  have e:Lib.lens (a :: xs) = a.length + Lib.lens xs:=by simp [Lib.lens]
  rw [e,List.length_cons,Nat.mul_succ];omega
theorem Qco {l:List ByteArray} (h:l.length ≤ 64) (hs:∀ s ∈ l,s.size ≤ 200):(joinB l).size ≤ 100000:=by
 show (Lib.join (l.map (·.data.toList)) []).toArray.size ≤ 100000
 rw [List.size_toArray]
 cases l with
 | nil => simp [Lib.join_nil]
 | cons a r =>
  rw [List.map_cons,Lib.join_length]
  have:=Qn8 (xs:=a.data.toList :: r.map (·.data.toList)) (n:=200) (by
   intro x hx
   rcases List.mem_cons.1 hx with rfl|hx
   ·have:=hs a (by simp);simpa using this
   ·obtain ⟨t,ht,rfl⟩:=List.mem_map.1 hx
    have:=hs t (by simp [ht]);simpa using this)
  simp only [List.length_cons,List.length_map,List.length_nil,Nat.zero_mul] at this h ⊢
  omega
end Go.Nac
namespace Go.Nac
abbrev u8 (n:Int):PV:=.s (.int .u8 n)
def be4 (n:Int):List PV:=[u8 (IntKind.u8.wrap (n.fdiv 16777216)),u8 (IntKind.u8.wrap (n.fdiv 65536)),u8 (IntKind.u8.wrap (n.fdiv 256)),u8 (IntKind.u8.wrap n)]
theorem Qff (n:Int):be4 n = [u8 (IntKind.u8.wrap (n.fdiv 16777216)),u8 (IntKind.u8.wrap (n.fdiv 65536)),u8 (IntKind.u8.wrap (n.fdiv 256)),u8 (IntKind.u8.wrap n)]:=rfl
def putB (ns:List Int):List PV:=ns.flatMap be4
theorem Qki {l:List Int} {k:Nat} {n:Int} (h:l[k]? = some n):putB (l.take (k + 1)) = putB (l.take k) ++ be4 n:=by
 obtain ⟨h1,h2⟩:=List.getElem?_eq_some_iff.1 h
 unfold putB
 rw [List.take_succ_eq_append_getElem h1,h2,List.flatMap_append];simp
theorem Qem (l:List Int):(putB l).length = 4 * l.length:=by
 induction l with
 | nil => rfl
 | cons a l ih =>
  have e:putB (a :: l) = be4 a ++ putB l:=rfl
  rw [e,List.length_append,ih,List.length_cons]
  have:(be4 a).length = 4:=rfl
  omega
theorem Ya {n:Nat} (l:List Int):lowL n (putB l) = True:=eq_true (by
 rw [QL]
 intro x hx
 unfold putB at hx
 obtain ⟨a,_,ha⟩:=List.mem_flatMap.1 hx
 rw [Qff] at ha
 simp only [List.mem_cons,List.not_mem_nil,or_false] at ha
 rcases ha with rfl|rfl|rfl|rfl <;> simp [PV.low])
open Ieee
def plus0 (x:Nat):Nat:=(single.add x 0).getD 0
theorem QmM {x:Nat} (h:smpE x = 0):sopV (.fbin .add) [.s (.float .f32 x),.s (.float .f32 0)] = some (.s (.float .f32 (plus0 x))):=by
 obtain ⟨s,m,e,hr⟩:=V2 h
 have h0:single.read 0 = .number false 0 (-149):=by decide
 have ha:∃ r,single.add x 0 = some r:=by
  unfold Format.add
  rw [hr,h0]
  exact ⟨_,rfl⟩
 obtain ⟨r,hr2⟩:=ha
 have e1:plus0 x = r:=by unfold plus0;rw [hr2];rfl
 have e2:FloatKind.f32.format.add x 0 = some r:=hr2
 rw [e1]
 simp only [sopV,if_true,QR,e2]
theorem Qly (a b:List Int):putB (a ++ b) = putB a ++ putB b:=by unfold putB;rw [List.flatMap_append]
def gapNs (l:List Spn):List Int:=l.flatMap fun g => [g.fr,g.to_]
theorem QhO {l:List Spn} {k:Nat} {g:Spn} (h:l[k]? = some g):gapNs (l.take (k + 1)) = gapNs (l.take k) ++ [g.fr,g.to_]:=by
 obtain ⟨h1,h2⟩:=List.getElem?_eq_some_iff.1 h
 unfold gapNs
 rw [List.take_succ_eq_append_getElem h1,h2,List.flatMap_append];simp
theorem Qdb (l:List Spn):(gapNs l).length = 2 * l.length:=by
 induction l with
 | nil => rfl
 | cons a l ih =>
  have e:gapNs (a :: l) = [a.fr,a.to_] ++ gapNs l:=rfl
  rw [e,List.length_append,ih]
  simp only [List.length_cons,List.length_nil]
  omega
def bitNs (l:List Nat):List Int:=l.map fun x => IntKind.i64.wrap (plus0 x)
def hdrB (s:Ser):List PV:=[u8 87,u8 73,u8 78,u8 68] ++ [u8 (IntKind.u8.wrap s.name.size)] ++ Qz s.name
def encB (s:Ser):List PV:=hdrB s ++ putB ([s.start,(s.samples.length:Int),(s.gaps.length:Int)] ++ gapNs s.gaps ++ bitNs s.samples)
end Go.Nac
set_option maxRecDepth 20000
namespace Go.Nac
def farmS:Ste:=⟨⟨#[110,111,114,116,104]⟩,5,[⟨⟨#[97]⟩,0,0⟩,⟨⟨#[98]⟩,6,0⟩,⟨⟨#[99]⟩,3,4⟩]⟩
def waveS:Ser:=⟨⟨#[119,97,118,101]⟩,100,[1065353216,1075838976,0,1056964608,1077936128,1065353216,1065353216],[⟨2,3⟩]⟩
def awA:Ser:=⟨⟨#[118]⟩,0,[1089470464,1090519040,0],[]⟩
def awB:Ser:=⟨⟨#[100]⟩,0,[0,1073741824,0],[⟨2,3⟩]⟩
end Go.Nac
namespace Go.Nac
def canF (last:Int):List Spn → Prop
 | [] => True
 | s :: r => last < s.fr ∧ s.fr < s.to_ ∧ canF s.to_ r
theorem Qky {l:List Spn} {a b:Int} (h:canF b l) (hab:a ≤ b):canF a l:=by
 cases l with
 | nil => trivial
 | cons x l => exact ⟨by have:=h.1;omega,h.2⟩
theorem ZJ (i:Int):gapAt [] i = false:=rfl
theorem QD (s:Spn) (l:List Spn) (i:Int):gapAt (s :: l) i = (decide (s.fr ≤ i ∧ i < s.to_) || gapAt l i):=rfl
theorem VL (a b:List Spn) (i:Int):gapAt (a ++ b) i = (gapAt a i || gapAt b i):=by
 unfold gapAt;rw [List.any_append]
theorem Vt (s:Spn) (i:Int):gapAt [s] i = decide (s.fr ≤ i ∧ i < s.to_):=by
 rw [QD,ZJ,Bool.or_false]
theorem V9 {l:List Spn} {i:Int} (h:∀ x ∈ l,x.to_ ≤ i):gapAt l i = false:=by
 unfold gapAt
 rw [List.any_eq_false]
 intro x hx
 have:=h x hx
 simp only [decide_eq_true_eq,not_and];omega
theorem VR {l:List Spn}:∀ {last:Int},canF last l → ∀ {i:Int},i ≤ last → gapAt l i = false:=by
 induction l with
 | nil => intro last _ i _;rfl
 | cons s l ih =>
  intro last h i hi
  obtain ⟨h1,h2,h3⟩:=h
  rw [QD,ih h3 (by omega),decide_eq_false (by omega)];rfl
theorem QgH {l:List Spn}:∀ {last:Int},canF last l → ∀ x ∈ l,last < x.fr ∧ x.fr < x.to_:=by
 induction l with
 | nil => intro last _ x hx;cases hx
 | cons s l ih =>
  intro last h x hx
  obtain ⟨h1,h2,h3⟩:=h
  rcases List.mem_cons.1 hx with rfl|hx
  ·exact ⟨h1,h2⟩
  ·have:=ih h3 x hx;omega
theorem QoQ {a:List Spn}:∀ {b:List Spn} {la lb:Int},canF la a → canF lb b → (∀ i:Int,gapAt a i = gapAt b i) → a = b:=by
 induction a with
 | nil =>
  intro b la lb _ hb h
  cases b with
  | nil => rfl
  | cons y b =>
   have:=h y.fr
   rw [ZJ,QD,decide_eq_true (by have:=hb.2.1;omega)] at this
   cases this
 | cons x a ih =>
  intro b la lb ha hb h
  cases b with
  | nil =>
   have:=h x.fr
   rw [ZJ,QD,decide_eq_true (by have:=ha.2.1;omega)] at this
   cases this
  | cons y b =>
   obtain ⟨a1,a2,a3⟩:=ha
   obtain ⟨b1,b2,b3⟩:=hb
   have e1:x.fr = y.fr:=by
    rcases Int.lt_trichotomy x.fr y.fr with hl|he|hl
    ·have:=h x.fr
     rw [QD,QD,decide_eq_true (by omega),decide_eq_false (by omega),VR b3 (by omega)] at this
     cases this
    ·exact he
    ·have:=h y.fr
     rw [QD,QD,decide_eq_false (by omega),decide_eq_true (p:=y.fr ≤ y.fr ∧ y.fr < y.to_) (by omega),VR a3 (by omega)] at this
     cases this
   have e2:x.to_ = y.to_:=by
    rcases Int.lt_trichotomy x.to_ y.to_ with hl|he|hl
    ·have:=h x.to_
     rw [QD,QD,decide_eq_false (by omega),decide_eq_true (p:=y.fr ≤ x.to_ ∧ x.to_ < y.to_) (by omega),VR a3 (by omega)] at this
     cases this
    ·exact he
    ·have:=h y.to_
     rw [QD,QD,decide_eq_true (by omega),decide_eq_false (p:=y.fr ≤ y.to_ ∧ y.to_ < y.to_) (by omega),VR b3 (by omega)] at this
     cases this
   have e3:a = b:=by
    refine ih a3 b3 fun i => ?_
    rcases (by omega:i ≤ x.to_ ∨ x.to_ < i) with hi|hi
    ·rw [VR a3 hi,VR b3 (by omega)]
    ·have:=h i
     rw [QD,QD,decide_eq_false (by omega),decide_eq_false (p:=y.fr ≤ i ∧ i < y.to_) (by omega)] at this
     simpa using this
   obtain ⟨xf,xt⟩:=x
   obtain ⟨yf,yt⟩:=y
   simp only at e1 e2
   rw [e1,e2,e3]
def Can (l:List Spn):Prop:=canF (-1) l ∧ ∀ x ∈ l,x.to_ ≤ 40000
theorem Can.ok {l:List Spn} (h:Can l):spOk l:=fun x hx => by
 have h1:=QgH h.1 x hx
 have h2:=h.2 x hx
 omega
theorem Can.ext {a b:List Spn} (ha:Can a) (hb:Can b) (h:∀ t:Nat,gapAt a t = gapAt b t):a = b:=by
 refine QoQ ha.1 hb.1 fun i => ?_
 rcases (by omega:i ≤ -1 ∨ -1 < i) with hi|hi
 ·rw [VR ha.1 hi,VR hb.1 hi]
 ·obtain ⟨t,rfl⟩:∃ t:Nat,i = t:=⟨i.toNat,by omega⟩
  exact h t
theorem Can.hi {l:List Spn} (h:Can l) {t:Int} (ht:40000 ≤ t):gapAt l t = false:=V9 fun x hx => by have:=h.2 x hx;omega
theorem Qei {l:List Spn}:∀ {last:Int},QO last l = 0 → canF last l ∧ ∀ x ∈ l,x.to_ ≤ 40000:=by
 induction l with
 | nil => intro last _;exact ⟨trivial,fun x hx => by cases hx⟩
 | cons s l ih =>
  intro last h
  rw [QO] at h
  split at h
  ·rename_i h0
   split at h
   ·cases h
   ·have h1:=Y3 h0
    obtain ⟨g1,g2⟩:=ih h
    refine ⟨⟨by omega,h1.2.1,g1⟩,fun x hx => ?_⟩
    rcases List.mem_cons.1 hx with rfl|hx
    ·exact h1.2.2
    ·exact g2 x hx
  ·cases h
theorem Qek {l:List Spn}:∀ {last:Int},-1 ≤ last → canF last l → (∀ x ∈ l,x.to_ ≤ 40000) → QO last l = 0:=by
 induction l with
 | nil => intro last _ _ _;rfl
 | cons s l ih =>
  intro last hl h h40
  obtain ⟨h1,h2,h3⟩:=h
  have h4:=h40 s (by simp)
  rw [QO,if_pos (by unfold Vn;rw [if_neg (by omega)]),if_neg (by omega)]
  exact ih (by omega) h3 fun x hx => h40 x (by simp [hx])
theorem QJ {l:List Spn}:Qm l = 0 ↔ l.length ≤ 1024 ∧ Can l:=by
 unfold Qm
 split
 ·constructor
  ·intro h;cases h
  ·intro h;omega
 ·constructor
  ·intro h;exact ⟨by omega,Qei h⟩
  ·intro h;exact Qek (Int.le_refl _) h.2.1 h.2.2
theorem ZF {o:List Spn} {s:Spn}:∀ {last:Int},canF last (o ++ [s]) ↔ canF last o ∧ (∀ x ∈ o,x.to_ < s.fr) ∧ last < s.fr ∧ s.fr < s.to_:=by
 induction o with
 | nil =>
  intro last
  constructor
  ·rintro ⟨h1,h2,_⟩;exact ⟨trivial,(fun x hx => by cases hx),h1,h2⟩
  ·rintro ⟨_,_,h1,h2⟩;exact ⟨h1,h2,trivial⟩
 | cons x o ih =>
  intro last
  constructor
  ·rintro ⟨h1,h2,h3⟩
   obtain ⟨g1,g2,g3,g4⟩:=ih.1 h3
   refine ⟨⟨h1,h2,g1⟩,fun y hy => ?_,by omega,g4⟩
   rcases List.mem_cons.1 hy with rfl|hy
   ·exact g3
   ·exact g2 y hy
  ·rintro ⟨⟨h1,h2,h3⟩,g2,g3,g4⟩
   exact ⟨h1,h2,ih.2 ⟨h3,fun y hy => g2 y (by simp [hy]),g2 x (by simp),g4⟩⟩
theorem Qbp (o:List Spn) (p s:Spn):QQ (o ++ [p]) s = if s.fr ≤ p.to_ then o ++ [⟨p.fr,max p.to_ s.to_⟩] else o ++ [p] ++ [s]:=by
 have e:(o ++ [p])[(o ++ [p]).length - 1]? = some p:=by simp
 unfold QQ
 rw [e]
 simp only
 split
 ·simp
 ·rfl
theorem Qet (l:List Spn):∀ (o:List Spn),canF (-1) o → (∀ x ∈ o,x.to_ ≤ 40000) → spOk l → l.Pairwise (fun x y => x.fr ≤ y.fr) → (∀ x ∈ o,∀ y ∈ l,x.fr ≤ y.fr) →
  Can (l.foldl QQ o) ∧ ∀ i:Int,gapAt (l.foldl QQ o) i = (gapAt o i || gapAt l i):=by
 induction l with
 | nil => intro o h1 h2 _ _ _;exact ⟨⟨h1,h2⟩,fun i => by rw [ZJ,Bool.or_false];rfl⟩
 | cons s l ih =>
  intro o h1 h2 h3 h4 h5
  have hs:=h3 s (by simp)
  rw [List.pairwise_cons] at h4
  have hl:spOk l:=fun x hx => h3 x (by simp [hx])
  have key:∀ o':List Spn,QQ o s = o' → canF (-1) o' → (∀ x ∈ o',x.to_ ≤ 40000) → (∀ x ∈ o',∀ y ∈ l,x.fr ≤ y.fr) → (∀ i:Int,gapAt o' i = (gapAt o i || decide (s.fr ≤ i ∧ i < s.to_))) →
    Can ((s :: l).foldl QQ o) ∧ ∀ i:Int,gapAt ((s :: l).foldl QQ o) i = (gapAt o i || gapAt (s :: l) i):=by
   intro o' e g1 g2 g3 g4
   rw [List.foldl_cons,e]
   obtain ⟨k1,k2⟩:=ih o' g1 g2 hl h4.2 g3
   refine ⟨k1,fun i => ?_⟩
   rw [k2,g4,QD,Bool.or_assoc]
  rcases List.eq_nil_or_concat o with rfl|⟨q,p,rfl⟩
  ·refine key [s] (Qdd rfl) ⟨by omega,hs.2.1,trivial⟩ (fun x hx => by simp only [List.mem_singleton] at hx;subst hx;omega) (fun x hx y hy => by simp only [List.mem_singleton] at hx;subst hx;exact h4.1 y hy) (fun i => by rw [Vt];rfl)
  ·simp only [List.concat_eq_append] at h1 h2 h5 key ⊢
   obtain ⟨c1,c2,c3,c4⟩:=ZF.1 h1
   have hps:=h5 p (by simp) s (by simp)
   have hp40:=h2 p (by simp)
   by_cases hc:s.fr ≤ p.to_
   ·refine key (q ++ [⟨p.fr,max p.to_ s.to_⟩]) (by rw [Qbp,if_pos hc]) (ZF.2 ⟨c1,c2,c3,by show p.fr < max p.to_ s.to_;omega⟩) (fun x hx => ?_) (fun x hx y hy => ?_) (fun i => ?_)
    ·rcases List.mem_append.1 hx with hx|hx
     ·exact h2 x (by simp [hx])
     ·simp only [List.mem_singleton] at hx;subst hx;show max p.to_ s.to_ ≤ 40000;omega
    ·rcases List.mem_append.1 hx with hx|hx
     ·exact h5 x (by simp [hx]) y (by simp [hy])
     ·simp only [List.mem_singleton] at hx;subst hx;exact h5 p (by simp) y (by simp [hy])
    ·rw [VL,VL,Vt,Vt,Bool.or_assoc]
     congr 1
     rw [Bool.eq_iff_iff]
     simp only [Bool.or_eq_true,decide_eq_true_eq]
     omega
   ·refine key (q ++ [p] ++ [s]) (by rw [Qbp,if_neg hc]) (ZF.2 ⟨h1,fun x hx => ?_,by omega,hs.2.1⟩) (fun x hx => ?_) (fun x hx y hy => ?_) (fun i => ?_)
    ·rcases List.mem_append.1 hx with hx|hx
     ·have:=c2 x hx;omega
     ·simp only [List.mem_singleton] at hx;subst hx;omega
    ·rcases List.mem_append.1 hx with hx|hx
     ·exact h2 x hx
     ·simp only [List.mem_singleton] at hx;subst hx;omega
    ·rcases List.mem_append.1 hx with hx|hx
     ·exact h5 x hx y (by simp [hy])
     ·simp only [List.mem_singleton] at hx;subst hx;exact h4.1 y hy
    ·rw [VL (q ++ [p]) [s],Vt]
theorem Qhm {a b:List Spn} (h:a.Perm b) (i:Int):gapAt a i = gapAt b i:=by
 unfold gapAt
 rw [Bool.eq_iff_iff,List.any_eq_true,List.any_eq_true]
 constructor
 ·rintro ⟨x,hx,h2⟩;exact ⟨x,h.mem_iff.1 hx,h2⟩
 ·rintro ⟨x,hx,h2⟩;exact ⟨x,h.mem_iff.2 hx,h2⟩
theorem Qeu {l:List Spn} (h:spOk l):Can (Zr l) ∧ ∀ i:Int,gapAt (Zr l) i = gapAt l i:=by
 obtain ⟨p1,p2⟩:=Qej l
 obtain ⟨h1,h2⟩:=Qet (srtL Q0 l) [] trivial (fun x hx => by cases hx) (fun x hx => h x (p1.mem_iff.1 hx)) p2 (fun x hx => by cases hx)
 refine ⟨h1,fun i => ?_⟩
 show gapAt ((srtL Q0 l).foldl QQ []) i = _
 rw [h2,ZJ,Bool.false_or,Qhm p1]
theorem Jh {a b:List Spn} (ha:spOk a) (hb:spOk b):Can (VH a b) ∧ ∀ i:Int,gapAt (VH a b) i = (gapAt a i || gapAt b i):=by
 obtain ⟨h1,h2⟩:=Qeu (l:=a ++ b) fun x hx => (List.mem_append.1 hx).elim (ha x) (hb x)
 exact ⟨h1,fun i => by rw [show VH a b = Zr (a ++ b) from rfl,h2,VL]⟩
end Go.Nac
namespace Go.Nac
def cntB (g:Nat → Bool):Nat → Int
 | 0 => 0
 | n + 1 => cntB g n + if g n = true then 1 else 0
theorem Qnf {f:List Spn → List Spn → List Spn} {a b:List Spn} (ha:Qm a = 0) (hb:Qm b = 0) (hf:(f a b).length ≤ 1024):YR f a b = (f a b,0):=by
 unfold YR
 have e:fst0 [Qm a,Qm b] = 0:=by rw [ha,hb];rfl
 rw [if_pos e,if_neg (by omega)]
theorem Can.chk {l:List Spn} (h:Can l) (hl:l.length ≤ 1024):Qm l = 0:=QJ.2 ⟨hl,h⟩
def allL:List Spn:=[⟨0,64⟩]
end Go.Nac
set_option linter.unusedSimpArgs false
namespace Go.Nac
open Ieee
theorem VM:single.leastPlace = -149:=by decide
theorem VV:single.binade = 8388608:=by decide
theorem Z3:single.infRung = 2139095040:=by decide
theorem YP:single.signWeight = 2147483648:=by decide
theorem J0:single.fractionBits = 23:=rfl
theorem QeK (neg:Bool) (a:Nat) (p:Int) (ha:a ≠ 0):single.nearest neg (2 * a) p = single.nearest neg a (p + 1):=by
 unfold Format.nearest
 rw [if_neg (by omega),if_neg ha,Nat.log2_two_mul ha,VM,J0]
 have e:max (p + ((a.log2 + 1:Nat):Int) - ((23:Nat):Int)) (-149) = max (p + 1 + (a.log2:Int) - ((23:Nat):Int)) (-149):=by congr 1;omega
 simp only [e]
 generalize max (p + 1 + (a.log2:Int) - ((23:Nat):Int)) (-149) = last
 congr 3
 by_cases h:last ≤ p
 ·rw [show (last - p).toNat = 0 from by omega,show (last - (p + 1)).toNat = 0 from by omega,Zi,Zi,show (p + 1 - last).toNat = (p - last).toNat + 1 from by omega,
   Nat.shiftLeft_eq,Nat.shiftLeft_eq,Nat.pow_succ]
  rw [Nat.mul_comm 2 a,Nat.mul_assoc,Nat.mul_comm 2]
 ·rw [show (p - last).toNat = 0 from by omega,show (p + 1 - last).toNat = 0 from by omega,show (last - p).toNat = (last - (p + 1)).toNat + 1 from by omega]
  exact QgX neg a _ ha
theorem YU (neg:Bool) (a:Nat) (k:Nat):∀ p:Int,single.nearest neg (a * 2 ^ k) p = single.nearest neg a (p + k):=by
 by_cases ha:a = 0
 ·intro p;subst ha;simp [Format.nearest]
 induction k with
 | zero => intro p;simp
 | succ k ih =>
  intro p
  have:a * 2 ^ (k + 1) = 2 * (a * 2 ^ k):=by rw [Nat.pow_succ,Nat.mul_comm 2,Nat.mul_assoc]
  rw [this,QeK _ _ _ (Nat.mul_ne_zero ha (by simp)),ih]
  congr 1;omega
theorem JL (neg:Bool) {r:Nat} (h:r < 2147483648):single.read (single.word neg r) = if r < 8388608 then .number neg r (-149)
  else if r < 2139095040 then .number neg (8388608 + r % 8388608) (-149 + (r / 8388608 - 1:Nat))
  else if r = 2139095040 then .infinity neg else .nan neg (r - 2139095040):=by
 unfold Format.read Format.word
 rw [YP,VV,Z3,VM]
 have h1:((if neg = true then 2147483648 + r else r) / 2147483648 % 2 == 1) = neg:=by
  cases neg
  ·simp only [Bool.false_eq_true,if_false];rw [Nat.div_eq_of_lt h];rfl
  ·simp only [if_true];rw [Nat.add_div_left _ (by decide),Nat.div_eq_of_lt h];rfl
 have h2:(if neg = true then 2147483648 + r else r) % 2147483648 = r:=by
  cases neg
  ·simp only [Bool.false_eq_true,if_false];exact Nat.mod_eq_of_lt h
  ·simp only [if_true];rw [Nat.add_mod_left];exact Nat.mod_eq_of_lt h
 simp only [h1,h2]
theorem Yw (neg:Bool) {a:Nat} {p:Int} (ha:a < 2 ^ 24) (hp:-149 ≤ p) (hq:p ≤ 104) :
  ∃ (k:Nat) (l:Int),single.read (single.nearest neg a p) = .number neg (a * 2 ^ k) l ∧ l + k = p ∧ -149 ≤ l:=by
 by_cases h0:a = 0
 ·subst h0
  refine ⟨(p + 149).toNat,-149,?_,by omega,Int.le_refl _⟩
  unfold Format.nearest
  rw [if_pos rfl,JL _ (by decide),if_pos (by decide)]
  simp
 have hlog:a.log2 ≤ 23:=by
  have:=(Nat.log2_lt h0 (k:=24)).2 ha;omega
 obtain ⟨last,hl⟩:∃ last,last = max (p + (a.log2:Int) - 23) (-149):=⟨_,rfl⟩
 refine ⟨(p - last).toNat,last,?_,by omega,by omega⟩
 unfold Format.nearest
 rw [if_neg h0,VM,J0,VV,Z3]
 simp only [show ((23:Nat):Int) = 23 from rfl,← hl]
 rw [show (last - p).toNat = 0 from by omega,Zi,Nat.shiftLeft_eq]
 have hk:a.log2 + (p - last).toNat ≤ 23:=by omega
 have hlt:a * 2 ^ (p - last).toNat < 2 ^ 24:=by
  have h1:a < 2 ^ (a.log2 + 1):=Nat.lt_log2_self
  calc a * 2 ^ (p - last).toNat < 2 ^ (a.log2 + 1) * 2 ^ (p - last).toNat:=Nat.mul_lt_mul_of_pos_right h1 (Nat.pow_pos (by decide))
   _ = 2 ^ (a.log2 + 1 + (p - last).toNat):=(Nat.pow_add ..).symm
   _ ≤ 2 ^ 24:=Nat.pow_le_pow_right (by decide) (by omega)
 by_cases hc:last = -149
 ·rw [hc] at hlt ⊢
  simp only [show (-149 - -149:Int).toNat = 0 from rfl,Nat.zero_mul,Nat.zero_add]
  generalize a * 2 ^ (p - -149).toNat = n at hlt
  rw [Nat.min_eq_left (by omega),JL _ (by omega)]
  by_cases hn:n < 8388608
  ·rw [if_pos hn]
  ·rw [if_neg hn,if_pos (by omega)]
   have e1:n / 8388608 = 1:=by omega
   have e2:8388608 + n % 8388608 = n:=by omega
   rw [e1,e2];rfl
 ·have hle:last = p + (a.log2:Int) - 23:=by omega
  have hge:2 ^ 23 ≤ a * 2 ^ (p - last).toNat:=by
   have h1:2 ^ a.log2 ≤ a:=Nat.log2_self_le h0
   calc 2 ^ 23 = 2 ^ a.log2 * 2 ^ (p - last).toNat:=by rw [← Nat.pow_add];congr 1;omega
    _ ≤ a * 2 ^ (p - last).toNat:=Nat.mul_le_mul_right _ h1
  generalize a * 2 ^ (p - last).toNat = n at hlt hge
  obtain ⟨j,hj⟩:∃ j:Nat,j = (last - -149).toNat:=⟨_,rfl⟩
  rw [← hj]
  have hj1:1 ≤ j ∧ j ≤ 253:=by omega
  have hj2:last = -149 + j:=by omega
  have hr:j * 8388608 + n < 2139095040:=by omega
  rw [Nat.min_eq_left (Nat.le_of_lt hr),JL _ (by omega),if_neg (by omega),if_pos hr]
  have e1:(j * 8388608 + n) / 8388608 = j + 1:=by omega
  have e2:8388608 + (j * 8388608 + n) % 8388608 = n:=by omega
  rw [e1,e2,hj2];simp
theorem JJ {x:Nat} {s:Bool} {m:Nat} {e:Int} (h:single.read x = .number s m e):m < 2 ^ 24:=by
 unfold Format.read at h
 rw [YP,VV,Z3,VM] at h
 simp only at h
 split at h
 ·cases h;omega
 ·split at h
  ·cases h;omega
  ·split at h <;> cases h
theorem QpH {z:Int} {s:Bool} {p:Int} (hs:z ≠ 0 → s = decide (z < 0)):fV s z.natAbs p = z * 2 ^ (p + 1100).toNat:=by
 unfold fV
 rw [Qq]
 by_cases h0:z = 0
 ·subst h0;cases s <;> simp
 ·rw [hs h0]
  by_cases hz:z < 0
  ·rw [decide_eq_true hz,if_pos rfl]
   have:(z.natAbs:Int) = -z:=by omega
   rw [Int.natCast_mul,this,Int.natCast_pow,Int.neg_mul];simp
  ·rw [decide_eq_false hz]
   have:(z.natAbs:Int) = z:=by omega
   simp only [Bool.false_eq_true,if_false]
   rw [Int.natCast_mul,this,Int.natCast_pow];simp
theorem QaN (s:Bool) (m:Nat) {l b:Int} (h:b ≤ l) (hb:-1100 ≤ b):signed s m (l - b).toNat * 2 ^ (b + 1100).toNat = fV s m l:=by
 unfold fV
 rw [← Zn]
 congr 1;omega
theorem Qim {d e:Datum} {s t:Bool} {m n:Nat} {i j:Int} (hd:d = .number s m i) (he:e = .number t n j) (hi:-149 ≤ i) (hj:-149 ≤ j) {z:Int} {k:Nat}
  (hz:signed s m (i - min i j).toNat + signed t n (j - min i j).toNat = z * 2 ^ k) (hz24:z.natAbs < 2 ^ 24) (hk:min i j + k ≤ 104) :
  ∃ r,(d.sum e).map single.write = some r ∧ isNum r ∧ fOf r = fV s m i + fV t n j:=by
 subst hd;subst he
 obtain ⟨b,hb⟩:∃ b,b = min i j:=⟨_,rfl⟩
 rw [← hb] at hz hk
 have hpk:(0:Int) < 2 ^ k:=Int.pow_pos (by decide)
 obtain ⟨sg,hsg⟩:∃ sg,sg = (if z * 2 ^ k = 0 then s && t else decide (z * 2 ^ k < 0)):=⟨_,rfl⟩
 have e1:(Datum.number s m i).sum (.number t n j) = some (.number sg (z * 2 ^ k).natAbs b):=by
  show some (Datum.number (if signed s m (i - min i j).toNat + signed t n (j - min i j).toNat = 0 then s && t else decide (signed s m (i - min i j).toNat + signed t n (j - min i j).toNat < 0)) (signed s m (i - min i j).toNat + signed t n (j - min i j).toNat).natAbs (min i j)) = _
  rw [← hb,hz,hsg]
 have e2:(z * 2 ^ k).natAbs = z.natAbs * 2 ^ k:=by rw [Int.natAbs_mul];simp [Int.natAbs_pow]
 have hs:z ≠ 0 → sg = decide (z < 0):=by
  intro h0
  rw [hsg,if_neg (Int.mul_ne_zero h0 (by omega))]
  refine decide_eq_decide.2 ⟨fun h => ?_,fun h => Int.mul_neg_of_neg_of_pos h hpk⟩
  rcases Int.lt_or_le z 0 with h1|h1
  ·exact h1
  ·have:=Int.mul_nonneg h1 (Int.le_of_lt hpk);omega
 rw [e1,e2]
 refine ⟨_,rfl,?_⟩
 show isNum (single.nearest sg (z.natAbs * 2 ^ k) b) ∧ fOf (single.nearest sg (z.natAbs * 2 ^ k) b) = _
 rw [YU]
 obtain ⟨k',l,h1,h2,h3⟩:=Yw sg (a:=z.natAbs) (p:=b + k) hz24 (by omega) hk
 refine ⟨⟨_,_,_,h1⟩,?_⟩
 unfold fOf
 rw [h1]
 show fV sg (z.natAbs * 2 ^ k') l = _
 rw [YW _ _ _ h2 (by omega),QpH hs,← QaN s m (l:=i) (b:=b) (by omega) (by omega),← QaN t n (l:=j) (b:=b) (by omega) (by omega),← Int.add_mul,hz,Int.mul_assoc,← Int.pow_add]
 congr 2;omega
theorem Qik {x:Nat} {s:Bool} {m:Nat} {i:Int} (h:single.read x = .number s m i):fOf x = fV s m i:=by unfold fOf;rw [h]
theorem QjM {s:Bool} {m:Nat} {p z:Int} (hp:-1100 ≤ p) (h:fV s m p = z * 2 ^ uE):fTr s m p = z:=by
 obtain ⟨u,hu⟩:∃ u:Nat,u = 1100:=⟨_,rfl⟩
 rw [uE_eq,← hu] at h
 obtain ⟨d,hd⟩:∃ d:Nat,d = (-p).toNat:=⟨_,rfl⟩
 obtain ⟨n,hn⟩:∃ n:Nat,n = m * 2 ^ p.toNat:=⟨_,rfl⟩
 have hdu:d ≤ u:=by omega
 have e2:fV s m p = signed s n (u - d):=by
  unfold fV
  rw [Qq,Qq,hn,Nat.mul_assoc,← Nat.pow_add]
  have:(p + 1100).toNat = p.toNat + (u - d):=by omega
  rw [this]
 have hsplit:(2:Int) ^ u = 2 ^ d * 2 ^ (u - d):=by rw [← Int.pow_add];congr 1;omega
 rw [e2,Qq,hsplit,← Int.mul_assoc] at h
 unfold fTr
 rw [← hd,← hn,Jl]
 have hpos:(0:Int) < 2 ^ (u - d):=Int.pow_pos (by decide)
 have hdpos:(0:Int) < 2 ^ d:=Int.pow_pos (by decide)
 have h2:(if s = true then -(n:Int) else (n:Int)) = z * 2 ^ d:=by
  apply Int.eq_of_mul_eq_mul_right (a:=2 ^ (u - d)) (by omega)
  rw [← h]
  cases s <;> simp [Int.natCast_mul,Int.natCast_pow,Int.neg_mul]
 have h3:n = z.natAbs * 2 ^ d:=by
  have h4:=congrArg Int.natAbs h2
  rw [Int.natAbs_mul,Int.natAbs_pow] at h4
  cases s <;> simpa using h4
 rw [h3,Nat.mul_div_cancel _ (Nat.pow_pos (by decide))]
 cases s
 ·simp only [Bool.false_eq_true,if_false] at h2 ⊢
  rcases Int.lt_or_le z 0 with hz|hz
  ·have:=Int.mul_neg_of_neg_of_pos hz hdpos;omega
  ·omega
 ·simp only [if_true] at h2 ⊢
  rcases Int.lt_or_le 0 z with hz|hz
  ·have:=Int.mul_pos hz hdpos;omega
  ·omega
theorem QmL {y:Nat} (hy:isNum y) {z:Int} (h:16 * fOf y = z * uP) (hz:-32768 ≤ z ∧ z ≤ 32768):smpE y = 0 ∧ six y = z:=by
 obtain ⟨s,m,e,hr⟩:=hy
 obtain ⟨g1,g2,g3⟩:=QE hr
 have hf:=Qik hr
 have h16:fV s m (e + 4) = z * 2 ^ uE:=by
  have:=h
  rw [hf] at this
  unfold uP at this
  rw [← this,fV_16 g1 (by omega) (by omega)];omega
 have htr:=QjM (by omega) h16
 have b1:fV true 32768 0 = -32768 * 2 ^ uE:=by have h:=Qfx (-32768);rw [show decide ((-32768:Int) < 0) = true from by decide,show ((-32768:Int)).natAbs = 32768 from by decide] at h;exact h
 have b2:fV false 32768 0 = 32768 * 2 ^ uE:=by have h:=Qfx 32768;rw [show decide ((32768:Int) < 0) = false from by decide,show ((32768:Int)).natAbs = 32768 from by decide] at h;exact h
 have hp:(0:Int) < 2 ^ uE:=Qjv
 constructor
 ·unfold smpE
  rw [hr]
  simp only
  rw [if_neg]
  simp only [not_or,Bool.not_eq_false]
  rw [h16,b1,b2]
  refine ⟨?_,?_,?_⟩
  ·have:=Int.mul_le_mul_of_nonneg_right hz.1 (Int.le_of_lt hp);omega
  ·have:=Int.mul_le_mul_of_nonneg_right hz.2 (Int.le_of_lt hp);omega
  ·unfold VE;rw [htr,h16];simp
 ·unfold six;rw [hr];exact htr
theorem YZ {x:Nat} (h:smpE x = 0):smpE (plus0 x) = 0 ∧ six (plus0 x) = six x ∧ fOf (plus0 x) = fOf x:=by
 obtain ⟨s,m,e,hr⟩:=V2 h
 obtain ⟨g1,g2,g3⟩:=QE hr
 have h24:=JJ hr
 have h0:single.read 0 = .number false 0 (-149):=by decide
 have hmin:min e (-149) = -149:=by omega
 obtain ⟨r,h1,h2,h3⟩:=Qim (d:=single.read x) (e:=single.read 0) (z:=signed s m 0) (k:=(e + 149).toNat) hr h0 g2 (Int.le_refl _)
  (by rw [hmin,show (e - -149).toNat = 0 + (e + 149).toNat from by omega,Zn];simp [Qq]) (by rw [Jl];split <;> simp <;> omega) (by omega)
 have e1:plus0 x = r:=by
  unfold plus0 Format.add
  rw [h1];rfl
 have e2:fV false 0 (-149) = 0:=by unfold fV;rw [Qq,Nat.zero_mul];rfl
 rw [e1]
 rw [e2,Int.add_zero,← Qik hr] at h3
 obtain ⟨k1,k2⟩:=QmL h2 (z:=six x) (by rw [h3,Qc0 h]) (QdB h)
 exact ⟨k1,k2,h3⟩
end Go.Nac
namespace Go.Nac
def QV (l:List Nat) (g:List Spn) (lv:Nat) (t:Nat):Bool:=decide (t < l.length) && !gapAt g t && decide (fOf (l.getD t 0) ≤ fOf lv)
def spR (l:List Nat) (g:List Spn) (lv:Nat) (n:Int):Nat → List Spn × Int
 | 0 => ([],0)
 | t + 1 => if QV l g lv t = true then spR l g lv n t else (if n ≤ (t:Int) - (spR l g lv n t).2 then (spR l g lv n t).1 ++ [⟨(spR l g lv n t).2,t⟩] else (spR l g lv n t).1,(t:Int) + 1)
theorem Qdz (l:List Nat) (g:List Spn) (lv:Nat):∀ k:Nat,k ≤ l.length → canF (-1) (spTo lv (recK l g k)) ∧ (∀ z ∈ spTo lv (recK l g k),z.to_ ≤ k) ∧ ∀ t:Nat,t < k → gapAt (spTo lv (recK l g k)) t = QV l g lv t:=by
 intro k
 induction k with
 | zero => intro _;exact ⟨trivial,(fun z hz => by cases hz),fun t ht => absurd ht (by omega)⟩
 | succ k ih =>
  intro hk
  obtain ⟨x,hx⟩:∃ x,l[k]? = some x:=⟨_,List.getElem?_eq_getElem (by omega)⟩
  obtain ⟨h1,h2,h3⟩:=ih (by omega)
  have hgd:l.getD k 0 = x:=by rw [List.getD_eq_getElem?_getD,hx];rfl
  have hgood:QV l g lv k = (!gapAt g k && !Zm x lv):=by
   unfold QV Zm
   rw [hgd,decide_eq_true (by omega),Bool.true_and]
   congr 1
   rw [← decide_not]
   exact decide_eq_decide.2 (by omega)
  have same:QV l g lv k = false → ∀ t:Nat,t < k + 1 → gapAt (spTo lv (recK l g k)) t = QV l g lv t:=by
   intro hf t ht
   rcases Nat.lt_or_ge t k with h|h
   ·exact h3 t h
   ·rw [show t = k from by omega,hf]
    exact V9 fun z hz => h2 z hz
  rw [YY hx]
  cases hg:gapAt g k with
  | true =>
   rw [if_pos rfl,List.append_nil]
   exact ⟨h1,fun z hz => by have:=h2 z hz;omega,same (by rw [hgood,hg];rfl)⟩
  | false =>
   rw [if_neg (by simp)]
   have e:spTo lv (recK l g k ++ [(k,x)]) = Q5 lv (spTo lv (recK l g k)) (k,x):=by unfold spTo;rw [List.foldl_append];rfl
   rw [e]
   cases ha:Zm x lv with
   | true =>
    rw [Qae ha]
    exact ⟨h1,fun z hz => by have:=h2 z hz;omega,same (by rw [hgood,ha];simp)⟩
   | false =>
    have hgk:QV l g lv k = true:=by rw [hgood,hg,ha];rfl
    have new:(∀ z ∈ spTo lv (recK l g k),z.to_ < k) → canF (-1) (spTo lv (recK l g k) ++ [⟨k,k + 1⟩]) ∧ (∀ z ∈ spTo lv (recK l g k) ++ [(⟨k,k + 1⟩:Spn)],z.to_ ≤ ((k + 1:Nat):Int)) ∧
      ∀ t:Nat,t < k + 1 → gapAt (spTo lv (recK l g k) ++ [⟨k,k + 1⟩]) t = QV l g lv t:=by
     intro hlt
     refine ⟨ZF.2 ⟨h1,hlt,by show (-1:Int) < k;omega,by show (k:Int) < k + 1;omega⟩,fun z hz => ?_,fun t ht => ?_⟩
     ·rcases List.mem_append.1 hz with hz|hz
      ·have:=h2 z hz;omega
      ·simp only [List.mem_singleton] at hz;subst hz;exact Int.le_refl _
     ·rw [VL,Vt]
      simp only
      rcases Nat.lt_or_ge t k with h|h
      ·rw [h3 t h,decide_eq_false (by omega),Bool.or_false]
      ·rw [show t = k from by omega,hgk,decide_eq_true (by omega),Bool.or_true]
    rcases List.eq_nil_or_concat (spTo lv (recK l g k)) with hnil|⟨q,z,hq⟩
    ·rw [hnil] at new ⊢
     rw [Qbg ha]
     exact new (fun z hz => by cases hz)
    ·rw [List.concat_eq_append] at hq
     rw [hq] at h1 h2 h3 new ⊢
     have hz:(q ++ [z])[(q ++ [z]).length - 1]? = some z:=by simp
     obtain ⟨c1,c2,c3,c4⟩:=ZF.1 h1
     by_cases he:z.to_ = k
     ·rw [Qbu ha hz he]
      have es:(q ++ [z]).set ((q ++ [z]).length - 1) ⟨z.fr,k + 1⟩ = q ++ [⟨z.fr,k + 1⟩]:=by simp
      rw [es]
      refine ⟨ZF.2 ⟨c1,c2,c3,by show z.fr < (k:Int) + 1;omega⟩,fun y hy => ?_,fun t ht => ?_⟩
      ·rcases List.mem_append.1 hy with hy|hy
       ·have:=h2 y (by simp [hy]);omega
       ·simp only [List.mem_singleton] at hy;subst hy;exact Int.le_refl _
      ·rw [VL,Vt]
       simp only
       rcases Nat.lt_or_ge t k with h|h
       ·rw [← h3 t h,VL,Vt,he]
        congr 1
        exact decide_eq_decide.2 (by omega)
       ·rw [show t = k from by omega,hgk,decide_eq_true (by omega),Bool.or_true]
     ·rw [Qbr ha hz he]
      refine new fun y hy => ?_
      have hzk:=h2 z (by simp)
      rcases List.mem_append.1 hy with hy|hy
      ·have:=c2 y hy;omega
      ·simp only [List.mem_singleton] at hy;subst hy;omega
theorem Qpa (l:List Nat) (g:List Spn) (lv:Nat) (hl:l.length ≤ 40000):Can (spTo lv (recOf l g)) ∧ ∀ t:Nat,gapAt (spTo lv (recOf l g)) t = QV l g lv t:=by
 obtain ⟨h1,h2,h3⟩:=Qdz l g lv l.length (Nat.le_refl _)
 refine ⟨⟨h1,fun x hx => by have:=h2 x hx;omega⟩,fun t => ?_⟩
 rcases Nat.lt_or_ge t l.length with h|h
 ·exact h3 t h
 ·have:QV l g lv t = false:=by unfold QV;rw [decide_eq_false (by omega)];rfl
  rw [this]
  exact V9 fun z hz => by have:=h2 z hz;omega
def p0 (p:Nat × Nat):Nat × Nat:=(p.1,plus0 p.2)
def sttEq (a b:Stt):Prop:=a.count = b.count ∧ a.sum = b.sum ∧ (smpE a.least = 0 ∧ smpE b.least = 0 ∧ fOf a.least = fOf b.least) ∧ smpE a.most = 0 ∧ smpE b.most = 0 ∧ fOf a.most = fOf b.most
end Go.Nac
namespace Go.Nac
def mvG (n:Int) (l:List Spn):List Spn:=l.map fun x => ⟨x.fr + n,x.to_ + n⟩
theorem VZ (n:Int) (l:List Spn):(mvG n l).length = l.length:=by simp [mvG]
theorem QpW {n:Int} {l:List Spn} {m:Nat} (hn:0 ≤ n) (hm:n + m ≤ 40000) (h:∀ x ∈ l,0 ≤ x.fr ∧ x.fr < x.to_ ∧ x.to_ ≤ m):spOk (mvG n l):=by
 intro x hx
 obtain ⟨y,hy,rfl⟩:=List.mem_map.1 hx
 have:=h y hy
 simp only;omega
def sumW (a:Ser):Int:=IntKind.i64.wrap (a.start + a.samples.length)
def apdE (a b:Ser):Int:=fst0 [Qk a,Qk b,if a.name = b.name then 0 else 30,if b.start = sumW a then 0 else 11,if (40000:Int) < (a.samples.length:Int) + b.samples.length then 5 else 0]
def apdG (a b:Ser):List Spn:=VH a.gaps (mvG a.samples.length b.gaps)
def apdS (a b:Ser):Ser:=⟨a.name,a.start,a.samples ++ b.samples,apdG a b⟩
def ser0:Ser:=⟨⟨#[]⟩,0,[],[]⟩
def apdR (a b:Ser):Ser × Int:=if ¬ apdE a b = 0 then (ser0,apdE a b) else if 1024 < (apdG a b).length then (ser0,5) else (apdS a b,0)
theorem Qiu:Qj ser0 = .agg [.s (.string ⟨#[]⟩),.I 0,.fs [],.fs []]:=rfl
def QaA (a b:Ser):Int:=if ¬ a.name = b.name then 30 else if ¬ b.start = sumW a then 11 else if (40000:Int) < (a.samples.length:Int) + b.samples.length then 5 else if 1024 < (apdG a b).length then 5 else 0
theorem QjI {a b c d e:Int} (h:fst0 [a,b,c,d,e] = 0):a = 0 ∧ b = 0 ∧ c = 0 ∧ d = 0 ∧ e = 0:=by
 have:=JQ h
 exact ⟨this a (by simp),this b (by simp),this c (by simp),this d (by simp),this e (by simp)⟩
theorem Qlk {a b:Ser} (ha:Qk a = 0) (hb:Qk b = 0):(apdR a b).2 = QaA a b ∧ (apdR a b).1 = if QaA a b = 0 then apdS a b else ser0:=by
 unfold apdR apdE QaA
 rw [ha,hb]
 simp only [fst0,if_true]
 by_cases h1:a.name = b.name
 ·by_cases h2:b.start = sumW a
  ·by_cases h3:(40000:Int) < (a.samples.length:Int) + b.samples.length
   ·simp [h1,h2,h3]
   ·by_cases h4:1024 < (apdG a b).length <;> simp [h1,h2,h3,h4]
  ·simp [h1,h2]
 ·simp [h1]
end Go.Nac
namespace Go.Nac
theorem Qpx {l:List Spn} (h:Can l):longK 1 l = l:=by
 unfold longK
 rw [List.filter_eq_self]
 intro x hx
 have:=QgH h.1 x hx
 exact decide_eq_true (by omega)
theorem QnX:Can ([]:List Spn):=⟨trivial,fun x h => by cases h⟩
def spL (s:Ser) (lv:Nat):List Spn:=spTo lv (recOf s.samples s.gaps)
theorem Zo (s:Ser) (lv:Nat) (hl:s.samples.length ≤ 40000):Can (spL s lv) ∧ (∀ t:Nat,gapAt (spL s lv) t = QV s.samples s.gaps lv t) ∧ (spL s lv).length ≤ s.samples.length ∧ ∀ x ∈ spL s lv,x.to_ ≤ s.samples.length:=by
 obtain ⟨h1,h2⟩:=Qpa s.samples s.gaps lv hl
 obtain ⟨_,h3,_⟩:=Qdz s.samples s.gaps lv s.samples.length (Nat.le_refl _)
 exact ⟨h1,h2,Nat.le_trans (JS lv _) (QcK _ _ _),h3⟩
def sttS (s:Ser):Stt:=sttTo (recOf s.samples s.gaps)
end Go.Nac
namespace Go.Nac
def cutX (x:Spn) (f t:Int):List Spn:=if max x.fr f < min x.to_ t then [⟨max x.fr f - f,min x.to_ t - f⟩] else []
def cutG (g:List Spn) (f t:Int):List Spn:=g.flatMap fun x => cutX x f t
def cutS (s:Ser) (f t:Nat):Ser:=⟨s.name,s.start + f,(s.samples.drop f).take (t - f),cutG s.gaps f t⟩
theorem Qan (x:Spn) (g:List Spn) (f t:Int):cutG (x :: g) f t = cutX x f t ++ cutG g f t:=List.flatMap_cons
theorem QiB {g:List Spn} {k:Nat} {x:Spn} (h:g[k]? = some x) (f t:Int):cutG (g.take (k + 1)) f t = cutG (g.take k) f t ++ cutX x f t:=by
 obtain ⟨h1,h2⟩:=List.getElem?_eq_some_iff.1 h
 unfold cutG
 rw [List.take_succ_eq_append_getElem h1,h2,List.flatMap_append];simp
theorem QeS (g:List Spn) (f t:Int):(cutG g f t).length ≤ g.length:=by
 induction g with
 | nil => exact Nat.le_refl _
 | cons x g ih =>
  rw [Qan,List.length_append]
  have:(cutX x f t).length ≤ 1:=by unfold cutX;split <;> simp
  simp only [List.length_cons];omega
theorem JF (g:List Spn) {f t:Int} (i:Int) (h0:0 ≤ i) (h1:i < t - f):gapAt (cutG g f t) i = gapAt g (f + i):=by
 induction g with
 | nil => rfl
 | cons x g ih =>
  rw [Qan,VL,QD,ih]
  congr 1
  unfold cutX
  split
  ·rw [Vt]
   exact decide_eq_decide.2 (by simp only;omega)
  ·rw [ZJ]
   exact (decide_eq_false (by omega)).symm
theorem QlF {g:List Spn} {f t:Int}:∀ {last L:Int},canF last g → L ≤ max (last - f) (-1) → canF L (cutG g f t):=by
 induction g with
 | nil => intro _ _ _ _;trivial
 | cons x g ih =>
  intro last L h hL
  obtain ⟨h1,h2,h3⟩:=h
  rw [Qan]
  unfold cutX
  split
  ·rename_i hlt
   refine ⟨by simp only;omega,by simp only;omega,ih h3 ?_⟩
   simp only;omega
  ·exact ih h3 (by omega)
theorem YI {g:List Spn} {f t:Int} {x:Spn} (h:x ∈ cutG g f t):0 ≤ x.fr ∧ x.fr < x.to_ ∧ x.to_ ≤ t - f:=by
 unfold cutG at h
 obtain ⟨y,hy,hx⟩:=List.mem_flatMap.1 h
 unfold cutX at hx
 split at hx
 ·simp only [List.mem_singleton] at hx;subst hx;simp only;omega
 ·cases hx
theorem Qfk {g:List Spn} {f t:Int} (h:Can g) (ht:t - f ≤ 40000):Can (cutG g f t):=by
 refine ⟨QlF h.1 (by omega),fun x hx => ?_⟩
 have:=YI hx;omega
theorem Qdi {l:List Nat}:fst0 (l.map smpE) = 0 ↔ ∀ x ∈ l,smpE x = 0:=by
 constructor
 ·intro h x hx
  exact JQ h _ (List.mem_map.2 ⟨x,hx,rfl⟩)
 ·intro h
  induction l with
  | nil => rfl
  | cons a l ih =>
   simp only [List.map_cons,fst0]
   rw [if_pos (h a (by simp))]
   exact ih fun x hx => h x (by simp [hx])
theorem QlI {l:List Nat} {g:List Spn} (h:Ve l g = 0):∀ (i x:Nat),l[i]? = some x → (nz x && gapAt g i) = false:=by
 intro i x hx
 cases h1:nz x with
 | false => rfl
 | true =>
  cases h2:gapAt g (i:Nat) with
  | false => rfl
  | true => rw [ZM hx h1 h2] at h;cases h
theorem Qh4 {l:List Nat} {g:List Spn} (h:∀ x ∈ g,x.to_ ≤ l.length):QU l g = 0:=by
 unfold QU
 cases hz:g.getLast? with
 | none => rfl
 | some z =>
  simp only
  rw [if_neg]
  have:=h z (List.mem_of_getLast? hz)
  omega
theorem ZT (s:Ser):Qk s = 0 ↔ Qn s.name = true ∧ (0 ≤ s.start ∧ s.start ≤ 999999999) ∧ s.samples.length ≤ 40000 ∧ (∀ x ∈ s.samples,smpE x = 0) ∧ Qm s.gaps = 0 ∧ (∀ x ∈ s.gaps,0 ≤ x.fr ∧ x.fr < x.to_ ∧ x.to_ ≤ s.samples.length) ∧
  ∀ (i x:Nat),s.samples[i]? = some x → (nz x && gapAt s.gaps i) = false:=by
 constructor
 ·intro h
  rw [QaL] at h
  have hA:serA s = 0:=by
   by_cases hA:serA s = 0
   ·exact hA
   ·rw [if_neg hA] at h;exact h
  rw [if_pos hA] at h
  obtain ⟨a1,a2,a3⟩:=QdC hA
  unfold serB at h
  split at h
  ·rename_i h1;exact absurd h h1
  ·rename_i h1
   have h1:=Decidable.of_not_not h1
   split at h
   ·rename_i h2;exact absurd h h2
   ·rename_i h2
    have h2:=Decidable.of_not_not h2
    split at h
    ·cases h
    ·rename_i h3
     exact ⟨a1,Z0.1 a2,a3,Qdi.1 h1,h2,QcX h2 (Decidable.of_not_not h3),QlI h⟩
 ·rintro ⟨h1,h2,h3,h4,h5,h6,h7⟩
  unfold Qk
  rw [if_neg (by simp [h1]),if_neg (by rw [Z0.2 h2];decide),if_neg (by omega),Qdi.2 h4,if_neg (by decide),h5,if_neg (by decide),Qh4 fun x hx => (h6 x hx).2.2,if_neg (by decide)]
  exact Qbo h7
theorem QgW (l:List Nat) {f t i:Nat} (h:i < t - f):((l.drop f).take (t - f))[i]? = l[f + i]?:=by
 rw [List.getElem?_take_of_lt h,List.getElem?_drop]
theorem Zq (l:List Nat) {f t:Nat} (h1:f ≤ t) (h2:t ≤ l.length):((l.drop f).take (t - f)).length = t - f:=by
 rw [List.length_take,List.length_drop];omega
theorem QcL {s:Ser} {f t:Nat} (h:Qk s = 0) (hs:s.start ≤ 1000000) (h1:f ≤ t) (h2:t ≤ s.samples.length):Qk (cutS s f t) = 0:=by
 obtain ⟨a1,a2,a3,a4,a5,a6,a7⟩:=(ZT s).1 h
 obtain ⟨g1,g2⟩:=QJ.1 a5
 have hl:=Zq s.samples h1 h2
 refine (ZT _).2 ⟨a1,?_,?_,?_,?_,?_,?_⟩
 ·show 0 ≤ s.start + (f:Int) ∧ s.start + (f:Int) ≤ 999999999;omega
 ·show (List.take _ _).length ≤ _;omega
 ·intro x hx
  exact a4 x (List.mem_of_mem_drop (List.mem_of_mem_take hx))
 ·exact (Qfk g2 (by omega)).chk (Nat.le_trans (QeS _ _ _) g1)
 ·intro x hx
  have:=YI hx
  show _ ∧ _ ∧ x.to_ ≤ ((List.take _ _).length:Nat)
  omega
 ·intro i x hx
  have hi:i < t - f:=by
   have:=(List.getElem?_eq_some_iff.1 hx).1
   rw [show (cutS s f t).samples.length = _ from hl] at this
   exact this
  have hx2:s.samples[f + i]? = some x:=by rw [← QgW s.samples hi];exact hx
  show (nz x && gapAt (cutG s.gaps f t) i) = false
  rw [JF _ _ (by omega) (by omega)]
  exact a7 (f + i) x hx2
end Go.Nac
namespace Go.Nac
theorem QgD (n:Int) (l:List Spn) (i:Int):gapAt (mvG n l) i = gapAt l (i - n):=by
 induction l with
 | nil => rfl
 | cons x l ih =>
  show gapAt (⟨x.fr + n,x.to_ + n⟩ :: mvG n l) i = _
  rw [QD,QD,ih]
  congr 1
  exact decide_eq_decide.2 (by simp only;omega)
theorem QkO {l:List Spn} {i:Int} (h:∀ x ∈ l,i < x.fr):gapAt l i = false:=by
 unfold gapAt
 rw [List.any_eq_false]
 intro x hx
 have:=h x hx
 rw [decide_eq_true_eq];omega
theorem Qmj {s:Ser} {k:Nat} (h:Qk s = 0) (hk:k ≤ s.samples.length):apdG (cutS s 0 k) (cutS s k s.samples.length) = s.gaps:=by
 obtain ⟨a1,a2,a3,a4,a5,a6,a7⟩:=(ZT s).1 h
 obtain ⟨g1,g2⟩:=QJ.1 a5
 have hl:=Zq s.samples (Nat.zero_le k) hk
 unfold apdG
 have e1:(cutS s 0 k).gaps = cutG s.gaps ((0:Nat):Int) k:=rfl
 have e2:(cutS s k s.samples.length).gaps = cutG s.gaps k s.samples.length:=rfl
 have e3:(((cutS s 0 k).samples.length:Nat):Int) = k:=by
  rw [show (cutS s 0 k).samples = (s.samples.drop 0).take (k - 0) from rfl,hl];omega
 rw [e1,e2,e3]
 obtain ⟨j1,j2⟩:=Jh (a:=cutG s.gaps ((0:Nat):Int) k) (b:=mvG k (cutG s.gaps k s.samples.length)) (Qfk g2 (by omega)).ok
  (QpW (m:=s.samples.length - k) (by omega) (by omega) (fun x hx => by have:=YI hx;omega))
 refine j1.ext g2 fun t => ?_
 rw [j2,QgD]
 rcases Nat.lt_or_ge t k with ht|ht
 ·rw [JF _ _ (by omega) (by omega),QkO (l:=cutG s.gaps k s.samples.length) (fun x hx => by have:=YI hx;omega),Bool.or_false]
  congr 1;omega
 ·rw [V9 (l:=cutG s.gaps ((0:Nat):Int) k) (fun x hx => by have:=YI hx;omega),Bool.false_or]
  rcases Nat.lt_or_ge t s.samples.length with h2|h2
  ·rw [JF _ _ (by omega) (by omega)]
   congr 1;omega
  ·rw [V9 (l:=cutG s.gaps k s.samples.length) (fun x hx => by have:=YI hx;omega),V9 (l:=s.gaps) (fun x hx => by have:=a6 x hx;omega)]
theorem Qnv {s:Ser} {k:Nat} (h:Qk s = 0) (hs:s.start ≤ 1000000) (hk:k ≤ s.samples.length):apdR (cutS s 0 k) (cutS s k s.samples.length) = (s,0):=by
 have hg:=Qmj h hk
 obtain ⟨a1,a2,a3,a4,a5,a6,a7⟩:=(ZT s).1 h
 obtain ⟨g1,g2⟩:=QJ.1 a5
 have va:=QcL h hs (Nat.zero_le k) hk
 have vb:=QcL h hs hk (Nat.le_refl _)
 have hl:=Zq s.samples (Nat.zero_le k) hk
 have hl2:=Zq s.samples hk (Nat.le_refl _)
 have e3:(cutS s 0 k).samples.length = k:=by
  rw [show (cutS s 0 k).samples = (s.samples.drop 0).take (k - 0) from rfl,hl];omega
 have e4:(cutS s k s.samples.length).samples.length = s.samples.length - k:=hl2
 have e5:(cutS s 0 k).start = s.start + ((0:Nat):Int):=rfl
 have e6:(cutS s k s.samples.length).start = s.start + (k:Int):=rfl
 have hw:sumW (cutS s 0 k) = s.start + k:=by
  unfold sumW
  rw [e3,e5]
  rw [show s.start + ((0:Nat):Int) + (k:Int) = s.start + k from by omega]
  exact YH (by constructor <;> omega)
 have hc:QaA (cutS s 0 k) (cutS s k s.samples.length) = 0:=by
  unfold QaA
  rw [if_neg (fun h => h rfl),if_neg (by rw [hw,e6];exact fun h => h rfl),if_neg (by rw [e3,e4];omega),hg,if_neg (by omega)]
 obtain ⟨r1,r2⟩:=Qlk va vb
 rw [hc] at r1
 rw [if_pos hc] at r2
 refine Prod.ext ?_ r1
 rw [r2]
 unfold apdS
 rw [hg,e5]
 have e7:(cutS s 0 k).samples ++ (cutS s k s.samples.length).samples = s.samples:=by
  show (s.samples.drop 0).take (k - 0) ++ (s.samples.drop k).take (s.samples.length - k) = s.samples
  rw [List.drop_zero,Nat.sub_zero,List.take_of_length_le (l:=s.samples.drop k) (by rw [List.length_drop];omega),List.take_append_drop]
 rw [e7]
 obtain ⟨nm,st,l,g⟩:=s
 show Ser.mk nm (st + ((0:Nat):Int)) l g = _
 rw [show st + ((0:Nat):Int) = st from by omega]
def sumL (l:List Nat):Int:=l.foldl (fun a x => a + six x) 0
end Go.Nac
namespace Go.Nac
def stepR (a b:Ser) (k:Nat) (o:Option Rse):Option Rse:=if gapAt a.gaps k = true then o else Qio b o (k,a.samples.getD k 0)
def runR (a b:Ser) (f:Nat):Nat → Option Rse → Option Rse
 | 0,o => o
 | j + 1,o => stepR a b (f + j) (runR a b f j o)
end Go.Nac
namespace Go.Nac
def spl (c:UInt8):List UInt8 → List (List UInt8)
 | [] => [[]]
 | x :: r => if x = c then [] :: spl c r else match spl c r with
  | h :: t => (x :: h) :: t
  | [] => [[x]]
end Go.Nac
namespace Go.Nac
open Lib (decFrom digitVal decDigits itoa atoiAll parseUint10 parseMag)
def numP (w:List UInt8):Option Nat:=if w = [] ∨ 9 < w.length ∨ (1 < w.length ∧ w.head? = some 48) then none else decFrom 0 w
def numR:List UInt8 → Int × Bool
 | [] => (0,false)
 | c :: r => if c = 45 then (-(numR r).1,(numR r).2 && decide (0 < (numR r).1)) else match numP (c :: r) with
  | some n => ((n:Int),true)
  | none => (0,false)
def NumIs (w:List UInt8) (v:Int):Prop:=w = itoa v ∧ v.natAbs < 1000000000
def atoiI (w:List UInt8):Int:=match atoiAll w with|.ok v => v|.range => Lib.atoiSat w|_ => 0
def okW (w:List UInt8):Bool:=match atoiAll w with|.ok v => decide (itoa v = w) && decide ((Lib.trimPrefix w [45]).length ≤ 9)|_ => false
end Go.Nac
namespace Go.Nac
def ste0:Ste:=⟨⟨#[]⟩,0,[]⟩
def siteW:List UInt8:=[115,105,116,101]
def turbW:List UInt8:=[116,117,114,98,105,110,101]
def hdrL:List (List UInt8) → Option (ByteArray × Int)
 | [a,b,c] => if a = siteW ∧ b ≠ [] ∧ (numR c).2 = true then some (bs b,(numR c).1) else none
 | _ => none
def tbL2:List (List UInt8) → Option Tb
 | [a,b,c,d] => if a = turbW ∧ b ≠ [] ∧ (numR c).2 = true ∧ (numR d).2 = true then some ⟨bs b,(numR c).1,(numR d).1⟩ else none
 | _ => none
def lineS (k:Nat) (s:Ste) (l:List UInt8):Option Ste :=
 if k = 0 then (hdrL (spl 32 l)).map fun p => { s with name:=p.1,least:=p.2 } else (tbL2 (spl 32 l)).map fun t => { s with tbs:=s.tbs ++ [t] }
def parL:Nat → Ste → List (List UInt8) → Option Ste × Nat
 | k,s,[] => (some s,k)
 | k,s,l :: r => if r = [] then (if l = [] then some s else none,k) else match lineS k s l with
  | some s' => parL (k + 1) s' r
  | none => (none,k)
def endE:Option Ste × Nat → Int
 | (none,_) => 26
 | (some s,_) => QZ s
def endN:Option Ste × Nat → Nat
 | (none,k) => k
 | (some s,k) => if QZ s = 0 then 0 else k
def endS:Option Ste × Nat → Ste
 | (none,_) => ste0
 | (some s,_) => if QZ s = 0 then s else ste0
def parE (t:List UInt8):Int:=if 1000000 < t.length then 27 else if t = [] then 26 else endE (parL 0 ste0 (spl 10 t))
def parN (t:List UInt8):Nat:=if 1000000 < t.length then 0 else if t = [] then 0 else endN (parL 0 ste0 (spl 10 t))
def parS (t:List UInt8):Ste:=if 1000000 < t.length then ste0 else if t = [] then ste0 else endS (parL 0 ste0 (spl 10 t))
def wordS:List (List UInt8) × Bool → List UInt8 × (List (List UInt8) × Bool)
 | ([],_) => ([],([],true))
 | (x :: r,w) => if x = [] then ([],(x :: r,true)) else (x,(r,w))
def intS (t:List (List UInt8) × Bool):Int × (List (List UInt8) × Bool) :=
 (atoiI (wordS t).1,((wordS t).2.1,if okW (wordS t).1 = true then (wordS t).2.2 else true))
def takeS (k:Nat) (s:Ste) (l:List UInt8):Bool × Ste :=
 let a:=wordS (spl 32 l,false)
 let b:=wordS a.2
 let c:=intS b.2
 if k = 0 then (decide (a.1 = siteW) && !c.2.2 && decide (c.2.1 = []),{ s with name:=bs b.1,least:=c.1 })
 else
  let d:=intS c.2
  (decide (a.1 = turbW) && !d.2.2 && decide (d.2.1 = []),{ s with tbs:=s.tbs ++ [⟨bs b.1,c.1,d.1⟩] })
end Go.Nac
namespace Go.Nac
def uns (c:UInt8):List (List UInt8) → List UInt8
 | [] => []
 | [l] => l
 | l :: r => l ++ c :: uns c r
def hdrT (s:Ste):List UInt8:=uns 32 [siteW,s.name.data.toList,Lib.itoa s.least]
def tbT (t:Tb):List UInt8:=uns 32 [turbW,t.name.data.toList,Lib.itoa t.x,Lib.itoa t.y]
def QpA (s:Ste):List (List UInt8):=hdrT s :: s.tbs.map tbT
def steL (s:Ste):List UInt8:=uns 10 (QpA s ++ [[]])
def wordy (w:List UInt8):Prop:=(32:UInt8) ∉ w ∧ (10:UInt8) ∉ w
end Go.Nac
namespace Go.Nac
open Ieee
theorem Qe0 {u:Nat} (hu:u < 4294967296) {s:Bool} {m:Nat} {e:Int} (h:single.read u = .number s m e) (hm:m ≠ 0):single.nearest s m e = u:=by
 have hmod:u % 4294967296 = u:=Nat.mod_eq_of_lt hu
 have hw:single.word (u / 2147483648 % 2 == 1) (u % 2147483648) = u:=by
  unfold Format.word
  rw [YP]
  have:u / 2147483648 = 0 ∨ u / 2147483648 = 1:=by omega
  rcases this with h0|h0 <;> rw [h0] <;> simp <;> omega
 have hl24:=JJ h
 unfold Format.read at h
 rw [YP,VV,Z3,VM] at h
 simp only at h
 split at h
 ·rename_i hr
  simp only [Datum.number.injEq] at h
  obtain ⟨rfl,rfl,rfl⟩:=h
  unfold Format.nearest
  rw [if_neg hm,J0,VM,VV,Z3]
  have hlog:(u % 2147483648).log2 ≤ 22:=by
   have:=(Nat.log2_lt hm (k:=23)).2 (by omega);omega
  have hlast:max (-149 + ((u % 2147483648).log2:Int) - ((23:Nat):Int)) (-149) = -149:=by omega
  simp only [hlast]
  have e1:((-149:Int) - -149).toNat = 0:=by omega
  rw [e1,Zi,Nat.zero_mul,Nat.zero_add,Nat.shiftLeft_zero,Nat.min_eq_left (by omega)]
  exact hw
 ·split at h
  ·rename_i hr1 hr2
   simp only [Datum.number.injEq] at h
   obtain ⟨rfl,rfl,rfl⟩:=h
   unfold Format.nearest
   rw [if_neg hm,J0,VM,VV,Z3]
   have hlog:(8388608 + u % 2147483648 % 8388608).log2 = 23:=by
    rw [Nat.log2_eq_iff hm]
    omega
   rw [hlog]
   have hlast:max ((-149 + ((u % 2147483648 / 8388608 - 1:Nat):Int)) + ((23:Nat):Int) - ((23:Nat):Int)) (-149) = -149 + ((u % 2147483648 / 8388608 - 1:Nat):Int):=by omega
   simp only [hlast]
   have e1:((-149 + ((u % 2147483648 / 8388608 - 1:Nat):Int)) - (-149 + ((u % 2147483648 / 8388608 - 1:Nat):Int))).toNat = 0:=by omega
   have e2:((-149 + ((u % 2147483648 / 8388608 - 1:Nat):Int)) - -149).toNat = u % 2147483648 / 8388608 - 1:=by omega
   rw [e1,e2,Zi,Nat.shiftLeft_zero]
   have e3:(u % 2147483648 / 8388608 - 1) * 8388608 + (8388608 + u % 2147483648 % 8388608) = u % 2147483648:=by omega
   rw [e3,Nat.min_eq_left (by omega)]
   exact hw
  ·split at h <;> cases h
theorem YF {x:Nat} {s:Bool} {m:Nat} {e:Int} (h:single.read x = .number s m e):plus0 x = if m = 0 then 0 else single.nearest s m e:=by
 obtain ⟨_,hp,_⟩:=QE h
 unfold plus0 Format.add
 have h0:single.read 0 = .number false 0 (-149):=by decide
 rw [h,h0]
 have hmin:min e (-149) = -149:=by omega
 obtain ⟨k,hk⟩:∃ k,k = (e - -149).toNat:=⟨_,rfl⟩
 have e0:signed false 0 ((-149:Int) - -149).toNat = 0:=by rw [Qq];simp
 have e1:(Datum.number s m e).sum (.number false 0 (-149)) = some (.number (if signed s m k = 0 then s && false else decide (signed s m k < 0)) (signed s m k).natAbs (-149)):=by
  show some (Datum.number (if signed s m (e - min e (-149)).toNat + signed false 0 ((-149:Int) - min e (-149)).toNat = 0 then s && false else decide (signed s m (e - min e (-149)).toNat + signed false 0 ((-149:Int) - min e (-149)).toNat < 0)) (signed s m (e - min e (-149)).toNat + signed false 0 ((-149:Int) - min e (-149)).toNat).natAbs (min e (-149))) = _
  rw [hmin,e0,Int.add_zero,← hk]
 rw [e1]
 show single.nearest _ _ _ = _
 rw [Qq]
 by_cases hm:m = 0
 ·subst hm
  rw [if_pos rfl]
  cases s <;> simp [Format.nearest,Format.word]
 ·rw [if_neg hm]
  have hpos:0 < m * 2 ^ k:=Nat.mul_pos (by omega) (Nat.pow_pos (by decide))
  have hn:=YU s m k (-149)
  have he:(-149:Int) + k = e:=by omega
  rw [he] at hn
  rw [← hn]
  cases s
  ·simp only [Bool.false_eq_true,if_false]
   generalize m * 2 ^ k = z at hpos ⊢
   rw [if_neg (by omega),decide_eq_false (by omega)]
   simp
  ·simp only [if_true]
   generalize m * 2 ^ k = z at hpos ⊢
   rw [if_neg (by omega),decide_eq_true (by omega)]
   simp
theorem Qhb {u:Nat} (hu:u < 4294967296) (h:smpE u = 0) (hz:u ≠ 2147483648):plus0 u = u:=by
 obtain ⟨s,m,e,hr⟩:=V2 h
 rw [YF hr]
 by_cases hm:m = 0
 ·rw [if_pos hm]
  unfold Format.read at hr
  rw [YP,VV,Z3,VM] at hr
  simp only at hr
  split at hr
  ·simp only [Datum.number.injEq] at hr
   omega
  ·split at hr
   ·simp only [Datum.number.injEq] at hr
    omega
   ·split at hr <;> cases hr
 ·rw [if_neg hm]
  exact Qe0 hu hr hm
theorem QiL {x:Nat} (h:smpE x = 0):plus0 x ≠ 2147483648:=by
 obtain ⟨s,m,e,hr⟩:=V2 h
 rw [YF hr]
 by_cases hm:m = 0
 ·rw [if_pos hm];decide
 ·rw [if_neg hm]
  intro hc
  obtain ⟨p1,p2,p3⟩:=QE hr
  obtain ⟨k,l,h1,_,_⟩:=Yw s (JJ hr) p2 p3
  rw [hc] at h1
  have h2:single.read 2147483648 = .number true 0 (-149):=by decide
  rw [h2] at h1
  simp only [Datum.number.injEq] at h1
  have hpos:0 < m * 2 ^ k:=Nat.mul_pos (by omega) (Nat.pow_pos (by decide))
  omega
theorem QbO (x:Nat):plus0 x < 4294967296:=by
 unfold plus0
 cases h:single.add x 0 with
 | none => decide
 | some r => exact Format.add_lt single h
end Go.Nac
namespace Go.Nac
open Ieee
def be8 (n:Nat):List UInt8:=[UInt8.ofNat (n / 16777216),UInt8.ofNat (n / 65536),UInt8.ofNat (n / 256),UInt8.ofNat n]
def fours (l:List Nat):List UInt8:=l.flatMap be8
theorem ZN (n:Nat) (l:List Nat):fours (n :: l) = be8 n ++ fours l:=rfl
theorem Yq (a b:List Nat):fours (a ++ b) = fours a ++ fours b:=by unfold fours;rw [List.flatMap_append]
theorem ZK (l:List Nat):(fours l).length = 4 * l.length:=by
 induction l with
 | nil => rfl
 | cons n l ih => rw [ZN,List.length_append,ih,List.length_cons];have:(be8 n).length = 4:=rfl;omega
theorem QqA (n:Nat):(be8 n).map bt = be4 n:=by
 have w:∀ z:Int,IntKind.u8.wrap z = z % 256:=fun _ => rfl
 have o:∀ a:Nat,((UInt8.ofNat a).toNat:Int) = ((a % 256:Nat):Int):=fun a => by rw [UInt8.toNat_ofNat']
 have f:∀ d:Nat,(n:Int).fdiv d = ((n / d:Nat):Int):=fun d => by rw [Int.fdiv_eq_ediv_of_nonneg _ (by omega)];rfl
 have f1:=f 16777216
 have f2:=f 65536
 have f3:=f 256
 unfold be8
 rw [Qff]
 simp only [List.map_cons,List.map_nil,bt_eq,o,w]
 have g1:(n:Int).fdiv 16777216 = ((n / 16777216:Nat):Int):=f1
 have g2:(n:Int).fdiv 65536 = ((n / 65536:Nat):Int):=f2
 have g3:(n:Int).fdiv 256 = ((n / 256:Nat):Int):=f3
 rw [g1,g2,g3]
 rfl
theorem Ql7 (l:List Nat):(fours l).map bt = putB (l.map fun n:Nat => (n:Int)):=by
 induction l with
 | nil => rfl
 | cons n l ih => rw [ZN,List.map_append,ih,QqA];rfl
theorem QlT {n:Nat} (h:n < 4294967296) (r:List UInt8):num4 (be8 n ++ r) = n:=by
 show (((UInt8.ofNat (n / 16777216)).toNat * 256 + (UInt8.ofNat (n / 65536)).toNat) * 256 + (UInt8.ofNat (n / 256)).toNat) * 256 + (UInt8.ofNat n).toNat = n
 simp only [UInt8.toNat_ofNat']
 omega
theorem QkZ {a b c d:UInt8}:be8 (((a.toNat * 256 + b.toNat) * 256 + c.toNat) * 256 + d.toNat) = [a,b,c,d]:=by
 have ha:=u8_lt a
 have hb:=u8_lt b
 have hc:=u8_lt c
 have hd:=u8_lt d
 have key:∀ (n:Nat) (x:UInt8),n % 256 = x.toNat → UInt8.ofNat n = x:=fun n x h => UInt8.toNat_inj.1 (by rw [UInt8.toNat_ofNat'];exact h)
 unfold be8
 rw [key _ a (by omega),key _ b (by omega),key _ c (by omega),key _ d (by omega)]
theorem QeJ {l r:List UInt8} (h:4 ≤ l.length):num4 (l ++ r) = num4 l:=by
 obtain ⟨a,b,c,d,t,rfl⟩:=Qc6 h
 rfl
theorem Ja {l:List UInt8} {n:Nat} (h:4 ≤ l.length) (hn:4 ≤ n):num4 (l.take n) = num4 l:=by
 have:=QeJ (l:=l.take n) (r:=l.drop n) (by rw [List.length_take];omega)
 rw [List.take_append_drop] at this
 exact this.symm
theorem Qha (l:List Nat) (i:Nat):(fours l).drop (4 * i) = fours (l.drop i):=by
 induction i generalizing l with
 | zero => rfl
 | succ i ih =>
  cases l with
  | nil => simp [fours]
  | cons n l =>
   rw [List.drop_succ_cons,← ih,ZN]
   have e:4 * (i + 1) = (be8 n).length + 4 * i:=by have:(be8 n).length = 4:=rfl;omega
   rw [e,List.drop_append]
   simp
theorem YA {l:List Nat} {i n:Nat} (h:l[i]? = some n) (hn:n < 4294967296):num4 ((fours l).drop (4 * i)) = n:=by
 obtain ⟨h1,h2⟩:=List.getElem?_eq_some_iff.1 h
 rw [Qha,List.drop_eq_getElem_cons h1,h2,ZN,QlT hn]
theorem QhW {l:List Nat} {k:Nat} (hk:k ≤ l.length) (h:∀ n ∈ l,n < 4294967296):smpL (fours l) k = l.take k:=by
 induction k with
 | zero => rfl
 | succ k ih =>
  have h1:l[k]? = some l[k]:=List.getElem?_eq_getElem (by omega)
  rw [Yj,ih (by omega),YA h1 (h _ (List.getElem_mem _)),List.take_succ_eq_append_getElem (by omega)]
theorem JW:∀ (k:Nat) (t:List UInt8),t.length = 4 * k → fours (smpL t k) = t:=by
 intro k
 have key:∀ (j:Nat) (t:List UInt8),4 * j ≤ t.length → fours (smpL t j) = t.take (4 * j):=by
  intro j
  induction j with
  | zero => intro t _;rfl
  | succ j ih =>
   intro t ht
   rw [Yj,Yq,ih t (by omega)]
   obtain ⟨a,b,c,d,r,hr⟩:=Qc6 (l:=t.drop (4 * j)) (by rw [List.length_drop];omega)
   have e1:num4 (t.drop (4 * j)) = ((a.toNat * 256 + b.toNat) * 256 + c.toNat) * 256 + d.toNat:=by rw [hr];rfl
   have e2:fours [num4 (t.drop (4 * j))] = [a,b,c,d]:=by
    rw [e1,ZN,QkZ];rfl
   rw [e2]
   have e3:t = t.take (4 * j) ++ (a :: b :: c :: d :: r):=by rw [← hr,List.take_append_drop]
   have e4:(t.take (4 * j)).length = 4 * j:=by rw [List.length_take];omega
   generalize t.take (4 * j) = p at e3 e4 ⊢
   rw [e3,show 4 * (j + 1) = p.length + 4 by omega,List.take_append,List.take_of_length_le (by omega)]
   simp
 intro t ht
 rw [key k t (by omega),List.take_of_length_le (by omega)]
def gpN (l:List Spn):List Nat:=l.flatMap fun g => [g.fr.toNat,g.to_.toNat]
def numsN (x:Ser):List Nat:=[x.start.toNat,x.samples.length,x.gaps.length] ++ (gpN x.gaps ++ x.samples.map plus0)
def encL (x:Ser):List UInt8:=[87,73,78,68,UInt8.ofNat x.name.size] ++ (x.name.data.toList ++ fours (numsN x))
theorem Jo (l:List Spn):(gpN l).length = 2 * l.length:=by
 induction l with
 | nil => rfl
 | cons a l ih =>
  have e:gpN (a :: l) = [a.fr.toNat,a.to_.toNat] ++ gpN l:=rfl
  rw [e,List.length_append,ih];simp;omega
theorem Qgy:∀ (l:List Spn) (i:Nat) (g:Spn),l[i]? = some g → (gpN l)[2 * i]? = some g.fr.toNat ∧ (gpN l)[2 * i + 1]? = some g.to_.toNat
 | [],i,g,h => by simp at h
 | a :: l,0,g,h => by
  simp at h
  subst h
  exact ⟨rfl,rfl⟩
 | a :: l,i + 1,g,h => by
  have e:gpN (a :: l) = a.fr.toNat :: a.to_.toNat :: gpN l:=rfl
  rw [e]
  have:=Qgy l i g (by simpa using h)
  rw [show 2 * (i + 1) = 2 * i + 1 + 1 by omega]
  simpa using this
theorem JK (x:Ser):(encL x).length = 17 + x.name.size + 8 * x.gaps.length + 4 * x.samples.length:=by
 unfold encL numsN
 simp only [List.length_append,ZK,Jo,List.length_cons,List.length_nil,List.length_map,Lib.size_eq]
 omega
structure SerOk (x:Ser):Prop where
 chk:Qk x = 0
 nm:x.name.size ≤ 24
 st:0 ≤ x.start ∧ x.start ≤ 999999999
 sl:x.samples.length ≤ 40000
 gl:x.gaps.length ≤ 1024
 sm:∀ y ∈ x.samples,smpE y = 0
 gp:∀ g ∈ x.gaps,0 ≤ g.fr ∧ g.fr < g.to_ ∧ g.to_ ≤ x.samples.length
theorem serN {x:Ser} (h:SerOk x):∀ n ∈ numsN x,n < 4294967296:=by
 obtain ⟨_,h1,h2,h3,h4,h5,h6⟩:=h
 intro n hn
 unfold numsN at hn
 rcases List.mem_append.1 hn with hn|hn
 ·simp only [List.mem_cons,List.not_mem_nil,or_false] at hn
  rcases hn with rfl|rfl|rfl <;> omega
 ·rcases List.mem_append.1 hn with hn|hn
  ·unfold gpN at hn
   obtain ⟨g,hg,hn⟩:=List.mem_flatMap.1 hn
   have:=h6 g hg
   simp only [List.mem_cons,List.not_mem_nil,or_false] at hn
   rcases hn with rfl|rfl <;> omega
  ·obtain ⟨y,_,rfl⟩:=List.mem_map.1 hn
   exact QbO y
theorem QjO {x:Ser} (h:SerOk x):encB x = (encL x).map bt:=by
 obtain ⟨_,h1,h2,h3,h4,h5,h6⟩:=h
 unfold encB hdrB encL numsN
 rw [List.map_append,List.map_append,Ql7]
 have e1:(([87,73,78,68,UInt8.ofNat x.name.size]:List UInt8).map bt) = [u8 87,u8 73,u8 78,u8 68] ++ [u8 (IntKind.u8.wrap x.name.size)]:=by
  have o:((UInt8.ofNat x.name.size).toNat:Int) = IntKind.u8.wrap x.name.size:=by
   have w:∀ z:Int,IntKind.u8.wrap z = z % 256:=fun _ => rfl
   rw [w,UInt8.toNat_ofNat'];rfl
  simp only [List.map_cons,List.map_nil,bt_eq,o]
  rfl
 have e2:(x.name.data.toList.map bt) = Qz x.name:=rfl
 have e3:(gpN x.gaps).map (fun n:Nat => (n:Int)) = gapNs x.gaps:=by
  have:∀ l:List Spn,(∀ g ∈ l,0 ≤ g.fr ∧ g.fr < g.to_) → (gpN l).map (fun n:Nat => (n:Int)) = gapNs l:=by
   intro l
   induction l with
   | nil => intro _;rfl
   | cons a l ih =>
    intro hl
    have ha:=hl a (by simp)
    have e:gpN (a :: l) = [a.fr.toNat,a.to_.toNat] ++ gpN l:=rfl
    have e':gapNs (a :: l) = [a.fr,a.to_] ++ gapNs l:=rfl
    rw [e,e',List.map_append,ih fun g hg => hl g (by simp [hg])]
    simp only [List.map_cons,List.map_nil]
    rw [Int.toNat_of_nonneg (by omega),Int.toNat_of_nonneg (by omega)]
  exact this _ fun g hg => ⟨(h6 g hg).1,(h6 g hg).2.1⟩
 have e4:(x.samples.map plus0).map (fun n:Nat => (n:Int)) = bitNs x.samples:=by
  unfold bitNs
  rw [List.map_map]
  refine List.map_congr_left fun y _ => ?_
  have:=QbO y
  show ((plus0 y:Nat):Int) = IntKind.i64.wrap ((plus0 y:Nat):Int)
  exact (YH ⟨by omega,by omega⟩).symm
 rw [e1,e2,List.map_append,List.map_append,e3,e4,List.map_cons,List.map_cons,List.map_cons,List.map_nil,Int.toNat_of_nonneg h2.1]
 simp only [List.append_assoc]
theorem Qlf {x:Nat} (h:smpE x = 0):nz (plus0 x) = nz x:=by
 obtain ⟨s,m,e,hr⟩:=V2 h
 rw [YF hr]
 have hx:nz x = (m != 0):=by unfold nz;rw [hr]
 rw [hx]
 by_cases hm:m = 0
 ·rw [if_pos hm,hm];decide
 ·rw [if_neg hm]
  obtain ⟨p1,p2,p3⟩:=QE hr
  obtain ⟨k,l,h1,_,_⟩:=Yw s (JJ hr) p2 p3
  unfold nz
  rw [h1]
  have hpos:0 < m * 2 ^ k:=Nat.mul_pos (by omega) (Nat.pow_pos (by decide))
  have g1:(m * 2 ^ k != 0) = true:=by simp;omega
  have g2:(m != 0) = true:=by simp [hm]
  simp only [g1,g2]
def serP (x:Ser):Ser:=⟨x.name,x.start,x.samples.map plus0,x.gaps⟩
theorem QbD {x:Ser} (h:SerOk x):Qk (serP x) = 0:=by
 have h0:=h.chk
 have e1:(x.samples.map plus0).map smpE = x.samples.map smpE:=by
  rw [List.map_map]
  exact List.map_congr_left fun y hy => by rw [h.sm y hy];exact (YZ (h.sm y hy)).1
 have e2:QU (x.samples.map plus0) x.gaps = QU x.samples x.gaps:=by unfold QU;rw [List.length_map]
 have e3:Ve (x.samples.map plus0) x.gaps = Ve x.samples x.gaps:=by
  unfold Ve
  rw [List.length_map]
  have:∀ i ∈ List.range x.samples.length,(nz ((x.samples.map plus0).getD i 0) && gapAt x.gaps i) = (nz (x.samples.getD i 0) && gapAt x.gaps i):=by
   intro i hi
   have hi2:i < x.samples.length:=List.mem_range.1 hi
   rw [List.getD_eq_getElem?_getD,List.getD_eq_getElem?_getD,List.getElem?_map,List.getElem?_eq_getElem hi2]
   simp only [Option.map_some,Option.getD_some]
   rw [Qlf (h.sm _ (List.getElem_mem _))]
  rw [show ((List.range x.samples.length).any fun i => nz ((x.samples.map plus0).getD i 0) && gapAt x.gaps i) = ((List.range x.samples.length).any fun i => nz (x.samples.getD i 0) && gapAt x.gaps i) from by
   rw [Bool.eq_iff_iff,List.any_eq_true,List.any_eq_true]
   exact ⟨fun ⟨i,hi,hx⟩ => ⟨i,hi,by rw [← this i hi];exact hx⟩,fun ⟨i,hi,hx⟩ => ⟨i,hi,by rw [this i hi];exact hx⟩⟩]
 unfold Qk at h0 ⊢
 unfold serP
 simp only [List.length_map,e1,e2,e3]
 exact h0
end Go.Nac
namespace Go.Nac
open Ieee
theorem QcM {x:Ser} (h:SerOk x) (r:List UInt8):nmN (encL x ++ r) = x.name.size ∧ (encL x ++ r).take 4 = [87,73,78,68]:=by
 refine ⟨?_,rfl⟩
 have e:nmN (encL x ++ r) = (UInt8.ofNat x.name.size).toNat:=rfl
 rw [e,UInt8.toNat_ofNat']
 have:=h.nm
 omega
theorem QaS {x:Ser} (h:SerOk x) (r:List UInt8):dBody (encL x ++ r) = fours (numsN x) ++ r ∧ ((encL x ++ r).drop 5).take x.name.size = x.name.data.toList:=by
 have e:(encL x ++ r).drop 5 = x.name.data.toList ++ (fours (numsN x) ++ r):=by
  unfold encL
  simp
 have hl:x.name.data.toList.length = x.name.size:=(Lib.size_eq _).symm
 refine ⟨?_,?_⟩
 ·unfold dBody
  rw [(QcM h r).1,← List.drop_drop,e,← hl,List.drop_left]
 ·rw [e,← hl,List.take_left]
theorem QaR {x:Ser} (h:SerOk x) (r:List UInt8) {i n:Nat} (hi:(numsN x)[i]? = some n):num4 ((fours (numsN x) ++ r).drop (4 * i)) = n:=by
 obtain ⟨h1,h2⟩:=List.getElem?_eq_some_iff.1 hi
 have hn:n < 4294967296:=serN h n (List.mem_of_getElem? hi)
 rw [List.drop_append_of_le_length (by rw [ZK];omega),QeJ (by rw [List.length_drop,ZK];omega)]
 exact YA hi hn
theorem Qc9 {x:Ser} (h:SerOk x) (r:List UInt8):num4 (dBody (encL x ++ r)) = x.start.toNat ∧ dM (encL x ++ r) = x.samples.length ∧ dG (encL x ++ r) = x.gaps.length:=by
 have hb:=(QaS h r).1
 have h0:=QaR h r (i:=0) (n:=x.start.toNat) rfl
 have h1:=QaR h r (i:=1) (n:=x.samples.length) rfl
 have h2:=QaR h r (i:=2) (n:=x.gaps.length) rfl
 unfold dM dG
 rw [hb]
 exact ⟨h0,h1,h2⟩
theorem Qdl {x:Ser} (h:SerOk x) (r:List UInt8):dTail (encL x ++ r) = fours (gpN x.gaps ++ x.samples.map plus0) ++ r:=by
 unfold dTail
 rw [(QaS h r).1]
 have e:fours (numsN x) = fours [x.start.toNat,x.samples.length,x.gaps.length] ++ fours (gpN x.gaps ++ x.samples.map plus0):=by unfold numsN;rw [Yq]
 rw [e,List.append_assoc]
 have hl:(fours [x.start.toNat,x.samples.length,x.gaps.length]).length = 12:=by rw [ZK];rfl
 rw [← hl,List.drop_left]
theorem Qo0 {x:Ser} (h:SerOk x) {b:List UInt8} (hb:5 ≤ b.length) (hb2:b.length ≤ 4000000) (h4:b.take 4 = [87,73,78,68]):dE0 b = 0:=by
 unfold dE0
 rw [if_neg (by omega),if_neg (by omega),if_neg (fun g => g h4)]
theorem SerOk.len {x:Ser} (h:SerOk x):(encL x).length ≤ 200000:=by
 rw [JK]
 have:=h.nm;have:=h.sl;have:=h.gl
 omega
theorem Qe5 {x:Ser} (h:SerOk x):dSer (encL x) = serP x:=by
 have hr:=Qc9 h []
 have hb:=QaS h []
 have ht:=Qdl h []
 have hn:=(QcM h []).1
 simp only [List.append_nil] at hr hb ht hn
 unfold dSer serP
 have hN:=serN h
 have e1:smpL ((dTail (encL x)).drop (8 * dG (encL x))) (dM (encL x)) = x.samples.map plus0:=by
  rw [hr.2.1,hr.2.2,ht,Yq]
  have hl:(fours (gpN x.gaps)).length = 8 * x.gaps.length:=by rw [ZK,Jo];omega
  rw [← hl,List.drop_left]
  have:=QhW (l:=x.samples.map plus0) (k:=x.samples.length) (by simp) (fun n hn => by obtain ⟨y,_,rfl⟩:=List.mem_map.1 hn;exact QbO y)
  rw [this,List.take_of_length_le (by simp)]
 have e2:gapL (dTail (encL x)) (dG (encL x)) = x.gaps:=by
  rw [hr.2.2,ht]
  refine List.ext_getElem? fun i => ?_
  by_cases hi:i < x.gaps.length
  ·obtain ⟨g,hg⟩:∃ g,x.gaps[i]? = some g:=⟨_,List.getElem?_eq_getElem hi⟩
   obtain ⟨g1,g2⟩:=Qgy _ _ _ hg
   have hp:=h.gp g (List.mem_of_getElem? hg)
   have hsl:=h.sl
   have k1:(gpN x.gaps ++ x.samples.map plus0)[2 * i]? = some g.fr.toNat:=by rw [List.getElem?_append_left (by rw [Jo];omega)];exact g1
   have k2:(gpN x.gaps ++ x.samples.map plus0)[2 * i + 1]? = some g.to_.toNat:=by rw [List.getElem?_append_left (by rw [Jo];omega)];exact g2
   have n1:=YA k1 (by omega)
   have n2:=YA k2 (by omega)
   rw [hg]
   unfold gapL
   rw [List.getElem?_map,List.getElem?_range hi]
   simp only [Option.map_some]
   rw [show 8 * i = 4 * (2 * i) by omega,show 4 * (2 * i) + 4 = 4 * (2 * i + 1) by omega,n1,n2,Int.toNat_of_nonneg (by omega),Int.toNat_of_nonneg (by omega)]
  ·rw [List.getElem?_eq_none (by rw [J2];omega),List.getElem?_eq_none (by omega)]
 rw [e1,e2,hn,hb.2,hr.1,Int.toNat_of_nonneg h.st.1]
theorem QgB {x:Ser} (h:SerOk x):dE (encL x) = 0 ∧ decS (encL x) = serP x:=by
 have hr:=Qc9 h []
 have ht:=Qdl h []
 have hn:=(QcM h [])
 simp only [List.append_nil] at hr ht hn
 have hl:=JK x
 have hE:dE (encL x) = 0:=by
  unfold dE
  rw [Qo0 h (by omega) (by have:=h.len;omega) hn.2,if_neg (fun g => g rfl),hn.1,if_neg (by omega)]
  have tl:(dTail (encL x)).length = 8 * dG (encL x) + 4 * dM (encL x):=by
   rw [ht,hr.2.1,hr.2.2,ZK,List.length_append,Jo,List.length_map];omega
  rw [if_neg (by omega),if_neg (fun g => g tl),Qe5 h,if_neg,QbD h]
  intro hm
  obtain ⟨y,hy,e⟩:=List.mem_map.1 (show 2147483648 ∈ x.samples.map plus0 from hm)
  exact QiL (h.sm y hy) e
 refine ⟨hE,?_⟩
 unfold decS
 rw [if_pos hE,Qe5 h]
theorem QnG {b:List UInt8} (hb:b.length ≤ 100000) (h:dE b = 0) (hs:SerOk (dSer b)):encL (dSer b) = b:=by
 unfold dE at h
 split at h
 ·rename_i h0;exact absurd h h0
 rename_i h0
 have h0:dE0 b = 0:=by simpa using h0
 split at h
 ·cases h
 rename_i h1
 split at h
 ·cases h
 rename_i h2
 split at h
 ·cases h
 rename_i h3
 split at h
 ·cases h
 rename_i h4
 have h3:(dTail b).length = 8 * dG b + 4 * dM b:=by simpa using h3
 have hW:b.take 4 = [87,73,78,68]:=by
  unfold dE0 at h0
  split at h0
  ·cases h0
  ·split at h0
   ·cases h0
   ·split at h0
    ·cases h0
    ·rename_i g;simpa using g
 obtain ⟨c,hc⟩:∃ c,b[4]? = some c:=⟨_,List.getElem?_eq_getElem (by omega)⟩
 have hn:nmN b = c.toNat:=by unfold nmN;rw [hc];rfl
 have hcl:=u8_lt c
 have hnl:((b.drop 5).take (nmN b)).length = nmN b:=by rw [List.length_take,List.length_drop];omega
 have hbl:12 ≤ (dBody b).length:=by unfold dBody;rw [List.length_drop];omega
 have e3:fours [num4 (dBody b),dM b,dG b] = (dBody b).take 12:=by
  have:[num4 (dBody b),dM b,dG b] = smpL ((dBody b).take 12) 3:=by
   unfold smpL dM dG
   show _ = [num4 (((dBody b).take 12).drop 0),num4 (((dBody b).take 12).drop 4),num4 (((dBody b).take 12).drop 8)]
   rw [List.drop_zero,List.drop_take,List.drop_take,Ja (by omega) (by omega),Ja (by rw [List.length_drop];omega) (by omega),Ja (by rw [List.length_drop];omega) (by omega)]
  rw [this,JW 3 _ (by rw [List.length_take];omega)]
 have eg:fours (gpN (gapL (dTail b) (dG b))) = (dTail b).take (8 * dG b):=by
  have key:∀ k,gpN (gapL (dTail b) k) = smpL (dTail b) (2 * k):=by
   intro k
   induction k with
   | zero => rfl
   | succ k ih =>
    rw [QdD,show 2 * (k + 1) = 2 * k + 1 + 1 by omega,Yj,Yj,← ih]
    unfold gpN
    rw [List.flatMap_append]
    simp only [List.flatMap_cons,List.flatMap_nil,List.append_nil,Int.toNat_natCast,List.append_assoc,List.cons_append,List.nil_append]
    rw [show 4 * (2 * k) = 8 * k by omega,show 4 * (2 * k + 1) = 8 * k + 4 by omega]
  have k2:smpL (dTail b) (2 * dG b) = smpL ((dTail b).take (8 * dG b)) (2 * dG b):=by
   unfold smpL
   refine List.map_congr_left fun i hi => ?_
   have hi2:=List.mem_range.1 hi
   rw [List.drop_take,Ja (by rw [List.length_drop];omega) (by omega)]
  rw [key,k2,JW _ _ (by rw [List.length_take];omega)]
 have es:fours ((smpL ((dTail b).drop (8 * dG b)) (dM b)).map plus0) = (dTail b).drop (8 * dG b):=by
  have:(smpL ((dTail b).drop (8 * dG b)) (dM b)).map plus0 = smpL ((dTail b).drop (8 * dG b)) (dM b):=by
   conv => rhs;rw [← List.map_id (smpL ((dTail b).drop (8 * dG b)) (dM b))]
   refine List.map_congr_left fun u hu => ?_
   have h5:=hs.sm u hu
   refine Qhb ?_ h5 (fun e => h4 (by rw [← e];exact hu))
   unfold smpL at hu
   obtain ⟨i,_,rfl⟩:=List.mem_map.1 hu
   exact Z7 _
  rw [this,JW _ _ (by rw [List.length_drop];omega)]
 have et:fours (numsN (dSer b)) = dBody b:=by
  unfold numsN
  have f1:(dSer b).start.toNat = num4 (dBody b):=Int.toNat_natCast _
  have f2:(dSer b).samples.length = dM b:=JN _ _
  have f3:(dSer b).gaps.length = dG b:=J2 _ _
  rw [f1,f2,f3,Yq,Yq,e3]
  show _ ++ (fours (gpN (gapL (dTail b) (dG b))) ++ fours ((smpL ((dTail b).drop (8 * dG b)) (dM b)).map plus0)) = _
  rw [eg,es,List.take_append_drop]
  unfold dTail
  rw [List.take_append_drop]
 have hnm:(dSer b).name.data.toList = (b.drop 5).take (nmN b):=by show (⟨((b.drop 5).take (nmN b)).toArray⟩:ByteArray).data.toList = _;simp
 have hsz:(dSer b).name.size = nmN b:=by rw [Lib.size_eq,hnm,hnl]
 unfold encL
 rw [et,hnm,hsz]
 have e5:UInt8.ofNat (nmN b) = c:=UInt8.toNat_inj.1 (by rw [UInt8.toNat_ofNat',hn];omega)
 rw [e5]
 unfold dBody
 rw [← List.drop_drop,List.take_append_drop]
 have e6:b = b.take 4 ++ (c :: b.drop 5):=by
  obtain ⟨g1,g2⟩:=List.getElem?_eq_some_iff.1 hc
  have:b.drop 4 = c :: b.drop 5:=by rw [List.drop_eq_getElem_cons g1,g2]
  rw [← this,List.take_append_drop]
 conv => rhs;rw [e6,hW]
 rfl
end Go.Nac
namespace Go.Nac
open Ieee
def QeN (z:Int):Nat:=if z = 0 then 0 else single.nearest (decide (z < 0)) z.natAbs (-1100)
theorem Qg2 {x:Nat} (h:smpE x = 0):plus0 x = QeN (fOf x):=by
 obtain ⟨s,m,e,hr⟩:=V2 h
 obtain ⟨_,hp,_⟩:=QE hr
 rw [YF hr]
 have hk:∃ k:Nat,(k:Int) = e + 1100:=⟨(e + 1100).toNat,by omega⟩
 obtain ⟨k,hk⟩:=hk
 have hf:fOf x = signed s m k:=by
  unfold fOf
  rw [hr]
  show fV s m e = _
  have:=QaN s m (l:=e) (b:=-1100) (by omega) (by omega)
  have e1:(e - -1100).toNat = k:=by omega
  rw [e1] at this
  rw [← this]
  simp
 rw [hf,Qq]
 unfold QeN
 have hn:=YU s m k (-1100)
 have he:(-1100:Int) + k = e:=by omega
 rw [he] at hn
 by_cases hm:m = 0
 ·subst hm;cases s <;> simp
 ·rw [if_neg hm]
  have hpos:0 < m * 2 ^ k:=Nat.mul_pos (by omega) (Nat.pow_pos (by decide))
  rw [← hn]
  generalize m * 2 ^ k = z at hpos
  cases s
  ·simp only [Bool.false_eq_true,if_false]
   rw [if_neg (by omega),decide_eq_false (by omega)]
   simp
  ·simp only [if_true]
   rw [if_neg (by omega),decide_eq_true (by omega)]
   simp
theorem Qf9 {a b:List Nat} (ha:∀ x ∈ a,smpE x = 0) (hb:∀ x ∈ b,smpE x = 0) (h:a.map fOf = b.map fOf):a.map plus0 = b.map plus0:=by
 have e:∀ l:List Nat,(∀ x ∈ l,smpE x = 0) → l.map plus0 = (l.map fOf).map QeN:=by
  intro l hl
  rw [List.map_map]
  exact List.map_congr_left fun x hx => Qg2 (hl x hx)
 rw [e a ha,e b hb,h]
theorem QkK {s:Ser} {b:List UInt8} (hs:SerOk s) (hb:b.length ≤ 100000) (hd:dE b = 0) (hv:SerOk (dSer b)) (h1:(dSer b).name = s.name) (h2:(dSer b).start = s.start) (h3:(dSer b).samples.map fOf = s.samples.map fOf) (h4:(dSer b).gaps = s.gaps):b = encL s:=by
 rw [← QnG hb hd hv]
 have e3:=Qf9 hv.sm hs.sm h3
 have e4:(dSer b).samples.length = s.samples.length:=by simpa using congrArg List.length h3
 unfold encL numsN
 rw [h1,h2,h4,e3,e4]
theorem Qp5:∀ j:_root_.Fin 8,UInt8.ofNat (2 ^ j.val) ≠ 0:=by decide
theorem Qn2 (c:UInt8) (j:_root_.Fin 8):c ^^^ UInt8.ofNat (2 ^ j.val) ≠ c:=by
 intro h
 have h2:(UInt8.ofNat (2 ^ j.val)) = 0:=by
  have h3:c ^^^ (c ^^^ UInt8.ofNat (2 ^ j.val)) = c ^^^ c:=congrArg (c ^^^ ·) h
  rw [← UInt8.xor_assoc,UInt8.xor_self,UInt8.zero_xor] at h3
  exact h3
 exact Qp5 j h2
theorem Qpe {b:List UInt8} {i:Nat} {c:UInt8} (h:b[i]? = some c) {d:UInt8} (hd:d ≠ c):b.set i d ≠ b:=by
 intro he
 obtain ⟨h1,_⟩:=List.getElem?_eq_some_iff.1 h
 have:=congrArg (·[i]?) he
 simp only [List.getElem?_set_self h1,h,Option.some.injEq] at this
 exact hd this
theorem QbM (s:Ser) (f t:Nat):serP (cutS s f t) = cutS (serP s) f t:=by
 unfold serP cutS
 simp only [Ser.mk.injEq,true_and,and_true]
 rw [List.map_take,List.map_drop]
theorem QlL {s:Ser} {k:Nat} (h:SerOk s) (hs:s.start ≤ 1000000) (hk:k ≤ s.samples.length):apdR (serP (cutS s 0 k)) (serP (cutS s k s.samples.length)) = (serP s,0):=by
 rw [QbM,QbM]
 have e:(serP s).samples.length = s.samples.length:=List.length_map ..
 have:=Qnv (s:=serP s) (k:=k) (QbD h) hs (by omega)
 rwa [e] at this
theorem QeZ {s:Ser} {f t:Nat} (h1:f ≤ t) (h2:t ≤ s.samples.length) (lv i:Nat):QV (cutS s f t).samples (cutS s f t).gaps lv i = (decide (i < t - f) && QV s.samples s.gaps lv (f + i)):=by
 unfold QV
 have e1:(cutS s f t).samples = (s.samples.drop f).take (t - f):=rfl
 have e2:(cutS s f t).gaps = cutG s.gaps f t:=rfl
 rw [e1,e2,Zq s.samples h1 h2]
 by_cases hi:i < t - f
 ·have g1:=JF s.gaps (f:=f) (t:=t) i (by omega) (by omega)
  have g2:=QgW s.samples hi
  have e3:((f:Int) + (i:Int)) = ((f + i:Nat):Int):=by omega
  rw [g1,e3,List.getD_eq_getElem?_getD,g2,← List.getD_eq_getElem?_getD,decide_eq_true hi,decide_eq_true (show f + i < s.samples.length by omega)]
  simp
 ·rw [decide_eq_false hi];simp
theorem Qkn {s:Ser} (h:SerOk s) (lv t:Nat):QV (serP s).samples (serP s).gaps lv t = QV s.samples s.gaps lv t:=by
 unfold QV
 have e1:(serP s).samples = s.samples.map plus0:=rfl
 have e2:(serP s).gaps = s.gaps:=rfl
 rw [e1,e2,List.length_map]
 by_cases ht:t < s.samples.length
 ·obtain ⟨x,hx⟩:∃ x,s.samples[t]? = some x:=⟨_,List.getElem?_eq_getElem ht⟩
  rw [List.getD_eq_getElem?_getD,List.getD_eq_getElem?_getD,List.getElem?_map,hx]
  simp only [Option.map_some,Option.getD_some]
  simp only [(YZ (h.sm x (List.mem_of_getElem? hx))).2.2]
 ·simp [ht]
theorem QoT {n:Int} {l:List Spn} (hn:0 ≤ n):∀ {a:Int},canF a l → canF (a + n) (mvG n l):=by
 induction l with
 | nil => intro a _;trivial
 | cons x l ih =>
  intro a h
  obtain ⟨h1,h2,h3⟩:=h
  refine ⟨?_,?_,ih h3⟩
  ·show a + n < x.fr + n;omega
  ·show x.fr + n < x.to_ + n;omega
theorem Qhp {s:Ser} {k:Nat} (h:SerOk s) (hk:k ≤ s.samples.length) (lv:Nat) :
  (Can (mvG k (spL (cutS (serP s) k s.samples.length) lv)) ∧ (∀ x ∈ spL (cutS (serP s) k s.samples.length) lv,x.to_ ≤ s.samples.length - k)) ∧ VH (spL (cutS (serP s) 0 k) lv) (mvG k (spL (cutS (serP s) k s.samples.length) lv)) = spL s lv:=by
 have hp:(serP s).samples.length = s.samples.length:=List.length_map ..
 have hl:=h.sl
 have la:(cutS (serP s) 0 k).samples.length = k:=by
  rw [show (cutS (serP s) 0 k).samples = ((serP s).samples.drop 0).take (k - 0) from rfl,Zq _ (Nat.zero_le _) (by omega)];rfl
 have lb:(cutS (serP s) k s.samples.length).samples.length = s.samples.length - k:=Zq _ hk (by omega)
 obtain ⟨cA,gA,nA,tA⟩:=Zo (cutS (serP s) 0 k) lv (by omega)
 obtain ⟨cB,gB,nB,tB⟩:=Zo (cutS (serP s) k s.samples.length) lv (by omega)
 obtain ⟨cS,gS,nS,tS⟩:=Zo s lv hl
 rw [lb] at tB
 have cM:Can (mvG k (spL (cutS (serP s) k s.samples.length) lv)):=by
  refine ⟨Qky (QoT (n:=k) (by omega) cB.1) (by omega),?_⟩
  intro x hx
  obtain ⟨y,hy,rfl⟩:=List.mem_map.1 hx
  have:=tB y hy
  show y.to_ + k ≤ 40000
  omega
 refine ⟨⟨cM,fun x hx => by have:=tB x hx;omega⟩,?_⟩
 obtain ⟨j1,j2⟩:=Jh cA.ok cM.ok
 refine j1.ext cS fun t => ?_
 rw [j2,gA,gS,QgD,QeZ (Nat.zero_le _) (by omega),Qkn h,Nat.zero_add,Nat.sub_zero]
 by_cases ht:t < k
 ·have:gapAt (spL (cutS (serP s) k s.samples.length) lv) ((t:Int) - k) = false:=VR cB.1 (by omega)
  rw [this,decide_eq_true ht];simp
 ·have e:((t:Int) - k) = ((t - k:Nat):Int):=by omega
  rw [e,gB,QeZ hk (by omega),Qkn h,decide_eq_false ht,show k + (t - k) = t by omega]
  by_cases h2:t < s.samples.length
  ·rw [decide_eq_true (by omega)];simp
  ·unfold QV;simp [h2]
theorem QkX {s:Ser} (h:SerOk s) (hc:Can s.gaps) {mx:Nat} (hm:∀ x ∈ s.samples,fOf x ≤ fOf mx):VH (spL s mx) s.gaps = if s.samples.length = 0 then [] else [⟨0,s.samples.length⟩]:=by
 obtain ⟨cS,gS,nS,tS⟩:=Zo s mx h.sl
 obtain ⟨j1,j2⟩:=Jh cS.ok hc.ok
 have hl:=h.sl
 have hg:=h.gp
 split
 ·rename_i h0
  refine j1.ext QnX fun t => ?_
  rw [j2,gS]
  unfold QV
  rw [h0,decide_eq_false (by omega)]
  rw [V9 (l:=s.gaps) (fun x hx => by have:=hg x hx;omega)];rfl
 ·rename_i h0
  refine j1.ext (b:=[⟨0,s.samples.length⟩]) ⟨⟨by show (-1:Int) < 0;omega,by show (0:Int) < s.samples.length;omega,trivial⟩,fun x hx => by rw [List.mem_singleton.1 hx];show ((s.samples.length:Nat):Int) ≤ 40000;omega⟩ fun t => ?_
  rw [j2,gS,Vt]
  unfold QV
  by_cases ht:t < s.samples.length
  ·obtain ⟨x,hx⟩:∃ x,s.samples[t]? = some x:=⟨_,List.getElem?_eq_getElem ht⟩
   rw [List.getD_eq_getElem?_getD,hx,decide_eq_true ht,Option.getD_some,decide_eq_true (hm x (List.mem_of_getElem? hx)),decide_eq_true (show (0:Int) ≤ t ∧ (t:Int) < s.samples.length by omega)]
   cases gapAt s.gaps t <;> rfl
  ·rw [decide_eq_false ht,V9 (l:=s.gaps) (fun x hx => by have:=hg x hx;omega)];symm;rw [Bool.false_and,Bool.false_and,Bool.false_or,decide_eq_false_iff_not];show ¬ ((0:Int) ≤ t ∧ (t:Int) < s.samples.length);omega
end Go.Nac
namespace Go.Nac
def gaA:Ser:=⟨⟨#[119]⟩,5,[1065353216,1073741824,0],[⟨2,3⟩]⟩
def gaB:Ser:=⟨⟨#[119]⟩,8,[0,1082130432],[⟨0,1⟩]⟩
def gaD:Ser:=⟨⟨#[119]⟩,5,[1065353216,1073741824,0,0,1082130432],[⟨2,4⟩]⟩
def gaF:Ste:=⟨⟨#[102]⟩,2,[⟨⟨#[116,49]⟩,0,0⟩,⟨⟨#[116,50]⟩,2,1⟩]⟩
def gaG:Ste:=⟨⟨#[102]⟩,2,[⟨⟨#[116,49]⟩,0,0⟩,⟨⟨#[116,50]⟩,-1,2⟩]⟩
theorem ga_a:Qk gaA = 0:=by decide +kernel
theorem QjD:(encL gaA).length = 38:=by decide +kernel
theorem ga_p0:gaA.samples.map plus0 = gaA.samples:=by decide +kernel
theorem ga_p:serP gaA = gaA:=by unfold serP;rw [ga_p0]
theorem ga_d0:apdE gaA gaB = 0:=by decide +kernel
theorem ga_d1:apdG gaA gaB = [⟨2,4⟩]:=by decide +kernel
theorem ga_d:apdR gaA gaB = (gaD,0):=by
 unfold apdR apdS
 rw [if_neg (fun h => h ga_d0),ga_d1,if_neg (by decide)];rfl
theorem ga_sp:longK 1 (spTo 1082130432 (recOf gaD.samples gaD.gaps)) = [⟨0,2⟩,⟨4,5⟩]:=by decide +kernel
theorem Qo9:QZ gaG = 0:=by decide +kernel
theorem Qfm:QcI gaG = ⟨#[115,105,116,101,32,102,32,50,10,116,117,114,98,105,110,101,32,116,49,32,48,32,48,10,116,117,114,98,105,110,101,32,116,50,32,45,49,32,50,10]⟩:=by decide +kernel
end Go.Nac
