/- Sorting by a comparison, as the shelf's contract has it. -/
import Derived.Test.YtcbfjgpdogcdbaaGreatDoorW07
import Derived.Shelf.SlSortCmp.WholeK
import Derived.Shelf.SlSortCmp.NoneTotal
import Derived.Shelf.Strconv.Itoa3
import Derived.Shelf.Strconv.AtoiAll
import Derived.Shelf.Strings.Cut
import Derived.Shelf.Strings.Split
import Derived.Shelf.Strings.Prefix
import Derived.Shelf.Strings.OnBuilder
import Derived.Shelf.Bytes.SlSmallAll
import Derived.LaidMore
import Derived.ChangeArms
import Derived.OpenShut
import Derived.Lib.ItoaLen
import Derived.Laws.FloatBits
set_option linter.unusedVariables false
set_option linter.unusedSectionVars false
namespace Go.Nac
open Go.Shelf Go.Sort Go.Proofs Go.RowKit
section
variable {α:Type} [Inhabited α]
theorem flatV_get {enc:α → List Value} {k:Nat} (hk:∀ x,(enc x).length = k):∀ (l:List α) (t:Nat),t < l.length * k → (l.flatMap enc)[t]? = (enc (l[t / k]?.getD default))[t % k]?:=by
  intro l
  induction l with
  | nil => intro t h;simp at h
  | cons x l ih =>
    intro t h
    rcases Nat.eq_zero_or_pos k with hk0|hk0
    · subst hk0;simp at h
    by_cases ht:t < k
    · rw [Nat.div_eq_of_lt ht,Nat.mod_eq_of_lt ht,List.flatMap_cons,List.getElem?_append_left (by rw [hk];exact ht)];rfl
    · obtain ⟨s,rfl⟩:∃ s,t = s + k:=⟨t - k,by omega⟩
      rw [List.length_cons,Nat.add_mul,Nat.one_mul] at h
      rw [List.flatMap_cons,List.getElem?_append_right (by rw [hk];omega),hk,Nat.add_sub_cancel,ih s (by omega),Nat.add_div_right _ hk0,Nat.add_mod_right]
      rfl
theorem flat_len {enc:α → List Value} {k:Nat} (hk:∀ x,(enc x).length = k) (l:List α):(l.flatMap enc).length = l.length * k:=by
  induction l with
  | nil => simp
  | cons x l ih => rw [List.flatMap_cons,List.length_append,hk,ih,List.length_cons,Nat.add_mul];omega
theorem flatK_at {enc:α → List Value} {k:Nat} (hk:∀ x,(enc x).length = k) (d:Array α) (t:Nat) (h:t < d.size * k):(d.toList.flatMap enc)[t]? = some (flatK enc k d)[t]!:=by
  rcases Nat.eq_zero_or_pos k with hk0|hk0
  · subst hk0;simp at h
  have h1:t / k < d.size:=by rw [Nat.div_lt_iff_lt_mul hk0];exact h
  rw [flatV_get hk _ t (by simpa using h),get_flatK _ _ _ _ h]
  have e:d.toList[t / k]?.getD default = d[t / k]!:=by simp [h1]
  rw [e]
  have h2:t % k < (enc d[t / k]!).length:=by rw [hk];exact Nat.mod_lt _ hk0
  rw [List.getElem?_eq_getElem h2]
  exact congrArg some (getElem!_pos (enc d[t / k]!) (t % k) h2).symm
variable [Env] {P:Program} {M:List Blk}
def encV (enc:α → List Value) (x:α):PV:=.agg ((enc x).map .s)
theorem lrel_scal {L:Loc} {w:World}:∀ {vs us:List Value},LRel M L w (vs.map .s) us → us = vs
  | [],us,h => by cases h;rfl
  | v :: vs,us,h => by
    cases h with
    | cons _ u _ us h1 h2 => rw [h1.s_inv,lrel_scal h2]
theorem lrel_scal_mk {L:Loc} {w:World}:∀ {vs:List Value},(∀ v ∈ vs,aggV v = false) → LRel M L w (vs.map .s) vs
  | [],_ => .nil
  | v :: vs,h => .cons _ _ _ _ (.s v (h v (by simp))) (lrel_scal_mk fun u hu => h u (by simp [hu]))
theorem encV_flat (enc:α → List Value) (l:List α):(l.map (encV enc)).flatMap PV.cells = (l.flatMap enc).map .s:=by
  induction l with
  | nil => rfl
  | cons x l ih => rw [List.map_cons,List.flatMap_cons,ih,List.flatMap_cons,List.map_append];rfl
theorem put_row {enc:α → List Value} {k:Nat} (hk:∀ x,(enc x).length = k) (h2:∀ x,∀ v ∈ enc x,aggV v = false) {L:Loc} {w:World} (S:Sim (RO P) M L w) {i ver n:Nat} {d d':List α} (hlen:d'.length = d.length)
    (hi:M[i]? = some (.row true k ver (d.map (encV enc)))) {b o:Nat} (hL:L i = some (b,o)) (os:Array Obj) :
    Fin P M L w (.tup []) (M.set i (.row true k ver (d'.map (encV enc)))) (.returned (.tuple #[])) (sortWorldK enc k w b o n d'.toArray os):=by
  obtain ⟨hs,hc,_⟩:=S.mem i _ hi
  obtain ⟨c,el,vs,g1,g2,g3⟩:=hc b o hL
  rw [encV_flat] at g2
  have hvs:=lrel_scal g2
  subst hvs
  have g0:=g1
  obtain ⟨z,g1,hz⟩:=g1
  have hblk:=(Array.getElem?_eq_some_iff.1 g1).1
  have hput:(sortWorldK enc k w b o n d'.toArray os).heap[b]? = some (.cells (putCells id o (flatK enc k d'.toArray) c) el z):=by
    show ((w.heap.modify b _) ++ os)[b]? = _
    rw [Array.getElem?_append_left (by simpa using hblk),Array.getElem?_modify,if_pos rfl,g1];rfl
  have hoth:∀ j,j < w.heap.size → j ≠ b → (sortWorldK enc k w b o n d'.toArray os).heap[j]? = w.heap[j]?:=by
    intro j hj hne
    show ((w.heap.modify b _) ++ os)[j]? = _
    rw [Array.getElem?_append_left (by simpa using hj),Array.getElem?_modify,if_neg (Ne.symm hne)]
  have hcs:(putCells id o (flatK enc k d'.toArray) c).size = c.size:=by simp [putCells]
  have key:=change S hi (blk':=.row true k ver (d'.map (encV enc))) L (fun _ _ => rfl) (w':=sortWorldK enc k w b o n d'.toArray os) ⟨rfl,rfl,rfl,Nat.le_add_right _ _⟩ (.inl rfl)
    (by show w.heap.size ≤ ((w.heap.modify b _) ++ os).size;simp)
    (fun j hj hp => hoth j hj fun e => hp (b,o) rfl hL e.symm) (fun p hp => .inl ⟨p,hp,rfl⟩)
    ⟨Nat.le_refl _,fun _ => ⟨rfl,by simp [hlen],rfl,fun b1 o1 c1 el1 e1 e2 => by
      rw [hL] at e1;cases e1
      obtain ⟨rfl,rfl⟩:=g0.uniq e2
      exact ⟨_,⟨z,hput,by rw [hcs];exact hz⟩,hcs⟩⟩⟩
    (fun E => by
      refine ⟨fun x hx => by obtain ⟨y,_,rfl⟩:=List.mem_map.1 hx;simp [encV,PV.cells,hk],fun b1 o1 e1 => ?_,fun e => by rw [hL] at e;cases e⟩
      rw [hL] at e1;cases e1
      refine ⟨_,el,d'.flatMap enc,⟨z,hput,by rw [hcs];exact hz⟩,by rw [encV_flat];exact lrel_scal_mk fun v hv => by obtain ⟨x,_,hx⟩:=List.mem_flatMap.1 hv;exact h2 x v hx,fun m v hv => ?_⟩
      have hm:m < (d'.flatMap enc).length:=(List.getElem?_eq_some_iff.1 hv).1
      rw [flat_len hk] at hm
      have hold:∃ u,c[o + m]? = some u:=by
        obtain ⟨u,hu⟩:∃ u,(d.flatMap enc)[m]? = some u:=⟨_,List.getElem?_eq_getElem (by rw [flat_len hk,← hlen];exact hm)⟩
        exact ⟨u,g3 m u hu⟩
      obtain ⟨u,hu⟩:=hold
      have h3:=flatK_at hk d'.toArray m (by simpa using hm)
      rw [show d'.toArray.toList = d' from by simp] at h3
      rw [hv] at h3
      rw [show putCells id o (flatK enc k d'.toArray) c = c.mapIdx _ from rfl,Array.getElem?_mapIdx,hu,Option.map_some,if_pos ⟨by omega,by simp;exact hm⟩,show o + m - o = m from by omega]
      exact h3.symm)
  exact ⟨L,key.1,key.2,.tup [] #[] .nil⟩
def CmpAt (P:Program) (g:FuncId) (enc:α → List Value) (cf:α → α → Int):Prop :=
  ∀ (W:World) (x y:α),Calls P g #[.agg (enc x).toArray,.agg (enc y).toArray] W fun e W' => e = .returned (.int .i64 (cf x y)) ∧ Below W.heap.size W W' ∧ W.drawn ≤ W'.drawn
theorem grow_of_below {W W':World} (h:Below W.heap.size W W') (hd:W.drawn ≤ W'.drawn):∃ q os,W' = Sort.grow (W.drewN q) os:=by
  refine ⟨W'.drawn - W.drawn,W'.heap.extract W.heap.size W'.heap.size,?_⟩
  obtain ⟨h1,h2,h3,h4,h5⟩:=h
  have hh:W'.heap = W.heap ++ W'.heap.extract W.heap.size W'.heap.size:=by
    apply Array.ext_getElem?
    intro k
    rcases Nat.lt_or_ge k W.heap.size with hk|hk
    · rw [Array.getElem?_append_left hk];exact h5 k hk
    · rw [Array.getElem?_append_right hk,Array.getElem?_extract]
      split
      · congr 1;omega
      · rw [Array.getElem?_eq_none];omega
  have hn:W'.drawn = W.drawn + (W'.drawn - W.drawn):=by omega
  cases W with|mk a b c d e =>
  cases W' with|mk a' b' c' d' e' =>
  simp only at h1 h2 h3 hh hn
  subst h1;subst h2;subst h3
  show World.mk a' _ c' _ _ = World.mk (a ++ _) _ (c + _) _ _
  rw [← hn]
  exact congrArg (fun x => World.mk x _ _ _ _) hh
def srtL (cf:α → α → Int) (d:List α):List α:=(pdq (ltOf cf) d.toArray 0 d.length (Lib.bitLen d.length) true true).toList
theorem sort_conc {ρ:Ren} (Ls:SlLaysF0.n6 P ρ) {k:Nat} (aE:∀ w,(isAgg (ρ.t 24)).run P w = .ok true w) (zE:∀ w,(Go.sizeOf (ρ.t 24)).run P w = .ok k w) {enc:α → List Value} (hk:∀ x,(enc x).length = k)
    (h1:∀ x,∀ v ∈ enc x,v.oneCell' = true) (h2:∀ x,∀ v ∈ enc x,aggV v = false) {cf:α → α → Int} (hO:SWO (ltOf cf)) {g:FuncId} (eg:∀ args w,(callFunc g args).run P w = .ok (.enter g args) w) (hcmp:CmpAt P g enc cf)
    {f:FuncId} (hf:f = ρ.f 6) {i ver:Nat} {d:List α} (hd:d.length < 4611686018427387904) (hi:M[i]? = some (.row true k ver (d.map (encV enc)))) :
    Conc P (.fn f) [.os i ver 0 d.length,.fn (.func g) [] []] M (.tup []) (M.set i (.row true k ver ((srtL cf d).map (encV enc)))):=by
  intro L w cargs S A
  subst hf
  obtain ⟨cargs⟩:=cargs
  cases A with|cons _ v0 _ vs a0 A =>
  cases A with|cons _ v1 _ vs a1 A =>
  cases A
  cases a1 with|fn _ _ _ va vc g1 g2 =>
  obtain ⟨va⟩:=va;obtain ⟨vc⟩:=vc
  cases g1;cases g2
  obtain ⟨a,cap,rfl,_,hcap,hm⟩:=a0.os_live hi
  refine .inl ⟨Ls.f6.enters rfl _ _,?_⟩
  have hsz:(srtL cf d).length = d.length:=by
    have:=(pdq_sorts (ltOf cf) hO d.toArray 0 d.toArray.size (Lib.bitLen d.length) true true (Nat.zero_le _) (Nat.le_refl _) (Or.inl rfl)).1.1
    simpa [srtL] using this
  cases d with
  | nil =>
    refine (AnyF.slices_SortFunc_none Ls a cap _ w).mono ?_
    rintro e w' ⟨rfl,rfl⟩
    have e1:srtL cf ([]:List α) = []:=List.eq_nil_of_length_eq_zero (by simpa using hsz)
    rw [e1]
    have e2:M.set i (.row true k ver (([]:List α).map (encV enc))) = M:=by
      obtain ⟨hlt,he⟩:=List.getElem?_eq_some_iff.1 hi
      rw [← he];exact List.set_getElem_self hlt
    rw [e2]
    exact ⟨L,Evo.refl _ _ _,S,.tup [] #[] .nil⟩
  | cons x d =>
    obtain ⟨b,o,c,el,hL,rfl,hb,hsz2⟩:=hm (by simp at hcap;omega)
    rw [Nat.zero_mul,Nat.add_zero] at *
    obtain ⟨hs,hc,_⟩:=S.mem i _ hi
    obtain ⟨c',el',us,g1,g2,g3⟩:=hc b o hL
    obtain ⟨rfl,rfl⟩:=hb.uniq g1
    rw [encV_flat] at g2
    have hus:=lrel_scal g2
    subst hus
    have hH:HoldsK enc k w b o (x :: d).toArray:=by
      intro j hj
      have hj':j < (x :: d).toArray.size * k:=by simpa using hj
      have h3:=flatK_at hk (x :: d).toArray j hj'
      rw [show (x :: d).toArray.toList = x :: d from by simp] at h3
      have h4:=g3 j _ h3
      refine ⟨(hb.cell _).trans h4,hb.unfrozen (Array.getElem?_eq_some_iff.1 h4).1⟩
    have hcl:CmpLays P g #[] enc k cf b o (x :: d).toArray.size w:=by
      intro m os dk _ y z
      refine (hcmp _ y z).mono ?_
      rintro e W' ⟨rfl,hbl,hdr⟩
      exact ⟨rfl,grow_of_below hbl hdr⟩
    have key:=AnyQ.slices_SortFunc_eq Ls k aE zE enc hk h1 cf hO g #[] b o cap (x :: d).toArray w eg hcl hH hb.lt (by simpa using hd)
    refine Calls.mono key ?_
    rintro e w' ⟨rfl,n,os,rfl⟩
    have:=put_row hk h2 S hsz hi hL (n:=n) os
    simpa [srtL] using this
end
end Go.Nac
namespace Go.Nac
open Go.RowKit
abbrev env0:Env:=⟨fun _ => none,True⟩
theorem cmp_at {P:Program} (hmix:P.follows .mixedOrders = true) {F:Prog} (hF:∀ f cf,F f = some cf → @okFn env0 P f cf = true) {g:FuncId} (hroot:(F g).isSome = true) {α:Type} {enc:α → List Value} (h2:∀ x,∀ v ∈ enc x,aggV v = false) {cf:α → α → Int}
    (h:∀ x y,ACall F (fun _ _ _ _ _ => False) (.fn g) [encV enc x,encV enc y] [] (.I (cf x y)) []):CmpAt P g enc cf:=by
  letI:=env0
  intro W x y
  have S:Sim (RO P) [] (fun _ => none) W:=⟨fun i b hi => by simp at hi,fun i j bi bj p q hi => by simp at hi,fun g cs h => by cases h⟩
  refine (ACall_sound hmix hF (fun _ _ _ _ _ h => h.elim) hroot (h x y) (L:=fun _ => none) S (.cons _ _ _ _ (.agg _ _ ?_) (.cons _ _ _ _ (.agg _ _ ?_) .nil))).mono fun e W' he => ?_
  · exact lrel_scal_mk (h2 x)
  · exact lrel_scal_mk (h2 y)
  cases e with
  | returned v =>
    obtain ⟨L',E,S',R⟩:=he
    refine ⟨?_,⟨E.os,E.tape,E.output,E.size,fun k hk => (E.frame k hk fun ⟨i,b,p,hi,_⟩ => by simp at hi).1⟩,E.drawn trivial⟩
    cases R with
    | s _ _ => rfl
  | _ => exact he.elim
end Go.Nac
namespace Go.Nac
open Go.Shelf Go.Sort Go.Proofs Go.RowKit
variable [Env] {P:Program} {ρ:Ren} {M:List Blk}
abbrev PV.S (l:List UInt8):PV:=.s (.string ⟨l.toArray⟩)
theorem env_cell {L:Loc} {w:World} (S:Sim (RO P) M L w) {g:Nat} {cs:List Value} (h:Env.glb g = some cs) (i:Nat):w.cell? ⟨g,i,none⟩ = cs[i]?:=by
  obtain ⟨⟨el,h1⟩,_⟩:=S.env g cs h
  simp [World.cell?,h1]
theorem env_tab {L:Loc} {w:World} (S:Sim (RO P) M L w) {g:Nat} {k:IntKind} {zs:List Int} {n:String} (hn:P.globalNamed n = some g) (h:Env.glb g = some (zs.map (.int k))):Lib.TabIs P w n k zs:=by
  obtain ⟨⟨el,h1⟩,_⟩:=S.env g _ h
  simp [Lib.TabIs,World.var?,hn,h1]
theorem one_str {L:Loc} {w:World} {s:ByteArray} {cargs:Array Value} (A:LRel M L w [.s (.string s)] cargs.toList):cargs = #[.string s]:=by
  obtain ⟨cargs⟩:=cargs
  cases A with|cons _ v _ vs h hs => cases hs;rw [h.s_inv]
theorem two_str {L:Loc} {w:World} {s t:ByteArray} {cargs:Array Value} (A:LRel M L w [.s (.string s),.s (.string t)] cargs.toList):cargs = #[.string s,.string t]:=by
  obtain ⟨cargs⟩:=cargs
  cases A with|cons _ v _ vs h hs => cases hs with|cons _ v' _ vs' h' hs' => cases hs';rw [h.s_inv,h'.s_inv]
theorem itoa_conc (Ls : LaysM.n171 P ρ) {f : FuncId} (hf : f = ρ.f 171) (he : ∀ args w, (callFunc f args).run P w = .ok (.enter f args) w) {g : Nat} (hn : P.globalNamed "internal/strconv.uint64pow10" = some g) (hg : Env.glb g = some (Lib.pow10Tab.map (.int .u64))) {n : Int} (h0 : -9223372036854775808 ≤ n) (h1 : n ≤ 9223372036854775807) :
    Conc P (.fn f) [.I n] M (.S (Lib.itoa n)) M:=by
  refine conc_pure fun L w cargs S A => ?_
  subst hf
  obtain ⟨cargs⟩:=cargs
  cases A with|cons _ v _ vs h hs =>
  cases hs
  have hv:=h.s_inv
  subst hv
  refine ⟨he _ _,(Any.strconv_Itoa Ls n h0 h1 w (env_tab S hn hg)).mono ?_⟩
  rintro e w' ⟨rfl,k,os,rfl⟩
  exact ⟨_,rfl,below_grow w k os,fun _ => Nat.le_add_right _ _,.s _ rfl⟩
theorem cut_conc (Ls:Lays.n145 P ρ) {f:FuncId} (hf:f = ρ.f 145) (he:∀ args w,(callFunc f args).run P w = .ok (.enter f args) w) {m:Int} (hg:Env.glb (ρ.g 1) = some [.int .i64 m]) {s sep:ByteArray} (hs:s.size < 4294967281) :
    Conc P (.fn f) [.s (.string s),.s (.string sep)] M (.tup [.S (Lib.cut s.data.toList sep.data.toList).1,.S (Lib.cut s.data.toList sep.data.toList).2.1,.B (Lib.cut s.data.toList sep.data.toList).2.2]) M:=by
  refine conc_pure fun L w cargs S A => ?_
  subst hf
  have:=two_str A
  subst this
  refine ⟨he _ _,(Any.strings_Cut Ls s sep m w hs (env_cell S hg 0)).mono ?_⟩
  rintro e w' ⟨rfl,n,rfl⟩
  exact ⟨_,rfl,below_drew _ w n,fun _ => Nat.le_add_right _ _,.tup _ _ (.cons _ _ _ _ (.s _ rfl) (.cons _ _ _ _ (.s _ rfl) (.cons _ _ _ _ (.s _ rfl) .nil)))⟩
theorem push_old (h:Array Obj) (o:Obj) {k:Nat} (hk:k < h.size):(h.push o)[k]? = h[k]?:=by
  rw [Array.getElem?_push,if_neg (Nat.ne_of_lt hk)]
theorem strs_rel {L:Loc} {w:World} (l:List ByteArray):LRel M L w ((l.map fun s => PV.s (.string s)).flatMap PV.cells) (l.map Value.string):=by
  induction l with
  | nil => exact .nil
  | cons x l ih => exact .cons _ _ _ _ (.s _ rfl) ih
theorem split_conc (Ls:Lays.n146 P ρ) {f:FuncId} (hf:f = ρ.f 146) (he:∀ args w,(callFunc f args).run P w = .ok (.enter f args) w) {m:Int} (hg:Env.glb (ρ.g 1) = some [.int .i64 m]) (hi9:(P.info? (ρ.t 9)).map (fun i => (i.zero,i.size,i.bytes)) = some (some (.string ByteArray.empty),1,16))
    {s sep:ByteArray} (hs:s.size < 4294967281) (h1:1 ≤ sep.size) (hlen:(Lib.splitB sep 0 (Lib.countB s sep) s).length = Lib.countB s sep + 1) :
    Conc P (.fn f) [.s (.string s),.s (.string sep)] M (.fs ((Lib.splitB sep 0 (Lib.countB s sep) s).map fun x => .s (.string x))) M:=by
  refine conc_pure fun L w cargs S A => ?_
  subst hf
  have:=two_str A
  subst this
  refine ⟨he _ _,(Any.strings_Split Ls hi9 s sep m w hs (env_cell S hg 0) h1).mono ?_⟩
  rintro e w' ⟨rfl,rfl⟩
  refine ⟨_,rfl,⟨rfl,rfl,rfl,by simp,fun k hk => push_old _ _ hk⟩,fun _ => Nat.le_refl _,?_⟩
  refine vrel_fresh S (k:=1) (by simp [hlen]) (by simp [hlen]) (fun x hx => by obtain ⟨y,_,rfl⟩:=List.mem_map.1 hx;rfl) (strs_rel _) (Nat.le_refl _) (by simp) fun m v hv => ?_
  show (match (w.heap.push _)[w.heap.size]? with|some (.cells c _ _) => _|_ => _) = _
  rw [Array.getElem?_push_size]
  show (Array.mk _)[0 + m]? = _
  simpa using hv
theorem trim_conc (Ls:Lays.n101 P ρ) {f:FuncId} (hf:f = ρ.f 101) (he:∀ args w,(callFunc f args).run P w = .ok (.enter f args) w) {s p:ByteArray}:Conc P (.fn f) [.s (.string s),.s (.string p)] M (.S (Lib.trimPrefix s.data.toList p.data.toList)) M:=by
  refine conc_pure fun L w cargs S A => ?_
  subst hf
  have:=two_str A
  subst this
  refine ⟨he _ _,(Any.strings_TrimPrefix Ls s p w).mono ?_⟩
  rintro e w' ⟨rfl,rfl⟩
  exact ⟨_,rfl,below_same _ _,fun _ => Nat.le_refl _,.s _ rfl⟩
theorem join_conc (Ls:Lays.n156 P ρ) (X:Builder.Extra P ρ) (hm:¬ Env.mono) {f:FuncId} (hf:f = ρ.f 156) (he:∀ args w,(callFunc f args).run P w = .ok (.enter f args) w) {xs:List ByteArray} {sep:ByteArray} (hN:xs.length ≤ 140737488355328)
    (hlen:(Lib.join (xs.map (·.data.toList)) sep.data.toList).length ≤ 140737488355328):Conc P (.fn f) [.fs (xs.map fun s => .s (.string s)),.s (.string sep)] M (.S (Lib.join (xs.map (·.data.toList)) sep.data.toList)) M:=by
  refine conc_pure fun L w cargs S A => ?_
  subst hf
  obtain ⟨cargs⟩:=cargs
  cases A with|cons _ v _ vs h hs =>
  cases hs with|cons _ v' _ vs' h' hs' =>
  cases hs'
  have hv:=h'.s_inv
  subst hv
  obtain ⟨a,cap,rfl,hcap,hmem⟩:=fs_strs h
  refine ⟨he _ _,?_⟩
  cases xs with
  | nil =>
    refine (Any.strings_Join_none Ls X a cap sep w).mono ?_
    rintro e w' ⟨rfl,rfl⟩
    exact ⟨_,rfl,below_same _ _,fun _ => Nat.le_refl _,.s _ rfl⟩
  | cons x xs =>
    obtain ⟨b,o,rfl,hb,hc⟩:=hmem (by simp)
    refine (Any.strings_Join Ls X b o cap (x :: xs) sep w hc hb hN hcap hlen).mono ?_
    rintro e w' ⟨rfl,hbl⟩
    exact ⟨_,rfl,hbl,fun m => absurd m hm,.s _ rfl⟩
end Go.Nac
namespace Go.Nac
open Go.Shelf Go.Sort Go.Proofs Go.RowKit
variable [Env] {P:Program} {ρ:Ren} {M:List Blk}
def atoiV (s:ByteArray):PV :=
  match Lib.atoiAll s.data.toList with
  | .ok v => .tup [.I v,.s .nilIface]
  | .range => .tup [.I (Lib.atoiSat s.data.toList),.err]
  | _ => .tup [.I 0,.err]
theorem below_bytes (w:World) (e:TypeId) (s:ByteArray):Below w.heap.size w (Lib.bytesWorld w e s):=by
  unfold Lib.bytesWorld World.freeze
  split
  · exact ⟨rfl,rfl,rfl,by simp,fun k hk => push_old _ _ hk⟩
  · refine ⟨rfl,rfl,rfl,by simp,fun k hk => ?_⟩
    show ((w.heap.push _).modify w.heap.size _)[k]? = _
    rw [Array.getElem?_modify,if_neg (Nat.ne_of_gt hk)]
    exact push_old _ _ hk
theorem atoi_conc (Ls:LaysC.n172 P ρ) (hm:¬ Env.mono) {f:FuncId} (hf:f = ρ.f 172) (he:∀ args w,(callFunc f args).run P w = .ok (.enter f args) w) {t1 t2:TypeId} {v1 v2:Value} (hg1:Env.glb (ρ.g 15) = some [.iface t1 v1]) (hg2:Env.glb (ρ.g 16) = some [.iface t2 v2]) {s:ByteArray} (hs:s.size ≤ 281474976710656) :
    Conc P (.fn f) [.s (.string s)] M (atoiV s) M:=by
  refine conc_pure fun L w cargs S A => ?_
  subst hf
  have:=one_str A
  subst this
  refine ⟨he _ _,?_⟩
  unfold atoiV
  cases h:Lib.atoiAll s.data.toList
  · rename_i v
    refine (Any.strconv_Atoi_ok Ls s (by omega) v h w).mono ?_
    rintro e w' ⟨rfl,rfl|⟨t,rfl⟩⟩
    · exact ⟨_,rfl,below_same _ _,fun _ => Nat.le_refl _,.tup _ _ (.cons _ _ _ _ (.s _ rfl) (.cons _ _ _ _ (.s _ rfl) .nil))⟩
    · exact ⟨_,rfl,below_bytes _ _ _,fun m => absurd m hm,.tup _ _ (.cons _ _ _ _ (.s _ rfl) (.cons _ _ _ _ (.s _ rfl) .nil))⟩
  · refine (Any.strconv_Atoi_syntax Ls s hs h _ w (env_cell S hg1 0) (.inr ⟨_,_,rfl⟩)).mono ?_
    rintro e w' ⟨N,rfl,_,_,hb⟩
    exact ⟨_,rfl,hb,fun m => absurd m hm,.tup _ _ (.cons _ _ _ _ (.s _ rfl) (.cons _ _ _ _ (.err _ _) .nil))⟩
  · refine (Any.strconv_Atoi_range Ls s hs h _ w (env_cell S hg2 0) (.inr ⟨_,_,rfl⟩)).mono ?_
    rintro e w' ⟨N,rfl,_,_,hb⟩
    exact ⟨_,rfl,hb,fun m => absurd m hm,.tup _ _ (.cons _ _ _ _ (.s _ rfl) (.cons _ _ _ _ (.err _ _) .nil))⟩
end Go.Nac
namespace Go.Nac
section
variable [Env]
theorem fbits_conc {P : Program} {f : FuncId} {fn : Func} (hf : P.funcs[f]? = some fn) (hname : (fn.name == "runtime.NumGoroutine") = false) (hb : fn.body.isNone = true) (hn : Extern.findNext fn = none)
    (he:Extern.find fn = some Extern.MathFloatBits.float32bits) (x:Nat) (M:List Blk):Conc P (.fn f) [.s (.float .f32 x)] M (.s (.int .u32 x)) M:=by
  intro L w cargs S A
  obtain ⟨cargs⟩:=cargs
  cases A with
  | cons _ v _ vs h hs =>
    cases hs
    have hv:=h.s_inv
    subst hv
    refine .inr ⟨rfl,_,w,?_,L,Evo.refl _ _ _,S,.s _ rfl⟩
    rw [run_callFunc_extern hf hname hb hn he]
    rfl
theorem frombits_conc {P : Program} {f : FuncId} {fn : Func} (hf : P.funcs[f]? = some fn) (hname : (fn.name == "runtime.NumGoroutine") = false) (hb : fn.body.isNone = true) (hn : Extern.findNext fn = none)
    (he:Extern.find fn = some Extern.MathFloatBits.float32frombits) (x:Nat) (M:List Blk):Conc P (.fn f) [.s (.int .u32 x)] M (.s (.float .f32 x)) M:=by
  intro L w cargs S A
  obtain ⟨cargs⟩:=cargs
  cases A with
  | cons _ v _ vs h hs =>
    cases hs
    have hv:=h.s_inv
    subst hv
    refine .inr ⟨rfl,_,w,?_,L,Evo.refl _ _ _,S,.s _ rfl⟩
    rw [run_callFunc_extern hf hname hb hn he]
    rfl
end
theorem lit_int {H:Type} {enc:TypeId × Value → H} {P:Program} {W:World} {t:TypeId} {k:IntKind} {held:Bool} {m:Nat} {cs:List Value} {z:Int} {q:List MemPlace} {x:DataW H × List MemPlace} (ht:P.underlying t = some (.int k))
    (h:DataW.trod enc P W 0 (fun _ => true) held m t cs = some x) (hx:x.1 = .lit (.int k z)):cs = [.int k z]:=by
  obtain ⟨n,h1,h2,_⟩:=DataW.trod_int ht h
  rw [h2] at hx
  cases hx
  exact h1
theorem lit_ints {H:Type} {enc:TypeId × Value → H} {P:Program} {W:World} {t e:TypeId} {n:Nat} {k:IntKind} {held:Bool} {fuel:Nat} {cs:List Value} {zs:List Int} {p:List MemPlace} (ht:P.underlying t = some (.array n e)) (he:P.underlying e = some (.int k))
    (hc:P.cellsOf e = 1) (hct:P.cellsOf t = n) (hz:zs.length = n) (h:DataW.trod enc P W 0 (fun _ => true) held fuel t cs = some (.agg (zs.map fun z => .lit (.int k z)),p)):cs = zs.map (.int k):=by
  obtain ⟨xs,m,_,hx,hl,hxl,hel⟩:=DataW.trod_array ht h
  rw [hc] at hel
  simp only [Prod.mk.injEq,DataW.agg.injEq] at hx
  apply List.ext_getElem?
  intro i
  rcases Nat.lt_or_ge i n with hi|hi
  · have h1:=hel i hi
    obtain ⟨x,hx2⟩:∃ x,xs[i]? = some x:=⟨_,List.getElem?_eq_getElem (by omega)⟩
    rw [hx2] at h1
    have h2:x.1 = .lit (.int k (zs[i]'(by omega))):=by
      have h3:=congrArg (·[i]?) hx.1
      simp only [List.getElem?_map,hx2,List.getElem?_eq_getElem (show i < zs.length by omega),Option.map_some,Option.some.injEq] at h3
      exact h3.symm
    have h4:=lit_int (q:=[]) he h1 h2
    have h5:cs[i]? = some (.int k (zs[i]'(by omega))):=by
      rw [Nat.mul_one] at h4
      have h6:((cs.drop i).take 1)[0]? = some (.int k (zs[i]'(by omega))):=by rw [h4];rfl
      rw [List.getElem?_take_of_lt (by decide),List.getElem?_drop] at h6
      simpa using h6
    rw [h5,List.getElem?_map,List.getElem?_eq_getElem (show i < zs.length by omega)];rfl
  · rw [List.getElem?_eq_none (by omega),List.getElem?_eq_none (by simp;omega)]
theorem lit_pairs {H:Type} {enc:TypeId × Value → H} {P:Program} {W:World} {t e:TypeId} {n:Nat} {f0 f1:Field} {held:Bool} {fuel:Nat} {cs:List Value} {zs:List (Int × Int)} {p:List MemPlace} (ht:P.underlying t = some (.array n e)) (he:P.underlying e = some (.struct #[f0,f1]))
    (hc:P.cellsOf e = 2) (hct:P.cellsOf t = n * 2) (g0:f0.offset = 0 ∧ P.cellsOf f0.type = 1 ∧ P.underlying f0.type = some (.int .i64)) (g1:f1.offset = 1 ∧ P.cellsOf f1.type = 1 ∧ P.underlying f1.type = some (.int .i64)) (hz:zs.length = n)
    (h:DataW.trod enc P W 0 (fun _ => true) held fuel t cs = some (.agg (zs.map fun z => .agg [.lit (.int .i64 z.1),.lit (.int .i64 z.2)]),p)):cs = zs.flatMap fun z => [.int .i64 z.1,.int .i64 z.2]:=by
  obtain ⟨xs,m,_,hx,hl,hxl,hel⟩:=DataW.trod_array ht h
  rw [hc] at hel
  simp only [Prod.mk.injEq,DataW.agg.injEq] at hx
  have key:∀ i,i < n → (cs.drop (i * 2)).take 2 = [.int .i64 (zs[i]?.getD (0,0)).1,.int .i64 (zs[i]?.getD (0,0)).2]:=by
    intro i hi
    have h1:=hel i hi
    obtain ⟨x,hx2⟩:∃ x,xs[i]? = some x:=⟨_,List.getElem?_eq_getElem (by omega)⟩
    rw [hx2] at h1
    have h3:=congrArg (·[i]?) hx.1
    simp only [List.getElem?_map,hx2,List.getElem?_eq_getElem (show i < zs.length by omega),Option.map_some,Option.some.injEq] at h3
    rw [List.getElem?_eq_getElem (show i < zs.length by omega),Option.getD_some]
    generalize zs[i]'(by omega) = z at h3
    obtain ⟨ys,m2,_,hy,hyl,hys,hye⟩:=DataW.trod_struct he h1
    have y0:=hye 0 f0 rfl
    have y1:=hye 1 f1 rfl
    rw [g0.1,g0.2.1] at y0
    rw [g1.1,g1.2.1] at y1
    have hys2:ys.length = 2:=hys
    obtain ⟨a,b,rfl⟩:∃ a b,ys = [a,b]:=by
      match ys,hys2 with
      | [a,b],_ => exact ⟨a,b,rfl⟩
    rw [hy] at h3
    simp only [List.map_cons,List.map_nil,DataW.agg.injEq,List.cons.injEq,and_true] at h3
    have q0:=lit_int (q:=[]) g0.2.2 y0 h3.1.symm
    have q1:=lit_int (q:=[]) g1.2.2 y1 h3.2.symm
    generalize (cs.drop (i * 2)).take 2 = l at q0 q1 hyl
    rw [hc] at hyl
    match l,hyl with
    | [u,v],_ =>
      simp only [List.drop_zero,List.take_succ_cons,List.take_zero,List.cons.injEq,and_true,List.drop_succ_cons] at q0 q1
      rw [q0,q1]
  clear h hel hx
  have hl2:cs.length = zs.length * 2:=by rw [hl,hct,hz]
  clear hl hxl hct ht
  subst hz
  induction zs generalizing cs with
  | nil => exact List.eq_nil_of_length_eq_zero (by simpa using hl2)
  | cons z zs ih =>
    have k0:=key 0 (by simp)
    simp only [Nat.zero_mul,List.drop_zero,List.getElem?_cons_zero,Option.getD_some] at k0
    have e:cs = cs.take 2 ++ cs.drop 2:=(List.take_append_drop 2 cs).symm
    rw [e,k0,List.flatMap_cons]
    congr 1
    refine ih (by rw [List.length_drop,hl2,List.length_cons];omega) fun i hi => ?_
    have k1:=key (i + 1) (by rw [List.length_cons];omega)
    rw [List.getElem?_cons_succ] at k1
    rw [List.drop_drop,← k1,Nat.succ_mul,Nat.add_comm 2]
theorem var_heap {P:Program} {W:World} {name:String} {g:Nat} {cs:Array Value} (hg:P.globalNamed name = some g) (hv:W.var? P name = some cs) (hc:∃ c t,W.heap[g]? = some (.cells c t (0,0))):∃ el,W.heap[g]? = some (.cells cs el (0,0)):=by
  obtain ⟨c,t,hc⟩:=hc
  unfold World.var? at hv
  rw [hg] at hv
  simp only [Option.bind_some,hc,Option.some.injEq] at hv
  subst hv
  exact ⟨t,hc⟩
end Go.Nac
namespace Go.Nac
theorem lrel_chunks {α:Type} {f:α → List PV} {ok:α → Prop} {k:Nat} {M:List Blk} {L:Loc} {w:World}:∀ (n:Nat) (cs:List Value),cs.length = n * k → (∀ i,i < n → ∃ a,ok a ∧ LRel M L w (f a) ((cs.drop (i * k)).take k)) →
    ∃ l:List α,l.length = n ∧ (∀ a ∈ l,ok a) ∧ LRel M L w (l.flatMap f) cs:=by
  intro n
  induction n with
  | zero =>
    intro cs hl _
    have:cs = []:=List.eq_nil_of_length_eq_zero (by rw [hl,Nat.zero_mul])
    subst this
    exact ⟨[],rfl,(fun a h => by cases h),.nil⟩
  | succ n ih =>
    intro cs hl h
    obtain ⟨a,h1,h2⟩:=h 0 (by omega)
    rw [Nat.succ_mul] at hl
    obtain ⟨l,l1,l2,l3⟩:=ih (cs.drop k) (by rw [List.length_drop];omega) fun i hi => by
      obtain ⟨b,b1,b2⟩:=h (i + 1) (by omega)
      refine ⟨b,b1,?_⟩
      rw [List.drop_drop,Nat.add_comm k,← Nat.succ_mul]
      exact b2
    refine ⟨a :: l,by simp [l1],fun b hb => ?_,?_⟩
    · rcases List.mem_cons.1 hb with rfl|hb
      · exact h1
      · exact l2 b hb
    · rw [Nat.zero_mul,List.drop_zero] at h2
      have e:cs = cs.take k ++ cs.drop k:=(List.take_append_drop k cs).symm
      rw [e,List.flatMap_cons]
      exact LRel.append h2 l3
theorem opens_array {P:Program} {t e:TypeId} {n k:Nat} (ht:P.underlying t = some (.array n e)) (hc:P.cellsOf t = n * k) (he:P.cellsOf e = k) {α:Type} {f:α → List PV} {ok:α → Prop} (h:Opens P e f ok) :
    Opens P t (fun l:List α => l.flatMap f) (fun l => l.length = n ∧ ∀ a ∈ l,ok a):=by
  intro H enc W L m cs x hx
  obtain ⟨xs,m',_,_,hl,hxl,hel⟩:=DataW.trod_array ht hx
  rw [hc] at hl
  rw [he] at hel
  obtain ⟨l,l1,l2,l3⟩:=lrel_chunks (f:=f) (ok:=ok) (k:=k) (M:=[]) (L:=L) (w:=W) n cs hl fun i hi => by
    have h1:=hel i hi
    obtain ⟨y,hy⟩:∃ y,xs[i]? = some y:=⟨_,List.getElem?_eq_getElem (by omega)⟩
    rw [hy] at h1
    obtain ⟨a,a1,a2⟩:=h H enc W L m' _ _ h1
    exact ⟨a,a1,a2⟩
  exact ⟨l,⟨l1,l2⟩,l3⟩
theorem flat_I {L:List (List Int)}:(L.flatMap fun l => l.flatMap fun z => [PV.I z]) = L.flatten.map PV.I:=by
  induction L with
  | nil => rfl
  | cons l L ih =>
    rw [List.flatMap_cons,ih,List.flatten_cons,List.map_append]
    congr 1
    induction l with
    | nil => rfl
    | cons a l ih => rw [List.flatMap_cons,ih];rfl
theorem flatI_len {L:List (List Int)} {n k:Nat} (h:L.length = n) (hk:∀ l ∈ L,l.length = k):L.flatten.length = n * k:=by
  induction L generalizing n with
  | nil => subst h;simp
  | cons l L ih =>
    subst h
    rw [List.flatten_cons,List.length_append,hk l (by simp),ih rfl fun x hx => hk x (by simp [hx]),List.length_cons,Nat.succ_mul];omega
theorem opens_rose {P:Program} {t e i:TypeId} (ht:P.underlying t = some (.array 8 e)) (hc:P.cellsOf t = 408) (he:P.underlying e = some (.array 51 i)) (hce:P.cellsOf e = 51) (hi:P.underlying i = some (.int .i64)) (hci:P.cellsOf i = 1) :
    Opens P t (fun r:List Int => r.map PV.I) (fun r => r.length = 408) :=
  (opens_array (k:=51) ht hc hce (opens_array (k:=1) he hce hci (opens_int hi))).map List.flatten (fun L => flat_I) (fun L h => flatI_len h.1 fun l hl => (h.2 l hl).1)
end Go.Nac
namespace Go.Nac
open Go.Sort
instance:Inhabited Spn:=⟨⟨0,0⟩⟩
def spnV (x:Spn):List Value:=[.int .i64 x.fr,.int .i64 x.to_]
def spnCmp (x y:Spn):Int:=if x.fr < y.fr then -1 else if y.fr < x.fr then 1 else 0
theorem spnCmp_lt (x y:Spn):Proofs.ltOf spnCmp x y = decide (x.fr < y.fr):=by
  unfold Proofs.ltOf spnCmp
  by_cases h1:x.fr < y.fr
  · simp [h1]
  · by_cases h2:y.fr < x.fr <;> simp [h1,h2]
theorem spnCmp_swo:SWO (Proofs.ltOf spnCmp) where
  irrefl x:=by rw [spnCmp_lt];simp
  trans x y z h1 h2:=by rw [spnCmp_lt] at *;simp at *;omega
  ntrans x y z h1 h2:=by rw [spnCmp_lt] at *;simp at *;omega
theorem srt_gen {l:List Spn} {d:Array Spn} (h1:PermIn 0 l.length l.toArray d) (h2:SortedIn (Proofs.ltOf spnCmp) 0 l.length d):d.toList.Perm l ∧ d.toList.Pairwise (fun x y => x.fr ≤ y.fr):=by
  have hs:d.size = l.length:=by simpa using h1.1
  constructor
  · have h3:=h1.2.2
    have e1:(l.toArray.extract 0 l.length).toList = l:=by simp
    have e2:d.extract 0 l.length = d:=by rw [← hs];simp
    rw [e1,e2] at h3
    exact h3
  · rw [List.pairwise_iff_getElem]
    intro i j hi hj hij
    have hi':i < d.size:=by simpa using hi
    have hj':j < d.size:=by simpa using hj
    have h3:=h2 i j (Nat.zero_le _) hij (by omega)
    rw [spnCmp_lt] at h3
    simp only [decide_eq_false_iff_not,Int.not_lt] at h3
    rw [getElem!_pos d i hi',getElem!_pos d j hj'] at h3
    simpa using h3
theorem srt_both (l:List Spn):(srtL spnCmp l).Perm l ∧ (srtL spnCmp l).Pairwise (fun x y => x.fr ≤ y.fr):=by
  obtain ⟨h1,h2⟩:=pdq_sorts (Proofs.ltOf spnCmp) spnCmp_swo l.toArray 0 l.toArray.size (Lib.bitLen l.length) true true (Nat.zero_le _) (Nat.le_refl _) (Or.inl rfl)
  rw [show l.toArray.size = l.length from by simp] at h1 h2
  exact srt_gen h1 h2
theorem srt_len (l:List Spn):(srtL spnCmp l).length = l.length:=(srt_both l).1.length_eq
def canStep (o:List Spn) (s:Spn):List Spn :=
  match o[o.length - 1]? with
  | some p => if s.fr ≤ p.to_ then o.set (o.length - 1) ⟨p.fr,max p.to_ s.to_⟩ else o ++ [s]
  | none => [s]
def canMerge (l:List Spn):List Spn:=l.foldl canStep []
def canonOf (l:List Spn):List Spn:=canMerge (srtL spnCmp l)
theorem canStep_0 {o:List Spn} {s:Spn} (h:o.length = 0):canStep o s = [s]:=by
  have:o = []:=List.eq_nil_of_length_eq_zero h
  subst this;rfl
theorem canStep_eq {o:List Spn} {s p:Spn} (h:o[o.length - 1]? = some p) (hc:s.fr ≤ p.to_):canStep o s = o.set (o.length - 1) ⟨p.fr,max p.to_ s.to_⟩:=by
  unfold canStep;rw [h];exact if_pos hc
theorem canStep_new {o:List Spn} {s p:Spn} (h:o[o.length - 1]? = some p) (hc:¬ s.fr ≤ p.to_):canStep o s = o ++ [s]:=by
  unfold canStep;rw [h];exact if_neg hc
theorem canStep_len (o:List Spn) (s:Spn):(canStep o s).length ≤ o.length + 1:=by
  unfold canStep
  split
  · split <;> simp
  · simp
theorem canMerge_snoc {l:List Spn} {k:Nat} {x:Spn} (h:l[k]? = some x):canMerge (l.take (k + 1)) = canStep (canMerge (l.take k)) x:=by
  obtain ⟨h1,h2⟩:=List.getElem?_eq_some_iff.1 h
  unfold canMerge
  rw [List.take_succ_eq_append_getElem h1,h2,List.foldl_append];rfl
theorem canMerge_len (l:List Spn):(canMerge l).length ≤ l.length:=by
  unfold canMerge
  have:∀ (l o:List Spn),(l.foldl canStep o).length ≤ o.length + l.length:=by
    intro l
    induction l with
    | nil => intro o;simp
    | cons x l ih => intro o;have:=ih (canStep o x);have:=canStep_len o x;simp only [List.foldl_cons,List.length_cons];omega
  simpa using this l []
end Go.Nac
namespace Go.Nac
def mrow (N:Nat) (c:Nat → Int) (w:Int) (g:Nat → Bool):List PV:=(List.range N).map fun t => PV.I (c t + if g t = true then w else 0)
def gapN (l:List Spn) (t:Nat):Bool:=gapAt l (t:Int)
def mG (l:List Spn) (k:Nat) (x:Spn) (j:Nat) (t:Nat):Bool:=gapAt (l.take k) t || decide (x.fr ≤ (t:Int) ∧ (t:Int) < (j:Int))
def andI (a b:Int):Int:=IntKind.i64.wrap ((BitVec.ofInt 64 a &&& BitVec.ofInt 64 b).toNat:Nat)
def mark2 (a b:List Spn) (t:Nat):Int:=(if gapAt a t = true then 1 else 0) + if gapAt b t = true then 2 else 0
def pickStep (p:Nat → Bool) (s:List Spn × Int) (t:Nat):List Spn × Int :=
  if p t = true ∧ s.2 < 0 then (s.1,t) else if p t = false ∧ 0 ≤ s.2 then (s.1 ++ [⟨s.2,t⟩],-1) else s
def pickTo (p:Nat → Bool) (n:Nat):List Spn × Int:=(List.range n).foldl (pickStep p) ([],-1)
def pickOf (p:Nat → Bool):List Spn:=(pickTo p 40001).1
def wantOf (want:List Int) (a b:List Spn) (t:Nat):Bool:=decide (¬ mark2 a b t = 0) && decide (mark2 a b t ∈ want)
end Go.Nac
namespace Go.Nac
def othStep (s:List Spn × Int) (x:Spn):List Spn × Int:=(if s.2 < x.fr then s.1 ++ [⟨s.2,x.fr⟩] else s.1,x.to_)
def othTo (l:List Spn):List Spn × Int:=l.foldl othStep ([],0)
def othersOf (l:List Spn):List Spn:=if (othTo l).2 < 40000 then (othTo l).1 ++ [⟨(othTo l).2,40000⟩] else (othTo l).1
def meetN:Nat → List Spn → List Spn → List Spn
  | n + 1,x :: a,y :: b => (if max x.fr y.fr < min x.to_ y.to_ then [⟨max x.fr y.fr,min x.to_ y.to_⟩] else []) ++ if x.to_ < y.to_ then meetN n a (y :: b) else meetN n (x :: a) b
  | _,_,_ => []
def meetOf (a b:List Spn):List Spn:=meetN (a.length + b.length) a b
end Go.Nac
namespace Go.Nac
def spOk (l:List Spn):Prop:=∀ x ∈ l,0 ≤ x.fr ∧ x.fr < x.to_ ∧ x.to_ ≤ 40000
theorem chkSpnsF_in {l:List Spn}:∀ {last:Int},chkSpnsF last l = 0 → spOk l:=by
  induction l with
  | nil => intro last _ x hx;cases hx
  | cons a l ih =>
    intro last h
    rw [chkSpnsF] at h
    split at h
    · rename_i h0
      split at h
      · cases h
      · intro x hx
        rcases List.mem_cons.1 hx with rfl|hx
        · exact chkSpn_ok h0
        · exact ih h x hx
    · cases h
theorem chkSpns_in {l:List Spn} (h:chkSpns l = 0):spOk l ∧ l.length ≤ 1024:=by
  unfold chkSpns at h
  split at h
  · cases h
  · exact ⟨chkSpnsF_in h,by omega⟩
def totOf (l:List Spn):Int:=l.foldl (fun s x => s + (x.to_ - x.fr)) 0
def bothOf (f:List Spn → List Spn → List Spn) (a b:List Spn):List Spn × Int :=
  if fst0 [chkSpns a,chkSpns b] = 0 then (if 1024 < (f a b).length then ([],5) else (f a b,0)) else ([],fst0 [chkSpns a,chkSpns b])
def listedOf (c:List Spn) (e w:Int) (v:List Spn):Bool :=
  if w = 0 then (if 1024 < v.length then decide (c = []) && decide (e = 5) else decide (e = 0) && decide (c = v)) else decide (c = []) && decide (e = w)
def joinOf (a b:List Spn):List Spn:=canonOf (a ++ b)
def minusOf (a b:List Spn):List Spn:=meetOf a (othersOf b)
end Go.Nac
namespace Go.Nac
structure Tb where
  name:ByteArray
  x:Int
  y:Int
  deriving DecidableEq
def encTb (t:Tb):PV:=.agg [.s (.string t.name),.I t.x,.I t.y]
theorem encTb_eq (t:Tb):encTb t = .agg [.s (.string t.name),.I t.x,.I t.y]:=rfl
theorem encTb_cells (t:Tb):(encTb t).cells = [.s (.string t.name),.I t.x,.I t.y]:=nrfl rfl
theorem encTb_low {n:Nat} (l:List Tb):lowL n (l.map encTb) = True:=eq_true (lowL_map _ _ fun r => by simp [encTb,PV.low,lowL])
theorem encTb_ok (l:List Tb):(l.map encTb).all (okElem 3) = true:=by rw [List.all_eq_true];intro x hx;obtain ⟨y,_,rfl⟩:=List.mem_map.1 hx;rfl
theorem encTb_sized (l:List Tb):sized 3 (l.map encTb) = true:=by unfold sized;rw [List.all_eq_true];intro x hx;obtain ⟨y,_,rfl⟩:=List.mem_map.1 hx;rfl
structure Ste where
  name:ByteArray
  least:Int
  tbs:List Tb
def encSte (s:Ste):PV:=.agg [.s (.string s.name),.I s.least,.fs (s.tbs.map encTb)]
theorem encSte_eq (s:Ste):encSte s = .agg [.s (.string s.name),.I s.least,.fs (s.tbs.map encTb)]:=rfl
theorem encSte_low1 {n:Nat} (s:Ste):(encSte s).low n = True:=eq_true (by simp [encSte,PV.low,lowL,encTb_low])
def zSte:PV:=.agg [.s (.string ⟨#[]⟩),.I 0,.s (.slice none 0 0)]
theorem zSte_low {n:Nat}:zSte.low n = True:=eq_true (by simp [zSte,PV.low,lowL])
structure Pt where
  x:Int
  y:Int
  deriving DecidableEq
def encPt (p:Pt):PV:=.agg [.I p.x,.I p.y]
theorem encPt_eq (p:Pt):encPt p = .agg [.I p.x,.I p.y]:=rfl
def Tb.at_ (t:Tb):Pt:=⟨t.x,t.y⟩
def apartP (a b:Pt):Int:=(a.x - b.x) * (a.x - b.x) + (a.y - b.y) * (a.y - b.y)
theorem apartP_comm (a b:Pt):apartP a b = apartP b a:=by
  unfold apartP
  have h1:a.x - b.x = -(b.x - a.x):=by omega
  have h2:a.y - b.y = -(b.y - a.y):=by omega
  rw [h1,h2,Int.neg_mul_neg,Int.neg_mul_neg]
def ptE (p:Pt):Int:=fst0 [rng p.x (-1000) 1000,rng p.y (-1000) 1000]
def ptIn (p:Pt):Prop:=-1000 ≤ p.x ∧ p.x ≤ 1000 ∧ -1000 ≤ p.y ∧ p.y ≤ 1000
theorem rng_ok {n a b:Int}:rng n a b = 0 ↔ a ≤ n ∧ n ≤ b:=by unfold rng;split <;> omega
theorem ptE_in {p:Pt} (h:ptE p = 0):ptIn p:=by
  unfold ptE at h
  simp only [fst0] at h
  split at h
  · rename_i h1
    split at h
    · rename_i h2
      rw [rng_ok] at h1 h2
      exact ⟨h1.1,h1.2,h2.1,h2.2⟩
    · rename_i h2;exact absurd h h2
  · rename_i h1;exact absurd h h1
theorem sqBd {d:Int} {n:Int} (h0:0 ≤ n) (h1:-n ≤ d) (h2:d ≤ n):0 ≤ d * d ∧ d * d ≤ n * n:=by
  constructor
  · rcases Int.le_total 0 d with h|h
    · exact Int.mul_nonneg h h
    · exact Int.mul_nonneg_of_nonpos_of_nonpos h h
  · rcases Int.le_total 0 d with h|h
    · exact Int.mul_le_mul h2 h2 h h0
    · have h3:(-d) * (-d) ≤ n * n:=Int.mul_le_mul (by omega) (by omega) (by omega) h0
      rw [Int.neg_mul_neg] at h3
      exact h3
def ptW (p:Pt):Prop:=-100000 ≤ p.x ∧ p.x ≤ 100000 ∧ -100000 ≤ p.y ∧ p.y ≤ 100000
theorem ptIn_W {p:Pt} (h:ptIn p):ptW p:=by unfold ptIn at h;unfold ptW;omega
theorem apartP_bd {a b:Pt} (ha:ptW a) (hb:ptW b):(0 ≤ (a.x - b.x) * (a.x - b.x) ∧ (a.x - b.x) * (a.x - b.x) ≤ 40000000000) ∧ 0 ≤ (a.y - b.y) * (a.y - b.y) ∧ (a.y - b.y) * (a.y - b.y) ≤ 40000000000:=by
  unfold ptW at ha hb
  have h1:=sqBd (d:=a.x - b.x) (n:=200000) (by omega) (by omega) (by omega)
  have h2:=sqBd (d:=a.y - b.y) (n:=200000) (by omega) (by omega) (by omega)
  omega
def tbE (least:Int) (pre:List Tb) (t:Tb):Int :=
  fst0 [if nameOk t.name = false then 8 else 0,ptE t.at_,if pre.any (fun o => decide (o.name = t.name)) = true then 9 else 0,if pre.any (fun o => decide (apartP t.at_ o.at_ < least * least)) = true then 15 else 0]
def tbL (least:Int) (l:List Tb):List Int:=l.zipIdx.map fun p => tbE least (l.take p.2) p.1
theorem tbL_get {least:Int} {l:List Tb} {k:Nat} {t:Tb} (h:l[k]? = some t):(tbL least l)[k]? = some (tbE least (l.take k) t):=by
  simp [tbL,h]
theorem tbL_len {least:Int} {l:List Tb}:(tbL least l).length = l.length:=by simp [tbL]
def chkSte (s:Ste):Int :=
  if nameOk s.name = false then 8 else if ¬ rng s.least 1 1000 = 0 then 3 else if 64 < s.tbs.length then 5 else fst0 (tbL s.least s.tbs)
def tbsIn (least:Int) (l:List Tb) (k:Nat):Prop:=∀ (i:Nat) (t:Tb),i < k → l[i]? = some t → tbE least (l.take i) t = 0
theorem tbsIn_zero {least:Int} {l:List Tb}:tbsIn least l 0:=fun i t hi _ => absurd hi (by omega)
theorem tbsIn_succ {least:Int} {l:List Tb} {k:Nat} {t:Tb} (h:tbsIn least l k) (hk:l[k]? = some t) (h0:tbE least (l.take k) t = 0):tbsIn least l (k + 1):=by
  intro i u hi hu
  by_cases hik:i = k
  · subst hik;rw [hk] at hu;cases hu;exact h0
  · exact h i u (by omega) hu
theorem tbE_parts {least:Int} {pre:List Tb} {t:Tb} (h:tbE least pre t = 0):nameOk t.name = true ∧ ptIn t.at_ ∧ pre.any (fun o => decide (o.name = t.name)) = false ∧ pre.any (fun o => decide (apartP t.at_ o.at_ < least * least)) = false:=by
  unfold tbE at h
  simp only [fst0] at h
  by_cases h1:nameOk t.name = false
  · simp [h1] at h
  · by_cases h2:ptE t.at_ = 0
    · by_cases h3:pre.any (fun o => decide (o.name = t.name)) = true
      · simp [h1,h2,h3] at h
      · by_cases h4:pre.any (fun o => decide (apartP t.at_ o.at_ < least * least)) = true
        · simp [h1,h2,h3,h4] at h
        · exact ⟨by simpa using h1,ptE_in h2,by simpa using h3,by simpa using h4⟩
    · simp [h1,h2] at h
theorem tbsIn_pt {least:Int} {l:List Tb} {k i:Nat} {t:Tb} (h:tbsIn least l k) (hi:i < k) (ht:l[i]? = some t):ptIn t.at_:=(tbE_parts (h i t hi ht)).2.1
theorem ptE_v (p:Pt):ptE p = 0 ∨ ptE p = 3:=by
  have h:∀ n a b:Int,rng n a b = 0 ∨ rng n a b = 3:=by intro n a b;unfold rng;split <;> simp
  unfold ptE
  simp only [fst0]
  rcases h p.x (-1000) 1000 with h1|h1 <;> rcases h p.y (-1000) 1000 with h2|h2 <;> simp [h1,h2]
theorem tbE_name {least:Int} {pre:List Tb} {t:Tb} (h:nameOk t.name = false):tbE least pre t = 8:=by simp [tbE,fst0,h]
theorem tbE_pt {least:Int} {pre:List Tb} {t:Tb} (h:nameOk t.name = true) (h2:¬ ptE t.at_ = 0):tbE least pre t = 3:=by
  rcases ptE_v t.at_ with h3|h3
  · exact absurd h3 h2
  · simp [tbE,fst0,h,h3]
theorem tbE_twice {least:Int} {pre:List Tb} {t:Tb} (h:nameOk t.name = true) (h2:ptE t.at_ = 0) (h3:pre.any (fun o => decide (o.name = t.name)) = true):tbE least pre t = 9:=by
  unfold tbE;rw [h3];simp [fst0,h,h2]
theorem tbE_near {least:Int} {pre:List Tb} {t:Tb} (h:nameOk t.name = true) (h2:ptE t.at_ = 0) (h3:pre.any (fun o => decide (o.name = t.name)) = false) (h4:pre.any (fun o => decide (apartP t.at_ o.at_ < least * least)) = true):tbE least pre t = 15:=by
  unfold tbE;rw [h3,h4];simp [fst0,h,h2]
theorem tbE_ok {least:Int} {pre:List Tb} {t:Tb} (h:nameOk t.name = true) (h2:ptE t.at_ = 0) (h3:pre.any (fun o => decide (o.name = t.name)) = false) (h4:pre.any (fun o => decide (apartP t.at_ o.at_ < least * least)) = false):tbE least pre t = 0:=by
  unfold tbE;rw [h3,h4];simp [fst0,h,h2]
theorem any_snoc {l:List Tb} {k:Nat} {t:Tb} (p:Tb → Bool) (h:l[k]? = some t):(l.take (k + 1)).any p = ((l.take k).any p || p t):=by
  obtain ⟨h1,h2⟩:=List.getElem?_eq_some_iff.1 h
  rw [List.take_succ_eq_append_getElem h1,h2,List.any_append];simp
theorem any_hit {l:List Tb} {j k:Nat} {t:Tb} (p:Tb → Bool) (h:l[j]? = some t) (hj:j < k) (ht:p t = true):(l.take k).any p = true:=by
  rw [List.any_eq_true]
  refine ⟨t,?_,ht⟩
  rw [List.mem_take_iff_getElem]
  obtain ⟨h1,h2⟩:=List.getElem?_eq_some_iff.1 h
  exact ⟨j,by omega,h2⟩
def knownE (l:List Tb):List (Value × Value):=l.map fun t => (.string t.name,.bool true)
theorem knownE_like (q:ByteArray) (l:List Tb):keysLike (.string q) (knownE l) = true:=by
  unfold keysLike knownE
  rw [List.all_eq_true];intro x hx
  obtain ⟨y,_,rfl⟩:=List.mem_map.1 hx
  rfl
theorem ba_beq (a b:ByteArray):(a == b) = decide (a = b):=by
  cases a with|mk x => cases b with|mk y =>
  have h:((ByteArray.mk x) == (ByteArray.mk y)) = (x == y):=rfl
  rw [h,Bool.eq_iff_iff]
  simp
theorem toList_beq (a b:ByteArray):(a.toList == b.toList) = decide (a = b):=by
  rw [ByteArray.toList_eq,ByteArray.toList_eq,← ba_beq]
  obtain ⟨⟨x⟩⟩:=a
  obtain ⟨⟨y⟩⟩:=b
  show (x == y) = ((⟨x⟩:Array UInt8) == ⟨y⟩)
  simp
theorem bin_strEq {a b:ByteArray}:bin .eql (.s (.string a)) (.s (.string b)) = some (.B (decide (a = b))):=by
  simp only [bin,binStr,Option.map_some,toList_beq]
theorem bin_strNe {a b:ByteArray}:bin .neq (.s (.string a)) (.s (.string b)) = some (.B (decide (¬ a = b))):=by
  simp only [bin,binStr,Option.map_some,toList_beq,decide_not]
theorem sameKey_str {a b:ByteArray}:sameKey (.string a) (.string b) = decide (a = b):=by
  unfold sameKey
  simp only [eqScalar,Option.getD_some]
  exact ba_beq a b
theorem find_known (q:ByteArray) (l:List Tb):(find (.string q) (knownE l)).getD (.bool false) = .bool (l.any fun o => decide (o.name = q)):=by
  induction l with
  | nil => rfl
  | cons t l ih =>
    show (if sameKey (.string q) (.string t.name) = true then some (Value.bool true) else find (.string q) (knownE l)).getD (.bool false) = _
    rw [sameKey_str,List.any_cons]
    by_cases h:q = t.name
    · subst h;simp
    · have h':¬ t.name = q:=fun e => h e.symm
      simp only [h,h',decide_false,Bool.false_eq_true,if_false,Bool.false_or]
      exact ih
theorem upd_known (t:Tb) (l:List Tb) (h:l.any (fun o => decide (o.name = t.name)) = false):upd (.string t.name) (.bool true) (knownE l) = knownE (l ++ [t]):=by
  induction l with
  | nil => rfl
  | cons u l ih =>
    rw [List.any_cons,Bool.or_eq_false_iff] at h
    show (if sameKey (.string t.name) (.string u.name) = true then _ else _) = _
    rw [sameKey_str]
    have h':¬ t.name = u.name:=fun e => by simp [e] at h
    simp only [h',decide_false,Bool.false_eq_true,if_false]
    show _ :: upd (.string t.name) (.bool true) (knownE l) = _
    rw [ih h.2]
    rfl
end Go.Nac
namespace Go.Nac
def tb0:Tb:=⟨⟨#[]⟩,0,0⟩
def nearK (x:Tb) (m:Int) (l:List Tb):Int:=l.foldl (fun m o => min m (apartP x.at_ o.at_)) m
def spcTo (l:List Tb):Nat → Int
  | 0 => apartP (l.getD 0 tb0).at_ (l.getD 1 tb0).at_
  | k + 1 => nearK (l.getD k tb0) (spcTo l k) (l.take k)
def spcOf (l:List Tb):Int:=spcTo l l.length
def spcE (s:Ste):Int:=fst0 [chkSte s,if s.tbs.length < 2 then 7 else 0]
theorem chkSte_in {s:Ste} (h:chkSte s = 0):nameOk s.name = true ∧ (1 ≤ s.least ∧ s.least ≤ 1000) ∧ s.tbs.length ≤ 64 ∧ tbsIn s.least s.tbs s.tbs.length:=by
  unfold chkSte at h
  split at h
  · cases h
  · rename_i h1
    split at h
    · cases h
    · rename_i h2
      have h2:rng s.least 1 1000 = 0:=Decidable.of_not_not h2
      split at h
      · cases h
      · rename_i h3
        refine ⟨by simpa using h1,rng_ok.1 h2,by omega,?_⟩
        intro i t hi ht
        have key:∀ (k:Nat) (L:List Int),fst0 (L.drop k) = 0 → fst0 (L.drop (k + 1)) = 0 ∧ ∀ v,L[k]? = some v → v = 0:=by
          intro k L hL
          rcases Nat.lt_or_ge k L.length with hk|hk
          · have:=fst0_drop L k _ (List.getElem?_eq_getElem hk)
            rw [this] at hL
            split at hL
            · rename_i h0
              refine ⟨hL,fun v hv => ?_⟩
              rw [List.getElem?_eq_getElem hk] at hv;cases hv;exact h0
            · rename_i h0;exact absurd hL h0
          · rw [List.drop_of_length_le (by omega)]
            refine ⟨rfl,fun v hv => ?_⟩
            rw [List.getElem?_eq_none hk] at hv;cases hv
        have all:∀ k:Nat,fst0 ((tbL s.least s.tbs).drop k) = 0:=by
          intro k
          induction k with
          | zero => exact h
          | succ k ih => exact (key k _ ih).1
        exact (key i _ (all i)).2 _ (tbL_get ht)
def trnN:Nat → Pt → Pt
  | 0,p => p
  | n + 1,p => ⟨(trnN n p).y,-(trnN n p).x⟩
theorem trnN_W {p:Pt} (h:ptIn p) (n:Nat):ptIn (trnN n p):=by
  induction n with
  | zero => exact h
  | succ n ih => unfold ptIn at *;simp only [trnN];omega
def mvT (f:Pt → Pt) (t:Tb):Tb:=⟨t.name,(f t.at_).x,(f t.at_).y⟩
def mvK (f:Pt → Pt) (l:List Tb) (k:Nat):List Tb:=(l.take k).map (mvT f) ++ l.drop k
theorem mvK_zero (f:Pt → Pt) (l:List Tb):mvK f l 0 = l:=by simp [mvK]
theorem mvK_all (f:Pt → Pt) (l:List Tb) {k:Nat} (h:l.length ≤ k):mvK f l k = l.map (mvT f):=by simp [mvK,List.take_of_length_le h,List.drop_of_length_le h]
theorem mvK_len (f:Pt → Pt) (l:List Tb) (k:Nat):(mvK f l k).length = l.length:=by
  unfold mvK
  rw [List.length_append,List.length_map,List.length_take,List.length_drop];omega
theorem mvK_get {f:Pt → Pt} {l:List Tb} {k:Nat} {t:Tb} (h:l[k]? = some t):(mvK f l k)[k]? = some t:=by
  obtain ⟨h1,h2⟩:=List.getElem?_eq_some_iff.1 h
  unfold mvK
  have e:((l.take k).map (mvT f)).length = k:=by rw [List.length_map,List.length_take];omega
  rw [List.getElem?_append_right (by omega),e,Nat.sub_self,List.getElem?_drop,Nat.add_zero,h]
theorem mvK_set {f:Pt → Pt} {l:List Tb} {k:Nat} {t:Tb} (h:l[k]? = some t):(mvK f l k).set k (mvT f t) = mvK f l (k + 1):=by
  obtain ⟨h1,h2⟩:=List.getElem?_eq_some_iff.1 h
  unfold mvK
  have e:((l.take k).map (mvT f)).length = k:=by rw [List.length_map,List.length_take];omega
  rw [List.set_append_right _ _ (by omega),e,Nat.sub_self,List.drop_eq_getElem_cons h1,List.set_cons_zero,List.take_succ_eq_append_getElem h1,List.map_append,h2]
  simp
end Go.Nac
namespace Go.Nac
abbrev Rse:=List Int
def encRs (r:Rse):PV:=.agg (r.map .I)
theorem encI_lowm {n:Nat} (l:List Int):lowL n (l.map PV.I) = True:=eq_true (lowL_map _ _ fun r => by simp [PV.low])
def z408:Rse:=List.replicate 408 0
theorem z408_I:(List.replicate 408 (Value.int .i64 0)).map PV.s = z408.map PV.I:=by
  unfold z408;rw [List.map_replicate,List.map_replicate]
theorem idxaV_blk {n k m:Nat} {cs:List PV} (h:m < n) (hl:cs.length = n * k):idxaV n k (some k) (.agg cs) (some m) = some (.agg ((cs.drop (m * k)).take k)):=by
  simp only [idxaV,if_pos h,Option.getD_some,mkPV]
  rw [if_pos]
  rw [List.length_take,List.length_drop,hl]
  have:m * k + k ≤ n * k:=by rw [← Nat.succ_mul];exact Nat.mul_le_mul_right _ h
  omega
theorem idxaV_one {n m:Nat} {l:List Int} {x:Int} (h:m < n) (hx:l[m]? = some x):idxaV n 1 none (.agg (l.map .I)) (some m) = some (.I x):=by
  simp only [idxaV,if_pos h,Option.getD_none,Nat.mul_one]
  obtain ⟨h1,h2⟩:=List.getElem?_eq_some_iff.1 hx
  rw [← List.map_drop,List.drop_eq_getElem_cons h1,h2]
  rfl
def chkRse (r:Rse):Int:=fst0 (r.map fun n => rng n 0 40000)
theorem fst0_of0 {l:List Int} (h:∀ x ∈ l,x = 0):fst0 l = 0:=by
  induction l with
  | nil => rfl
  | cons a l ih => rw [fst0,if_pos (h a (by simp))];exact ih fun x hx => h x (by simp [hx])
theorem fst0_in0 {l:List Int} (h:fst0 l = 0):∀ x ∈ l,x = 0:=by
  induction l with
  | nil => intro x hx;cases hx
  | cons a l ih =>
    rw [fst0] at h
    split at h
    · rename_i h0
      intro x hx
      rcases List.mem_cons.1 hx with rfl|hx
      · exact h0
      · exact ih h x hx
    · rename_i h0;exact absurd h h0
theorem chkRse_z:chkRse z408 = 0:=by
  apply fst0_of0
  intro x hx
  obtain ⟨y,hy,rfl⟩:=List.mem_map.1 hx
  rw [List.eq_of_mem_replicate hy];decide
def blk (r:Rse) (k:Nat):List Int:=(r.drop (k * 51)).take 51
theorem blk_I (r:Rse) (k:Nat):((r.map PV.I).drop (k * 51)).take 51 = (blk r k).map PV.I:=by
  unfold blk;rw [List.map_take,List.map_drop]
theorem blk_len {r:Rse} {k:Nat} (h:r.length = 408) (hk:k < 8):(blk r k).length = 51:=by
  unfold blk;rw [List.length_take,List.length_drop];omega
theorem blk_get {r:Rse} {k v:Nat} (h:r.length = 408) (hk:k < 8) (hv:v < 51):∃ x,(blk r k)[v]? = some x ∧ r[k * 51 + v]? = some x:=by
  refine ⟨r[k * 51 + v]'(by omega),?_,List.getElem?_eq_getElem (by omega)⟩
  unfold blk
  rw [List.getElem?_take_of_lt hv,List.getElem?_drop,List.getElem?_eq_getElem (by omega)]
def setBlk (r:Rse) (k:Nat) (b:List Int):Rse:=r.take (k * 51) ++ b ++ r.drop (k * 51 + b.length)
theorem setBlk_I (r:Rse) (k:Nat) (b:List Int):setRange (r.map PV.I) (k * 51) (b.map PV.I) = (setBlk r k b).map PV.I:=by
  unfold setRange setBlk
  rw [List.map_append,List.map_append,List.map_take,List.map_drop,List.length_map]
theorem setBlk_len {r:Rse} {k:Nat} {b:List Int} (h:r.length = 408) (hk:k < 8) (hb:b.length = 51):(setBlk r k b).length = 408:=by
  unfold setBlk
  rw [List.length_append,List.length_append,List.length_take,List.length_drop];omega
def trnR (r:Rse) (q:Nat):Nat → Rse
  | 0 => z408
  | k + 1 => setBlk (trnR r q k) ((k + 2 * q) % 8) (blk r k)
theorem trnR_len {r:Rse} {q:Nat} (h:r.length = 408):∀ {k:Nat},k ≤ 8 → (trnR r q k).length = 408:=by
  intro k
  induction k with
  | zero => intro _;exact List.length_replicate
  | succ k ih => intro hk;exact setBlk_len (ih (by omega)) (Nat.mod_lt _ (by decide)) (blk_len h (by omega))
def sumR (r:Rse) (i:Nat):Int:=(r.take i).foldl (· + ·) 0
end Go.Nac
namespace Go.Nac
theorem ones_I (l:List Int):(l.map PV.I).all oneB = true:=by
  rw [List.all_eq_true];intro x hx;obtain ⟨y,_,rfl⟩:=List.mem_map.1 hx;rfl
theorem view1_ints (M:List Blk) (l:List Int):(l.map PV.I).map (view1 M) = l.map PV.I:=by
  rw [List.map_map];rfl
theorem out1_ints (n:Nat) (M:List Blk) (l:List Int):(l.map PV.I).map (out1 n M) = l.map PV.I:=by
  rw [List.map_map];rfl
structure Tells (tk:Nat → List PV) (bk:Nat → List PV) (at_:Nat → Nat):Prop where
  len:∀ k:Nat,k ≤ 8 → (tk k).length = 408
  low:∀ k m:Nat,lowL m (tk k) = True
  one:∀ k:Nat,(tk k).all oneB = true
  vw:∀ (k:Nat) (M:List Blk),(tk k).map (view1 M) = tk k
  ow:∀ (k n:Nat) (M:List Blk),(tk k).map (out1 n M) = tk k
  stp:∀ k:Nat,k < 8 → setRange (tk k) (at_ k * 51) (bk k) = tk (k + 1)
theorem tells_mk {r:Rse} (h:r.length = 408) (q:Nat):Tells (fun k => (trnR r q k).map .I) (fun k => (blk r k).map .I) (fun k => (k + 2 * q) % 8) where
  len k hk:=by rw [List.length_map,trnR_len h hk]
  low k m:=encI_lowm _
  one k:=ones_I _
  vw k M:=view1_ints M _
  ow k n M:=out1_ints n M _
  stp k hk:=by rw [setBlk_I];rfl
structure Cells (r:Rse) (cs:List PV) (bk:Nat → List PV):Prop where
  len:cs.length = 408
  tk:cs.take 408 = cs
  low:∀ m:Nat,lowL m cs = True
  one:cs.all oneB = true
  bone:∀ k:Nat,(bk k).all oneB = true
  vw:∀ M:List Blk,cs.map (view1 M) = cs
  bvw:∀ (k:Nat) (M:List Blk),(bk k).map (view1 M) = bk k
  eq:∀ (r':Rse),r'.length = 408 → eqCells (List.replicate 408 .int) cs (r'.map .I) = some (decide (r = r'))
  idx:∀ k:Nat,k < 8 → idxaV 8 51 (some 51) (.agg cs) (some k) = some (.agg (bk k))
  drop:∀ k:Nat,k < 8 → (cs.drop (k * 51)).take 51 = bk k
  blen:∀ k:Nat,k < 8 → (bk k).length = 51
  btk:∀ k:Nat,k < 8 → (bk k).take 51 = bk k
  blow:∀ k m:Nat,lowL m (bk k) = True
  bidx:∀ (k v:Nat) (x:Int),k < 8 → v < 51 → r[k * 51 + v]? = some x → idxaV 51 1 none (.agg (bk k)) (some v) = some (.I x)
  bget:∀ (k v:Nat) (x:Int),k < 8 → v < 51 → r[k * 51 + v]? = some x → (bk k)[v]? = some (.I x)
theorem cells_mk {r:Rse} (h:r.length = 408):Cells r (r.map .I) (fun k => (blk r k).map .I) where
  len:=by rw [List.length_map,h]
  tk:=List.take_of_length_le (by rw [List.length_map];omega)
  low m:=encI_lowm r
  one:=ones_I r
  bone k:=ones_I _
  vw M:=view1_ints M r
  bvw k M:=view1_ints M _
  eq r' h':=eqCells_ints 408 r r' h h'
  idx k hk:=by rw [idxaV_blk hk (by rw [List.length_map,h]),blk_I]
  drop k hk:=blk_I r k
  blen k hk:=by rw [List.length_map];exact blk_len h hk
  btk k hk:=List.take_of_length_le (by rw [List.length_map,blk_len h hk];omega)
  blow k m:=encI_lowm _
  bidx k v x hk hv hx:=by
    obtain ⟨y,h1,h2⟩:=blk_get h hk hv
    rw [h2] at hx;cases hx
    exact idxaV_one hv h1
  bget k v x hk hv hx:=by
    obtain ⟨y,h1,h2⟩:=blk_get h hk hv
    rw [h2] at hx;cases hx
    rw [List.getElem?_map,h1];rfl
end Go.Nac
namespace Go.Nac
def recK (l:List Nat) (g:List Spn) (k:Nat):List (Nat × Nat):=((l.take k).zipIdx.filter fun p => !gapAt g p.2).map fun p => (p.2,p.1)
def recOf (l:List Nat) (g:List Spn):List (Nat × Nat):=recK l g l.length
theorem recK_snoc {l:List Nat} {g:List Spn} {k x:Nat} (h:l[k]? = some x):recK l g (k + 1) = recK l g k ++ if gapAt g k = true then [] else [(k,x)]:=by
  obtain ⟨h1,h2⟩:=List.getElem?_eq_some_iff.1 h
  unfold recK
  rw [List.take_succ_eq_append_getElem h1,h2,List.zipIdx_append,List.filter_append,List.map_append]
  congr 1
  have hl:(l.take k).length = k:=by simp;omega
  simp only [List.zipIdx_cons,List.zipIdx_nil,hl,Nat.zero_add]
  by_cases hg:gapAt g k = true
  · simp [hg]
  · simp [hg]
theorem recK_pre {l:List Nat} {g:List Spn}:∀ {k j:Nat},k ≤ j → j ≤ l.length → recK l g k <+: recK l g j:=by
  intro k j hkj
  induction j with
  | zero => intro _;rw [Nat.le_zero.1 hkj];exact List.prefix_refl _
  | succ j ih =>
    intro hj
    rcases Nat.lt_or_ge k (j + 1) with h|h
    · obtain ⟨x,hx⟩:∃ x,l[j]? = some x:=⟨_,List.getElem?_eq_getElem (by omega)⟩
      rw [recK_snoc hx]
      exact (ih (by omega) (by omega)).trans (List.prefix_append _ _)
    · have:k = j + 1:=by omega
      rw [this];exact List.prefix_refl _
theorem rec_get {l:List Nat} {g:List Spn} {k x:Nat} (h:l[k]? = some x) (hg:gapAt g k = false):(recOf l g)[(recK l g k).length]? = some (k,x):=by
  obtain ⟨h1,h2⟩:=List.getElem?_eq_some_iff.1 h
  have hp:recK l g (k + 1) <+: recOf l g:=recK_pre (by omega) (Nat.le_refl _)
  rw [recK_snoc h,hg] at hp
  simp only [Bool.false_eq_true,if_false] at hp
  obtain ⟨t,ht⟩:=hp
  rw [← ht,List.append_assoc,List.getElem?_append_right (Nat.le_refl _),Nat.sub_self];rfl
theorem rec_len (l:List Nat) (g:List Spn) (k:Nat):(recK l g k).length ≤ k:=by
  unfold recK
  rw [List.length_map]
  refine Nat.le_trans (List.length_filter_le _ _) ?_
  simp;omega
def recP (l:List Nat) (g:List Spn):List (PV × PV):=(recOf l g).map fun p => (PV.I p.1,encF p.2)
theorem recP_get {l:List Nat} {g:List Spn} {k x:Nat} (h:l[k]? = some x) (hg:gapAt g k = false):(recP l g)[(recK l g k).length]? = some (.I k,encF x):=by
  unfold recP;rw [List.getElem?_map,rec_get h hg];rfl
theorem recP_len (l:List Nat) (g:List Spn):(recP l g).length = (recOf l g).length:=by simp [recP]
end Go.Nac
namespace Go.Nac
open Ieee
theorem smp_num {x:Nat} (h:smpE x = 0):∃ s m e,single.read x = .number s m e:=by
  unfold smpE at h
  split at h
  · exact ⟨_,_,_,by assumption⟩
  · cases h
def fOf (x:Nat):Int:=match single.read x with|.number s m e => fV s m e|_ => 0
theorem ord_smp {x y:Nat} (hx:smpE x = 0) (hy:smpE y = 0):FloatKind.f32.format.order x y = some (compare (fOf x) (fOf y)):=by
  obtain ⟨s,m,e,h1⟩:=smp_num hx
  obtain ⟨s',m',e',h2⟩:=smp_num hy
  have g1:=(read_single h1).2.1
  have g2:=(read_single h2).2.1
  show (single.read x).order (single.read y) = _
  unfold fOf
  rw [h1,h2]
  exact order_fV (by omega) (by omega)
def minB (x y:Nat):Nat:=(fMinB .f32 x y).getD 0
def maxB (x y:Nat):Nat:=(fMaxB .f32 x y).getD 0
structure Stt where
  count:Int
  sum:Int
  least:Nat
  most:Nat
  deriving DecidableEq
def encSt (s:Stt):PV:=.agg [.I s.count,.I s.sum,encF s.least,encF s.most]
def st0:Stt:=⟨0,0,0,0⟩
def sttStep (s:Stt) (x:Nat):Stt:=⟨s.count + 1,s.sum + six x,minB (if s.count = 0 then x else s.least) x,maxB (if s.count = 0 then x else s.most) x⟩
def sttTo (l:List (Nat × Nat)):Stt:=l.foldl (fun s p => sttStep s p.2) st0
end Go.Nac
namespace Go.Nac
open Ieee
def aboveB (x y:Nat):Bool:=decide (fOf y < fOf x)
theorem s_gtr_smp {x y:Nat} (hx:smpE x = 0) (hy:smpE y = 0):sopV (.fbin .gtr) [.s (.float .f32 x),.s (.float .f32 y)] = some (.B (aboveB x y)) :=
  sopV_cmp rfl (by show fCmp .gtr (FloatKind.f32.format.order x y) = _;rw [ord_smp hx hy,cmp_gtr];rfl)
def splStep (lv:Nat) (o:List Spn) (p:Nat × Nat):List Spn :=
  if aboveB p.2 lv = true then o else
  match o[o.length - 1]? with
  | some z => if z.to_ = p.1 then o.set (o.length - 1) ⟨z.fr,p.1 + 1⟩ else o ++ [⟨p.1,p.1 + 1⟩]
  | none => o ++ [⟨p.1,p.1 + 1⟩]
def spTo (lv:Nat) (l:List (Nat × Nat)):List Spn:=l.foldl (splStep lv) []
theorem spTo_snoc {lv:Nat} {l:List (Nat × Nat)} {k:Nat} {p:Nat × Nat} (h:l[k]? = some p):spTo lv (l.take (k + 1)) = splStep lv (spTo lv (l.take k)) p:=by
  obtain ⟨h1,h2⟩:=List.getElem?_eq_some_iff.1 h
  unfold spTo
  rw [List.take_succ_eq_append_getElem h1,h2,List.foldl_append];rfl
theorem splStep_above {lv:Nat} {o:List Spn} {i x:Nat} (h:aboveB x lv = true):splStep lv o (i,x) = o:=if_pos h
theorem splStep_ext {lv:Nat} {o:List Spn} {i x:Nat} {z:Spn} (h:aboveB x lv = false) (hz:o[o.length - 1]? = some z) (he:z.to_ = i):splStep lv o (i,x) = o.set (o.length - 1) ⟨z.fr,i + 1⟩:=by
  unfold splStep;simp only [h,hz,he];simp
theorem splStep_new {lv:Nat} {o:List Spn} {i x:Nat} {z:Spn} (h:aboveB x lv = false) (hz:o[o.length - 1]? = some z) (he:¬ z.to_ = i):splStep lv o (i,x) = o ++ [⟨i,i + 1⟩]:=by
  unfold splStep;simp only [h,hz,he];simp
theorem splStep_nil {lv:Nat} {i x:Nat} (h:aboveB x lv = false):splStep lv [] (i,x) = [⟨i,i + 1⟩]:=by
  unfold splStep;simp [h]
theorem splStep_len (lv:Nat) (o:List Spn) (p:Nat × Nat):(splStep lv o p).length ≤ o.length + 1:=by
  unfold splStep
  split
  · omega
  · split
    · split <;> simp
    · simp
theorem spTo_len (lv:Nat) (l:List (Nat × Nat)):(spTo lv l).length ≤ l.length:=by
  unfold spTo
  have:∀ (l:List (Nat × Nat)) (o:List Spn),(l.foldl (splStep lv) o).length ≤ o.length + l.length:=by
    intro l
    induction l with
    | nil => intro o;simp
    | cons x l ih => intro o;have h1:=ih (splStep lv o x);have h2:=splStep_len lv o x;simp only [List.foldl_cons,List.length_cons];omega
  simpa using this l []
def spIn (n:Nat) (o:List Spn):Prop:=∀ z ∈ o,0 ≤ z.fr ∧ z.fr < z.to_ ∧ z.to_ ≤ n
theorem spTo_in {lv n:Nat} {l:List (Nat × Nat)} (hl:∀ p ∈ l,p.1 < n):spIn n (spTo lv l):=by
  unfold spTo
  have:∀ (l:List (Nat × Nat)) (o:List Spn),(∀ p ∈ l,p.1 < n) → spIn n o → spIn n (l.foldl (splStep lv) o):=by
    intro l
    induction l with
    | nil => intro o _ h;exact h
    | cons p l ih =>
      intro o hl ho
      refine ih _ (fun q hq => hl q (by simp [hq])) ?_
      have hp:=hl p (by simp)
      have hnew:spIn n (o ++ [⟨p.1,p.1 + 1⟩]):=by
        intro z hz
        rcases List.mem_append.1 hz with hz|hz
        · exact ho z hz
        · simp only [List.mem_singleton] at hz;subst hz
          refine ⟨by show (0:Int) ≤ p.1;omega,by show (p.1:Int) < p.1 + 1;omega,by show (p.1:Int) + 1 ≤ n;omega⟩
      unfold splStep
      split
      · exact ho
      · split
        · rename_i z0 hz0
          split
          · rename_i he
            have h0:=ho z0 (List.mem_of_getElem? hz0)
            intro z hz
            rcases List.mem_or_eq_of_mem_set hz with hz|rfl
            · exact ho z hz
            · refine ⟨h0.1,by show z0.fr < (p.1:Int) + 1;omega,by show (p.1:Int) + 1 ≤ n;omega⟩
          · exact hnew
        · exact hnew
  exact this l [] hl (fun z hz => by cases hz)
def longK (least:Int) (l:List Spn):List Spn:=l.filter fun z => decide (least ≤ z.to_ - z.fr)
theorem longK_snoc {least:Int} {l:List Spn} {k:Nat} {z:Spn} (h:l[k]? = some z):longK least (l.take (k + 1)) = longK least (l.take k) ++ if least ≤ z.to_ - z.fr then [z] else []:=by
  obtain ⟨h1,h2⟩:=List.getElem?_eq_some_iff.1 h
  unfold longK
  rw [List.take_succ_eq_append_getElem h1,h2,List.filter_append]
  congr 1
  by_cases hz:least ≤ z.to_ - z.fr <;> simp [hz]
theorem longK_len (least:Int) (l:List Spn):(longK least l).length ≤ l.length:=List.length_filter_le _ _
end Go.Nac
namespace Go.Nac
open Ieee
def isNum (x:Nat):Prop:=∃ s m e,single.read x = .number s m e
def uP:Int:=2 ^ uE
theorem uP_pos:0 < uP:=Int.pow_pos (by decide)
theorem whole16 {x:Nat} (h:smpE x = 0):16 * fOf x = six x * uP:=by
  obtain ⟨s,m,e,hr⟩:=smp_num h
  obtain ⟨g1,g2,g3⟩:=read_single hr
  unfold smpE at h
  unfold fOf six uP
  rw [hr] at h ⊢
  simp only at h ⊢
  split at h
  · cases h
  · rename_i hc
    simp only [not_or,Bool.not_eq_false] at hc
    have hw:=hc.2.2
    unfold fWhole at hw
    rw [decide_eq_true_eq] at hw
    rw [hw,fV_16 g1 (by omega) (by omega)];omega
end Go.Nac
namespace Go.Nac
def blowBad (x y:Nat):Bool:=decide (six x < 0) || decide (816 ≤ six x) || decide (six y < 0) || decide (112 < six y) || decide (¬ six y % 16 = 0)
def blowAt (x y:Nat):Nat:=(six y / 16).toNat * 51 + (six x / 16).toNat
def incR (r:Rse) (i:Nat):Rse:=r.set i (r.getD i 0 + 1)
def blStep (b:Ser) (o:Option Rse) (p:Nat × Nat):Option Rse :=
  match o with
  | none => none
  | some r => if gapAt b.gaps p.1 = true then some r else if blowBad p.2 (b.samples.getD p.1 0) = true then none else some (incR r (blowAt p.2 (b.samples.getD p.1 0)))
def blTo (b:Ser) (l:List (Nat × Nat)):Option Rse:=l.foldl (blStep b) (some z408)
def rseIn (n:Nat) (r:Rse):Prop:=r.length = 408 ∧ ∀ v ∈ r,0 ≤ v ∧ v ≤ (n:Int)
def blownE (a b:Ser):Int:=fst0 [chkSer a,chkSer b,if a.start ≠ b.start ∨ a.samples.length ≠ b.samples.length then 2 else 0]
def blownR (a b:Ser):Rse × Int :=
  if blownE a b = 0 then (match blTo b (recOf a.samples a.gaps) with|none => (z408,3)|some r => (r,0)) else (z408,blownE a b)
end Go.Nac
namespace Go.Nac
abbrev bs (l:List UInt8):ByteArray:=⟨l.toArray⟩
def itoaB (n:Int):ByteArray:=⟨(Lib.itoa n).toArray⟩
def tbTxt (t:Tb):ByteArray:=(((((⟨#[116,117,114,98,105,110,101,32]⟩:ByteArray) ++ t.name) ++ ⟨#[32]⟩) ++ itoaB t.x) ++ ⟨#[32]⟩) ++ itoaB t.y ++ ⟨#[10]⟩
def joinB (l:List ByteArray):ByteArray:=⟨(Lib.join (l.map (·.data.toList)) []).toArray⟩
def steTxt (s:Ste):ByteArray:=((((⟨#[115,105,116,101,32]⟩:ByteArray) ++ s.name) ++ ⟨#[32]⟩) ++ itoaB s.least ++ ⟨#[10]⟩) ++ joinB (s.tbs.map tbTxt)
theorem bin_addS {a b:ByteArray} (h:a.size + b.size ≤ 1099511627776):bin .add (.s (.string a)) (.s (.string b)) = some (.s (.string (a ++ b))):=by
  simp only [bin,binStr]
  rw [if_pos (by omega)];rfl
theorem lens_le {xs:List (List UInt8)} {n:Nat} (h:∀ x ∈ xs,x.length ≤ n):Lib.lens xs ≤ n * xs.length:=by
  induction xs with
  | nil => exact Nat.zero_le _
  | cons a xs ih =>
    have h1:=h a (by simp)
    have h2:=ih fun x hx => h x (by simp [hx])
    have e:Lib.lens (a :: xs) = a.length + Lib.lens xs:=by simp [Lib.lens]
    rw [e,List.length_cons,Nat.mul_succ];omega
theorem joinB_size {l:List ByteArray} (h:l.length ≤ 64) (hs:∀ s ∈ l,s.size ≤ 200):(joinB l).size ≤ 100000:=by
  show (Lib.join (l.map (·.data.toList)) []).toArray.size ≤ 100000
  rw [List.size_toArray]
  cases l with
  | nil => simp [Lib.join_nil]
  | cons a r =>
    rw [List.map_cons,Lib.join_length]
    have:=lens_le (xs:=a.data.toList :: r.map (·.data.toList)) (n:=200) (by
      intro x hx
      rcases List.mem_cons.1 hx with rfl|hx
      · have:=hs a (by simp);simpa using this
      · obtain ⟨t,ht,rfl⟩:=List.mem_map.1 hx
        have:=hs t (by simp [ht]);simpa using this)
    simp only [List.length_cons,List.length_map,List.length_nil,Nat.zero_mul] at this h ⊢
    omega
end Go.Nac
namespace Go.Nac
abbrev u8 (n:Int):PV:=.s (.int .u8 n)
def be4 (n:Int):List PV:=[u8 (IntKind.u8.wrap (n.fdiv 16777216)),u8 (IntKind.u8.wrap (n.fdiv 65536)),u8 (IntKind.u8.wrap (n.fdiv 256)),u8 (IntKind.u8.wrap n)]
theorem be4_eq (n:Int):be4 n = [u8 (IntKind.u8.wrap (n.fdiv 16777216)),u8 (IntKind.u8.wrap (n.fdiv 65536)),u8 (IntKind.u8.wrap (n.fdiv 256)),u8 (IntKind.u8.wrap n)]:=rfl
def putB (ns:List Int):List PV:=ns.flatMap be4
theorem putB_snoc {l:List Int} {k:Nat} {n:Int} (h:l[k]? = some n):putB (l.take (k + 1)) = putB (l.take k) ++ be4 n:=by
  obtain ⟨h1,h2⟩:=List.getElem?_eq_some_iff.1 h
  unfold putB
  rw [List.take_succ_eq_append_getElem h1,h2,List.flatMap_append];simp
theorem putB_len (l:List Int):(putB l).length = 4 * l.length:=by
  induction l with
  | nil => rfl
  | cons a l ih =>
    have e:putB (a :: l) = be4 a ++ putB l:=rfl
    rw [e,List.length_append,ih,List.length_cons]
    have:(be4 a).length = 4:=rfl
    omega
theorem putB_low {n:Nat} (l:List Int):lowL n (putB l) = True:=eq_true (by
  rw [lowL_iff]
  intro x hx
  unfold putB at hx
  obtain ⟨a,_,ha⟩:=List.mem_flatMap.1 hx
  rw [be4_eq] at ha
  simp only [List.mem_cons,List.not_mem_nil,or_false] at ha
  rcases ha with rfl|rfl|rfl|rfl <;> simp [PV.low])
open Ieee
def plus0 (x:Nat):Nat:=(single.add x 0).getD 0
theorem f_plus0 {x:Nat} (h:smpE x = 0):sopV (.fbin .add) [.s (.float .f32 x),.s (.float .f32 0)] = some (.s (.float .f32 (plus0 x))):=by
  obtain ⟨s,m,e,hr⟩:=smp_num h
  have h0:single.read 0 = .number false 0 (-149):=by decide
  have ha:∃ r,single.add x 0 = some r:=by
    unfold Format.add
    rw [hr,h0]
    exact ⟨_,rfl⟩
  obtain ⟨r,hr2⟩:=ha
  have e1:plus0 x = r:=by unfold plus0;rw [hr2];rfl
  have e2:FloatKind.f32.format.add x 0 = some r:=hr2
  rw [e1]
  simp only [sopV,if_true,fArith,e2]
theorem putB_app (a b:List Int):putB (a ++ b) = putB a ++ putB b:=by unfold putB;rw [List.flatMap_append]
def gapNs (l:List Spn):List Int:=l.flatMap fun g => [g.fr,g.to_]
theorem gapNs_snoc {l:List Spn} {k:Nat} {g:Spn} (h:l[k]? = some g):gapNs (l.take (k + 1)) = gapNs (l.take k) ++ [g.fr,g.to_]:=by
  obtain ⟨h1,h2⟩:=List.getElem?_eq_some_iff.1 h
  unfold gapNs
  rw [List.take_succ_eq_append_getElem h1,h2,List.flatMap_append];simp
theorem gapNs_len (l:List Spn):(gapNs l).length = 2 * l.length:=by
  induction l with
  | nil => rfl
  | cons a l ih =>
    have e:gapNs (a :: l) = [a.fr,a.to_] ++ gapNs l:=rfl
    rw [e,List.length_append,ih]
    simp only [List.length_cons,List.length_nil]
    omega
def bitNs (l:List Nat):List Int:=l.map fun x => IntKind.i64.wrap (plus0 x)
def hdrB (s:Ser):List PV:=[u8 87,u8 73,u8 78,u8 68] ++ [u8 (IntKind.u8.wrap s.name.size)] ++ bytesPV s.name
def encB (s:Ser):List PV:=hdrB s ++ putB ([s.start,(s.samples.length:Int),(s.gaps.length:Int)] ++ gapNs s.gaps ++ bitNs s.samples)
end Go.Nac
set_option maxRecDepth 20000
namespace Go.Nac
def farmS:Ste:=⟨⟨#[110,111,114,116,104]⟩,5,[⟨⟨#[97]⟩,0,0⟩,⟨⟨#[98]⟩,6,0⟩,⟨⟨#[99]⟩,3,4⟩]⟩
def waveS:Ser:=⟨⟨#[119,97,118,101]⟩,100,[1065353216,1075838976,0,1056964608,1077936128,1065353216,1065353216],[⟨2,3⟩]⟩
def awA:Ser:=⟨⟨#[118]⟩,0,[1089470464,1090519040,0],[]⟩
def awB:Ser:=⟨⟨#[100]⟩,0,[0,1073741824,0],[⟨2,3⟩]⟩
end Go.Nac
namespace Go.Nac
def canF (last:Int):List Spn → Prop
  | [] => True
  | s :: r => last < s.fr ∧ s.fr < s.to_ ∧ canF s.to_ r
theorem gapAt_nil (i:Int):gapAt [] i = false:=rfl
theorem gapAt_cons (s:Spn) (l:List Spn) (i:Int):gapAt (s :: l) i = (decide (s.fr ≤ i ∧ i < s.to_) || gapAt l i):=rfl
theorem gapAt_hi {l:List Spn} {i:Int} (h:∀ x ∈ l,x.to_ ≤ i):gapAt l i = false:=by
  unfold gapAt
  rw [List.any_eq_false]
  intro x hx
  have:=h x hx
  simp only [decide_eq_true_eq,not_and];omega
theorem canF_gap {l:List Spn}:∀ {last:Int},canF last l → ∀ {i:Int},i ≤ last → gapAt l i = false:=by
  induction l with
  | nil => intro last _ i _;rfl
  | cons s l ih =>
    intro last h i hi
    obtain ⟨h1,h2,h3⟩:=h
    rw [gapAt_cons,ih h3 (by omega),decide_eq_false (by omega)];rfl
theorem canF_fr {l:List Spn}:∀ {last:Int},canF last l → ∀ x ∈ l,last < x.fr ∧ x.fr < x.to_:=by
  induction l with
  | nil => intro last _ x hx;cases hx
  | cons s l ih =>
    intro last h x hx
    obtain ⟨h1,h2,h3⟩:=h
    rcases List.mem_cons.1 hx with rfl|hx
    · exact ⟨h1,h2⟩
    · have:=ih h3 x hx;omega
theorem can_ext {a:List Spn}:∀ {b:List Spn} {la lb:Int},canF la a → canF lb b → (∀ i:Int,gapAt a i = gapAt b i) → a = b:=by
  induction a with
  | nil =>
    intro b la lb _ hb h
    cases b with
    | nil => rfl
    | cons y b =>
      have:=h y.fr
      rw [gapAt_nil,gapAt_cons,decide_eq_true (by have:=hb.2.1;omega)] at this
      cases this
  | cons x a ih =>
    intro b la lb ha hb h
    cases b with
    | nil =>
      have:=h x.fr
      rw [gapAt_nil,gapAt_cons,decide_eq_true (by have:=ha.2.1;omega)] at this
      cases this
    | cons y b =>
      obtain ⟨a1,a2,a3⟩:=ha
      obtain ⟨b1,b2,b3⟩:=hb
      have e1:x.fr = y.fr:=by
        rcases Int.lt_trichotomy x.fr y.fr with hl|he|hl
        · have:=h x.fr
          rw [gapAt_cons,gapAt_cons,decide_eq_true (by omega),decide_eq_false (by omega),canF_gap b3 (by omega)] at this
          cases this
        · exact he
        · have:=h y.fr
          rw [gapAt_cons,gapAt_cons,decide_eq_false (by omega),decide_eq_true (p:=y.fr ≤ y.fr ∧ y.fr < y.to_) (by omega),canF_gap a3 (by omega)] at this
          cases this
      have e2:x.to_ = y.to_:=by
        rcases Int.lt_trichotomy x.to_ y.to_ with hl|he|hl
        · have:=h x.to_
          rw [gapAt_cons,gapAt_cons,decide_eq_false (by omega),decide_eq_true (p:=y.fr ≤ x.to_ ∧ x.to_ < y.to_) (by omega),canF_gap a3 (by omega)] at this
          cases this
        · exact he
        · have:=h y.to_
          rw [gapAt_cons,gapAt_cons,decide_eq_true (by omega),decide_eq_false (p:=y.fr ≤ y.to_ ∧ y.to_ < y.to_) (by omega),canF_gap b3 (by omega)] at this
          cases this
      have e3:a = b:=by
        refine ih a3 b3 fun i => ?_
        rcases (by omega:i ≤ x.to_ ∨ x.to_ < i) with hi|hi
        · rw [canF_gap a3 hi,canF_gap b3 (by omega)]
        · have:=h i
          rw [gapAt_cons,gapAt_cons,decide_eq_false (by omega),decide_eq_false (p:=y.fr ≤ i ∧ i < y.to_) (by omega)] at this
          simpa using this
      obtain ⟨xf,xt⟩:=x
      obtain ⟨yf,yt⟩:=y
      simp only at e1 e2
      rw [e1,e2,e3]
def Can (l:List Spn):Prop:=canF (-1) l ∧ ∀ x ∈ l,x.to_ ≤ 40000
theorem Can.ok {l:List Spn} (h:Can l):spOk l:=fun x hx => by
  have h1:=canF_fr h.1 x hx
  have h2:=h.2 x hx
  omega
theorem Can.ext {a b:List Spn} (ha:Can a) (hb:Can b) (h:∀ t:Nat,gapAt a t = gapAt b t):a = b:=by
  refine can_ext ha.1 hb.1 fun i => ?_
  rcases (by omega:i ≤ -1 ∨ -1 < i) with hi|hi
  · rw [canF_gap ha.1 hi,canF_gap hb.1 hi]
  · obtain ⟨t,rfl⟩:∃ t:Nat,i = t:=⟨i.toNat,by omega⟩
    exact h t
theorem Can.hi {l:List Spn} (h:Can l) {t:Int} (ht:40000 ≤ t):gapAt l t = false:=gapAt_hi fun x hx => by have:=h.2 x hx;omega
theorem chkSpnsF_can {l:List Spn}:∀ {last:Int},chkSpnsF last l = 0 → canF last l ∧ ∀ x ∈ l,x.to_ ≤ 40000:=by
  induction l with
  | nil => intro last _;exact ⟨trivial,fun x hx => by cases hx⟩
  | cons s l ih =>
    intro last h
    rw [chkSpnsF] at h
    split at h
    · rename_i h0
      split at h
      · cases h
      · have h1:=chkSpn_ok h0
        obtain ⟨g1,g2⟩:=ih h
        refine ⟨⟨by omega,h1.2.1,g1⟩,fun x hx => ?_⟩
        rcases List.mem_cons.1 hx with rfl|hx
        · exact h1.2.2
        · exact g2 x hx
    · cases h
theorem can_chkSpnsF {l:List Spn}:∀ {last:Int},-1 ≤ last → canF last l → (∀ x ∈ l,x.to_ ≤ 40000) → chkSpnsF last l = 0:=by
  induction l with
  | nil => intro last _ _ _;rfl
  | cons s l ih =>
    intro last hl h h40
    obtain ⟨h1,h2,h3⟩:=h
    have h4:=h40 s (by simp)
    rw [chkSpnsF,if_pos (by unfold chkSpn;rw [if_neg (by omega)]),if_neg (by omega)]
    exact ih (by omega) h3 fun x hx => h40 x (by simp [hx])
theorem chkSpns_can {l:List Spn}:chkSpns l = 0 ↔ l.length ≤ 1024 ∧ Can l:=by
  unfold chkSpns
  split
  · constructor
    · intro h;cases h
    · intro h;omega
  · constructor
    · intro h;exact ⟨by omega,chkSpnsF_can h⟩
    · intro h;exact can_chkSpnsF (Int.le_refl _) h.2.1 h.2.2
end Go.Nac
namespace Go.Nac
def cntB (g:Nat → Bool):Nat → Int
  | 0 => 0
  | n + 1 => cntB g n + if g n = true then 1 else 0
theorem Can.chk {l:List Spn} (h:Can l) (hl:l.length ≤ 1024):chkSpns l = 0:=chkSpns_can.2 ⟨hl,h⟩
def allL:List Spn:=[⟨0,64⟩]
end Go.Nac
set_option linter.unusedSimpArgs false
namespace Go.Nac
open Ieee
theorem sgl_least:single.leastPlace = -149:=by decide
theorem sgl_binade:single.binade = 8388608:=by decide
theorem sgl_inf:single.infRung = 2139095040:=by decide
theorem sgl_sign:single.signWeight = 2147483648:=by decide
theorem sgl_frac:single.fractionBits = 23:=rfl
theorem snearest_two (neg:Bool) (a:Nat) (p:Int) (ha:a ≠ 0):single.nearest neg (2 * a) p = single.nearest neg a (p + 1):=by
  unfold Format.nearest
  rw [if_neg (by omega),if_neg ha,Nat.log2_two_mul ha,sgl_least,sgl_frac]
  have e:max (p + ((a.log2 + 1:Nat):Int) - ((23:Nat):Int)) (-149) = max (p + 1 + (a.log2:Int) - ((23:Nat):Int)) (-149):=by congr 1;omega
  simp only [e]
  generalize max (p + 1 + (a.log2:Int) - ((23:Nat):Int)) (-149) = last
  congr 3
  by_cases h:last ≤ p
  · rw [show (last - p).toNat = 0 from by omega,show (last - (p + 1)).toNat = 0 from by omega,cut_none,cut_none,show (p + 1 - last).toNat = (p - last).toNat + 1 from by omega,
      Nat.shiftLeft_eq,Nat.shiftLeft_eq,Nat.pow_succ]
    rw [Nat.mul_comm 2 a,Nat.mul_assoc,Nat.mul_comm 2]
  · rw [show (p - last).toNat = 0 from by omega,show (p + 1 - last).toNat = 0 from by omega,show (last - p).toNat = (last - (p + 1)).toNat + 1 from by omega]
    exact cut_two neg a _ ha
theorem snearest_pow (neg:Bool) (a:Nat) (k:Nat):∀ p:Int,single.nearest neg (a * 2 ^ k) p = single.nearest neg a (p + k):=by
  by_cases ha:a = 0
  · intro p;subst ha;simp [Format.nearest]
  induction k with
  | zero => intro p;simp
  | succ k ih =>
    intro p
    have:a * 2 ^ (k + 1) = 2 * (a * 2 ^ k):=by rw [Nat.pow_succ,Nat.mul_comm 2,Nat.mul_assoc]
    rw [this,snearest_two _ _ _ (Nat.mul_ne_zero ha (by simp)),ih]
    congr 1;omega
theorem sread_word (neg:Bool) {r:Nat} (h:r < 2147483648):single.read (single.word neg r) = if r < 8388608 then .number neg r (-149)
    else if r < 2139095040 then .number neg (8388608 + r % 8388608) (-149 + (r / 8388608 - 1:Nat))
    else if r = 2139095040 then .infinity neg else .nan neg (r - 2139095040):=by
  unfold Format.read Format.word
  rw [sgl_sign,sgl_binade,sgl_inf,sgl_least]
  have h1:((if neg = true then 2147483648 + r else r) / 2147483648 % 2 == 1) = neg:=by
    cases neg
    · simp only [Bool.false_eq_true,if_false];rw [Nat.div_eq_of_lt h];rfl
    · simp only [if_true];rw [Nat.add_div_left _ (by decide),Nat.div_eq_of_lt h];rfl
  have h2:(if neg = true then 2147483648 + r else r) % 2147483648 = r:=by
    cases neg
    · simp only [Bool.false_eq_true,if_false];exact Nat.mod_eq_of_lt h
    · simp only [if_true];rw [Nat.add_mod_left];exact Nat.mod_eq_of_lt h
  simp only [h1,h2]
theorem sread_nearest (neg:Bool) {a:Nat} {p:Int} (ha:a < 2 ^ 24) (hp:-149 ≤ p) (hq:p ≤ 104) :
    ∃ (k:Nat) (l:Int),single.read (single.nearest neg a p) = .number neg (a * 2 ^ k) l ∧ l + k = p ∧ -149 ≤ l:=by
  by_cases h0:a = 0
  · subst h0
    refine ⟨(p + 149).toNat,-149,?_,by omega,Int.le_refl _⟩
    unfold Format.nearest
    rw [if_pos rfl,sread_word _ (by decide),if_pos (by decide)]
    simp
  have hlog:a.log2 ≤ 23:=by
    have:=(Nat.log2_lt h0 (k:=24)).2 ha;omega
  obtain ⟨last,hl⟩:∃ last,last = max (p + (a.log2:Int) - 23) (-149):=⟨_,rfl⟩
  refine ⟨(p - last).toNat,last,?_,by omega,by omega⟩
  unfold Format.nearest
  rw [if_neg h0,sgl_least,sgl_frac,sgl_binade,sgl_inf]
  simp only [show ((23:Nat):Int) = 23 from rfl,← hl]
  rw [show (last - p).toNat = 0 from by omega,cut_none,Nat.shiftLeft_eq]
  have hk:a.log2 + (p - last).toNat ≤ 23:=by omega
  have hlt:a * 2 ^ (p - last).toNat < 2 ^ 24:=by
    have h1:a < 2 ^ (a.log2 + 1):=Nat.lt_log2_self
    calc a * 2 ^ (p - last).toNat < 2 ^ (a.log2 + 1) * 2 ^ (p - last).toNat:=Nat.mul_lt_mul_of_pos_right h1 (Nat.pow_pos (by decide))
      _ = 2 ^ (a.log2 + 1 + (p - last).toNat):=(Nat.pow_add ..).symm
      _ ≤ 2 ^ 24:=Nat.pow_le_pow_right (by decide) (by omega)
  by_cases hc:last = -149
  · rw [hc] at hlt ⊢
    simp only [show (-149 - -149:Int).toNat = 0 from rfl,Nat.zero_mul,Nat.zero_add]
    generalize a * 2 ^ (p - -149).toNat = n at hlt
    rw [Nat.min_eq_left (by omega),sread_word _ (by omega)]
    by_cases hn:n < 8388608
    · rw [if_pos hn]
    · rw [if_neg hn,if_pos (by omega)]
      have e1:n / 8388608 = 1:=by omega
      have e2:8388608 + n % 8388608 = n:=by omega
      rw [e1,e2];rfl
  · have hle:last = p + (a.log2:Int) - 23:=by omega
    have hge:2 ^ 23 ≤ a * 2 ^ (p - last).toNat:=by
      have h1:2 ^ a.log2 ≤ a:=Nat.log2_self_le h0
      calc 2 ^ 23 = 2 ^ a.log2 * 2 ^ (p - last).toNat:=by rw [← Nat.pow_add];congr 1;omega
        _ ≤ a * 2 ^ (p - last).toNat:=Nat.mul_le_mul_right _ h1
    generalize a * 2 ^ (p - last).toNat = n at hlt hge
    obtain ⟨j,hj⟩:∃ j:Nat,j = (last - -149).toNat:=⟨_,rfl⟩
    rw [← hj]
    have hj1:1 ≤ j ∧ j ≤ 253:=by omega
    have hj2:last = -149 + j:=by omega
    have hr:j * 8388608 + n < 2139095040:=by omega
    rw [Nat.min_eq_left (Nat.le_of_lt hr),sread_word _ (by omega),if_neg (by omega),if_pos hr]
    have e1:(j * 8388608 + n) / 8388608 = j + 1:=by omega
    have e2:8388608 + (j * 8388608 + n) % 8388608 = n:=by omega
    rw [e1,e2,hj2];simp
theorem single24 {x:Nat} {s:Bool} {m:Nat} {e:Int} (h:single.read x = .number s m e):m < 2 ^ 24:=by
  unfold Format.read at h
  rw [sgl_sign,sgl_binade,sgl_inf,sgl_least] at h
  simp only at h
  split at h
  · cases h;omega
  · split at h
    · cases h;omega
    · split at h <;> cases h
theorem fV_sgn {z:Int} {s:Bool} {p:Int} (hs:z ≠ 0 → s = decide (z < 0)):fV s z.natAbs p = z * 2 ^ (p + 1100).toNat:=by
  unfold fV
  rw [signed_eq]
  by_cases h0:z = 0
  · subst h0;cases s <;> simp
  · rw [hs h0]
    by_cases hz:z < 0
    · rw [decide_eq_true hz,if_pos rfl]
      have:(z.natAbs:Int) = -z:=by omega
      rw [Int.natCast_mul,this,Int.natCast_pow,Int.neg_mul];simp
    · rw [decide_eq_false hz]
      have:(z.natAbs:Int) = z:=by omega
      simp only [Bool.false_eq_true,if_false]
      rw [Int.natCast_mul,this,Int.natCast_pow];simp
theorem fV_signed (s:Bool) (m:Nat) {l b:Int} (h:b ≤ l) (hb:-1100 ≤ b):signed s m (l - b).toNat * 2 ^ (b + 1100).toNat = fV s m l:=by
  unfold fV
  rw [← signed_mul]
  congr 1;omega
theorem sum_exact {d e:Datum} {s t:Bool} {m n:Nat} {i j:Int} (hd:d = .number s m i) (he:e = .number t n j) (hi:-149 ≤ i) (hj:-149 ≤ j) {z:Int} {k:Nat}
    (hz:signed s m (i - min i j).toNat + signed t n (j - min i j).toNat = z * 2 ^ k) (hz24:z.natAbs < 2 ^ 24) (hk:min i j + k ≤ 104) :
    ∃ r,(d.sum e).map single.write = some r ∧ isNum r ∧ fOf r = fV s m i + fV t n j:=by
  subst hd;subst he
  obtain ⟨b,hb⟩:∃ b,b = min i j:=⟨_,rfl⟩
  rw [← hb] at hz hk
  have hpk:(0:Int) < 2 ^ k:=Int.pow_pos (by decide)
  obtain ⟨sg,hsg⟩:∃ sg,sg = (if z * 2 ^ k = 0 then s && t else decide (z * 2 ^ k < 0)):=⟨_,rfl⟩
  have e1:(Datum.number s m i).sum (.number t n j) = some (.number sg (z * 2 ^ k).natAbs b):=by
    show some (Datum.number (if signed s m (i - min i j).toNat + signed t n (j - min i j).toNat = 0 then s && t else decide (signed s m (i - min i j).toNat + signed t n (j - min i j).toNat < 0)) (signed s m (i - min i j).toNat + signed t n (j - min i j).toNat).natAbs (min i j)) = _
    rw [← hb,hz,hsg]
  have e2:(z * 2 ^ k).natAbs = z.natAbs * 2 ^ k:=by rw [Int.natAbs_mul];simp [Int.natAbs_pow]
  have hs:z ≠ 0 → sg = decide (z < 0):=by
    intro h0
    rw [hsg,if_neg (Int.mul_ne_zero h0 (by omega))]
    refine decide_eq_decide.2 ⟨fun h => ?_,fun h => Int.mul_neg_of_neg_of_pos h hpk⟩
    rcases Int.lt_or_le z 0 with h1|h1
    · exact h1
    · have:=Int.mul_nonneg h1 (Int.le_of_lt hpk);omega
  rw [e1,e2]
  refine ⟨_,rfl,?_⟩
  show isNum (single.nearest sg (z.natAbs * 2 ^ k) b) ∧ fOf (single.nearest sg (z.natAbs * 2 ^ k) b) = _
  rw [snearest_pow]
  obtain ⟨k',l,h1,h2,h3⟩:=sread_nearest sg (a:=z.natAbs) (p:=b + k) hz24 (by omega) hk
  refine ⟨⟨_,_,_,h1⟩,?_⟩
  unfold fOf
  rw [h1]
  show fV sg (z.natAbs * 2 ^ k') l = _
  rw [fV_pow _ _ _ h2 (by omega),fV_sgn hs,← fV_signed s m (l:=i) (b:=b) (by omega) (by omega),← fV_signed t n (l:=j) (b:=b) (by omega) (by omega),← Int.add_mul,hz,Int.mul_assoc,← Int.pow_add]
  congr 2;omega
theorem fOf_of {x:Nat} {s:Bool} {m:Nat} {i:Int} (h:single.read x = .number s m i):fOf x = fV s m i:=by unfold fOf;rw [h]
theorem tr_of_val {s:Bool} {m:Nat} {p z:Int} (hp:-1100 ≤ p) (h:fV s m p = z * 2 ^ uE):fTr s m p = z:=by
  obtain ⟨u,hu⟩:∃ u:Nat,u = 1100:=⟨_,rfl⟩
  rw [uE_eq,← hu] at h
  obtain ⟨d,hd⟩:∃ d:Nat,d = (-p).toNat:=⟨_,rfl⟩
  obtain ⟨n,hn⟩:∃ n:Nat,n = m * 2 ^ p.toNat:=⟨_,rfl⟩
  have hdu:d ≤ u:=by omega
  have e2:fV s m p = signed s n (u - d):=by
    unfold fV
    rw [signed_eq,signed_eq,hn,Nat.mul_assoc,← Nat.pow_add]
    have:(p + 1100).toNat = p.toNat + (u - d):=by omega
    rw [this]
  have hsplit:(2:Int) ^ u = 2 ^ d * 2 ^ (u - d):=by rw [← Int.pow_add];congr 1;omega
  rw [e2,signed_eq,hsplit,← Int.mul_assoc] at h
  unfold fTr
  rw [← hd,← hn,signed_zero]
  have hpos:(0:Int) < 2 ^ (u - d):=Int.pow_pos (by decide)
  have hdpos:(0:Int) < 2 ^ d:=Int.pow_pos (by decide)
  have h2:(if s = true then -(n:Int) else (n:Int)) = z * 2 ^ d:=by
    apply Int.eq_of_mul_eq_mul_right (a:=2 ^ (u - d)) (by omega)
    rw [← h]
    cases s <;> simp [Int.natCast_mul,Int.natCast_pow,Int.neg_mul]
  have h3:n = z.natAbs * 2 ^ d:=by
    have h4:=congrArg Int.natAbs h2
    rw [Int.natAbs_mul,Int.natAbs_pow] at h4
    cases s <;> simpa using h4
  rw [h3,Nat.mul_div_cancel _ (Nat.pow_pos (by decide))]
  cases s
  · simp only [Bool.false_eq_true,if_false] at h2 ⊢
    rcases Int.lt_or_le z 0 with hz|hz
    · have:=Int.mul_neg_of_neg_of_pos hz hdpos;omega
    · omega
  · simp only [if_true] at h2 ⊢
    rcases Int.lt_or_le 0 z with hz|hz
    · have:=Int.mul_pos hz hdpos;omega
    · omega
theorem smp_val {y:Nat} (hy:isNum y) {z:Int} (h:16 * fOf y = z * uP) (hz:-32768 ≤ z ∧ z ≤ 32768):smpE y = 0 ∧ six y = z:=by
  obtain ⟨s,m,e,hr⟩:=hy
  obtain ⟨g1,g2,g3⟩:=read_single hr
  have hf:=fOf_of hr
  have h16:fV s m (e + 4) = z * 2 ^ uE:=by
    have:=h
    rw [hf] at this
    unfold uP at this
    rw [← this,fV_16 g1 (by omega) (by omega)];omega
  have htr:=tr_of_val (by omega) h16
  have b1:fV true 32768 0 = -32768 * 2 ^ uE:=by have h:=fV_int (-32768);rw [show decide ((-32768:Int) < 0) = true from by decide,show ((-32768:Int)).natAbs = 32768 from by decide] at h;exact h
  have b2:fV false 32768 0 = 32768 * 2 ^ uE:=by have h:=fV_int 32768;rw [show decide ((32768:Int) < 0) = false from by decide,show ((32768:Int)).natAbs = 32768 from by decide] at h;exact h
  have hp:(0:Int) < 2 ^ uE:=uP_pos
  constructor
  · unfold smpE
    rw [hr]
    simp only
    rw [if_neg]
    simp only [not_or,Bool.not_eq_false]
    rw [h16,b1,b2]
    refine ⟨?_,?_,?_⟩
    · have:=Int.mul_le_mul_of_nonneg_right hz.1 (Int.le_of_lt hp);omega
    · have:=Int.mul_le_mul_of_nonneg_right hz.2 (Int.le_of_lt hp);omega
    · unfold fWhole;rw [htr,h16];simp
  · unfold six;rw [hr];exact htr
theorem plus0_val {x:Nat} (h:smpE x = 0):smpE (plus0 x) = 0 ∧ six (plus0 x) = six x ∧ fOf (plus0 x) = fOf x:=by
  obtain ⟨s,m,e,hr⟩:=smp_num h
  obtain ⟨g1,g2,g3⟩:=read_single hr
  have h24:=single24 hr
  have h0:single.read 0 = .number false 0 (-149):=by decide
  have hmin:min e (-149) = -149:=by omega
  obtain ⟨r,h1,h2,h3⟩:=sum_exact (d:=single.read x) (e:=single.read 0) (z:=signed s m 0) (k:=(e + 149).toNat) hr h0 g2 (Int.le_refl _)
    (by rw [hmin,show (e - -149).toNat = 0 + (e + 149).toNat from by omega,signed_mul];simp [signed_eq]) (by rw [signed_zero];split <;> simp <;> omega) (by omega)
  have e1:plus0 x = r:=by
    unfold plus0 Format.add
    rw [h1];rfl
  have e2:fV false 0 (-149) = 0:=by unfold fV;rw [signed_eq,Nat.zero_mul];rfl
  rw [e1]
  rw [e2,Int.add_zero,← fOf_of hr] at h3
  obtain ⟨k1,k2⟩:=smp_val h2 (z:=six x) (by rw [h3,whole16 h]) (six_small h)
  exact ⟨k1,k2,h3⟩
end Go.Nac
namespace Go.Nac
def goodAt (l:List Nat) (g:List Spn) (lv:Nat) (t:Nat):Bool:=decide (t < l.length) && !gapAt g t && decide (fOf (l.getD t 0) ≤ fOf lv)
def spR (l:List Nat) (g:List Spn) (lv:Nat) (n:Int):Nat → List Spn × Int
  | 0 => ([],0)
  | t + 1 => if goodAt l g lv t = true then spR l g lv n t else (if n ≤ (t:Int) - (spR l g lv n t).2 then (spR l g lv n t).1 ++ [⟨(spR l g lv n t).2,t⟩] else (spR l g lv n t).1,(t:Int) + 1)
def p0 (p:Nat × Nat):Nat × Nat:=(p.1,plus0 p.2)
def sttEq (a b:Stt):Prop:=a.count = b.count ∧ a.sum = b.sum ∧ (smpE a.least = 0 ∧ smpE b.least = 0 ∧ fOf a.least = fOf b.least) ∧ smpE a.most = 0 ∧ smpE b.most = 0 ∧ fOf a.most = fOf b.most
end Go.Nac
namespace Go.Nac
def mvG (n:Int) (l:List Spn):List Spn:=l.map fun x => ⟨x.fr + n,x.to_ + n⟩
theorem mvG_len (n:Int) (l:List Spn):(mvG n l).length = l.length:=by simp [mvG]
def sumW (a:Ser):Int:=IntKind.i64.wrap (a.start + a.samples.length)
def apdE (a b:Ser):Int:=fst0 [chkSer a,chkSer b,if a.name = b.name then 0 else 30,if b.start = sumW a then 0 else 11,if (40000:Int) < (a.samples.length:Int) + b.samples.length then 5 else 0]
def apdG (a b:Ser):List Spn:=joinOf a.gaps (mvG a.samples.length b.gaps)
def apdS (a b:Ser):Ser:=⟨a.name,a.start,a.samples ++ b.samples,apdG a b⟩
def ser0:Ser:=⟨⟨#[]⟩,0,[],[]⟩
def apdR (a b:Ser):Ser × Int:=if ¬ apdE a b = 0 then (ser0,apdE a b) else if 1024 < (apdG a b).length then (ser0,5) else (apdS a b,0)
theorem encS_0:encSer ser0 = .agg [.s (.string ⟨#[]⟩),.I 0,.fs [],.fs []]:=rfl
def chkApp (a b:Ser):Int:=if ¬ a.name = b.name then 30 else if ¬ b.start = sumW a then 11 else if (40000:Int) < (a.samples.length:Int) + b.samples.length then 5 else if 1024 < (apdG a b).length then 5 else 0
theorem fst0_five {a b c d e:Int} (h:fst0 [a,b,c,d,e] = 0):a = 0 ∧ b = 0 ∧ c = 0 ∧ d = 0 ∧ e = 0:=by
  have:=fst0_in0 h
  exact ⟨this a (by simp),this b (by simp),this c (by simp),this d (by simp),this e (by simp)⟩
end Go.Nac
namespace Go.Nac
def spL (s:Ser) (lv:Nat):List Spn:=spTo lv (recOf s.samples s.gaps)
def sttS (s:Ser):Stt:=sttTo (recOf s.samples s.gaps)
end Go.Nac
namespace Go.Nac
def cutX (x:Spn) (f t:Int):List Spn:=if max x.fr f < min x.to_ t then [⟨max x.fr f - f,min x.to_ t - f⟩] else []
def cutG (g:List Spn) (f t:Int):List Spn:=g.flatMap fun x => cutX x f t
def cutS (s:Ser) (f t:Nat):Ser:=⟨s.name,s.start + f,(s.samples.drop f).take (t - f),cutG s.gaps f t⟩
end Go.Nac
namespace Go.Nac
def sumL (l:List Nat):Int:=l.foldl (fun a x => a + six x) 0
end Go.Nac
namespace Go.Nac
def stepR (a b:Ser) (k:Nat) (o:Option Rse):Option Rse:=if gapAt a.gaps k = true then o else blStep b o (k,a.samples.getD k 0)
def runR (a b:Ser) (f:Nat):Nat → Option Rse → Option Rse
  | 0,o => o
  | j + 1,o => stepR a b (f + j) (runR a b f j o)
end Go.Nac
namespace Go.Nac
def keepsP (f:Pt → Pt):Prop:=∀ a b:Pt,apartP (f a) (f b) = apartP a b
theorem keeps_trn (n:Nat):keepsP (trnN n):=by
  intro a b
  induction n with
  | zero => rfl
  | succ n ih =>
    rw [← ih]
    unfold apartP
    simp only [trnN]
    have h:-(trnN n a).x - -(trnN n b).x = -((trnN n a).x - (trnN n b).x):=by omega
    rw [h,Int.neg_mul_neg,Int.add_comm]
def addP (b p:Pt):Pt:=⟨p.x + b.x,p.y + b.y⟩
theorem mvT_back {f g:Pt → Pt} (h:∀ p,g (f p) = p) (t:Tb):mvT g (mvT f t) = t:=by
  show (⟨t.name,(g (f t.at_)).x,(g (f t.at_)).y⟩:Tb) = t
  rw [h];rfl
theorem tbE_mv {f:Pt → Pt} (hf:keepsP f) {least:Int} {pre:List Tb} {t:Tb} (h:tbE least pre t = 0) (ht:ptE (f t.at_) = 0):tbE least (pre.map (mvT f)) (mvT f t) = 0:=by
  obtain ⟨h1,h2,h3,h4⟩:=tbE_parts h
  refine tbE_ok h1 ht ?_ ?_
  · rw [List.any_map];exact h3
  · rw [List.any_map]
    rw [← h4]
    congr 1
    funext o
    show decide (apartP (f t.at_) (f o.at_) < least * least) = _
    rw [hf]
theorem chkSte_ok {nm:ByteArray} {least:Int} {l:List Tb} (h1:nameOk nm = true) (h2:1 ≤ least ∧ least ≤ 1000) (h3:l.length ≤ 64) (h4:∀ (i:Nat) (t:Tb),l[i]? = some t → tbE least (l.take i) t = 0):chkSte ⟨nm,least,l⟩ = 0:=by
  unfold chkSte
  simp only
  rw [if_neg (by simp [h1]),rng_ok.2 h2,if_neg (by decide),if_neg (by omega)]
  have key:∀ k:Nat,k ≤ (tbL least l).length → fst0 ((tbL least l).drop ((tbL least l).length - k)) = 0:=by
    intro k
    induction k with
    | zero => intro _;rw [Nat.sub_zero,List.drop_length];rfl
    | succ k ih =>
      intro hk
      have hl:(tbL least l).length = l.length:=tbL_len
      obtain ⟨t,ht⟩:∃ t,l[l.length - (k + 1)]? = some t:=⟨_,List.getElem?_eq_getElem (by omega)⟩
      have hg:=tbL_get (least:=least) ht
      rw [h4 _ t ht] at hg
      rw [hl] at ih ⊢
      rw [fst0_drop _ _ _ hg,if_pos rfl,show l.length - (k + 1) + 1 = l.length - k from by omega]
      exact ih (by omega)
  have:=key _ (Nat.le_refl _)
  rwa [Nat.sub_self,List.drop_zero] at this
theorem chkSte_mv {f:Pt → Pt} (hf:keepsP f) {s:Ste} (h:chkSte s = 0) (hp:∀ t ∈ s.tbs,ptE (f t.at_) = 0):chkSte ⟨s.name,s.least,s.tbs.map (mvT f)⟩ = 0:=by
  obtain ⟨h1,h2,h3,h4⟩:=chkSte_in h
  refine chkSte_ok h1 h2 (by rw [List.length_map];exact h3) ?_
  intro i t ht
  rw [List.getElem?_map] at ht
  obtain ⟨u,hu,rfl⟩:=Option.map_eq_some_iff.1 ht
  rw [← List.map_take]
  exact tbE_mv hf (h4 i u (List.getElem?_eq_some_iff.1 hu).1 hu) (hp u (List.mem_of_getElem? hu))
theorem trn_back {k:Nat} (hk:k < 4) (p:Pt):trnN ((4 - k) % 4) (trnN k p) = p:=by
  obtain ⟨x,y⟩:=p
  have:k = 0 ∨ k = 1 ∨ k = 2 ∨ k = 3:=by omega
  rcases this with rfl|rfl|rfl|rfl <;> simp [trnN]
theorem ptE_of {p:Pt} (h:ptIn p):ptE p = 0:=by
  unfold ptIn at h
  unfold ptE
  rw [rng_ok.2 ⟨h.1,h.2.1⟩,rng_ok.2 ⟨h.2.2.1,h.2.2.2⟩];rfl
end Go.Nac
namespace Go.Nac
theorem blk_set {r:Rse} {k j:Nat} {b:List Int} (h:r.length = 408) (hk:k < 8) (hj:j < 8) (hb:b.length = 51):blk (setBlk r k b) j = if j = k then b else blk r j:=by
  apply List.ext_getElem?
  intro i
  have hl:=setBlk_len h hk hb
  rcases Nat.lt_or_ge i 51 with hi|hi
  case inr =>
    have e1:(blk (setBlk r k b) j)[i]? = none:=List.getElem?_eq_none (by rw [blk_len hl hj];exact hi)
    have e2:(if j = k then b else blk r j)[i]? = none:=by
      split
      · exact List.getElem?_eq_none (by omega)
      · exact List.getElem?_eq_none (by rw [blk_len h hj];exact hi)
    rw [e1,e2]
  have e1:(blk (setBlk r k b) j)[i]? = (setBlk r k b)[j * 51 + i]?:=by
    unfold blk
    rw [List.getElem?_take_of_lt hi,List.getElem?_drop]
  rw [e1]
  unfold setBlk
  by_cases hjk:j = k
  · subst hjk
    rw [if_pos rfl,List.append_assoc,List.getElem?_append_right (by rw [List.length_take];omega),List.length_take,List.getElem?_append_left (by omega)]
    congr 1;omega
  · rw [if_neg hjk]
    have e2:(blk r j)[i]? = r[j * 51 + i]?:=by
      unfold blk
      rw [List.getElem?_take_of_lt hi,List.getElem?_drop]
    rw [e2]
    rcases Nat.lt_or_ge j k with h2|h2
    · rw [List.append_assoc,List.getElem?_append_left (by rw [List.length_take];omega),List.getElem?_take_of_lt (by omega)]
    · rw [List.getElem?_append_right (by rw [List.length_append,List.length_take];omega),List.length_append,List.length_take,List.getElem?_drop]
      congr 1;omega
theorem trnR_blk {r:Rse} {q:Nat} (h:r.length = 408):∀ {k:Nat},k ≤ 8 → ∀ j:Nat,j < k → blk (trnR r q k) ((j + 2 * q) % 8) = blk r j:=by
  intro k
  induction k with
  | zero => intro _ j hj;omega
  | succ k ih =>
    intro hk j hj
    show blk (setBlk (trnR r q k) ((k + 2 * q) % 8) (blk r k)) ((j + 2 * q) % 8) = blk r j
    rw [blk_set (trnR_len h (by omega)) (Nat.mod_lt _ (by decide)) (Nat.mod_lt _ (by decide)) (blk_len h (by omega))]
    by_cases hjk:j = k
    · subst hjk;rw [if_pos rfl]
    · rw [if_neg (by omega)]
      exact ih (by omega) j (by omega)
end Go.Nac
namespace Go.Nac
def in900 (p:Pt):Prop:=max p.x p.y ≤ 900 ∧ -900 ≤ min p.x p.y
def pairS (a b:ByteArray) (nm:ByteArray) (p q:Pt):Ste:=⟨nm,1,[⟨a,p.x,p.y⟩,⟨b,p.x + q.x,p.y + q.y⟩]⟩
end Go.Nac
namespace Go.Nac
def spl (c:UInt8):List UInt8 → List (List UInt8)
  | [] => [[]]
  | x :: r => if x = c then [] :: spl c r else match spl c r with
    | h :: t => (x :: h) :: t
    | [] => [[x]]
theorem spl_ne (c:UInt8) (l:List UInt8):spl c l ≠ []:=by
  cases l with
  | nil => simp [spl]
  | cons x r =>
    unfold spl
    split
    · simp
    · split <;> simp
theorem spl_miss {c:UInt8}:∀ {w:List UInt8},c ∉ w → spl c w = [w]
  | [],_ => rfl
  | x :: r,h => by
    simp only [List.mem_cons,not_or] at h
    unfold spl
    rw [if_neg (fun e => h.1 e.symm),spl_miss h.2]
theorem spl_hit {c:UInt8} {r:List UInt8}:∀ {w:List UInt8},c ∉ w → spl c (w ++ c :: r) = w :: spl c r
  | [],_ => by simp [spl]
  | x :: w,h => by
    simp only [List.mem_cons,not_or] at h
    rw [List.cons_append,spl,if_neg (fun e => h.1 e.symm),spl_hit h.2]
theorem spl_first {c:UInt8}:∀ {l:List UInt8},c ∈ l → ∃ w r,c ∉ w ∧ l = w ++ c :: r
  | x :: l,h => by
    by_cases hx:x = c
    · exact ⟨[],l,by simp,by rw [hx];rfl⟩
    · have:c ∈ l:=by
        rcases List.mem_cons.1 h with rfl|h
        · exact absurd rfl hx
        · exact h
      obtain ⟨w,r,h1,h2⟩:=spl_first this
      exact ⟨x :: w,r,by simp [h1];exact fun e => hx e.symm,by rw [h2];rfl⟩
theorem indexB1_miss {c:UInt8}:∀ {w:List UInt8},c ∉ w → Lib.indexByte w c = -1
  | [],_ => rfl
  | x :: r,h => by
    simp only [List.mem_cons,not_or] at h
    unfold Lib.indexByte
    rw [if_neg (by simpa using fun e => h.1 (e:x = c).symm),indexB1_miss h.2];rfl
theorem indexB1_hit {c:UInt8} {r:List UInt8}:∀ {w:List UInt8},c ∉ w → Lib.indexByte (w ++ c :: r) c = w.length
  | [],_ => by simp [Lib.indexByte]
  | x :: w,h => by
    simp only [List.mem_cons,not_or] at h
    rw [List.cons_append]
    unfold Lib.indexByte
    rw [if_neg (by simpa using fun e => h.1 (e:x = c).symm),indexB1_hit h.2,if_neg (by simp)]
    simp
theorem cut_miss {c:UInt8} {l:List UInt8} (h:c ∉ l):Lib.cut l [c] = (l,[],false):=by
  unfold Lib.cut
  rw [Lib.index_one,indexB1_miss h];rfl
theorem cut_hit {c:UInt8} {w r:List UInt8} (h:c ∉ w):Lib.cut (w ++ c :: r) [c] = (w,r,true):=by
  unfold Lib.cut
  rw [Lib.index_one,indexB1_hit h,if_pos (by omega)]
  simp
theorem count_miss {c:UInt8} {l:List UInt8} (h:c ∉ l):∀ n,Lib.countFrom [c] n l = 0
  | 0 => rfl
  | n + 1 => by unfold Lib.countFrom;rw [Lib.index_one,indexB1_miss h];rfl
theorem split_spl (c:UInt8):∀ (n:Nat) (l:List UInt8) (k f:Nat),l.length ≤ n → l.length < f → Lib.countFrom [c] f l ≤ k → Lib.splitK [c] 0 k l = spl c l ∧ (spl c l).length = Lib.countFrom [c] f l + 1
  | n,l,k,f,hn,hf,hk => by
    by_cases h:c ∈ l
    · obtain ⟨w,r,h1,rfl⟩:=spl_first h
      obtain ⟨f,rfl⟩:∃ g,f = g + 1:=⟨f - 1,by omega⟩
      have hc:Lib.countFrom [c] (f + 1) (w ++ c :: r) = 1 + Lib.countFrom [c] f r:=by
        rw [Lib.countFrom,Lib.index_one,indexB1_hit h1,if_neg (by simp)]
        congr 2
        simp
      simp only [List.length_append,List.length_cons] at hn hf
      cases n with
      | zero => omega
      | succ n =>
      rw [hc] at hk ⊢
      obtain ⟨k,rfl⟩:∃ g,k = g + 1:=⟨k - 1,by omega⟩
      obtain ⟨i1,i2⟩:=split_spl c n r k f (by omega) (by omega) (by omega)
      rw [spl_hit h1,List.length_cons,i2]
      refine ⟨?_,by omega⟩
      rw [Lib.splitK,Lib.index_one,indexB1_hit h1,if_neg (by simp)]
      simp [i1]
    · rw [spl_miss h,count_miss h]
      refine ⟨?_,rfl⟩
      cases k with
      | zero => rfl
      | succ k => unfold Lib.splitK;rw [Lib.index_one,indexB1_miss h];rfl
theorem splitB_spl (c:UInt8) (s:ByteArray):(Lib.splitB ⟨#[c]⟩ 0 (Lib.countB s ⟨#[c]⟩) s).map (·.data.toList) = spl c s.data.toList ∧ (Lib.splitB ⟨#[c]⟩ 0 (Lib.countB s ⟨#[c]⟩) s).length = Lib.countB s ⟨#[c]⟩ + 1:=by
  have e1:=Lib.splitB_data ⟨#[c]⟩ 0 (Lib.countB s ⟨#[c]⟩) s
  have e2:Lib.countB s ⟨#[c]⟩ = Lib.countFrom [c] (s.data.toList.length + 1) s.data.toList:=rfl
  obtain ⟨h1,h2⟩:=split_spl c s.data.toList.length s.data.toList (Lib.countB s ⟨#[c]⟩) (s.data.toList.length + 1) (Nat.le_refl _) (by omega) (by rw [e2];exact Nat.le_refl _)
  have e3:(Lib.splitB ⟨#[c]⟩ 0 (Lib.countB s ⟨#[c]⟩) s).map (·.data.toList) = spl c s.data.toList:=e1.trans h1
  refine ⟨e3,?_⟩
  have:=congrArg List.length e3
  rw [List.length_map,h2,← e2] at this
  exact this
theorem toL_inj {a b:ByteArray} (h:a.data.toList = b.data.toList):a = b:=by
  obtain ⟨⟨a⟩⟩:=a
  obtain ⟨⟨b⟩⟩:=b
  simp at h
  rw [h]
theorem splitB_eq (c:UInt8) (s:ByteArray):Lib.splitB ⟨#[c]⟩ 0 (Lib.countB s ⟨#[c]⟩) s = (spl c s.data.toList).map bs:=by
  rw [← (splitB_spl c s).1,List.map_map]
  conv => lhs;rw [← List.map_id (Lib.splitB _ _ _ _)]
  exact List.map_congr_left fun x _ => toL_inj rfl
end Go.Nac
namespace Go.Nac
open Lib (decFrom digitVal decDigits itoa atoiAll parseUint10 parseMag)
def numP (w:List UInt8):Option Nat:=if w = [] ∨ 9 < w.length ∨ (1 < w.length ∧ w.head? = some 48) then none else decFrom 0 w
def numR:List UInt8 → Int × Bool
  | [] => (0,false)
  | c :: r => if c = 45 then (-(numR r).1,(numR r).2 && decide (0 < (numR r).1)) else match numP (c :: r) with
    | some n => ((n:Int),true)
    | none => (0,false)
theorem dig_of (d:Nat) (h:d < 10):digitVal (UInt8.ofNat (48 + d)) = some d:=by
  have h1:(UInt8.ofNat (48 + d)).toNat = 48 + d:=UInt8.toNat_ofNat_of_lt' (by show 48 + d < 256;omega)
  unfold digitVal
  rw [h1,if_pos (by omega)]
  congr 1;omega
theorem of_dig {b:UInt8} {d:Nat} (h:digitVal b = some d):d < 10 ∧ b = UInt8.ofNat (48 + d):=by
  obtain ⟨h1,h2,h3⟩:=Lib.digitVal_eq h
  refine ⟨by omega,?_⟩
  have:48 + d = b.toNat:=by omega
  rw [this];simp
theorem decFrom_app:∀ (l:List UInt8) (acc:Nat) (b:UInt8),decFrom acc (l ++ [b]) = (decFrom acc l).bind fun m => (digitVal b).map fun d => m * 10 + d
  | [],acc,b => by
    rw [List.nil_append]
    unfold decFrom
    cases digitVal b <;> rfl
  | x :: l,acc,b => by
    rw [List.cons_append]
    unfold decFrom
    cases digitVal x with
    | none => rfl
    | some d => exact decFrom_app l _ b
theorem decDigits_dec (n:Nat):decFrom 0 (decDigits n) = some n:=by
  induction n using Nat.strongRecOn with
  | ind n ih =>
    unfold decDigits
    split
    · rename_i h
      have:=dig_of n h
      unfold decFrom
      rw [this]
      simp [decFrom]
    · rename_i h
      rw [decFrom_app,ih (n / 10) (by omega),dig_of (n % 10) (by omega)]
      simp
      omega
theorem decDigits_ne (n:Nat):decDigits n ≠ []:=by
  unfold decDigits
  split <;> simp
theorem decDigits_head (n:Nat) (h:1 < (decDigits n).length):(decDigits n).head? ≠ some 48:=by
  induction n using Nat.strongRecOn with
  | ind n ih =>
    unfold decDigits at h ⊢
    split
    · rename_i h1;rw [dif_pos h1] at h;simp at h
    · rename_i h1
      rw [dif_neg h1] at h
      by_cases h2:n / 10 < 10
      · have h3:decDigits (n / 10) = [UInt8.ofNat (48 + n / 10)]:=by unfold decDigits;rw [dif_pos h2]
        rw [h3]
        simp only [List.cons_append,List.head?_cons,ne_eq,Option.some.injEq]
        intro h4
        have h5:=congrArg UInt8.toNat h4
        rw [UInt8.toNat_ofNat_of_lt' (by show 48 + n / 10 < 256;omega)] at h5
        have:(48:UInt8).toNat = 48:=rfl
        omega
      · have h3:1 < (decDigits (n / 10)).length:=by
          rw [Lib.decDigits_length]
          rw [Lib.nDigits_big h2]
          have:=Lib.nDigits_pos (n / 10 / 10)
          omega
        have:=ih (n / 10) (by omega) h3
        have h4:=decDigits_ne (n / 10)
        cases hd:decDigits (n / 10) with
        | nil => exact absurd hd h4
        | cons x t => rw [hd] at this;simpa using this
theorem dec_digits {w:List UInt8}:∀ {n:Nat},w ≠ [] → (1 < w.length → w.head? ≠ some 48) → decFrom 0 w = some n → w = decDigits n:=by
  induction hk:w.length generalizing w with
  | zero => intro n h;exact absurd (List.eq_nil_of_length_eq_zero hk) h
  | succ k ih =>
    intro n h0 h1 h2
    obtain ⟨v,b,rfl⟩:∃ v b,w = v ++ [b]:=⟨w.dropLast,w.getLast h0,(List.dropLast_concat_getLast h0).symm⟩
    rw [decFrom_app] at h2
    cases hv:decFrom 0 v with
    | none => rw [hv] at h2;cases h2
    | some m =>
      rw [hv] at h2
      cases hd:digitVal b with
      | none => rw [hd] at h2;cases h2
      | some d =>
        rw [hd] at h2
        simp at h2
        obtain ⟨hd1,hd2⟩:=of_dig hd
        simp only [List.length_append,List.length_singleton] at hk h1
        by_cases hv0:v = []
        · subst hv0
          simp [decFrom] at hv
          subst hv
          have:n = d:=by omega
          subst this
          unfold decDigits
          rw [dif_pos hd1,hd2];rfl
        · have hvl:0 < v.length:=List.length_pos_iff.2 hv0
          have hh:(v ++ [b]).head? = v.head?:=by cases v with|nil => exact absurd rfl hv0|cons x t => rfl
          have h3:=ih (w:=v) (by omega) (n:=m) hv0 (fun _ => by rw [← hh];exact h1 (by omega)) hv
          have hm:m ≠ 0:=by
            intro h
            subst h
            have e:decDigits 0 = [48]:=by unfold decDigits;rw [dif_pos (by omega)];rfl
            rw [e] at h3
            rw [hh,h3] at h1
            exact h1 (by omega) rfl
          have e1:n / 10 = m:=by omega
          have e2:n % 10 = d:=by omega
          rw [decDigits,dif_neg (by omega),e1,e2,← h3,hd2]
theorem decFrom_mono:∀ {l:List UInt8} {acc m:Nat},decFrom acc l = some m → acc ≤ m
  | [],acc,m,h => by cases h;exact Nat.le_refl _
  | x :: l,acc,m,h => by
    unfold decFrom at h
    cases hd:digitVal x with
    | none => rw [hd] at h;cases h
    | some d => rw [hd] at h;have:=decFrom_mono h;omega
theorem parse_dec:∀ {l:List UInt8} {acc m:Nat},decFrom acc l = some m → m < 1000000000 → parseUint10 acc l = .ok m
  | [],acc,m,h,_ => by cases h;rfl
  | x :: l,acc,m,h,hm => by
    unfold decFrom at h
    cases hd:digitVal x with
    | none => rw [hd] at h;cases h
    | some d =>
      rw [hd] at h
      have h1:=decFrom_mono h
      obtain ⟨h2,h3,h4⟩:=Lib.digitVal_eq hd
      unfold parseUint10
      rw [if_pos ⟨h2,h3⟩,if_neg (by omega),if_neg (by omega),← h4]
      exact parse_dec h hm
theorem mag_dec {n:Nat} (h:n < 1000000000):parseMag (decDigits n) = .ok n:=by
  unfold parseMag
  rw [if_neg (decDigits_ne n),parse_dec (decDigits_dec n) h]
theorem nDig9 {n:Nat}:Lib.nDigits n ≤ 9 ↔ n < 1000000000:=by
  constructor
  · intro h
    have:=Lib.lt_pow_nDigits n
    have h2:10 ^ Lib.nDigits n ≤ 10 ^ 9:=Nat.pow_le_pow_right (by decide) h
    have:(10:Nat) ^ 9 = 1000000000:=rfl
    omega
  · intro h
    have h1:=decDigits_dec n
    rcases Nat.lt_or_ge 9 (Lib.nDigits n) with h2|h2
    · exfalso
      have key:∀ (k u:Nat),k < Lib.nDigits u → 1 ≤ k → 10 ^ k ≤ u:=by
        intro k
        induction k with
        | zero => intro u _ h;omega
        | succ k ih =>
          intro u hu _
          have hu10:¬ u < 10:=fun h => by rw [Lib.nDigits_small h] at hu;omega
          rw [Lib.nDigits_big hu10] at hu
          rw [Nat.pow_succ]
          cases k with
          | zero => omega
          | succ k =>
            have:=ih (u / 10) (by omega) (by omega)
            have h3:10 ^ (k + 1) * 10 ≤ u / 10 * 10:=Nat.mul_le_mul_right _ this
            omega
      have:=key 9 n h2 (by decide)
      have:(10:Nat) ^ 9 = 1000000000:=rfl
      omega
    · exact h2
def NumIs (w:List UInt8) (v:Int):Prop:=w = itoa v ∧ v.natAbs < 1000000000
theorem dig_ne (n:Nat):∀ r,decDigits n ≠ 45 :: r:=by
  intro r h
  have h1:=decDigits_dec n
  rw [h] at h1
  unfold decFrom at h1
  have:digitVal 45 = none:=by decide
  rw [this] at h1
  cases h1
theorem numP_iff {w:List UInt8} {n:Nat}:numP w = some n ↔ w = decDigits n ∧ n < 1000000000:=by
  unfold numP
  constructor
  · intro h
    split at h
    · cases h
    · rename_i hc
      simp only [not_or,not_and] at hc
      have:=dec_digits hc.1 hc.2.2 h
      refine ⟨this,nDig9.1 ?_⟩
      rw [← Lib.decDigits_length,← this]
      omega
  · rintro ⟨rfl,h⟩
    have hl:(decDigits n).length ≤ 9:=by rw [Lib.decDigits_length];exact nDig9.2 h
    rw [if_neg,decDigits_dec]
    rintro (h1|h1|⟨h1,h2⟩)
    · exact decDigits_ne n h1
    · omega
    · exact decDigits_head n h1 h2
theorem numR_plain {w:List UInt8} (h:∀ r,w ≠ 45 :: r):numR w = match numP w with|some n => ((n:Int),true)|none => (0,false):=by
  cases w with
  | nil => simp [numR,numP]
  | cons c r =>
    unfold numR
    rw [if_neg (fun e => h r (by rw [e]))]
theorem numR_iff {w:List UInt8} {v:Int}:numR w = (v,true) ↔ NumIs w v:=by
  unfold NumIs
  by_cases h:∃ r,w = 45 :: r
  · obtain ⟨r,rfl⟩:=h
    have e:numR (45 :: r) = (-(numR r).1,(numR r).2 && decide (0 < (numR r).1)):=by rw [numR,if_pos rfl]
    rw [e]
    constructor
    · intro h
      simp only [Prod.mk.injEq,Bool.and_eq_true,decide_eq_true_eq] at h
      obtain ⟨rfl,h2,h3⟩:=h
      have hp:∀ t,r ≠ 45 :: t:=by
        rintro t rfl
        rw [numR,if_pos rfl] at h2 h3
        simp at h2 h3
        omega
      rw [numR_plain hp] at h2 h3 ⊢
      cases hn:numP r with
      | none => rw [hn] at h2;cases h2
      | some n =>
        rw [hn] at h3
        simp only at h3
        obtain ⟨rfl,hlt⟩:=numP_iff.1 hn
        simp only
        refine ⟨?_,by omega⟩
        unfold itoa
        rw [if_pos (by omega)]
        have:(-(n:Int)).natAbs = n:=by omega
        rw [this]
    · rintro ⟨h1,h2⟩
      unfold itoa at h1
      split at h1
      · rename_i hv
        have h3:r = decDigits v.natAbs:=by injection h1
        have hp:∀ t,r ≠ 45 :: t:=fun t => by rw [h3];exact dig_ne _ t
        rw [numR_plain hp,numP_iff.2 ⟨h3,h2⟩]
        simp
        omega
      · exact absurd h1.symm (dig_ne _ _)
  · have hp:∀ r,w ≠ 45 :: r:=fun r e => h ⟨r,e⟩
    rw [numR_plain hp]
    constructor
    · intro h
      cases hn:numP w with
      | none => rw [hn] at h;cases h
      | some n =>
        rw [hn] at h
        simp only [Prod.mk.injEq] at h
        obtain ⟨rfl,_⟩:=h
        obtain ⟨rfl,hlt⟩:=numP_iff.1 hn
        refine ⟨?_,by omega⟩
        unfold itoa
        rw [if_neg (by omega)];rfl
    · rintro ⟨h1,h2⟩
      unfold itoa at h1
      split at h1
      · exact absurd h1 (hp _)
      · rename_i hv
        have:numP w = some v.toNat:=numP_iff.2 ⟨h1,by omega⟩
        rw [this]
        simp
        omega
def atoiI (w:List UInt8):Int:=match atoiAll w with|.ok v => v|.range => Lib.atoiSat w|_ => 0
def okW (w:List UInt8):Bool:=match atoiAll w with|.ok v => decide (itoa v = w) && decide ((Lib.trimPrefix w [45]).length ≤ 9)|_ => false
theorem atoi_in {w:List UInt8} {v:Int} (h:atoiAll w = .ok v):-9223372036854775808 ≤ v ∧ v ≤ 9223372036854775807:=by
  cases w with
  | nil => cases h
  | cons c r =>
    unfold atoiAll at h
    simp only at h
    split at h
    · cases h
    · cases h
    · split at h
      · cases h
      · split at h
        · cases h
        · injection h with h
          split at h <;> omega
theorem trim_dash (r:List UInt8):Lib.trimPrefix (45 :: r) [45] = r:=by unfold Lib.trimPrefix Lib.hasPrefix;simp
theorem trim_none {w:List UInt8} (h:∀ r,w ≠ 45 :: r):Lib.trimPrefix w [45] = w:=by
  unfold Lib.trimPrefix Lib.hasPrefix
  cases w with
  | nil => rfl
  | cons c r =>
    rw [if_neg]
    simp only [List.isPrefixOf,Bool.and_true,beq_iff_eq]
    intro e;exact h r (by rw [e])
theorem okW_is {w:List UInt8} (h:okW w = true):∃ v,NumIs w v ∧ atoiI w = v:=by
  unfold okW at h
  cases hv:atoiAll w
  · rename_i v
    rw [hv] at h
    simp only [Bool.and_eq_true,decide_eq_true_eq] at h
    refine ⟨v,⟨h.1.symm,?_⟩,by unfold atoiI;rw [hv]⟩
    have h1:=h.1
    have h2:=h.2
    unfold itoa at h1
    split at h1
    · rw [← h1,trim_dash,Lib.decDigits_length] at h2
      exact nDig9.1 h2
    · rw [← h1,trim_none (dig_ne _),Lib.decDigits_length] at h2
      have:=nDig9.1 h2
      omega
  · rw [hv] at h;cases h
  · rw [hv] at h;cases h
theorem okW_of {w:List UInt8} {v:Int} (h:NumIs w v):okW w = true ∧ atoiI w = v:=by
  obtain ⟨h1,h2⟩:=h
  have ha:atoiAll w = .ok v:=by
    rw [h1]
    unfold itoa
    split
    · rename_i hv
      unfold atoiAll
      have e:((45:UInt8).toNat = 43 ∨ (45:UInt8).toNat = 45):=.inr rfl
      simp only [if_pos e]
      rw [mag_dec h2]
      simp only
      have e2:(45:UInt8).toNat = 45:=rfl
      rw [if_neg (by simp [e2]),if_neg (by omega),if_pos e2]
      congr 1;omega
    · rename_i hv
      have hd:=decDigits_dec v.toNat
      have hne:=decDigits_ne v.toNat
      have hm:=mag_dec (n:=v.toNat) (by omega)
      cases hc:decDigits v.toNat with
      | nil => exact absurd hc hne
      | cons c r =>
        rw [hc] at hd hm
        have hcd:48 ≤ c.toNat ∧ c.toNat ≤ 57:=by
          unfold decFrom at hd
          cases hx:digitVal c with
          | none => rw [hx] at hd;cases hd
          | some d => obtain ⟨a,b,_⟩:=Lib.digitVal_eq hx;exact ⟨a,b⟩
        unfold atoiAll
        have e:¬ (c.toNat = 43 ∨ c.toNat = 45):=by omega
        simp only [if_neg e]
        rw [hm]
        simp only
        rw [if_neg (by omega),if_neg (by omega),if_neg (by omega)]
        congr 1;omega
  refine ⟨?_,by unfold atoiI;rw [ha]⟩
  unfold okW
  rw [ha]
  simp only [Bool.and_eq_true,decide_eq_true_eq]
  refine ⟨h1.symm,?_⟩
  rw [h1]
  unfold itoa
  split
  · rw [trim_dash,Lib.decDigits_length];exact nDig9.2 h2
  · rw [trim_none (dig_ne _),Lib.decDigits_length];exact nDig9.2 (by omega)
theorem okW_num (w:List UInt8):okW w = (numR w).2 ∧ (okW w = true → (numR w).1 = atoiI w):=by
  cases hb:(numR w).2 with
  | true =>
    have h2:=numR_iff.1 (show numR w = ((numR w).1,true) by rw [← hb])
    obtain ⟨h3,h4⟩:=okW_of h2
    exact ⟨h3,fun _ => h4.symm⟩
  | false =>
    have h:¬ okW w = true:=fun h => by
      obtain ⟨v,h1,_⟩:=okW_is h
      rw [numR_iff.2 h1] at hb
      cases hb
    exact ⟨by simpa using h,fun h1 => absurd h1 h⟩
end Go.Nac
namespace Go.Nac
theorem bs_size (l:List UInt8):(⟨l.toArray⟩:ByteArray).size = l.length:=by
  show l.toArray.size = _
  simp
theorem bs_eq {a b:List UInt8}:((⟨a.toArray⟩:ByteArray) = ⟨b.toArray⟩) = (a = b):=by
  apply propext
  constructor
  · intro h
    injection h with h
    simpa using congrArg Array.toList h
  · intro h;rw [h]
def ste0:Ste:=⟨⟨#[]⟩,0,[]⟩
def siteW:List UInt8:=[115,105,116,101]
def turbW:List UInt8:=[116,117,114,98,105,110,101]
def hdrL:List (List UInt8) → Option (ByteArray × Int)
  | [a,b,c] => if a = siteW ∧ b ≠ [] ∧ (numR c).2 = true then some (bs b,(numR c).1) else none
  | _ => none
def tbL2:List (List UInt8) → Option Tb
  | [a,b,c,d] => if a = turbW ∧ b ≠ [] ∧ (numR c).2 = true ∧ (numR d).2 = true then some ⟨bs b,(numR c).1,(numR d).1⟩ else none
  | _ => none
def lineS (k:Nat) (s:Ste) (l:List UInt8):Option Ste :=
  if k = 0 then (hdrL (spl 32 l)).map fun p => { s with name:=p.1,least:=p.2 } else (tbL2 (spl 32 l)).map fun t => { s with tbs:=s.tbs ++ [t] }
def parL:Nat → Ste → List (List UInt8) → Option Ste × Nat
  | k,s,[] => (some s,k)
  | k,s,l :: r => if r = [] then (if l = [] then some s else none,k) else match lineS k s l with
    | some s' => parL (k + 1) s' r
    | none => (none,k)
theorem parL_some {k:Nat} {s s':Ste} {w:List UInt8} {r:List (List UInt8)} (h:lineS k s w = some s') (hr:r ≠ []):parL k s (w :: r) = parL (k + 1) s' r:=by
  rw [parL,if_neg hr,h]
theorem parL_none {k:Nat} {s:Ste} {w:List UInt8} {r:List (List UInt8)} (h:lineS k s w = none) (hr:r ≠ []):parL k s (w :: r) = (none,k):=by
  rw [parL,if_neg hr,h]
def endE:Option Ste × Nat → Int
  | (none,_) => 26
  | (some s,_) => chkSte s
def endN:Option Ste × Nat → Nat
  | (none,k) => k
  | (some s,k) => if chkSte s = 0 then 0 else k
def endS:Option Ste × Nat → Ste
  | (none,_) => ste0
  | (some s,_) => if chkSte s = 0 then s else ste0
def parE (t:List UInt8):Int:=if 1000000 < t.length then 27 else if t = [] then 26 else endE (parL 0 ste0 (spl 10 t))
def parN (t:List UInt8):Nat:=if 1000000 < t.length then 0 else if t = [] then 0 else endN (parL 0 ste0 (spl 10 t))
def parS (t:List UInt8):Ste:=if 1000000 < t.length then ste0 else if t = [] then ste0 else endS (parL 0 ste0 (spl 10 t))
def wordS:List (List UInt8) × Bool → List UInt8 × (List (List UInt8) × Bool)
  | ([],_) => ([],([],true))
  | (x :: r,w) => if x = [] then ([],(x :: r,true)) else (x,(r,w))
def intS (t:List (List UInt8) × Bool):Int × (List (List UInt8) × Bool) :=
  (atoiI (wordS t).1,((wordS t).2.1,if okW (wordS t).1 = true then (wordS t).2.2 else true))
def takeS (k:Nat) (s:Ste) (l:List UInt8):Bool × Ste :=
  let a:=wordS (spl 32 l,false)
  let b:=wordS a.2
  let c:=intS b.2
  if k = 0 then (decide (a.1 = siteW) && !c.2.2 && decide (c.2.1 = []),{ s with name:=bs b.1,least:=c.1 })
  else
    let d:=intS c.2
    (decide (a.1 = turbW) && !d.2.2 && decide (d.2.1 = []),{ s with tbs:=s.tbs ++ [⟨bs b.1,c.1,d.1⟩] })
theorem wordS_cons {x:List UInt8} {r:List (List UInt8)} {w:Bool} (h:x ≠ []):wordS (x :: r,w) = (x,(r,w)):=by show (if x = [] then ([],(x :: r,true)) else (x,(r,w))) = _;rw [if_neg h]
theorem wordS_inv {t:List (List UInt8) × Bool} {r:List (List UInt8)} (h:(wordS t).2 = (r,false)):∃ x,t = (x :: r,false) ∧ x ≠ [] ∧ (wordS t).1 = x:=by
  obtain ⟨ws,w⟩:=t
  cases ws with
  | nil => simp [wordS] at h
  | cons x q =>
    by_cases hx:x = []
    · subst hx;simp [wordS] at h
    · rw [wordS_cons hx] at h ⊢
      simp only [Prod.mk.injEq] at h
      exact ⟨x,by rw [h.1,h.2],hx,rfl⟩
theorem intS_cons {x:List UInt8} {r:List (List UInt8)} (h:x ≠ []) (ho:okW x = true):intS (x :: r,false) = (atoiI x,(r,false)):=by
  unfold intS
  rw [wordS_cons h]
  simp [ho]
theorem intS_inv {t:List (List UInt8) × Bool} {r:List (List UInt8)} (h:(intS t).2 = (r,false)):∃ x,t = (x :: r,false) ∧ x ≠ [] ∧ okW x = true ∧ (intS t).1 = atoiI x:=by
  unfold intS at h ⊢
  simp only [Prod.mk.injEq] at h
  obtain ⟨h1,h2⟩:=h
  have ho:okW (wordS t).1 = true:=by
    by_cases ho:okW (wordS t).1 = true
    · exact ho
    · rw [if_neg ho] at h2;cases h2
  rw [if_pos ho] at h2
  obtain ⟨x,g1,g2,g3⟩:=wordS_inv (t:=t) (r:=r) (by rw [← h1,← h2])
  rw [g3] at ho ⊢
  exact ⟨x,g1,g2,ho,rfl⟩
theorem take_head {s:Ste} {l:List UInt8} (h:(takeS 0 s l).1 = true):∃ y z,spl 32 l = [siteW,y,z] ∧ y ≠ [] ∧ okW z = true:=by
  unfold takeS at h
  simp only [if_pos,Bool.and_eq_true,decide_eq_true_eq,Bool.not_eq_true'] at h
  obtain ⟨⟨h1,h2⟩,h3⟩:=h
  obtain ⟨z,g1,g2,g3,_⟩:=intS_inv (r:=[]) (Prod.ext h3 h2)
  obtain ⟨y,g4,g5,_⟩:=wordS_inv g1
  obtain ⟨x,g6,g7,g8⟩:=wordS_inv g4
  rw [g8] at h1
  simp only [Prod.mk.injEq,and_true] at g6
  exact ⟨y,z,by rw [g6,h1],g5,g3⟩
theorem take_tb {k:Nat} (hk:k ≠ 0) {s:Ste} {l:List UInt8} (h:(takeS k s l).1 = true):∃ y z u,spl 32 l = [turbW,y,z,u] ∧ y ≠ [] ∧ okW z = true ∧ okW u = true:=by
  unfold takeS at h
  simp only [if_neg hk,Bool.and_eq_true,decide_eq_true_eq,Bool.not_eq_true'] at h
  obtain ⟨⟨h1,h2⟩,h3⟩:=h
  obtain ⟨u,g1,g2,g3,_⟩:=intS_inv (r:=[]) (Prod.ext h3 h2)
  obtain ⟨z,g9,g10,g11,_⟩:=intS_inv g1
  obtain ⟨y,g4,g5,_⟩:=wordS_inv g9
  obtain ⟨x,g6,g7,g8⟩:=wordS_inv g4
  rw [g8] at h1
  simp only [Prod.mk.injEq,and_true] at g6
  exact ⟨y,z,u,by rw [g6,h1],g5,g11,g3⟩
theorem okW_ne {w:List UInt8} (h:okW w = true):w ≠ []:=fun e => by rw [e] at h;cases h
theorem take_line (k:Nat) (s:Ste) (l:List UInt8):(takeS k s l).1 = (lineS k s l).isSome ∧ ∀ s',lineS k s l = some s' → (takeS k s l).2 = s':=by
  by_cases hk:k = 0
  · subst hk
    have h0:∀ y z,spl 32 l = [siteW,y,z] → y ≠ [] → okW z = true → takeS 0 s l = (true,{ s with name:=bs y,least:=atoiI z }) ∧ lineS 0 s l = some { s with name:=bs y,least:=atoiI z }:=by
      intro y z hs hy hz
      obtain ⟨n1,n2⟩:=okW_num z
      have hw:siteW ≠ []:=by decide
      refine ⟨?_,?_⟩
      · unfold takeS
        rw [hs]
        simp only [wordS_cons hw,wordS_cons hy,intS_cons (okW_ne hz) hz]
        simp
      · unfold lineS
        rw [if_pos rfl,hs]
        have:hdrL [siteW,y,z] = some (bs y,atoiI z):=by
          show (if siteW = siteW ∧ y ≠ [] ∧ (numR z).2 = true then some (bs y,(numR z).1) else none) = _
          rw [if_pos ⟨rfl,hy,by rw [← n1];exact hz⟩,n2 hz]
        rw [this];rfl
    cases hb:(takeS 0 s l).1 with
    | true =>
      obtain ⟨y,z,g1,g2,g3⟩:=take_head hb
      obtain ⟨e1,e2⟩:=h0 y z g1 g2 g3
      rw [e2]
      exact ⟨rfl,fun s' h => by cases h;rw [e1]⟩
    | false =>
      have hl:lineS 0 s l = none:=by
        cases hl:lineS 0 s l with
        | none => rfl
        | some s' =>
          exfalso
          unfold lineS at hl
          rw [if_pos rfl] at hl
          cases hh:hdrL (spl 32 l) with
          | none => rw [hh] at hl;cases hl
          | some p =>
            unfold hdrL at hh
            split at hh
            · rename_i a b c hs
              split at hh
              · rename_i hc
                obtain ⟨rfl,hy,hz⟩:=hc
                rw [← (okW_num c).1] at hz
                rw [(h0 b c hs hy hz).1] at hb
                cases hb
              · cases hh
            · cases hh
      rw [hl]
      exact ⟨rfl,fun s' h => by cases h⟩
  · have h0:∀ y z u,spl 32 l = [turbW,y,z,u] → y ≠ [] → okW z = true → okW u = true → takeS k s l = (true,{ s with tbs:=s.tbs ++ [⟨bs y,atoiI z,atoiI u⟩] }) ∧ lineS k s l = some { s with tbs:=s.tbs ++ [⟨bs y,atoiI z,atoiI u⟩] }:=by
      intro y z u hs hy hz hu
      obtain ⟨n1,n2⟩:=okW_num z
      obtain ⟨m1,m2⟩:=okW_num u
      have hw:turbW ≠ []:=by decide
      refine ⟨?_,?_⟩
      · unfold takeS
        rw [hs]
        simp only [wordS_cons hw,wordS_cons hy,intS_cons (okW_ne hz) hz,intS_cons (okW_ne hu) hu,if_neg hk]
        simp
      · unfold lineS
        rw [if_neg hk,hs]
        have:tbL2 [turbW,y,z,u] = some ⟨bs y,atoiI z,atoiI u⟩:=by
          show (if turbW = turbW ∧ y ≠ [] ∧ (numR z).2 = true ∧ (numR u).2 = true then some (⟨bs y,(numR z).1,(numR u).1⟩:Tb) else none) = _
          rw [if_pos ⟨rfl,hy,by rw [← n1];exact hz,by rw [← m1];exact hu⟩,n2 hz,m2 hu]
        rw [this];rfl
    cases hb:(takeS k s l).1 with
    | true =>
      obtain ⟨y,z,u,g1,g2,g3,g4⟩:=take_tb hk hb
      obtain ⟨e1,e2⟩:=h0 y z u g1 g2 g3 g4
      rw [e2]
      exact ⟨rfl,fun s' h => by cases h;rw [e1]⟩
    | false =>
      have hl:lineS k s l = none:=by
        cases hl:lineS k s l with
        | none => rfl
        | some s' =>
          exfalso
          unfold lineS at hl
          rw [if_neg hk] at hl
          cases hh:tbL2 (spl 32 l) with
          | none => rw [hh] at hl;cases hl
          | some p =>
            unfold tbL2 at hh
            split at hh
            · rename_i a b c d hs
              split at hh
              · rename_i hc
                obtain ⟨rfl,hy,hz,hu⟩:=hc
                rw [← (okW_num c).1] at hz
                rw [← (okW_num d).1] at hu
                rw [(h0 b c d hs hy hz hu).1] at hb
                cases hb
              · cases hh
            · cases hh
      rw [hl]
      exact ⟨rfl,fun s' h => by cases h⟩
end Go.Nac
namespace Go.Nac
def uns (c:UInt8):List (List UInt8) → List UInt8
  | [] => []
  | [l] => l
  | l :: r => l ++ c :: uns c r
theorem uns_cons {c:UInt8} {l:List UInt8} {r:List (List UInt8)} (h:r ≠ []):uns c (l :: r) = l ++ c :: uns c r:=by
  cases r with
  | nil => exact absurd rfl h
  | cons a r => rfl
theorem spl_uns {c:UInt8}:∀ {L:List (List UInt8)},L ≠ [] → (∀ l ∈ L,c ∉ l) → spl c (uns c L) = L
  | [],h,_ => absurd rfl h
  | [l],_,h => spl_miss (h l (by simp))
  | l :: a :: r,_,h => by
    rw [uns_cons (by simp),spl_hit (h l (by simp)),spl_uns (by simp) fun x hx => h x (by simp [hx])]
theorem uns_flat (c:UInt8):∀ {L:List (List UInt8)},L ≠ [] → uns c (L ++ [[]]) = (L.map (· ++ [c])).flatten
  | [],h => absurd rfl h
  | [l],_ => by simp [uns]
  | l :: a :: r,_ => by
    rw [List.cons_append,uns_cons (by simp),uns_flat c (by simp)];simp
def hdrT (s:Ste):List UInt8:=uns 32 [siteW,s.name.data.toList,Lib.itoa s.least]
def tbT (t:Tb):List UInt8:=uns 32 [turbW,t.name.data.toList,Lib.itoa t.x,Lib.itoa t.y]
def linesT (s:Ste):List (List UInt8):=hdrT s :: s.tbs.map tbT
def steL (s:Ste):List UInt8:=uns 10 (linesT s ++ [[]])
theorem tbT_eq (t:Tb):tbTxt t = ⟨(tbT t ++ [10]).toArray⟩:=by
  refine toL_inj ?_
  unfold tbTxt tbT itoaB turbW
  simp [uns]
theorem joinB_toL (l:List ByteArray):(joinB l).data.toList = (l.map (·.data.toList)).flatten:=by
  induction l with
  | nil => rfl
  | cons x r =>
    unfold joinB
    show (Lib.join _ []) = _
    rw [List.map_cons,Lib.join_cons]
    unfold Lib.joinTail
    simp
    rfl
theorem steL_eq (s:Ste):steTxt s = ⟨(steL s).toArray⟩:=by
  refine toL_inj ?_
  have e:(steL s) = hdrT s ++ 10 :: ((s.tbs.map tbT).map (· ++ [10])).flatten:=by
    unfold steL linesT
    rw [uns_flat 10 (by simp)]
    simp
  rw [e]
  have h2:(joinB (s.tbs.map tbTxt)).data.toList = ((s.tbs.map tbT).map (· ++ [10])).flatten:=by
    rw [joinB_toL,List.map_map,List.map_map]
    congr 1
    exact List.map_congr_left fun t _ => by simp [tbT_eq]
  unfold steTxt itoaB
  simp only [ByteArray.data_append,Array.toList_append,h2]
  simp [hdrT,uns,siteW]
def wordy (w:List UInt8):Prop:=(32:UInt8) ∉ w ∧ (10:UInt8) ∉ w
theorem name_wordy {s:ByteArray} (h:nameOk s = true):wordy s.data.toList ∧ s.data.toList ≠ []:=by
  unfold nameOk at h
  simp only [Bool.and_eq_true,decide_eq_true_eq,List.all_eq_true,List.mem_range] at h
  obtain ⟨⟨h0,_⟩,h1⟩:=h
  have key:∀ c ∈ s.data.toList,48 ≤ c.toNat:=by
    intro c hc
    obtain ⟨i,hi,hx⟩:=List.mem_iff_getElem.1 hc
    have hi2:i < s.size:=by rw [Lib.size_eq];exact hi
    have h2:=h1 i hi2
    have h3:chAt s i = c.toNat:=by
      unfold chAt
      rw [getElem?_pos s i hi2]
      simp only [Option.getD_some]
      congr 1
    rw [h3] at h2
    unfold chOk letterB at h2
    simp only [Bool.or_eq_true,Bool.and_eq_true,decide_eq_true_eq] at h2
    omega
  refine ⟨⟨fun h => ?_,fun h => ?_⟩,fun h => h0 (by rw [Lib.size_eq,h];rfl)⟩
  · have:=key _ h;have e:(32:UInt8).toNat = 32:=rfl;omega
  · have:=key _ h;have e:(10:UInt8).toNat = 10:=rfl;omega
theorem decDigits_in (n:Nat):∀ c ∈ Lib.decDigits n,48 ≤ c.toNat:=by
  intro c hc
  obtain ⟨k,hk,hx⟩:=List.mem_iff_getElem.1 hc
  obtain ⟨d,hd⟩:=Lib.digit_of_decFrom _ 0 n (decDigits_dec n) k c (by rw [List.getElem?_eq_getElem hk,hx])
  exact (Lib.digitVal_eq hd).1
theorem itoa_wordy (n:Int):wordy (Lib.itoa n):=by
  have key:∀ c ∈ Lib.itoa n,c.toNat = 45 ∨ 48 ≤ c.toNat:=by
    intro c hc
    unfold Lib.itoa at hc
    split at hc
    · rcases List.mem_cons.1 hc with rfl|hc
      · exact .inl rfl
      · exact .inr (decDigits_in _ c hc)
    · exact .inr (decDigits_in _ c hc)
  refine ⟨fun h => ?_,fun h => ?_⟩
  · have:=key _ h;have e:(32:UInt8).toNat = 32:=rfl;omega
  · have:=key _ h;have e:(10:UInt8).toNat = 10:=rfl;omega
theorem uns_no {c d:UInt8} (hcd:d ≠ c):∀ {L:List (List UInt8)},(∀ l ∈ L,d ∉ l) → d ∉ uns c L
  | [],_ => by simp [uns]
  | [l],h => h l (by simp)
  | l :: a :: r,h => by
    rw [uns_cons (by simp)]
    simp only [List.mem_append,List.mem_cons,not_or]
    exact ⟨h l (by simp),hcd,uns_no hcd fun x hx => h x (by simp [hx])⟩
theorem hdrT_spl {s:Ste} (h:nameOk s.name = true):spl 32 (hdrT s) = [siteW,s.name.data.toList,Lib.itoa s.least] ∧ (10:UInt8) ∉ hdrT s ∧ hdrT s ≠ []:=by
  obtain ⟨h1,h2⟩:=name_wordy h
  have h3:=itoa_wordy s.least
  refine ⟨spl_uns (by simp) ?_,uns_no (by decide) ?_,?_⟩
  · intro l hl
    simp only [List.mem_cons,List.not_mem_nil,or_false] at hl
    rcases hl with rfl|rfl|rfl
    · decide
    · exact h1.1
    · exact h3.1
  · intro l hl
    simp only [List.mem_cons,List.not_mem_nil,or_false] at hl
    rcases hl with rfl|rfl|rfl
    · decide
    · exact h1.2
    · exact h3.2
  · simp [hdrT,uns,siteW]
theorem tbT_spl {t:Tb} (h:nameOk t.name = true):spl 32 (tbT t) = [turbW,t.name.data.toList,Lib.itoa t.x,Lib.itoa t.y] ∧ (10:UInt8) ∉ tbT t ∧ tbT t ≠ []:=by
  obtain ⟨h1,h2⟩:=name_wordy h
  have h3:=itoa_wordy t.x
  have h4:=itoa_wordy t.y
  refine ⟨spl_uns (by simp) ?_,uns_no (by decide) ?_,?_⟩
  · intro l hl
    simp only [List.mem_cons,List.not_mem_nil,or_false] at hl
    rcases hl with rfl|rfl|rfl|rfl
    · decide
    · exact h1.1
    · exact h3.1
    · exact h4.1
  · intro l hl
    simp only [List.mem_cons,List.not_mem_nil,or_false] at hl
    rcases hl with rfl|rfl|rfl|rfl
    · decide
    · exact h1.2
    · exact h3.2
    · exact h4.2
  · simp [tbT,uns,turbW]
theorem numR_itoa {n:Int} (h:n.natAbs < 1000000000):numR (Lib.itoa n) = (n,true):=numR_iff.2 ⟨rfl,h⟩
theorem lineS_hdr {s0 s:Ste} (h:nameOk s.name = true) (hl:s.least.natAbs < 1000000000):lineS 0 s0 (hdrT s) = some { s0 with name:=s.name,least:=s.least }:=by
  unfold lineS
  rw [if_pos rfl,(hdrT_spl h).1]
  have:hdrL [siteW,s.name.data.toList,Lib.itoa s.least] = some (s.name,s.least):=by
    show (if siteW = siteW ∧ s.name.data.toList ≠ [] ∧ (numR (Lib.itoa s.least)).2 = true then some (bs s.name.data.toList,(numR (Lib.itoa s.least)).1) else none) = _
    rw [numR_itoa hl,if_pos ⟨rfl,(name_wordy h).2,rfl⟩]
  rw [this];rfl
theorem lineS_tb {k:Nat} (hk:k ≠ 0) {s0:Ste} {t:Tb} (h:nameOk t.name = true) (hx:t.x.natAbs < 1000000000) (hy:t.y.natAbs < 1000000000):lineS k s0 (tbT t) = some { s0 with tbs:=s0.tbs ++ [t] }:=by
  unfold lineS
  rw [if_neg hk,(tbT_spl h).1]
  have:tbL2 [turbW,t.name.data.toList,Lib.itoa t.x,Lib.itoa t.y] = some t:=by
    show (if turbW = turbW ∧ t.name.data.toList ≠ [] ∧ (numR (Lib.itoa t.x)).2 = true ∧ (numR (Lib.itoa t.y)).2 = true then some (⟨bs t.name.data.toList,(numR (Lib.itoa t.x)).1,(numR (Lib.itoa t.y)).1⟩:Tb) else none) = _
    rw [numR_itoa hx,numR_itoa hy,if_pos ⟨rfl,(name_wordy h).2,rfl,rfl⟩]
  rw [this];rfl
theorem parL_tbs:∀ (l:List Tb) (k:Nat) (s0:Ste) (r:List (List UInt8)),k ≠ 0 → r ≠ [] → (∀ t ∈ l,nameOk t.name = true ∧ t.x.natAbs < 1000000000 ∧ t.y.natAbs < 1000000000) →
    parL k s0 (l.map tbT ++ r) = parL (k + l.length) { s0 with tbs:=s0.tbs ++ l } r
  | [],k,s0,r,_,_,_ => by simp
  | t :: l,k,s0,r,hk,hr,h => by
    obtain ⟨h1,h2,h3⟩:=h t (by simp)
    rw [List.map_cons,List.cons_append,parL_some (lineS_tb hk h1 h2 h3) (by simp [hr]),parL_tbs l (k + 1) _ r (by omega) hr fun x hx => h x (by simp [hx])]
    congr 1
    · simp;omega
    · simp
theorem ste_tbs {s:Ste} (h:chkSte s = 0):nameOk s.name = true ∧ s.least.natAbs < 1000000000 ∧ ∀ t ∈ s.tbs,nameOk t.name = true ∧ t.x.natAbs < 1000000000 ∧ t.y.natAbs < 1000000000:=by
  obtain ⟨hn,hle,hln,hin⟩:=chkSte_in h
  refine ⟨hn,by omega,fun t ht => ?_⟩
  obtain ⟨i,hi,e2⟩:=List.mem_iff_getElem.1 ht
  obtain ⟨p1,p2,_⟩:=tbE_parts (hin i t hi (List.getElem?_eq_some_iff.2 ⟨hi,e2⟩))
  unfold ptIn at p2
  have p3:-1000 ≤ t.x ∧ t.x ≤ 1000 ∧ -1000 ≤ t.y ∧ t.y ≤ 1000:=p2
  exact ⟨p1,by omega,by omega⟩
theorem lines_no {s:Ste} (h:chkSte s = 0):∀ l ∈ linesT s,(10:UInt8) ∉ l:=by
  obtain ⟨h1,_,h3⟩:=ste_tbs h
  intro l hl
  rcases List.mem_cons.1 hl with rfl|hl
  · exact (hdrT_spl h1).2.1
  · obtain ⟨t,ht,rfl⟩:=List.mem_map.1 hl
    exact (tbT_spl (h3 t ht).1).2.1
theorem steL_spl {s:Ste} (h:chkSte s = 0):spl 10 (steL s) = linesT s ++ [[]]:=by
  refine spl_uns (by simp) fun l hl => ?_
  rcases List.mem_append.1 hl with hl|hl
  · exact lines_no h l hl
  · simp at hl;rw [hl];simp
theorem lines_par {s:Ste} (h:chkSte s = 0) {r:List (List UInt8)} (hr:r ≠ []):parL 0 ste0 (linesT s ++ r) = parL (1 + s.tbs.length) s r:=by
  obtain ⟨h1,h2,h3⟩:=ste_tbs h
  unfold linesT
  rw [List.cons_append,parL_some (lineS_hdr h1 h2) (by simp [hr]),parL_tbs s.tbs 1 _ r (by decide) hr h3]
  rfl
theorem print_parse {s:Ste} (h:chkSte s = 0) (hl:(steL s).length ≤ 1000000):parE (steL s) = 0 ∧ parN (steL s) = 0 ∧ parS (steL s) = s:=by
  have hne:steL s ≠ []:=by
    intro e
    have:=steL_spl h
    rw [e] at this
    have:=congrArg List.length this
    simp [spl,linesT] at this
  have hp:parL 0 ste0 (spl 10 (steL s)) = (some s,1 + s.tbs.length):=by
    rw [steL_spl h,lines_par h (by simp)]
    simp [parL]
  unfold parE parN parS
  rw [if_neg (by omega),if_neg hne,if_neg (by omega),if_neg hne,if_neg (by omega),if_neg hne,hp]
  refine ⟨h,?_,?_⟩
  · show (if chkSte s = 0 then 0 else _) = 0
    rw [if_pos h]
  · show (if chkSte s = 0 then s else _) = s
    rw [if_pos h]
end Go.Nac
namespace Go.Nac
open Ieee
theorem plus0_form {x:Nat} {s:Bool} {m:Nat} {e:Int} (h:single.read x = .number s m e):plus0 x = if m = 0 then 0 else single.nearest s m e:=by
  obtain ⟨_,hp,_⟩:=read_single h
  unfold plus0 Format.add
  have h0:single.read 0 = .number false 0 (-149):=by decide
  rw [h,h0]
  have hmin:min e (-149) = -149:=by omega
  obtain ⟨k,hk⟩:∃ k,k = (e - -149).toNat:=⟨_,rfl⟩
  have e0:signed false 0 ((-149:Int) - -149).toNat = 0:=by rw [signed_eq];simp
  have e1:(Datum.number s m e).sum (.number false 0 (-149)) = some (.number (if signed s m k = 0 then s && false else decide (signed s m k < 0)) (signed s m k).natAbs (-149)):=by
    show some (Datum.number (if signed s m (e - min e (-149)).toNat + signed false 0 ((-149:Int) - min e (-149)).toNat = 0 then s && false else decide (signed s m (e - min e (-149)).toNat + signed false 0 ((-149:Int) - min e (-149)).toNat < 0)) (signed s m (e - min e (-149)).toNat + signed false 0 ((-149:Int) - min e (-149)).toNat).natAbs (min e (-149))) = _
    rw [hmin,e0,Int.add_zero,← hk]
  rw [e1]
  show single.nearest _ _ _ = _
  rw [signed_eq]
  by_cases hm:m = 0
  · subst hm
    rw [if_pos rfl]
    cases s <;> simp [Format.nearest,Format.word]
  · rw [if_neg hm]
    have hpos:0 < m * 2 ^ k:=Nat.mul_pos (by omega) (Nat.pow_pos (by decide))
    have hn:=snearest_pow s m k (-149)
    have he:(-149:Int) + k = e:=by omega
    rw [he] at hn
    rw [← hn]
    cases s
    · simp only [Bool.false_eq_true,if_false]
      generalize m * 2 ^ k = z at hpos ⊢
      rw [if_neg (by omega),decide_eq_false (by omega)]
      simp
    · simp only [if_true]
      generalize m * 2 ^ k = z at hpos ⊢
      rw [if_neg (by omega),decide_eq_true (by omega)]
      simp
theorem plus0_not {x:Nat} (h:smpE x = 0):plus0 x ≠ 2147483648:=by
  obtain ⟨s,m,e,hr⟩:=smp_num h
  rw [plus0_form hr]
  by_cases hm:m = 0
  · rw [if_pos hm];decide
  · rw [if_neg hm]
    intro hc
    obtain ⟨p1,p2,p3⟩:=read_single hr
    obtain ⟨k,l,h1,_,_⟩:=sread_nearest s (single24 hr) p2 p3
    rw [hc] at h1
    have h2:single.read 2147483648 = .number true 0 (-149):=by decide
    rw [h2] at h1
    simp only [Datum.number.injEq] at h1
    have hpos:0 < m * 2 ^ k:=Nat.mul_pos (by omega) (Nat.pow_pos (by decide))
    omega
theorem plus0_32 (x:Nat):plus0 x < 4294967296:=by
  unfold plus0
  cases h:single.add x 0 with
  | none => decide
  | some r => exact Format.add_lt single h
end Go.Nac
