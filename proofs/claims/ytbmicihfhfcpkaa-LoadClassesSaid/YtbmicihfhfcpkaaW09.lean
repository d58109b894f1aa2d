/- Sorting by a comparison, as the shelf's contract has it. -/
import Derived.Test.YtbmicihfhfcpkaaW08
import Derived.Shelf.SlSortCmp.WholeK
import Derived.Shelf.SlSortCmp.NoneTotal
import Derived.Shelf.Strconv.Itoa3
import Derived.Shelf.Strconv.AtoiAll
import Derived.Shelf.Strings.Cut
import Derived.Shelf.Strings.Split
import Derived.Shelf.Strings.Prefix
import Derived.Shelf.Strings.OnBuilder
import Derived.Shelf.Bytes.SlSmallAll
set_option linter.unusedVariables false
set_option linter.unusedSectionVars false
namespace Go.Nac
open Go.Shelf Go.Sort Go.Proofs Go.RowKit
section
variable {α:Type} [Inhabited α]
theorem QhD {enc:α → List Value} {k:Nat} (hk:∀ x,(enc x).length = k):∀ (l:List α) (t:Nat),t < l.length * k → (l.flatMap enc)[t]? = (enc (l[t / k]?.getD default))[t % k]?:=by
 intro l
 induction l with
 | nil => intro t h;simp at h
 | cons x l ih =>
  intro t h
  rcases Nat.eq_zero_or_pos k with hk0|hk0
  ·subst hk0;simp at h
  by_cases ht:t < k
  ·rw [Nat.div_eq_of_lt ht,Nat.mod_eq_of_lt ht,List.flatMap_cons,List.getElem?_append_left (by rw [hk];exact ht)];rfl
  ·obtain ⟨s,rfl⟩:∃ s,t = s + k:=⟨t - k,by omega⟩
   rw [List.length_cons,Nat.add_mul,Nat.one_mul] at h
   rw [List.flatMap_cons,List.getElem?_append_right (by rw [hk];omega),hk,Nat.add_sub_cancel,ih s (by omega),Nat.add_div_right _ hk0,Nat.add_mod_right]
   rfl
theorem Qdx {enc:α → List Value} {k:Nat} (hk:∀ x,(enc x).length = k) (l:List α):(l.flatMap enc).length = l.length * k:=by
 induction l with
 | nil => simp
 | cons x l ih => rw [List.flatMap_cons,List.length_append,hk,ih,List.length_cons,Nat.add_mul];omega
theorem Qc7 {enc:α → List Value} {k:Nat} (hk:∀ x,(enc x).length = k) (d:Array α) (t:Nat) (h:t < d.size * k):(d.toList.flatMap enc)[t]? = some (flatK enc k d)[t]!:=by
 rcases Nat.eq_zero_or_pos k with hk0|hk0
 ·subst hk0;simp at h
 have h1:t / k < d.size:=by rw [Nat.div_lt_iff_lt_mul hk0];exact h
 rw [QhD hk _ t (by simpa using h),get_flatK _ _ _ _ h]
 have e:d.toList[t / k]?.getD default = d[t / k]!:=by simp [h1]
 rw [e]
 have h2:t % k < (enc d[t / k]!).length:=by rw [hk];exact Nat.mod_lt _ hk0
 rw [List.getElem?_eq_getElem h2]
 exact congrArg some (getElem!_pos (enc d[t / k]!) (t % k) h2).symm
variable [Env] {P:Program} {M:List Blk}
def encV (enc:α → List Value) (x:α):PV:=.agg ((enc x).map .s)
theorem J1 {L:Loc} {w:World}:∀ {vs us:List Value},LRel M L w (vs.map .s) us → us = vs
 | [],us,h => by cases h;rfl
 | v :: vs,us,h => by
  cases h with
  | cons _ u _ us h1 h2 => rw [h1.s_inv,J1 h2]
theorem ZU {L:Loc} {w:World}:∀ {vs:List Value},(∀ v ∈ vs,aggV v = false) → LRel M L w (vs.map .s) vs
 | [],_ => .nil
 | v :: vs,h => .cons _ _ _ _ (.s v (h v (by simp))) (ZU fun u hu => h u (by simp [hu]))
theorem Qab (enc:α → List Value) (l:List α):(l.map (encV enc)).flatMap PV.cells = (l.flatMap enc).map .s:=by
 induction l with
 | nil => rfl
 | cons x l ih => rw [List.map_cons,List.flatMap_cons,ih,List.flatMap_cons,List.map_append];rfl
theorem Ql3 {enc:α → List Value} {k:Nat} (hk:∀ x,(enc x).length = k) (h2:∀ x,∀ v ∈ enc x,aggV v = false) {L:Loc} {w:World} (S:Sim (RO P) M L w) {i ver n:Nat} {d d':List α} (hlen:d'.length = d.length)
  (hi:M[i]? = some (.row true k ver (d.map (encV enc)))) {b o:Nat} (hL:L i = some (b,o)) (os:Array Obj) :
  Fin P M L w (.tup []) (M.set i (.row true k ver (d'.map (encV enc)))) (.returned (.tuple #[])) (sortWorldK enc k w b o n d'.toArray os):=by
 obtain ⟨hs,hc,_⟩:=S.mem i _ hi
 obtain ⟨c,el,vs,g1,g2,g3⟩:=hc b o hL
 rw [Qab] at g2
 have hvs:=J1 g2
 subst hvs
 have g0:=g1
 obtain ⟨z,g1,hz⟩:=g1
 have hblk:=(Array.getElem?_eq_some_iff.1 g1).1
 have hput:(sortWorldK enc k w b o n d'.toArray os).heap[b]? = some (.cells (putCells id o (flatK enc k d'.toArray) c) el z):=by
  show ((w.heap.modify b _) ++ os)[b]? = _
  rw [Array.getElem?_append_left (by simpa using hblk),Array.getElem?_modify,if_pos rfl,g1];rfl
 have hoth:∀ j,j < w.heap.size → j ≠ b → (sortWorldK enc k w b o n d'.toArray os).heap[j]? = w.heap[j]?:=by
  intro j hj hne
  show ((w.heap.modify b _) ++ os)[j]? = _
  rw [Array.getElem?_append_left (by simpa using hj),Array.getElem?_modify,if_neg (Ne.symm hne)]
 have hcs:(putCells id o (flatK enc k d'.toArray) c).size = c.size:=by simp [putCells]
 have key:=change S hi (blk':=.row true k ver (d'.map (encV enc))) L (fun _ _ => rfl) (w':=sortWorldK enc k w b o n d'.toArray os) ⟨rfl,rfl,rfl,Nat.le_add_right _ _⟩ (.inl rfl)
  (by show w.heap.size ≤ ((w.heap.modify b _) ++ os).size;simp)
  (fun j hj hp => hoth j hj fun e => hp (b,o) rfl hL e.symm) (fun p hp => .inl ⟨p,hp,rfl⟩)
  ⟨Nat.le_refl _,fun _ => ⟨rfl,by simp [hlen],rfl,fun b1 o1 c1 el1 e1 e2 => by
   rw [hL] at e1;cases e1
   obtain ⟨rfl,rfl⟩:=g0.uniq e2
   exact ⟨_,⟨z,hput,by rw [hcs];exact hz⟩,hcs⟩⟩⟩
  (fun E => by
   refine ⟨fun x hx => by obtain ⟨y,_,rfl⟩:=List.mem_map.1 hx;simp [encV,PV.cells,hk],fun b1 o1 e1 => ?_,fun e => by rw [hL] at e;cases e⟩
   rw [hL] at e1;cases e1
   refine ⟨_,el,d'.flatMap enc,⟨z,hput,by rw [hcs];exact hz⟩,by rw [Qab];exact ZU fun v hv => by obtain ⟨x,_,hx⟩:=List.mem_flatMap.1 hv;exact h2 x v hx,fun m v hv => ?_⟩
   have hm:m < (d'.flatMap enc).length:=(List.getElem?_eq_some_iff.1 hv).1
   rw [Qdx hk] at hm
   have hold:∃ u,c[o + m]? = some u:=by
    obtain ⟨u,hu⟩:∃ u,(d.flatMap enc)[m]? = some u:=⟨_,List.getElem?_eq_getElem (by rw [Qdx hk,← hlen];exact hm)⟩
    exact ⟨u,g3 m u hu⟩
   obtain ⟨u,hu⟩:=hold
   have h3:=Qc7 hk d'.toArray m (by simpa using hm)
   rw [show d'.toArray.toList = d' from by simp] at h3
   rw [hv] at h3
   rw [show putCells id o (flatK enc k d'.toArray) c = c.mapIdx _ from rfl,Array.getElem?_mapIdx,hu,Option.map_some,if_pos ⟨by omega,by simp;exact hm⟩,show o + m - o = m from by omega]
   exact h3.symm)
 exact ⟨L,key.1,key.2,.tup [] #[] .nil⟩
def CmpAt (P:Program) (g:FuncId) (enc:α → List Value) (cf:α → α → Int):Prop :=
 ∀ (W:World) (x y:α),Calls P g #[.agg (enc x).toArray,.agg (enc y).toArray] W fun e W' => e = .returned (.int .i64 (cf x y)) ∧ Below W.heap.size W W' ∧ W.drawn ≤ W'.drawn
theorem QcL {W W':World} (h:Below W.heap.size W W') (hd:W.drawn ≤ W'.drawn):∃ q os,W' = Sort.grow (W.drewN q) os:=by
 refine ⟨W'.drawn - W.drawn,W'.heap.extract W.heap.size W'.heap.size,?_⟩
 obtain ⟨h1,h2,h3,h4,h5⟩:=h
 have hh:W'.heap = W.heap ++ W'.heap.extract W.heap.size W'.heap.size:=by
  apply Array.ext_getElem?
  intro k
  rcases Nat.lt_or_ge k W.heap.size with hk|hk
  ·rw [Array.getElem?_append_left hk];exact h5 k hk
  ·rw [Array.getElem?_append_right hk,Array.getElem?_extract]
   split
   ·congr 1;omega
   ·rw [Array.getElem?_eq_none];omega
 have hn:W'.drawn = W.drawn + (W'.drawn - W.drawn):=by omega
 cases W with|mk a b c d e =>
 cases W' with|mk a' b' c' d' e' =>
 simp only at h1 h2 h3 hh hn
 subst h1;subst h2;subst h3
 show World.mk a' _ c' _ _ = World.mk (a ++ _) _ (c + _) _ _
 rw [← hn]
 exact congrArg (fun x => World.mk x _ _ _ _) hh
def srtL (cf:α → α → Int) (d:List α):List α:=(pdq (ltOf cf) d.toArray 0 d.length (Lib.bitLen d.length) true true).toList
theorem QhI {ρ:Ren} (Ls:SlLaysF0.n6 P ρ) {k:Nat} (aE:∀ w,(isAgg (ρ.t 24)).run P w = .ok true w) (zE:∀ w,(Go.sizeOf (ρ.t 24)).run P w = .ok k w) {enc:α → List Value} (hk:∀ x,(enc x).length = k)
  (h1:∀ x,∀ v ∈ enc x,v.oneCell' = true) (h2:∀ x,∀ v ∈ enc x,aggV v = false) {cf:α → α → Int} (hO:SWO (ltOf cf)) {g:FuncId} (eg:∀ args w,(callFunc g args).run P w = .ok (.enter g args) w) (hcmp:CmpAt P g enc cf)
  {f:FuncId} (hf:f = ρ.f 6) {i ver:Nat} {d:List α} (hd:d.length < 4611686018427387904) (hi:M[i]? = some (.row true k ver (d.map (encV enc)))) :
  Conc P (.fn f) [.os i ver 0 d.length,.fn (.func g) [] []] M (.tup []) (M.set i (.row true k ver ((srtL cf d).map (encV enc)))):=by
 intro L w cargs S A
 subst hf
 obtain ⟨cargs⟩:=cargs
 cases A with|cons _ v0 _ vs a0 A =>
 cases A with|cons _ v1 _ vs a1 A =>
 cases A
 cases a1 with|fn _ _ _ va vc g1 g2 =>
 obtain ⟨va⟩:=va;obtain ⟨vc⟩:=vc
 cases g1;cases g2
 obtain ⟨a,cap,rfl,_,hcap,hm⟩:=a0.os_live hi
 refine .inl ⟨Ls.f6.enters rfl _ _,?_⟩
 have hsz:(srtL cf d).length = d.length:=by
  have:=(pdq_sorts (ltOf cf) hO d.toArray 0 d.toArray.size (Lib.bitLen d.length) true true (Nat.zero_le _) (Nat.le_refl _) (Or.inl rfl)).1.1
  simpa [srtL] using this
 cases d with
 | nil =>
  refine (AnyF.slices_SortFunc_none Ls a cap _ w).mono ?_
  rintro e w' ⟨rfl,rfl⟩
  have e1:srtL cf ([]:List α) = []:=List.eq_nil_of_length_eq_zero (by simpa using hsz)
  rw [e1]
  have e2:M.set i (.row true k ver (([]:List α).map (encV enc))) = M:=by
   obtain ⟨hlt,he⟩:=List.getElem?_eq_some_iff.1 hi
   rw [← he];exact List.set_getElem_self hlt
  rw [e2]
  exact ⟨L,Evo.refl _ _ _,S,.tup [] #[] .nil⟩
 | cons x d =>
  obtain ⟨b,o,c,el,hL,rfl,hb,hsz2⟩:=hm (by simp at hcap;omega)
  rw [Nat.zero_mul,Nat.add_zero] at *
  obtain ⟨hs,hc,_⟩:=S.mem i _ hi
  obtain ⟨c',el',us,g1,g2,g3⟩:=hc b o hL
  obtain ⟨rfl,rfl⟩:=hb.uniq g1
  rw [Qab] at g2
  have hus:=J1 g2
  subst hus
  have hH:HoldsK enc k w b o (x :: d).toArray:=by
   intro j hj
   have hj':j < (x :: d).toArray.size * k:=by simpa using hj
   have h3:=Qc7 hk (x :: d).toArray j hj'
   rw [show (x :: d).toArray.toList = x :: d from by simp] at h3
   have h4:=g3 j _ h3
   refine ⟨(hb.cell _).trans h4,hb.unfrozen (Array.getElem?_eq_some_iff.1 h4).1⟩
  have hcl:CmpLays P g #[] enc k cf b o (x :: d).toArray.size w:=by
   intro m os dk _ y z
   refine (hcmp _ y z).mono ?_
   rintro e W' ⟨rfl,hbl,hdr⟩
   exact ⟨rfl,QcL hbl hdr⟩
  have key:=AnyQ.slices_SortFunc_eq Ls k aE zE enc hk h1 cf hO g #[] b o cap (x :: d).toArray w eg hcl hH hb.lt (by simpa using hd)
  refine Calls.mono key ?_
  rintro e w' ⟨rfl,n,os,rfl⟩
  have:=Ql3 hk h2 S hsz hi hL (n:=n) os
  simpa [srtL] using this
end
end Go.Nac
namespace Go.Nac
open Go.RowKit
abbrev env0:Env:=⟨fun _ => none,True⟩
theorem Qn7 {P:Program} (hmix:P.follows .mixedOrders = true) {F:Prog} (hF:∀ f cf,F f = some cf → @okFn env0 P f cf = true) {g:FuncId} (hroot:(F g).isSome = true) {α:Type} {enc:α → List Value} (h2:∀ x,∀ v ∈ enc x,aggV v = false) {cf:α → α → Int}
  (h:∀ x y,ACall F (fun _ _ _ _ _ => False) (.fn g) [encV enc x,encV enc y] [] (.I (cf x y)) []):CmpAt P g enc cf:=by
 letI:=env0
 intro W x y
 have S:Sim (RO P) [] (fun _ => none) W:=⟨fun i b hi => by simp at hi,fun i j bi bj p q hi => by simp at hi,fun g cs h => by cases h⟩
 refine (QaS hmix hF (fun _ _ _ _ _ h => h.elim) hroot (h x y) (L:=fun _ => none) S (.cons _ _ _ _ (.agg _ _ ?_) (.cons _ _ _ _ (.agg _ _ ?_) .nil))).mono fun e W' he => ?_
 ·exact ZU (h2 x)
 ·exact ZU (h2 y)
 cases e with
 | returned v =>
  obtain ⟨L',E,S',R⟩:=he
  refine ⟨?_,⟨E.os,E.tape,E.output,E.size,fun k hk => (E.frame k hk fun ⟨i,b,p,hi,_⟩ => by simp at hi).1⟩,E.drawn trivial⟩
  cases R with
  | s _ _ => rfl
 | _ => exact he.elim
end Go.Nac
namespace Go.Nac
open Go.Shelf Go.Sort Go.Proofs Go.RowKit
variable [Env] {P:Program} {ρ:Ren} {M:List Blk}
abbrev PV.S (l:List UInt8):PV:=.s (.string ⟨l.toArray⟩)
end Go.Nac
namespace Go.Nac
open Go.Sort
instance:Inhabited Spn:=⟨⟨0,0⟩⟩
def spnV (x:Spn):List Value:=[.int .i64 x.fr,.int .i64 x.to_]
def Vj (x y:Spn):Int:=if x.fr < y.fr then -1 else if y.fr < x.fr then 1 else 0
theorem YZ (x y:Spn):Proofs.ltOf Vj x y = decide (x.fr < y.fr):=by
 unfold Proofs.ltOf Vj
 by_cases h1:x.fr < y.fr
 ·simp [h1]
 ·by_cases h2:y.fr < x.fr <;> simp [h1,h2]
theorem Qbx:SWO (Proofs.ltOf Vj) where
 irrefl x:=by rw [YZ];simp
 trans x y z h1 h2:=by rw [YZ] at *;simp at *;omega
 ntrans x y z h1 h2:=by rw [YZ] at *;simp at *;omega
theorem Qlk {l:List Spn} {d:Array Spn} (h1:PermIn 0 l.length l.toArray d) (h2:SortedIn (Proofs.ltOf Vj) 0 l.length d):d.toList.Perm l ∧ d.toList.Pairwise (fun x y => x.fr ≤ y.fr):=by
 have hs:d.size = l.length:=by simpa using h1.1
 constructor
 ·have h3:=h1.2.2
  have e1:(l.toArray.extract 0 l.length).toList = l:=by simp
  have e2:d.extract 0 l.length = d:=by rw [← hs];simp
  rw [e1,e2] at h3
  exact h3
 ·rw [List.pairwise_iff_getElem]
  intro i j hi hj hij
  have hi':i < d.size:=by simpa using hi
  have hj':j < d.size:=by simpa using hj
  have h3:=h2 i j (Nat.zero_le _) hij (by omega)
  rw [YZ] at h3
  simp only [decide_eq_false_iff_not,Int.not_lt] at h3
  rw [getElem!_pos d i hi',getElem!_pos d j hj'] at h3
  simpa using h3
theorem QdH (l:List Spn):(srtL Vj l).Perm l ∧ (srtL Vj l).Pairwise (fun x y => x.fr ≤ y.fr):=by
 obtain ⟨h1,h2⟩:=pdq_sorts (Proofs.ltOf Vj) Qbx l.toArray 0 l.toArray.size (Lib.bitLen l.length) true true (Nat.zero_le _) (Nat.le_refl _) (Or.inl rfl)
 rw [show l.toArray.size = l.length from by simp] at h1 h2
 exact Qlk h1 h2
theorem QlU (l:List Spn):(srtL Vj l).length = l.length:=(QdH l).1.length_eq
def QmG (o:List Spn) (s:Spn):List Spn :=
 match o[o.length - 1]? with
 | some p => if s.fr ≤ p.to_ then o.set (o.length - 1) ⟨p.fr,max p.to_ s.to_⟩ else o ++ [s]
 | none => [s]
def QjT (l:List Spn):List Spn:=l.foldl QmG []
def QoB (l:List Spn):List Spn:=QjT (srtL Vj l)
end Go.Nac
namespace Go.Nac
def kvS (c:Spn):Value × Value:=(.int .i64 c.fr,.int .i64 c.to_)
def bump (n:Int):List Spn → List Spn
 | [] => [⟨n,1⟩]
 | c :: r => if c.fr = n then ⟨n,c.to_ + 1⟩ :: r else c :: bump n r
def cntO (n:Int):List Spn → Int
 | [] => 0
 | c :: r => if c.fr = n then c.to_ else cntO n r
theorem JZ (a b:Int):Ve (.int .i64 a) (.int .i64 b) = decide (a = b):=by
 simp only [Ve,VK,if_true,Option.getD_some]
 by_cases h:a = b <;> simp [h]
theorem Qdq (n:Int):∀ l:List Spn,upd (.int .i64 n) (.int .i64 (cntO n l + 1)) (l.map kvS) = (bump n l).map kvS
 | [] => rfl
 | c :: r => by
  simp only [List.map_cons,kvS,upd,JZ,cntO,bump]
  by_cases h:n = c.fr
  ·subst h;simp [kvS]
  ·have h':¬ c.fr = n:=fun e => h e.symm
   simp only [h,h',decide_false,if_false,Bool.false_eq_true,List.map_cons,kvS]
   rw [← Qdq n r]
theorem Qd8 (n:Int):∀ l:List Spn,(find (.int .i64 n) (l.map kvS)).getD (.int .i64 0) = .int .i64 (cntO n l)
 | [] => rfl
 | c :: r => by
  simp only [List.map_cons,kvS,find,JZ,cntO]
  by_cases h:n = c.fr
  ·subst h;simp
  ·have h':¬ c.fr = n:=fun e => h e.symm
   simp only [h,h',decide_false,if_false,Bool.false_eq_true]
   exact Qd8 n r
theorem Qka (l:List Spn):(l.map kvS).all (fun e => QbK e.1) = true:=by
 rw [List.all_eq_true]
 intro e he
 obtain ⟨c,_,rfl⟩:=List.mem_map.1 he
 rfl
theorem Qi5 (n:Int) (l:List Spn):Q7 (.int .i64 n) (l.map kvS) = true:=by
 unfold Q7
 rw [List.all_eq_true]
 intro e he
 obtain ⟨c,_,rfl⟩:=List.mem_map.1 he
 rfl
def insC (n:Int):List Spn → List Spn
 | [] => [⟨n,1⟩]
 | c :: r => if c.fr < n then c :: insC n r else if c.fr = n then ⟨n,c.to_ + 1⟩ :: r else ⟨n,1⟩ :: c :: r
def bumps (ns:List Int):List Spn:=ns.foldl (fun l n => bump n l) []
def inss (ns:List Int):List Spn:=ns.foldl (fun l n => insC n l) []
theorem JJ {n:Int}:∀ {l:List Spn},n ∉ l.map (·.fr) → bump n l = l ++ [⟨n,1⟩]
 | [],_ => rfl
 | c :: r,h => by
  simp only [List.map_cons,List.mem_cons,not_or] at h
  simp only [bump,if_neg (fun e => h.1 (Eq.symm e)),JJ h.2,List.cons_append]
theorem Qd6 {n:Int}:∀ {l:List Spn},n ∉ l.map (·.fr) → l.map (fun c => if c.fr = n then (⟨n,c.to_ + 1⟩:Spn) else c) = l
 | [],_ => rfl
 | c :: r,h => by
  simp only [List.map_cons,List.mem_cons,not_or] at h
  simp only [List.map_cons,if_neg (fun e => h.1 (Eq.symm e)),Qd6 h.2]
theorem QaY {n:Int}:∀ {l:List Spn},(l.map (·.fr)).Nodup → n ∈ l.map (·.fr) → bump n l = l.map (fun c => if c.fr = n then (⟨n,c.to_ + 1⟩:Spn) else c)
 | [],_,h => by simp at h
 | c :: r,hn,h => by
  simp only [List.map_cons,List.nodup_cons] at hn
  simp only [bump,List.map_cons]
  by_cases e:c.fr = n
  ·rw [if_pos e,if_pos e,Qd6 (by rw [← e];exact hn.1)]
  ·rw [if_neg e,if_neg e,QaY hn.2 (by simpa [Ne.symm e] using h)]
theorem QgS {n:Int} {l m:List Spn} (h:l.Perm m) (hn:(l.map (·.fr)).Nodup):(bump n l).Perm (bump n m):=by
 have hm:(l.map (·.fr)).Perm (m.map (·.fr)):=h.map _
 by_cases hi:n ∈ l.map (·.fr)
 ·rw [QaY hn hi,QaY (hm.nodup_iff.1 hn) (hm.mem_iff.1 hi)]
  exact h.map _
 ·rw [JJ hi,JJ (fun e => hi (hm.mem_iff.2 e))]
  exact h.append_right _
theorem Qdt (n:Int):∀ l:List Spn,(bump n l).map (·.fr) = if n ∈ l.map (·.fr) then l.map (·.fr) else l.map (·.fr) ++ [n]
 | [] => by simp [bump]
 | c :: r => by
  simp only [bump,List.map_cons,List.mem_cons]
  by_cases e:c.fr = n
  ·rw [if_pos e,if_pos (.inl e.symm)];simp [e]
  ·rw [if_neg e]
   simp only [List.map_cons,Qdt n r]
   by_cases hi:n ∈ r.map (·.fr)
   ·rw [if_pos hi,if_pos (.inr hi)]
   ·rw [if_neg hi,if_neg (by rintro (h|h);exact e h.symm;exact hi h)];rfl
theorem QfM {n:Int} {l:List Spn} (h:(l.map (·.fr)).Nodup):((bump n l).map (·.fr)).Nodup:=by
 rw [Qdt]
 by_cases hi:n ∈ l.map (·.fr)
 ·rw [if_pos hi];exact h
 ·rw [if_neg hi,List.nodup_append]
  exact ⟨h,by simp,fun a ha b hb => by rw [List.mem_singleton] at hb;rintro rfl;exact hi (hb ▸ ha)⟩
def OrdC (l:List Spn):Prop:=l.Pairwise (fun x y => x.fr < y.fr)
theorem OrdC.nodup {l:List Spn} (h:OrdC l):(l.map (·.fr)).Nodup:=by
 unfold List.Nodup
 rw [List.pairwise_map]
 exact List.Pairwise.imp (fun h e => by omega) h
theorem Qi8 {n:Int} {l:List Spn}:∀ c ∈ insC n l,c.fr = n ∨ ∃ d ∈ l,d.fr = c.fr:=by
 induction l with
 | nil => intro c hc;simp [insC] at hc;subst hc;exact .inl rfl
 | cons a r ih =>
  intro c hc
  unfold insC at hc
  split at hc
  ·rcases List.mem_cons.1 hc with rfl|hc
   ·exact .inr ⟨c,by simp,rfl⟩
   ·rcases ih c hc with h|⟨d,h1,h2⟩
    ·exact .inl h
    ·exact .inr ⟨d,List.mem_cons_of_mem _ h1,h2⟩
  ·split at hc
   ·rcases List.mem_cons.1 hc with rfl|hc
    ·exact .inl rfl
    ·exact .inr ⟨c,List.mem_cons_of_mem _ hc,rfl⟩
   ·rcases List.mem_cons.1 hc with rfl|hc
    ·exact .inl rfl
    ·exact .inr ⟨c,hc,rfl⟩
theorem Qkx {n:Int} {l:List Spn} (h:OrdC l):OrdC (insC n l):=by
 induction l with
 | nil => exact List.pairwise_singleton _ _
 | cons a r ih =>
  obtain ⟨h1,h2⟩:=List.pairwise_cons.1 h
  unfold insC
  split
  ·rename_i hlt
   refine List.pairwise_cons.2 ⟨fun c hc => ?_,ih h2⟩
   rcases Qi8 c hc with h|⟨d,h3,h4⟩
   ·omega
   ·have:=h1 d h3;omega
  ·split
   ·rename_i he
    exact List.pairwise_cons.2 ⟨fun c hc => by have:=h1 c hc;show n < c.fr;omega,h2⟩
   ·refine List.pairwise_cons.2 ⟨fun c hc => ?_,h⟩
    show n < c.fr
    rcases List.mem_cons.1 hc with rfl|hc
    ·omega
    ·have:=h1 c hc;omega
theorem Qiu {n:Int} {l:List Spn} (h:OrdC l):(insC n l).Perm (bump n l):=by
 induction l with
 | nil => exact .refl _
 | cons a r ih =>
  obtain ⟨h1,h2⟩:=List.pairwise_cons.1 h
  unfold insC bump
  by_cases hlt:a.fr < n
  ·rw [if_pos hlt,if_neg (by omega)]
   exact (ih h2).cons _
  ·rw [if_neg hlt]
   by_cases he:a.fr = n
   ·rw [if_pos he,if_pos he]
   ·rw [if_neg he,if_neg he]
    have hn:n ∉ r.map (·.fr):=by
     intro hm
     obtain ⟨c,hc,e⟩:=List.mem_map.1 hm
     have:=h1 c hc;omega
    rw [JJ hn,← List.cons_append]
    exact List.perm_append_comm (l₁:=[⟨n,1⟩]) (l₂:=a :: r)
theorem Qap (ns:List Int):OrdC (inss ns) ∧ (inss ns).Perm (bumps ns) ∧ ((bumps ns).map (·.fr)).Nodup:=by
 suffices h:∀ (ns:List Int) (a b:List Spn),OrdC a → a.Perm b → (b.map (·.fr)).Nodup →
   OrdC (ns.foldl (fun l n => insC n l) a) ∧ (ns.foldl (fun l n => insC n l) a).Perm (ns.foldl (fun l n => bump n l) b) ∧ ((ns.foldl (fun l n => bump n l) b).map (·.fr)).Nodup from
  h ns [] [] List.Pairwise.nil (.refl _) (by simp)
 intro ns
 induction ns with
 | nil => intro a b h1 h2 h3;exact ⟨h1,h2,h3⟩
 | cons n ns ih =>
  intro a b h1 h2 h3
  exact ih _ _ (Qkx h1) ((Qiu h1).trans (QgS h2 h1.nodup)) (QfM h3)
theorem Qke {l m:List Spn} (h1:OrdC l) (h2:m.Pairwise (fun x y => x.fr ≤ y.fr)) (h:l.Perm m):m = l:=by
 induction l generalizing m with
 | nil => exact List.Perm.nil_eq h |>.symm
 | cons a r ih =>
  obtain ⟨h3,h4⟩:=List.pairwise_cons.1 h1
  cases m with
  | nil => exact absurd h.symm.nil_eq (by simp)
  | cons b s =>
   obtain ⟨h5,h6⟩:=List.pairwise_cons.1 h2
   have e:b = a:=by
    have hb:b ∈ a :: r:=h.mem_iff.2 (by simp)
    have ha:a ∈ b :: s:=h.mem_iff.1 (by simp)
    rcases List.mem_cons.1 hb with e|hb
    ·exact e
    ·rcases List.mem_cons.1 ha with e|ha
     ·exact e.symm
     ·have:=h3 b hb;have:=h5 a ha;omega
   subst e
   rw [ih h4 h6 (List.Perm.cons_inv h)]
theorem Qdd {ns:List Int} {d:List Spn} (h:d.Perm (bumps ns)):srtL Vj d = inss ns:=by
 obtain ⟨h1,h2,_⟩:=Qap ns
 obtain ⟨h3,h4⟩:=QdH d
 exact Qke h1 h4 (h2.trans (h.symm.trans h3.symm))
theorem QfX {ns:List Int} {k:Nat} {n:Int} (h:ns[k]? = some n):bumps (ns.take (k + 1)) = bump n (bumps (ns.take k)):=by
 unfold bumps;rw [List.take_add_one,h,List.foldl_append];rfl
theorem Qir {ns:List Int} {k:Nat} {n:Int} (h:ns[k]? = some n):inss (ns.take (k + 1)) = insC n (inss (ns.take k)):=by
 unfold inss;rw [List.take_add_one,h,List.foldl_append];rfl
theorem Qfe {n m:Int}:∀ {l:List Spn},(∀ c ∈ l,1 ≤ c.to_ ∧ c.to_ ≤ m) → 0 ≤ m → ∀ c ∈ bump n l,1 ≤ c.to_ ∧ c.to_ ≤ m + 1
 | [],_,hm,c,hc => by simp [bump] at hc;subst hc;simp;omega
 | a :: r,h,hm,c,hc => by
  have ha:=h a (by simp)
  unfold bump at hc
  split at hc
  ·rcases List.mem_cons.1 hc with rfl|hc
   ·show 1 ≤ a.to_ + 1 ∧ a.to_ + 1 ≤ m + 1;omega
   ·have:=h c (by simp [hc]);omega
  ·rcases List.mem_cons.1 hc with rfl|hc
   ·omega
   ·exact Qfe (fun c hc => h c (by simp [hc])) hm c hc
theorem QdW (ns:List Int):∀ c ∈ bumps ns,1 ≤ c.to_ ∧ c.to_ ≤ ns.length:=by
 suffices h:∀ (ns:List Int) (b:List Spn) (m:Int),0 ≤ m → (∀ c ∈ b,1 ≤ c.to_ ∧ c.to_ ≤ m) → ∀ c ∈ ns.foldl (fun l n => bump n l) b,1 ≤ c.to_ ∧ c.to_ ≤ m + ns.length from by
  have:=h ns [] 0 (by omega) (by simp)
  unfold bumps
  simpa using this
 intro ns
 induction ns with
 | nil => intro b m hm h c hc;have:=h c hc;simp;omega
 | cons n ns ih =>
  intro b m hm h c hc
  have:=ih _ (m + 1) (by omega) (Qfe h hm) c hc
  simp at this ⊢;omega
theorem Qfi {n m:Int} (hm:0 ≤ m):∀ {l:List Spn},(∀ c ∈ l,1 ≤ c.to_ ∧ c.to_ ≤ m) → 0 ≤ cntO n l ∧ cntO n l ≤ m
 | [],_ => ⟨by simp [cntO],by simpa [cntO] using hm⟩
 | a :: r,h => by
  unfold cntO
  split
  ·have:=h a (by simp);omega
  ·exact Qfi hm fun c hc => h c (by simp [hc])
theorem Qkj (n:Int) (l:List Spn):(bump n l).length ≤ l.length + 1:=by
 induction l with
 | nil => simp [bump]
 | cons a r ih => unfold bump;split <;> simp;omega
theorem QcE (ns:List Int):(bumps ns).length ≤ ns.length:=by
 suffices h:∀ (ns:List Int) (b:List Spn),(ns.foldl (fun l n => bump n l) b).length ≤ b.length + ns.length from by
  have:=h ns []
  unfold bumps
  simpa using this
 intro ns
 induction ns with
 | nil => intro b;simp
 | cons n ns ih => intro b;have:=ih (bump n b);have:=Qkj n b;simp at *;omega
theorem Qdo (ns:List Int):(inss ns).length ≤ ns.length:=by
 rw [(Qap ns).2.1.length_eq];exact QcE ns
theorem Qm1 (ns:List Int):∀ c ∈ inss ns,1 ≤ c.to_ ∧ c.to_ ≤ ns.length:=fun c hc => QdW ns c ((Qap ns).2.1.mem_iff.1 hc)
theorem Qcb {n:Int}:∀ {l:List Spn} {k:Nat},(∀ j c,j < k → l[j]? = some c → c.fr < n) → (∀ c,l[k]? = some c → ¬ c.fr < n) → k ≤ l.length →
  insC n l = match l[k]? with|some c => (if c.fr = n then l.set k ⟨n,c.to_ + 1⟩ else l.take k ++ ⟨n,1⟩ :: l.drop k)|none => l ++ [⟨n,1⟩]
 | [],k,_,_,h => by
  have:k = 0:=by simpa using h
  subst this;rfl
 | a :: r,0,_,h2,_ => by
  have:=h2 a rfl
  simp only [insC,if_neg this,List.getElem?_cons_zero,List.take_zero,List.nil_append,List.drop_zero,List.set_cons_zero]
 | a :: r,k + 1,h1,h2,h3 => by
  have h0:=h1 0 a (by omega) rfl
  simp only [insC,if_pos h0,List.getElem?_cons_succ]
  rw [Qcb (l:=r) (k:=k) (fun j c hj hc => h1 (j + 1) c (by omega) (by simpa using hc)) (fun c hc => h2 c (by simpa using hc)) (by simpa using h3)]
  cases r[k]? with
  | none => rfl
  | some c => by_cases e:c.fr = n <;> simp [e]
def clsN (w:Int) (c:Cyc):Int:=(c.hi - c.lo).tdiv w
def clsL (w:Int) (l:List Cyc):List Int:=l.map (clsN w)
theorem QdU {w:Int} {l:List Cyc} {k:Nat} {x:Cyc} (h:l[k]? = some x):(clsL w l)[k]? = some (clsN w x):=by unfold clsL;rw [List.getElem?_map,h];rfl
theorem ZA (w:Int) (l:List Cyc):(clsL w l).length = l.length:=by simp [clsL]
theorem Qfr {a w:Int} (ha:-4611686018427387904 ≤ a ∧ a ≤ 4611686018427387904):-4611686018427387904 ≤ a.tdiv w ∧ a.tdiv w ≤ 4611686018427387904:=by
 have h:=Int.natAbs_tdiv_le_natAbs a w
 omega
end Go.Nac
namespace Go.Nac
def dst (v w:Int):Int:=max (v - w) (-(v - w))
def grIn (v m:Int) (ys:List Rev):Int:=ys.foldl (fun m r => max m (dst v r.ld)) m
theorem Qfd (v:Int):∀ (ys:List Rev) (m:Int),m ≤ grIn v m ys ∧ ∀ y ∈ ys,dst v y.ld ≤ grIn v m ys
 | [],m => ⟨Int.le_refl _,by simp⟩
 | a :: r,m => by
  obtain ⟨h1,h2⟩:=Qfd v r (max m (dst v a.ld))
  have e:grIn v m (a :: r) = grIn v (max m (dst v a.ld)) r:=rfl
  rw [e]
  refine ⟨by omega,fun y hy => ?_⟩
  rcases List.mem_cons.1 hy with rfl|hy
  ·omega
  ·exact h2 y hy
theorem Qfj {v B:Int}:∀ (ys:List Rev) (m:Int),m ≤ B → (∀ y ∈ ys,dst v y.ld ≤ B) → grIn v m ys ≤ B
 | [],m,h,_ => h
 | a :: r,m,h,hy => Qfj r (max m (dst v a.ld)) (by have:=hy a (by simp);omega) fun y h => hy y (by simp [h])
theorem maxL (l:List Rev) (m:Int):(m ≤ l.foldl (fun m r => max m r.ld) m ∧ ∀ y ∈ l,y.ld ≤ l.foldl (fun m r => max m r.ld) m) ∧ (l.foldl (fun m r => max m r.ld) m = m ∨ ∃ y ∈ l,y.ld = l.foldl (fun m r => max m r.ld) m):=by
 induction l generalizing m with
 | nil => exact ⟨⟨Int.le_refl _,by simp⟩,.inl rfl⟩
 | cons a r ih =>
  obtain ⟨⟨h1,h2⟩,h3⟩:=ih (max m a.ld)
  simp only [List.foldl_cons]
  refine ⟨⟨by omega,fun y hy => ?_⟩,?_⟩
  ·rcases List.mem_cons.1 hy with rfl|hy
   ·omega
   ·exact h2 y hy
  ·rcases h3 with h3|⟨y,hy,h3⟩
   ·by_cases h:m ≤ a.ld
    ·exact .inr ⟨a,by simp,by rw [h3];omega⟩
    ·exact .inl (by rw [h3];omega)
   ·exact .inr ⟨y,by simp [hy],h3⟩
theorem minL (l:List Rev) (m:Int):(l.foldl (fun m r => min m r.ld) m ≤ m ∧ ∀ y ∈ l,l.foldl (fun m r => min m r.ld) m ≤ y.ld) ∧ (l.foldl (fun m r => min m r.ld) m = m ∨ ∃ y ∈ l,y.ld = l.foldl (fun m r => min m r.ld) m):=by
 induction l generalizing m with
 | nil => exact ⟨⟨Int.le_refl _,by simp⟩,.inl rfl⟩
 | cons a r ih =>
  obtain ⟨⟨h1,h2⟩,h3⟩:=ih (min m a.ld)
  simp only [List.foldl_cons]
  refine ⟨⟨by omega,fun y hy => ?_⟩,?_⟩
  ·rcases List.mem_cons.1 hy with rfl|hy
   ·omega
   ·exact h2 y hy
  ·rcases h3 with h3|⟨y,hy,h3⟩
   ·by_cases h:a.ld ≤ m
    ·exact .inr ⟨a,by simp,by rw [h3];omega⟩
    ·exact .inl (by rw [h3];omega)
   ·exact .inr ⟨y,by simp [hy],h3⟩
theorem QeH {l:List Rev} {k:Nat} {x:Rev} (h:l[k]? = some x):spread (l.take (k + 1)) = grIn x.ld (spread (l.take k)) (l.take k):=by
 rw [List.take_add_one,h]
 generalize l.take k = t
 simp only [Option.toList_some]
 cases t with
 | nil => simp [spread,grIn]
 | cons a r =>
  simp only [List.cons_append,spread]
  rw [← List.cons_append]
  obtain ⟨⟨h1,h2⟩,h3⟩:=maxL (a :: r) a.ld
  obtain ⟨⟨h4,h5⟩,h6⟩:=minL (a :: r) a.ld
  rw [List.foldl_append,List.foldl_append]
  simp only [List.foldl_cons (l:=[]),List.foldl_nil]
  generalize List.foldl (fun m r => max m r.ld) a.ld (a :: r) = hi at h1 h2 h3 ⊢
  generalize List.foldl (fun m r => min m r.ld) a.ld (a :: r) = lo at h4 h5 h6 ⊢
  obtain ⟨y1,hy1,e1⟩:∃ y ∈ a :: r,y.ld = hi:=by
   rcases h3 with h|h
   ·exact ⟨a,by simp,h.symm⟩
   ·exact h
  obtain ⟨y2,hy2,e2⟩:∃ y ∈ a :: r,y.ld = lo:=by
   rcases h6 with h|h
   ·exact ⟨a,by simp,h.symm⟩
   ·exact h
  obtain ⟨g1,g2⟩:=Qfd x.ld (a :: r) (hi - lo)
  have g3:=g2 y1 hy1
  have g4:=g2 y2 hy2
  rw [e1] at g3;rw [e2] at g4
  have g5:grIn x.ld (hi - lo) (a :: r) ≤ max hi x.ld - min lo x.ld:=Qfj _ _ (by omega) fun y hy => by
   have:=h2 y hy;have:=h5 y hy
   unfold dst;omega
  unfold dst at g3 g4
  omega
theorem Qe2 {l:List Rev} {lv:Int} {k:Nat} {p q:Rev} (h1:l[k]? = some p) (h2:l[k + 1]? = some q):((l.zip l.tail).take (k + 1)).filter (crosses lv) = ((l.zip l.tail).take k).filter (crosses lv) ++ (if p.ld ≤ lv ∧ lv < q.ld then [(p,q)] else []):=by
 rw [List.take_add_one,Qaf l k p q h1 h2,List.filter_append]
 congr 1
 simp only [Option.toList_some,List.filter_cons,List.filter_nil,crosses]
 by_cases a:p.ld ≤ lv <;> by_cases b:lv < q.ld <;> simp [a,b]
end Go.Nac
set_option linter.unusedSimpArgs false
set_option linter.unnecessarySimpa false
set_option maxRecDepth 10000
namespace Go.Nac.L9
attribute [local congr] QaZ Ye Qbc Jh Je YR Qbi Qbj
section
variable {X:XRel}
def Fc:Prog
 | 54 => some c54
 | 85 => some c85
 | 110 => some c110
 | _ => none
abbrev Qc (f:FuncId) (args:List PV) (r:PV):Prop:=∀ M,ACall Fc (fun _ _ _ _ _ => False) (.fn f) args M r M
theorem QdX (x:Int):Qc 110 [.I x] (.B false):=by
 intro M
 (refine Qe (cf:=L9.c110) rfl rfl fun hM hA => ?_;simp only [L9.c110,zO,zF,zT,zM,CX.i];rw [mk1 _ (by decide)];simp -implicitDefEqProofs (disch:=first|omega|(simp only [go_sem,seval];first|done|omega)) only [go_sem,seval])
 (all_goals (first|refine pfN hM ?_ ?_|refine pf0 hM ?_ ?_);all_goals first|(simp only [go_sem,seval]<;>omega)|skip;all_goals (try simp -implicitDefEqProofs (disch:=first|omega|(simp only [go_sem,seval];first|done|omega)) only [go_sem,seval]))
 all_goals simp
theorem Qgx (x y:Int):Qc 85 [.I x,.I y] (.I (if x < y then -1 else if y < x then 1 else 0)):=by
 intro M
 (refine Qe (cf:=L9.c85) rfl rfl fun hM hA => ?_;simp only [L9.c85,zO,zF,zT,zM,CX.i];rw [mk2 _ (by decide)];simp -implicitDefEqProofs (disch:=first|omega|(simp only [go_sem,seval];first|done|omega)) only [go_sem,seval])
 refine Qb (QdX x _) ?_
 simp -implicitDefEqProofs (disch:=first|omega|(simp only [go_sem,seval];first|done|omega)) only [go_sem,seval]
 refine Qb (QdX y _) ?_
 simp -implicitDefEqProofs (disch:=first|omega|(simp only [go_sem,seval];first|done|omega)) only [go_sem,seval]
 by_cases h1:x < y
 ·simp -implicitDefEqProofs (disch:=first|omega|(simp only [go_sem,seval,h1];first|done|omega)) only [go_sem,seval,h1]
  (all_goals (first|refine pfN hM ?_ ?_|refine pf0 hM ?_ ?_);all_goals first|(simp only [go_sem,seval]<;>omega)|skip;all_goals (try simp -implicitDefEqProofs (disch:=first|omega|(simp only [go_sem,seval];first|done|omega)) only [go_sem,seval]))
 ·by_cases h2:y < x
  ·simp -implicitDefEqProofs (disch:=first|omega|(simp only [go_sem,seval,h1,h2];first|done|omega)) only [go_sem,seval,h1,h2]
   (all_goals (first|refine pfN hM ?_ ?_|refine pf0 hM ?_ ?_);all_goals first|(simp only [go_sem,seval]<;>omega)|skip;all_goals (try simp -implicitDefEqProofs (disch:=first|omega|(simp only [go_sem,seval];first|done|omega)) only [go_sem,seval]))
  ·simp -implicitDefEqProofs (disch:=first|omega|(simp only [go_sem,seval,h1,h2];first|done|omega)) only [go_sem,seval,h1,h2]
   (all_goals (first|refine pfN hM ?_ ?_|refine pf0 hM ?_ ?_);all_goals first|(simp only [go_sem,seval]<;>omega)|skip;all_goals (try simp -implicitDefEqProofs (disch:=first|omega|(simp only [go_sem,seval];first|done|omega)) only [go_sem,seval]))
theorem qc_compare (x y:Spn):Qc 54 [Qh x,Qh y] (.I (Vj x y)):=by
 intro M
 (refine Qe (cf:=L9.c54) rfl rfl fun hM hA => ?_;simp only [L9.c54,zO,zF,zT,zM,CX.i];rw [mk2 _ (by decide)];simp -implicitDefEqProofs (disch:=first|omega|(simp only [go_sem,seval,Qy];first|done|omega)) only [go_sem,seval,Qy])
 refine Qb (Qgx x.fr y.fr _) ?_
 have e:Vj x y = if x.fr < y.fr then -1 else if y.fr < x.fr then 1 else 0:=rfl
 rw [e]
 simp -implicitDefEqProofs (disch:=first|omega|(simp only [go_sem,seval];first|done|omega)) only [go_sem,seval]
 (all_goals (first|refine pfN hM ?_ ?_|refine pf0 hM ?_ ?_);all_goals first|(simp only [go_sem,seval]<;>omega)|skip;all_goals (try simp -implicitDefEqProofs (disch:=first|omega|(simp only [go_sem,seval];first|done|omega)) only [go_sem,seval]))
theorem QE (a b:List Spn) (hl:a.length ≤ 1048576):Q X 25 [.fs (a.map Qh),.fs (b.map Qh)] (.B (decide (a = b))):=by
 intro M
 (refine Qe (cf:=L9.c25) rfl rfl fun hM hA => ?_;simp only [L9.c25,zO,zF,zT,zM,CX.i];rw [mk2 _ (by decide)];simp -implicitDefEqProofs (disch:=first|omega|(simp only [go_sem,seval];first|done|omega)) only [go_sem,seval])
 refine Qi ?_ ?_ <;> intro hc <;> simp only [decide_eq_true_eq,decide_eq_false_iff_not,Classical.not_not] at hc
 ·simp -implicitDefEqProofs (disch:=first|omega|(simp only [go_sem,seval];first|done|omega)) only [go_sem,seval]
  (first|refine pfN hM ?_ ?_|refine pf0 hM ?_ ?_)
  ·simp -implicitDefEqProofs (disch:=first|omega|(simp only [go_sem,seval];first|done|omega)) only [go_sem,seval]
   congr 2;symm;rw [decide_eq_false_iff_not];rintro rfl;exact hc rfl
  ·(simp only [go_sem,seval]<;>omega)
 ·simp -implicitDefEqProofs (disch:=first|omega|(simp only [go_sem,seval];first|done|omega)) only [go_sem,seval]
  have hc:b.length = a.length:=by omega
  refine Qm (α:=Nat) 0 (fun k => k ≤ a.length ∧ a.take k = b.take k) (fun k => M) (fun k => [(0,.fs (a.map Qh)),(1,.fs (b.map Qh)),(5,.I k)]) (fun k => a.length - k) ⟨Nat.zero_le _,rfl⟩ rfl rfl ?_
  rintro k ⟨hk,hs⟩
  by_cases hlt:k < a.length
  ·obtain ⟨x,h1⟩:∃ x,a[k]? = some x:=⟨_,List.getElem?_eq_getElem hlt⟩
   obtain ⟨y,h2⟩:∃ y,b[k]? = some y:=⟨_,List.getElem?_eq_getElem (by omega)⟩
   simp -implicitDefEqProofs (disch:=first|omega|(simp only [go_sem,seval,hlt,h1,h2,Ql];first|done|omega)) only [go_sem,seval,hlt,h1,h2,Ql]
   refine Qi ?_ ?_ <;> intro he
   ·simp -implicitDefEqProofs (disch:=first|omega|(simp only [go_sem,seval];first|done|omega)) only [go_sem,seval]
    (first|refine pfN hM ?_ ?_|refine pf0 hM ?_ ?_)
    ·simp -implicitDefEqProofs (disch:=first|omega|(simp only [go_sem,seval];first|done|omega)) only [go_sem,seval]
     congr 2;symm;rw [decide_eq_false_iff_not];rintro rfl
     rw [h1] at h2;cases h2;simp at he
    ·(simp only [go_sem,seval]<;>omega)
   ·simp -implicitDefEqProofs (disch:=first|omega|(simp only [go_sem,seval];first|done|omega)) only [go_sem,seval]
    have hxy:x = y:=by cases x;cases y;simp at he;simp [he]
    refine again' (k + 1) ⟨by omega,?_⟩ (by omega) rfl rfl
    have g1:=QC (f:=id) h1;have g2:=QC (f:=id) h2
    simp only [List.map_id] at g1 g2
    rw [g1,g2,hs,hxy]
  ·simp -implicitDefEqProofs (disch:=first|omega|(simp only [go_sem,seval,hlt];first|done|omega)) only [go_sem,seval,hlt]
   (first|refine pfN hM ?_ ?_|refine pf0 hM ?_ ?_)
   ·simp -implicitDefEqProofs (disch:=first|omega|(simp only [go_sem,seval];first|done|omega)) only [go_sem,seval]
    congr 2;symm;rw [decide_eq_true_eq]
    rw [List.take_of_length_le (by omega),List.take_of_length_le (by omega)] at hs;exact hs
   ·(simp only [go_sem,seval]<;>omega)
theorem Q9 (l:List Rev) (lv:Int) (hl:l.length ≤ 1048576):Q X 23 [.fs (l.map Qd),.I lv] (.I (QV lv l)):=by
 intro M
 (refine Qe (cf:=L9.c23) rfl rfl fun hM hA => ?_;simp only [L9.c23,zO,zF,zT,zM,CX.i];rw [mk2 _ (by decide)];simp -implicitDefEqProofs (disch:=first|omega|(simp only [go_sem,seval];first|done|omega)) only [go_sem,seval])
 refine Qm (α:=Nat) 0 (fun k => k ≤ l.length) (fun _ => M) (fun k => [(0,.fs (l.map Qd)),(1,.I lv),(5,.I (((l.zip l.tail).take k).filter (crosses lv)).length),(6,.I ((k + 1:Nat):Int))]) (fun k => l.length - k) (Nat.zero_le _) rfl rfl ?_
 intro k hk
 by_cases hlt:k + 1 < l.length
 ·obtain ⟨p,h1⟩:∃ x,l[k]? = some x:=⟨_,List.getElem?_eq_getElem (by omega)⟩
  obtain ⟨q,h2⟩:∃ x,l[k + 1]? = some x:=⟨_,List.getElem?_eq_getElem hlt⟩
  have e1:((k + 1:Nat):Int) - 1 = (k:Int):=by omega
  have e2:((k + 1:Nat):Int) + 1 = ((k + 1 + 1:Nat):Int):=by omega
  have f0:(((k + 1:Nat):Int) < (l.length:Int)) = True:=eq_true (by omega)
  have hs:=Qe2 (lv:=lv) h1 h2
  have hfl:(((l.zip l.tail).take k).filter (crosses lv)).length ≤ k:=Nat.le_trans (List.length_filter_le _ _) (by simp;omega)
  generalize ((l.zip l.tail).take k).filter (crosses lv) = o at hs hfl ⊢
  by_cases c1:p.ld ≤ lv
  ·by_cases c2:lv < q.ld
   ·rw [if_pos ⟨c1,c2⟩] at hs
    simp -implicitDefEqProofs (disch:=first|omega|(simp only [go_sem,seval,f0,e1,h1,h2,Qa,c1,c2,e2];first|done|omega)) only [go_sem,seval,f0,e1,h1,h2,Qa,c1,c2,e2]
    exact again' (k + 1) (by omega) (by omega) rfl (by rw [hs];simp <;> omega)
   ·rw [if_neg (fun h => c2 h.2)] at hs
    simp -implicitDefEqProofs (disch:=first|omega|(simp only [go_sem,seval,f0,e1,h1,h2,Qa,c1,c2,e2];first|done|omega)) only [go_sem,seval,f0,e1,h1,h2,Qa,c1,c2,e2]
    exact again' (k + 1) (by omega) (by omega) rfl (by rw [hs];simp <;> omega)
  ·rw [if_neg (fun h => c1 h.1)] at hs
   simp -implicitDefEqProofs (disch:=first|omega|(simp only [go_sem,seval,f0,e1,h1,h2,Qa,c1,e2];first|done|omega)) only [go_sem,seval,f0,e1,h1,h2,Qa,c1,e2]
   exact again' (k + 1) (by omega) (by omega) rfl (by rw [hs];simp <;> omega)
 ·have f0:(((k + 1:Nat):Int) < (l.length:Int)) = False:=eq_false (by omega)
  rw [List.take_of_length_le (by rw [J0];omega)]
  simp -implicitDefEqProofs (disch:=first|omega|(simp only [go_sem,seval,f0];first|done|omega)) only [go_sem,seval,f0]
  (first|refine pfN hM ?_ ?_|refine pf0 hM ?_ ?_)
  ·simp -implicitDefEqProofs (disch:=first|omega|(simp only [go_sem,seval];first|done|omega)) only [go_sem,seval]
   rfl
  ·(simp only [go_sem,seval]<;>omega)
theorem VX (l:List Rev) (hl:l.length ≤ 1048576) (hs:∀ r ∈ l,QG r):Q X 22 [.fs (l.map Qd)] (.I (spread l)):=by
 intro M
 (refine Qe (cf:=L9.c22) rfl rfl fun hM hA => ?_;simp only [L9.c22,zO,zF,zT,zM,CX.i];rw [mk1 _ (by decide)];simp -implicitDefEqProofs (disch:=first|omega|(simp only [go_sem,seval];first|done|omega)) only [go_sem,seval])
 refine Qm (α:=Nat) 0 (fun k => k ≤ l.length) (fun _ => M) (fun k => [(0,.fs (l.map Qd)),(3,.I (spread (l.take k))),(4,.I k)]) (fun k => l.length - k) (Nat.zero_le _) rfl rfl ?_
 intro k hk
 by_cases hlt:k < l.length
 ·obtain ⟨x,h1⟩:∃ x,l[k]? = some x:=⟨_,List.getElem?_eq_getElem hlt⟩
  have hx:=hs x (List.mem_of_getElem? h1)
  unfold QG at hx
  have hsn:=QeH h1
  simp -implicitDefEqProofs (disch:=first|omega|(simp only [go_sem,seval,hlt];first|done|omega)) only [go_sem,seval,hlt]
  refine Qm (α:=Nat) 0 (fun j => j ≤ k) (fun _ => M) (fun j => [(0,.fs (l.map Qd)),(3,.I (grIn x.ld (spread (l.take k)) ((l.take k).take j))),(4,.I k),(5,.I j)]) (fun j => k - j) (Nat.zero_le _) rfl rfl ?_
  intro j hj
  by_cases hjk:j < k
  ·obtain ⟨y,h2⟩:∃ x,l[j]? = some x:=⟨_,List.getElem?_eq_getElem (by omega)⟩
   have hy:=hs y (List.mem_of_getElem? h2)
   unfold QG at hy
   have h3:(l.take k)[j]? = some y:=by rw [List.getElem?_take,if_pos hjk];exact h2
   have hg:grIn x.ld (spread (l.take k)) ((l.take k).take (j + 1)) = max (grIn x.ld (spread (l.take k)) ((l.take k).take j)) (dst x.ld y.ld):=by
    rw [List.take_add_one,h3];unfold grIn;rw [List.foldl_append];rfl
   generalize grIn x.ld (spread (l.take k)) ((l.take k).take j) = g at hg ⊢
   simp -implicitDefEqProofs (disch:=first|omega|(simp only [go_sem,seval,hjk,h1,h2,Qa];first|done|omega)) only [go_sem,seval,hjk,h1,h2,Qa]
   refine Qb (Qe7 (x.ld - y.ld) (by omega) _) ?_
   simp -implicitDefEqProofs (disch:=first|omega|(simp only [go_sem,seval];first|done|omega)) only [go_sem,seval]
   exact again' (j + 1) (by omega) (by omega) rfl (by rw [hg];rfl)
  ·simp -implicitDefEqProofs (disch:=first|omega|(simp only [go_sem,seval,hjk];first|done|omega)) only [go_sem,seval,hjk]
   rw [List.take_of_length_le (l:=l.take k) (by simp;omega),← hsn]
   exact again' (k + 1) (by omega) (by omega) rfl rfl
 ·simp -implicitDefEqProofs (disch:=first|omega|(simp only [go_sem,seval,hlt];first|done|omega)) only [go_sem,seval,hlt]
  rw [List.take_of_length_le (by omega)]
  (first|refine pfN hM ?_ ?_|refine pf0 hM ?_ ?_)
  ·first|rfl|simp -implicitDefEqProofs (disch:=first|omega|(simp only [go_sem,seval];first|done|omega)) only [go_sem,seval]
  ·(simp only [go_sem,seval]<;>omega)
attribute [local congr] Qeu
def SortX (X:XRel):Prop:=∀ (M:List Blk) (i ver:Nat) (d:List Spn),d.length ≤ 1048576 → M[i]? = some (.row true 2 ver (d.map Qh)) →
 X 53 [.os i ver 0 d.length,.fn (.func 54) [] []] M (.tup []) (M.set i (.row true 2 ver ((srtL Vj d).map Qh)))
def clsE (l:List Cyc) (w:Int):Int:=fst0 [Qv l,rng w 1 999999999]
def clsR (l:List Cyc) (w:Int):List Spn:=if clsE l w = 0 then inss (clsL w l) else []
theorem Yb {k:IntKind}:True:=trivial
theorem Qky {left:List Spn} {a b:List (Value × Value)} {e:Value × Value} (h:left.map kvS = a ++ e :: b):∃ A c B,left = A ++ c :: B ∧ a = A.map kvS ∧ e = kvS c ∧ b = B.map kvS:=by
 obtain ⟨A,D,h1,h2,h3⟩:=List.map_eq_append_iff.1 h
 obtain ⟨c,B,h4,h5,h6⟩:=List.map_eq_cons_iff.1 h3
 exact ⟨A,c,B,by rw [h1,h4],h2.symm,h5.symm,h6.symm⟩
set_option maxHeartbeats 1000000 in
theorem Qch (hS:SortX X) (l:List Cyc) (w:Int) (hl:l.length ≤ 1000000):Q X 12 [.fs (l.map Qn),.I w] (.tup [.fs ((clsR l w).map Qh),.I (clsE l w)]):=by
 intro M
 (refine Qe (cf:=L9.c12) rfl rfl fun hM hA => ?_;simp only [L9.c12,zO,zF,zT,zM,CX.i];rw [mk2 _ (by decide)];simp -implicitDefEqProofs (disch:=first|omega|(simp only [go_sem,seval];first|done|omega)) only [go_sem,seval])
 refine Qb (Qx l (by omega) _) ?_
 simp -implicitDefEqProofs (disch:=first|omega|(simp only [go_sem,seval];first|done|omega)) only [go_sem,seval]
 refine Qb (Vb w 1 999999999 _) ?_
 simp -implicitDefEqProofs (disch:=first|omega|(simp only [go_sem,seval];first|done|omega)) only [go_sem,seval]
 refine Qb (QI [_,_] (by simp) _) ?_
 simp -implicitDefEqProofs (disch:=first|omega|(simp only [go_sem,seval];first|done|omega)) only [go_sem,seval]
 refine Qi ?_ ?_ <;> intro hc <;> (try simp only [decide_eq_true_eq,decide_eq_false_iff_not,Classical.not_not,Bool.not_eq_true,Bool.not_eq_true',Bool.not_eq_false',Bool.false_or,Bool.or_false,Bool.true_or,Bool.or_true,Bool.false_and,Bool.and_false,Bool.true_and,Bool.and_true] at hc) <;> simp -implicitDefEqProofs (disch:=first|omega|(simp only [go_sem,seval,hc];first|done|omega)) only [go_sem,seval,hc]
 ·(first|refine pfN hM ?_ ?_|refine pf0 hM ?_ ?_)
  ·simp -implicitDefEqProofs (disch:=first|omega|(simp only [go_sem,seval];first|done|omega)) only [go_sem,seval]
   simp [clsR,clsE,hc]
  ·(simp only [go_sem,seval,Qq]<;>omega)
 ·have hz:=QY hc
  have hw:=Q8.1 hz.2
  have hg:=(Z1.1 hz.1).2
  have hE:clsE l w = 0:=hc
  have hR:clsR l w = inss (clsL w l):=if_pos hE
  clear hc
  refine Qm (α:=Nat) 0 (fun k => k ≤ l.length) (fun k => M ++ [.map ((bumps ((clsL w l).take k)).map kvS)])
   (fun k => [(1,.I w),(7,.om M.length),(23,.fs (l.map Qn)),(24,.I l.length),(25,.I k)]) (fun k => l.length - k) (Nat.zero_le _) rfl rfl ?_
  intro k hk
  by_cases hlt:k < l.length
  ·obtain ⟨x,h1⟩:∃ x,l[k]? = some x:=⟨_,List.getElem?_eq_getElem hlt⟩
   have hx:=hg x (List.mem_of_getElem? h1)
   unfold goodC at hx
   have hq:=Qfr (a:=x.hi - x.lo) (w:=w) (by omega)
   have hsn:=QfX (QdU (w:=w) h1)
   have hbd:=Qfi (n:=clsN w x) (m:=((clsL w l).take k).length) (by omega) (QdW ((clsL w l).take k))
   rw [List.length_take,ZA] at hbd
   have hfi:=Qd8 (clsN w x) (bumps ((clsL w l).take k))
   have hli:=Qi5 (clsN w x) (bumps ((clsL w l).take k))
   have hup:=Qdq (clsN w x) (bumps ((clsL w l).take k))
   generalize bumps ((clsL w l).take k) = o at hsn hbd hfi hli hup ⊢
   generalize hcn:clsN w x = n at hsn hbd hfi hli hup
   unfold clsN at hcn
   have hw0:¬ w = 0:=by omega
   rw [hcn] at hq
   have l1:Q7 (.int .i64 n) (o.map kvS) = true:=hli
   simp -implicitDefEqProofs (disch:=first|omega|(simp only [go_sem,seval,hlt,h1,Qk,hw0,hcn,Zd,Zk,Zc,Zo,VQ,VP,VT,VR,l1,hfi,hup];first|done|omega)) only [go_sem,seval,hlt,h1,Qk,hw0,hcn,Zd,Zk,Zc,Zo,VQ,VP,VT,VR,l1,hfi,hup]
   refine Qo hM rfl 1 (by simp) (by first|done|(simp only [go_sem,seval] <;> first|done|(refine ⟨?_,?_⟩ <;> omega)|omega)) (Qr (by first|done|(simp only [go_sem,seval] <;> first|done|(refine ⟨?_,?_⟩ <;> omega)|omega))) ?_
   simp -implicitDefEqProofs (disch:=first|omega|(simp only [go_sem,seval];first|done|omega)) only [go_sem,seval]
   exact again' (k + 1) (by omega) (by omega) (by rw [hsn]) rfl
  ·have hky:=Qka (bumps ((clsL w l).take k))
   rw [List.take_of_length_le (by rw [ZA];omega)] at hky ⊢
   have hbl:=QcE (clsL w l)
   rw [ZA] at hbl
   have hns:∀ d:List Spn,d.Perm (bumps (clsL w l)) → srtL Vj d = clsR l w:=fun d h => by rw [hR];exact Qdd h
   generalize bumps (clsL w l) = o at hky hbl hns ⊢
   have nlt:=hlt
   simp -implicitDefEqProofs (disch:=first|omega|(simp only [go_sem,seval,hky,nlt];first|done|omega)) only [go_sem,seval,hky,nlt]
   clear nlt hlt hk hky
   refine Qm (α:=List Spn × List Spn × Option (Value × Value)) ([],o,none) (fun p => (p.1 ++ p.2.1).Perm o) (fun p => M ++ [.siter (.mp (p.2.1.map kvS) p.2.2),.row true 2 p.1.length (p.1.map Qh)])
    (fun p => [(10,.os (M.length + 1) p.1.length 0 p.1.length),(41,.oi M.length)]) (fun p => p.2.1.length) (.refl _) rfl rfl ?_
   rintro ⟨d,left,cur⟩ hp
   simp only [] at hp ⊢
   have hdl:=hp.length_eq
   rw [List.length_append] at hdl
   simp -implicitDefEqProofs (disch:=first|omega|(simp only [go_sem,seval];first|done|omega)) only [go_sem,seval]
   refine QjZ (i:=M.length) (left:=left.map kvS) (cur:=cur) (by simp) (fun hle => ?_) fun a e b hle => ?_
   ·have h0:left = []:=List.map_eq_nil_iff.1 hle
    subst h0
    rw [List.append_nil] at hp
    have hres:=hns d hp
    simp -implicitDefEqProofs (disch:=first|omega|(simp only [go_sem,seval];first|done|omega)) only [go_sem,seval]
    refine V7 (QhU (hS _ _ _ d (by omega) (by simp))) ?_
    have hsl:=QlU d
    rw [hres] at hsl ⊢
    rw [← hE]
    generalize clsR l w = R at hsl ⊢
    generalize clsE l w = ee at ⊢
    simp -implicitDefEqProofs (disch:=first|omega|(simp only [go_sem,seval,hsl];first|done|omega)) only [go_sem,seval,hsl]
    (first|refine pfN hM ?_ ?_|refine pf0 hM ?_ ?_)
    ·simp -implicitDefEqProofs (disch:=first|omega|(simp only [go_sem,seval,hsl];first|done|omega)) only [go_sem,seval,hsl]
    ·(simp only [go_sem,seval,Qq]<;>omega)
   ·obtain ⟨A,c,B,rfl,rfl,rfl,rfl⟩:=Qky hle
    simp only [List.length_append,List.length_cons] at hdl
    simp -implicitDefEqProofs (disch:=first|omega|(simp only [go_sem,seval,kvS];first|done|omega)) only [go_sem,seval,kvS]
    refine again' (d ++ [c],A ++ B,some (kvS c)) ?_ ?_ ?_ ?_
    ·show ((d ++ [c]) ++ (A ++ B)).Perm o
     rw [List.append_assoc]
     exact (List.Perm.append_left d (List.perm_middle (l₁:=A) (a:=c) (l₂:=B)).symm).trans hp
    ·show (A ++ B).length < (A ++ c :: B).length
     simp
    ·simp [Qh,kvS]
    ·simp
theorem JA {N:List Blk} (hN:lowM N.length N) {b:Blk} (hb:b.low (N.length + 1)):lowM (N ++ [b]).length (N ++ [b]) :=
 (VJ _ _).2 ⟨ZP (by simp) hN,fun x hx => by rw [List.mem_singleton] at hx;subst hx;simpa using hb⟩
theorem Qb3 {C:CallR} {n0:Nat} {Q:Post} {t:List PV} {N:List Blk} {a b:Blk} (hN:lowM N.length N) (hn:n0 ≤ N.length) (ha:a.low (N.length + 1)) (hb:b.low (N.length + 2)) (ht:lowL (N.length + 2) t) (hq:Q .normal ((N ++ [a]) ++ [b]) t):Wp C n0 .cut Q (N ++ [a,b]) t:=by
 rw [show N ++ [a,b] = (N ++ [a]) ++ [b] from by simp]
 exact Qcg (JA (JA hN ha) (by simpa using hb)) (by simp;omega) (by simpa using ht) hq
set_option maxHeartbeats 1000000 in
theorem Vi (l:List Cyc) (w:Int) (hl:l.length ≤ 1000000) (hg:∀ c ∈ l,goodC c) (hw:1 ≤ w):Q X 21 [.fs (l.map Qn),.I w] (.fs ((inss (clsL w l)).map Qh)):=by
 intro M
 (refine Qe (cf:=L9.c21) rfl rfl fun hM hA => ?_;simp only [L9.c21,zO,zF,zT,zM,CX.i];rw [mk2 _ (by decide)];simp -implicitDefEqProofs (disch:=first|omega|(simp only [go_sem,seval];first|done|omega)) only [go_sem,seval])
 refine Qm (α:=List Blk × Nat × Nat) (M,0,0) (fun p => p.2.1 ≤ l.length ∧ lowM p.1.length p.1 ∧ ∃ J,p.1 = M ++ J) (fun p => p.1 ++ [.row true 2 p.2.2 ((inss ((clsL w l).take p.2.1)).map Qh)])
  (fun p => [(0,.fs (l.map Qn)),(1,.I w),(5,.os p.1.length p.2.2 0 (inss ((clsL w l).take p.2.1)).length),(6,.I p.2.1)]) (fun p => l.length - p.2.1) ⟨Nat.zero_le _,hM,[],by simp⟩ rfl rfl ?_
 rintro ⟨N,k,ver⟩ ⟨hk,hN,hJ⟩
 simp only [] at hk hN hJ ⊢
 have hol:=Qdo ((clsL w l).take k)
 rw [List.length_take,ZA] at hol
 by_cases hlt:k < l.length
 ·obtain ⟨x,h1⟩:∃ x,l[k]? = some x:=⟨_,List.getElem?_eq_getElem hlt⟩
  have hx:=hg x (List.mem_of_getElem? h1)
  unfold goodC at hx
  have hq:=Qfr (a:=x.hi - x.lo) (w:=w) (by omega)
  have hsn:=Qir (QdU (w:=w) h1)
  have hbd:=Qm1 ((clsL w l).take k)
  rw [List.length_take,ZA] at hbd
  generalize ho:inss ((clsL w l).take k) = o at hsn hbd hol ⊢
  generalize hcn:clsN w x = n at hsn
  unfold clsN at hcn
  rw [hcn] at hq
  have hw0:¬ w = 0:=by omega
  simp -implicitDefEqProofs (disch:=first|omega|(simp only [go_sem,seval,hlt,h1,Qk,hw0,hcn];first|done|omega)) only [go_sem,seval,hlt,h1,Qk,hw0,hcn]
  refine Qm (α:=Nat) 0 (fun j => j ≤ o.length ∧ ∀ i c,i < j → o[i]? = some c → c.fr < n) (fun _ => N ++ [.row true 2 ver (o.map Qh)])
   (fun j => [(0,.fs (l.map Qn)),(1,.I w),(5,.os N.length ver 0 o.length),(6,.I k),(7,.I n),(8,.I j)]) (fun j => o.length - j) ⟨Nat.zero_le _,fun i c h => absurd h (by omega)⟩ rfl rfl ?_
  rintro j ⟨hj,hlow⟩
  by_cases hjl:j < o.length
  ·obtain ⟨c,h2⟩:∃ c,o[j]? = some c:=⟨_,List.getElem?_eq_getElem hjl⟩
   have hcb:=hbd c (List.mem_of_getElem? h2)
   by_cases hc1:c.fr < n
   ·simp -implicitDefEqProofs (disch:=first|omega|(simp only [go_sem,seval,hjl,h2,Ql,hc1];first|done|omega)) only [go_sem,seval,hjl,h2,Ql,hc1]
    exact again' (j + 1) ⟨by omega,fun i c' hi hc' => by
     rcases Nat.lt_succ_iff_lt_or_eq.1 hi with h|rfl
     ·exact hlow i c' h hc'
     ·rw [h2] at hc';cases hc';exact hc1⟩ (by omega) rfl rfl
   ·have hins:=Qcb (n:=n) (l:=o) (k:=j) hlow (fun c' hc' => by rw [h2] at hc';cases hc';exact hc1) hj
    rw [h2] at hins
    simp only [] at hins
    by_cases hc2:c.fr = n
    ·rw [if_pos hc2] at hins
     simp -implicitDefEqProofs (disch:=first|omega|(simp only [go_sem,seval,hjl,h2,Ql,hc1,hc2,Qy,Qba];first|done|omega)) only [go_sem,seval,hjl,h2,Ql,hc1,hc2,Qy,Qba]
     have hset:(insC n o).map Qh = (o.map Qh).set j (.agg [.I n,.I (c.to_ + 1)]):=by rw [hins,List.map_set];rfl
     have hln:(insC n o).length = o.length:=by rw [hins,List.length_set]
     rw [← hset]
     refine Qcg (JA hN (by first|done|(simp only [go_sem,seval,Qq] <;> first|done|(refine ⟨?_,?_⟩ <;> omega)|omega))) (by obtain ⟨J,rfl⟩:=hJ;simp) (Qr (by first|done|(simp only [go_sem,seval,Qj] <;> first|done|(refine ⟨?_,?_⟩ <;> omega)|omega))) ?_
     simp -implicitDefEqProofs (disch:=first|omega|(simp only [go_sem,seval];first|done|omega)) only [go_sem,seval]
     exact again' (N,k + 1,ver) ⟨by simp only [];omega,hN,hJ⟩ (by simp only [];omega) (by simp only [hsn]) (by simp only [hsn,hln];rfl)
    ·rw [if_neg hc2] at hins
     have hokA:=Y3 (o.take j)
     have hokB:=Y3 (o.drop j)
     have hlA:(o.take j).length = j:=by rw [List.length_take];omega
     have hmt:(o.map Qh).take j = (o.take j).map Qh:=by rw [List.map_take]
     have hmd:((o.map Qh).drop j).take (o.length - j) = (o.drop j).map Qh:=by rw [List.take_of_length_le (by simp),List.map_drop]
     simp -implicitDefEqProofs (disch:=first|omega|(simp only [go_sem,seval,hjl,h2,Ql,hc1,hc2,hj,Nat.sub_zero,List.drop_zero,hokA,hokB,hlA,hmt,hmd];first|done|omega)) only [go_sem,seval,hjl,h2,Ql,hc1,hc2,hj,Nat.sub_zero,List.drop_zero,hokA,hokB,hlA,hmt,hmd]
     refine ⟨by simp [Yd,Yp,Zn,refs,refs1],?_⟩
     have hset:(o.take j).map Qh ++ .agg [.I n,.I 1] :: (o.drop j).map Qh = (insC n o).map Qh:=by rw [hins];simp [Qh]
     have hln:(insC n o).length = j + (1 + (o.length - j)):=by rw [hins];simp;omega
     rw [hset,← hln]
     refine Qb3 hN (by obtain ⟨J,rfl⟩:=hJ;simp) (by first|done|(simp only [go_sem,seval,Qq] <;> first|done|(refine ⟨?_,?_⟩ <;> omega)|omega)) (by first|done|(simp only [go_sem,seval,Qq] <;> first|done|(refine ⟨?_,?_⟩ <;> omega)|omega)) (Qr (by first|done|(simp only [go_sem,seval,Qj] <;> first|done|(refine ⟨?_,?_⟩ <;> omega)|omega))) ?_
     simp -implicitDefEqProofs (disch:=first|omega|(simp only [go_sem,seval];first|done|omega)) only [go_sem,seval]
     refine again' (N ++ [.row true 2 ver (o.map Qh)],k + 1,4) ⟨by simp only [];omega,JA hN (by first|done|(simp only [go_sem,seval,Qq] <;> first|done|(refine ⟨?_,?_⟩ <;> omega)|omega)),?_⟩ (by simp only [];omega) (by simp only [hsn];simp) (by simp only [hsn];simp)
     obtain ⟨J,rfl⟩:=hJ
     exact ⟨J ++ [.row true 2 ver (o.map Qh)],by simp⟩
  ·have hins:=Qcb (n:=n) (l:=o) (k:=j) hlow (fun c' hc' => absurd (List.getElem?_eq_some_iff.1 hc').1 hjl) hj
   rw [List.getElem?_eq_none (by omega)] at hins
   simp only [] at hins
   have hins:insC n o = o.take j ++ ⟨n,1⟩ :: o.drop j:=by rw [hins,List.take_of_length_le (by omega),List.drop_eq_nil_of_le (by omega)]
   have hokA:=Y3 (o.take j)
   have hokB:=Y3 (o.drop j)
   have hlA:(o.take j).length = j:=by rw [List.length_take];omega
   have hmt:(o.map Qh).take j = (o.take j).map Qh:=by rw [List.map_take]
   have hmd:((o.map Qh).drop j).take (o.length - j) = (o.drop j).map Qh:=by rw [List.take_of_length_le (by simp),List.map_drop]
   simp -implicitDefEqProofs (disch:=first|omega|(simp only [go_sem,seval,hjl,hj,Nat.sub_zero,List.drop_zero,hokA,hokB,hlA,hmt,hmd];first|done|omega)) only [go_sem,seval,hjl,hj,Nat.sub_zero,List.drop_zero,hokA,hokB,hlA,hmt,hmd]
   refine ⟨by simp [Yd,Yp,Zn,refs,refs1],?_⟩
   have hset:(o.take j).map Qh ++ .agg [.I n,.I 1] :: (o.drop j).map Qh = (insC n o).map Qh:=by rw [hins];simp [Qh]
   have hln:(insC n o).length = j + (1 + (o.length - j)):=by rw [hins];simp;omega
   rw [hset,← hln]
   refine Qb3 hN (by obtain ⟨J,rfl⟩:=hJ;simp) (by first|done|(simp only [go_sem,seval,Qq] <;> first|done|(refine ⟨?_,?_⟩ <;> omega)|omega)) (by first|done|(simp only [go_sem,seval,Qq] <;> first|done|(refine ⟨?_,?_⟩ <;> omega)|omega)) (Qr (by first|done|(simp only [go_sem,seval,Qj] <;> first|done|(refine ⟨?_,?_⟩ <;> omega)|omega))) ?_
   simp -implicitDefEqProofs (disch:=first|omega|(simp only [go_sem,seval];first|done|omega)) only [go_sem,seval]
   refine again' (N ++ [.row true 2 ver (o.map Qh)],k + 1,4) ⟨by simp only [];omega,JA hN (by first|done|(simp only [go_sem,seval,Qq] <;> first|done|(refine ⟨?_,?_⟩ <;> omega)|omega)),?_⟩ (by simp only [];omega) (by simp only [hsn];simp) (by simp only [hsn];simp)
   obtain ⟨J,rfl⟩:=hJ
   exact ⟨J ++ [.row true 2 ver (o.map Qh)],by simp⟩
 ·rw [List.take_of_length_le (by rw [ZA];omega)] at hol ⊢
  obtain ⟨J,rfl⟩:=hJ
  simp -implicitDefEqProofs (disch:=first|omega|(simp only [go_sem,seval,hlt];first|done|omega)) only [go_sem,seval,hlt]
  (first|refine pfN hM ?_ ?_|refine pf0 hM ?_ ?_)
  ·first|rfl|simp -implicitDefEqProofs (disch:=first|omega|(simp only [go_sem,seval];first|done|omega)) only [go_sem,seval]
  ·(simp only [go_sem,seval,Qq]<;>omega)
theorem QnU {a b:Int}:fst0 [a,b] = if a = 0 then b else a:=by
 simp only [fst0]
 by_cases h:a = 0
 ·rw [if_pos h,if_pos h];split <;> simp_all
 ·rw [if_neg h,if_neg h]
set_option maxHeartbeats 4000000 in
theorem q_law07_LoadClasses (hS:SortX X) (c:List Cyc) (l:List Rev) (x0 x1:Int):Q X 4 [.fs (c.map Qn),.fs (l.map Qd),.agg [.I x0,.I x1]] (.B true):=by
 intro M
 (refine Qe (cf:=L9.c4) rfl rfl fun hM hA => ?_;simp only [L9.c4,zO,zF,zT,zM,CX.i];rw [mk3 _ (by decide)];simp -implicitDefEqProofs (disch:=first|omega|(simp only [go_sem,seval];first|done|omega)) only [go_sem,seval])
 refine Qb (Yz _) ?_
 simp -implicitDefEqProofs (disch:=first|omega|(simp only [go_sem,seval];first|done|omega)) only [go_sem,seval]
 by_cases h1:c.length ≤ 20
 ·have f1:((20:Int) < c.length) = False:=eq_false (by omega)
  simp -implicitDefEqProofs (disch:=first|omega|(simp only [go_sem,seval,f1];first|done|omega)) only [go_sem,seval,f1]
  refine Qb (QcO _ _ _) ?_
  by_cases h2:l.length ≤ 20
  ·have f2:((l.length:Int) ≤ 20) = True:=eq_true (by omega)
   simp -implicitDefEqProofs (disch:=first|omega|(simp only [go_sem,seval,f2];first|done|omega)) only [go_sem,seval,f2]
   refine Qb (QK c (by omega) _) ?_
   simp -implicitDefEqProofs (disch:=first|omega|(simp only [go_sem,seval];first|done|omega)) only [go_sem,seval]
   refine Qb (Qch hS c x0 (by omega) _) ?_
   simp -implicitDefEqProofs (disch:=first|omega|(simp only [go_sem,seval];first|done|omega)) only [go_sem,seval]
   refine Qb (QaM l (by omega) _) ?_
   simp -implicitDefEqProofs (disch:=first|omega|(simp only [go_sem,seval];first|done|omega)) only [go_sem,seval]
   refine Qb (Y5 l (by omega) _) ?_
   simp -implicitDefEqProofs (disch:=first|omega|(simp only [go_sem,seval];first|done|omega)) only [go_sem,seval]
   refine Qb (QaM l (by omega) _) ?_
   simp -implicitDefEqProofs (disch:=first|omega|(simp only [go_sem,seval];first|done|omega)) only [go_sem,seval]
   refine Qb (YW l x1 (by omega) _) ?_
   simp -implicitDefEqProofs (disch:=first|omega|(simp only [go_sem,seval];first|done|omega)) only [go_sem,seval]
   refine Qb (JU c (by omega) _) ?_
   simp -implicitDefEqProofs (disch:=first|omega|(simp only [go_sem,seval];first|done|omega)) only [go_sem,seval]
   refine Qb (Jd l (by omega) _) ?_
   simp -implicitDefEqProofs (disch:=first|omega|(simp only [go_sem,seval];first|done|omega)) only [go_sem,seval]
   refine Qb (QU _ _ _ _) ?_
   simp -implicitDefEqProofs (disch:=first|omega|(simp only [go_sem,seval];first|done|omega)) only [go_sem,seval]
   refine Qb (VE [_,_] (by simp) _) ?_
   simp -implicitDefEqProofs (disch:=first|omega|(simp only [go_sem,seval];first|done|omega)) only [go_sem,seval]
   refine Qb (QU _ _ _ _) ?_
   simp -implicitDefEqProofs (disch:=first|omega|(simp only [go_sem,seval];first|done|omega)) only [go_sem,seval]
   refine Qb (VE [_,_] (by simp) _) ?_
   simp -implicitDefEqProofs (disch:=first|omega|(simp only [go_sem,seval];first|done|omega)) only [go_sem,seval]
   have hA:clsE c x0 = fst0 [Qv c,rng x0 1 999999999]:=rfl
   have hR:clsE c x0 = 0 → clsR c x0 = inss (clsL x0 c):=fun h => if_pos h
   have hR0:¬ clsE c x0 = 0 → clsR c x0 = []:=fun h => if_neg h
   have hRl:(clsR c x0).length ≤ 20:=by
    unfold clsR;split
    ·have:=Qdo (clsL x0 c);rw [ZA] at this;omega
    ·simp
   have hgd:clsE c x0 = 0 → (∀ y ∈ c,goodC y) ∧ 1 ≤ x0:=fun h => ⟨(Z1.1 (QY h).1).2,(Q8.1 (QY h).2).1⟩
   have hG:grRes l = if Qt l = 0 then (if l.length < 2 then (0,7) else (spread l,0)) else (0,Qt l):=by
    unfold grRes;rw [QnU]
    by_cases a:Qt l = 0
    ·by_cases b:l.length < 2 <;> simp [a,b]
    ·simp [a]
   have hC:Zj l x1 = if fst0 [Qt l,rng x1 (-999999999) 999999999] = 0 then ((QV x1 l:Int),0) else (0,fst0 [Qt l,rng x1 (-999999999) 999999999]):=rfl
   rw [← hA]
   have hsm:Qt l = 0 → ∀ r ∈ l,QG r:=ZH
   clear hA f1 f2
   generalize clsE c x0 = A at *
   generalize fst0 [Qt l,rng x1 (-999999999) 999999999] = D at *
   generalize Qt l = B at *
   generalize hRR:clsR c x0 = R at *
   generalize hGG:grRes l = G at *
   generalize hCC:Zj l x1 = H at *
   clear hRR hGG hCC
   by_cases hB:B = 0
   ·subst hB
    by_cases h3:l.length < 2
    ·have fL:((l.length:Int) < 2) = True:=eq_true (by omega)
     have hB':=h3
     by_cases hA0:A = 0
     ·subst hA0
      by_cases hD:D = 0
      ·subst hD
       have hD':True:=trivial
       simp -implicitDefEqProofs (disch:=first|omega|(simp only [go_sem,seval,fL];first|done|omega)) only [go_sem,seval,fL]
       refine Qb (Vi c x0 (by omega) (hgd rfl).1 (hgd rfl).2 _) ?_
       rw [← hR rfl]
       simp -implicitDefEqProofs (disch:=first|omega|(simp only [go_sem,seval,fL];first|done|omega)) only [go_sem,seval,fL]
       refine Qb (Q9 l x1 (by omega) _) ?_
       simp -implicitDefEqProofs (disch:=first|omega|(simp only [go_sem,seval,fL];first|done|omega)) only [go_sem,seval,fL]
       have n1:Q X 26 [.I G.1,.I G.2,.I 7,.I (0)] (.B true):=by have:=Qp (X:=X) G.1 G.2 (7) (0);rwa [decide_eq_true (by rw [hG];simp [hB'])] at this
       have n2:Q X 26 [.I H.1,.I H.2,.I 0,.I (QV x1 l)] (.B true):=by have:=Qp (X:=X) H.1 H.2 (0) (QV x1 l);rwa [decide_eq_true (by rw [hC];simp [hD'])] at this
       refine Qm (α:=Nat) 0 (fun k => k ≤ R.length) (fun k => M ++ [.row true 2 k ((R.take k).map Qh)])
        (fun k => [(0,.fs (c.map Qn)),(8,.I 0),(9,.I G.1),(10,.I G.2),(11,.I H.1),(12,.I H.2),(13,.I (Qv c)),(14,.I 7),(15,.I 0),(16,.I 0),(17,.fs (R.map Qh)),(18,.os M.length k 0 k),(19,.I (0)),(20,.I (QV x1 l)),(97,.fs (R.map Qh)),(98,.I R.length),(99,.I k)]) (fun k => R.length - k) (Nat.zero_le _) rfl rfl ?_
       intro k hk
       by_cases hlt:k < R.length
       ·obtain ⟨y,g1⟩:∃ y,R[k]? = some y:=⟨_,List.getElem?_eq_getElem hlt⟩
        have g2:k = ((R.take k).map Qh).length:=by simp;omega
        simp -implicitDefEqProofs (disch:=first|omega|(simp only [go_sem,seval,hlt,g1,Ql,Qy];first|done|omega)) only [go_sem,seval,hlt,g1,Ql,Qy]
        refine Qo hM rfl 1 (by simp) (by first|done|(simp only [go_sem,seval,Qq,Qj,Qw] <;> first|done|(refine ⟨?_,?_⟩ <;> omega)|omega)) (Qr (by first|done|(simp only [go_sem,seval,Qq,Qj,Qw] <;> first|done|(refine ⟨?_,?_⟩ <;> omega)|omega))) ?_
        simp -implicitDefEqProofs (disch:=first|omega|(simp only [go_sem,seval];first|done|omega)) only [go_sem,seval]
        exact again' (k + 1) (by omega) (by omega) (by rw [QC g1];rfl) rfl
       ·rw [List.take_of_length_le (by omega)]
        have hkR:k = R.length:=by omega
        subst hkR
        simp -implicitDefEqProofs (disch:=first|omega|(simp only [go_sem,seval];first|done|omega)) only [go_sem,seval]
        refine Qb (QK c (by omega) _) ?_
        simp -implicitDefEqProofs (disch:=first|omega|(simp only [go_sem,seval];first|done|omega)) only [go_sem,seval]
        refine Qb (Qx c (by omega) _) ?_
        simp -implicitDefEqProofs (disch:=first|omega|(simp only [go_sem,seval];first|done|omega)) only [go_sem,seval]
        refine Qb (QE R R (by omega) _) ?_
        simp -implicitDefEqProofs (disch:=first|omega|(simp only [go_sem,seval];first|done|omega)) only [go_sem,seval]
        refine Qb (n1 _) ?_
        simp -implicitDefEqProofs (disch:=first|omega|(simp only [go_sem,seval];first|done|omega)) only [go_sem,seval]
        refine Qb (n2 _) ?_
        simp -implicitDefEqProofs (disch:=first|omega|(simp only [go_sem,seval];first|done|omega)) only [go_sem,seval]
        (all_goals (first|refine pfN hM ?_ ?_|refine pf0 hM ?_ ?_);all_goals first|(simp only [go_sem,seval]<;>omega)|skip;all_goals (try simp -implicitDefEqProofs (disch:=first|omega|(simp only [go_sem,seval];first|done|omega)) only [go_sem,seval]))
      ·have hD':=hD
       simp -implicitDefEqProofs (disch:=first|omega|(simp only [go_sem,seval,fL,hD];first|done|omega)) only [go_sem,seval,fL,hD]
       refine Qb (Vi c x0 (by omega) (hgd rfl).1 (hgd rfl).2 _) ?_
       rw [← hR rfl]
       simp -implicitDefEqProofs (disch:=first|omega|(simp only [go_sem,seval,fL,hD];first|done|omega)) only [go_sem,seval,fL,hD]
       have n1:Q X 26 [.I G.1,.I G.2,.I 7,.I (0)] (.B true):=by have:=Qp (X:=X) G.1 G.2 (7) (0);rwa [decide_eq_true (by rw [hG];simp [hB'])] at this
       have n2:Q X 26 [.I H.1,.I H.2,.I D,.I 0] (.B true):=by have:=Qp (X:=X) H.1 H.2 (D) 0;rwa [decide_eq_true (by rw [hC];simp [hD'])] at this
       refine Qm (α:=Nat) 0 (fun k => k ≤ R.length) (fun k => M ++ [.row true 2 k ((R.take k).map Qh)])
        (fun k => [(0,.fs (c.map Qn)),(8,.I 0),(9,.I G.1),(10,.I G.2),(11,.I H.1),(12,.I H.2),(13,.I (Qv c)),(14,.I 7),(15,.I 0),(16,.I D),(17,.fs (R.map Qh)),(18,.os M.length k 0 k),(19,.I (0)),(20,.I 0),(97,.fs (R.map Qh)),(98,.I R.length),(99,.I k)]) (fun k => R.length - k) (Nat.zero_le _) rfl rfl ?_
       intro k hk
       by_cases hlt:k < R.length
       ·obtain ⟨y,g1⟩:∃ y,R[k]? = some y:=⟨_,List.getElem?_eq_getElem hlt⟩
        have g2:k = ((R.take k).map Qh).length:=by simp;omega
        simp -implicitDefEqProofs (disch:=first|omega|(simp only [go_sem,seval,hlt,g1,Ql,Qy];first|done|omega)) only [go_sem,seval,hlt,g1,Ql,Qy]
        refine Qo hM rfl 1 (by simp) (by first|done|(simp only [go_sem,seval,Qq,Qj,Qw] <;> first|done|(refine ⟨?_,?_⟩ <;> omega)|omega)) (Qr (by first|done|(simp only [go_sem,seval,Qq,Qj,Qw] <;> first|done|(refine ⟨?_,?_⟩ <;> omega)|omega))) ?_
        simp -implicitDefEqProofs (disch:=first|omega|(simp only [go_sem,seval];first|done|omega)) only [go_sem,seval]
        exact again' (k + 1) (by omega) (by omega) (by rw [QC g1];rfl) rfl
       ·rw [List.take_of_length_le (by omega)]
        have hkR:k = R.length:=by omega
        subst hkR
        simp -implicitDefEqProofs (disch:=first|omega|(simp only [go_sem,seval];first|done|omega)) only [go_sem,seval]
        refine Qb (QK c (by omega) _) ?_
        simp -implicitDefEqProofs (disch:=first|omega|(simp only [go_sem,seval];first|done|omega)) only [go_sem,seval]
        refine Qb (Qx c (by omega) _) ?_
        simp -implicitDefEqProofs (disch:=first|omega|(simp only [go_sem,seval];first|done|omega)) only [go_sem,seval]
        refine Qb (QE R R (by omega) _) ?_
        simp -implicitDefEqProofs (disch:=first|omega|(simp only [go_sem,seval];first|done|omega)) only [go_sem,seval]
        refine Qb (n1 _) ?_
        simp -implicitDefEqProofs (disch:=first|omega|(simp only [go_sem,seval];first|done|omega)) only [go_sem,seval]
        refine Qb (n2 _) ?_
        simp -implicitDefEqProofs (disch:=first|omega|(simp only [go_sem,seval];first|done|omega)) only [go_sem,seval]
        (all_goals (first|refine pfN hM ?_ ?_|refine pf0 hM ?_ ?_);all_goals first|(simp only [go_sem,seval]<;>omega)|skip;all_goals (try simp -implicitDefEqProofs (disch:=first|omega|(simp only [go_sem,seval];first|done|omega)) only [go_sem,seval]))
     ·have hR0':=hR0 hA0
      by_cases hD:D = 0
      ·subst hD
       have hD':True:=trivial
       simp -implicitDefEqProofs (disch:=first|omega|(simp only [go_sem,seval,fL,hA0];first|done|omega)) only [go_sem,seval,fL,hA0]
       refine Qb (Q9 l x1 (by omega) _) ?_
       simp -implicitDefEqProofs (disch:=first|omega|(simp only [go_sem,seval,fL,hA0];first|done|omega)) only [go_sem,seval,fL,hA0]
       have n1:Q X 26 [.I G.1,.I G.2,.I 7,.I (0)] (.B true):=by have:=Qp (X:=X) G.1 G.2 (7) (0);rwa [decide_eq_true (by rw [hG];simp [hB'])] at this
       have n2:Q X 26 [.I H.1,.I H.2,.I 0,.I (QV x1 l)] (.B true):=by have:=Qp (X:=X) H.1 H.2 (0) (QV x1 l);rwa [decide_eq_true (by rw [hC];simp [hD'])] at this
       refine Qm (α:=Nat) 0 (fun k => k ≤ R.length) (fun k => M ++ [.row true 2 k ((R.take k).map Qh)])
        (fun k => [(0,.fs (c.map Qn)),(8,.I A),(9,.I G.1),(10,.I G.2),(11,.I H.1),(12,.I H.2),(13,.I (Qv c)),(14,.I 7),(15,.I A),(16,.I 0),(17,PV.nilS),(18,.os M.length k 0 k),(19,.I (0)),(20,.I (QV x1 l)),(97,.fs (R.map Qh)),(98,.I R.length),(99,.I k)]) (fun k => R.length - k) (Nat.zero_le _) rfl rfl ?_
       intro k hk
       by_cases hlt:k < R.length
       ·obtain ⟨y,g1⟩:∃ y,R[k]? = some y:=⟨_,List.getElem?_eq_getElem hlt⟩
        have g2:k = ((R.take k).map Qh).length:=by simp;omega
        simp -implicitDefEqProofs (disch:=first|omega|(simp only [go_sem,seval,hlt,g1,Ql,Qy];first|done|omega)) only [go_sem,seval,hlt,g1,Ql,Qy]
        refine Qo hM rfl 1 (by simp) (by first|done|(simp only [go_sem,seval,Qq,Qj,Qw] <;> first|done|(refine ⟨?_,?_⟩ <;> omega)|omega)) (Qr (by first|done|(simp only [go_sem,seval,Qq,Qj,Qw] <;> first|done|(refine ⟨?_,?_⟩ <;> omega)|omega))) ?_
        simp -implicitDefEqProofs (disch:=first|omega|(simp only [go_sem,seval];first|done|omega)) only [go_sem,seval]
        exact again' (k + 1) (by omega) (by omega) (by rw [QC g1];rfl) rfl
       ·rw [List.take_of_length_le (by omega)]
        have hkR:k = R.length:=by omega
        subst hkR
        simp -implicitDefEqProofs (disch:=first|omega|(simp only [go_sem,seval];first|done|omega)) only [go_sem,seval]
        refine Qb (QK c (by omega) _) ?_
        simp -implicitDefEqProofs (disch:=first|omega|(simp only [go_sem,seval];first|done|omega)) only [go_sem,seval]
        refine Qb (Qx c (by omega) _) ?_
        simp -implicitDefEqProofs (disch:=first|omega|(simp only [go_sem,seval];first|done|omega)) only [go_sem,seval]
        refine Qb (QE R [] (by omega) _) ?_
        simp -implicitDefEqProofs (disch:=first|omega|(simp only [go_sem,seval,hR0'];first|done|omega)) only [go_sem,seval,hR0']
        refine Qb (n1 _) ?_
        simp -implicitDefEqProofs (disch:=first|omega|(simp only [go_sem,seval];first|done|omega)) only [go_sem,seval]
        refine Qb (n2 _) ?_
        simp -implicitDefEqProofs (disch:=first|omega|(simp only [go_sem,seval];first|done|omega)) only [go_sem,seval]
        (all_goals (first|refine pfN hM ?_ ?_|refine pf0 hM ?_ ?_);all_goals first|(simp only [go_sem,seval]<;>omega)|skip;all_goals (try simp -implicitDefEqProofs (disch:=first|omega|(simp only [go_sem,seval];first|done|omega)) only [go_sem,seval]))
      ·have hD':=hD
       simp -implicitDefEqProofs (disch:=first|omega|(simp only [go_sem,seval,fL,hA0,hD];first|done|omega)) only [go_sem,seval,fL,hA0,hD]
       have n1:Q X 26 [.I G.1,.I G.2,.I 7,.I (0)] (.B true):=by have:=Qp (X:=X) G.1 G.2 (7) (0);rwa [decide_eq_true (by rw [hG];simp [hB'])] at this
       have n2:Q X 26 [.I H.1,.I H.2,.I D,.I 0] (.B true):=by have:=Qp (X:=X) H.1 H.2 (D) 0;rwa [decide_eq_true (by rw [hC];simp [hD'])] at this
       refine Qm (α:=Nat) 0 (fun k => k ≤ R.length) (fun k => M ++ [.row true 2 k ((R.take k).map Qh)])
        (fun k => [(0,.fs (c.map Qn)),(8,.I A),(9,.I G.1),(10,.I G.2),(11,.I H.1),(12,.I H.2),(13,.I (Qv c)),(14,.I 7),(15,.I A),(16,.I D),(17,PV.nilS),(18,.os M.length k 0 k),(19,.I (0)),(20,.I 0),(97,.fs (R.map Qh)),(98,.I R.length),(99,.I k)]) (fun k => R.length - k) (Nat.zero_le _) rfl rfl ?_
       intro k hk
       by_cases hlt:k < R.length
       ·obtain ⟨y,g1⟩:∃ y,R[k]? = some y:=⟨_,List.getElem?_eq_getElem hlt⟩
        have g2:k = ((R.take k).map Qh).length:=by simp;omega
        simp -implicitDefEqProofs (disch:=first|omega|(simp only [go_sem,seval,hlt,g1,Ql,Qy];first|done|omega)) only [go_sem,seval,hlt,g1,Ql,Qy]
        refine Qo hM rfl 1 (by simp) (by first|done|(simp only [go_sem,seval,Qq,Qj,Qw] <;> first|done|(refine ⟨?_,?_⟩ <;> omega)|omega)) (Qr (by first|done|(simp only [go_sem,seval,Qq,Qj,Qw] <;> first|done|(refine ⟨?_,?_⟩ <;> omega)|omega))) ?_
        simp -implicitDefEqProofs (disch:=first|omega|(simp only [go_sem,seval];first|done|omega)) only [go_sem,seval]
        exact again' (k + 1) (by omega) (by omega) (by rw [QC g1];rfl) rfl
       ·rw [List.take_of_length_le (by omega)]
        have hkR:k = R.length:=by omega
        subst hkR
        simp -implicitDefEqProofs (disch:=first|omega|(simp only [go_sem,seval];first|done|omega)) only [go_sem,seval]
        refine Qb (QK c (by omega) _) ?_
        simp -implicitDefEqProofs (disch:=first|omega|(simp only [go_sem,seval];first|done|omega)) only [go_sem,seval]
        refine Qb (Qx c (by omega) _) ?_
        simp -implicitDefEqProofs (disch:=first|omega|(simp only [go_sem,seval];first|done|omega)) only [go_sem,seval]
        refine Qb (QE R [] (by omega) _) ?_
        simp -implicitDefEqProofs (disch:=first|omega|(simp only [go_sem,seval,hR0'];first|done|omega)) only [go_sem,seval,hR0']
        refine Qb (n1 _) ?_
        simp -implicitDefEqProofs (disch:=first|omega|(simp only [go_sem,seval];first|done|omega)) only [go_sem,seval]
        refine Qb (n2 _) ?_
        simp -implicitDefEqProofs (disch:=first|omega|(simp only [go_sem,seval];first|done|omega)) only [go_sem,seval]
        (all_goals (first|refine pfN hM ?_ ?_|refine pf0 hM ?_ ?_);all_goals first|(simp only [go_sem,seval]<;>omega)|skip;all_goals (try simp -implicitDefEqProofs (disch:=first|omega|(simp only [go_sem,seval];first|done|omega)) only [go_sem,seval]))
    ·have fL:((l.length:Int) < 2) = False:=eq_false (by omega)
     have hB':=h3
     by_cases hA0:A = 0
     ·subst hA0
      by_cases hD:D = 0
      ·subst hD
       have hD':True:=trivial
       simp -implicitDefEqProofs (disch:=first|omega|(simp only [go_sem,seval,fL];first|done|omega)) only [go_sem,seval,fL]
       refine Qb (Vi c x0 (by omega) (hgd rfl).1 (hgd rfl).2 _) ?_
       rw [← hR rfl]
       simp -implicitDefEqProofs (disch:=first|omega|(simp only [go_sem,seval,fL];first|done|omega)) only [go_sem,seval,fL]
       refine Qb (VX l (by omega) (hsm rfl) _) ?_
       simp -implicitDefEqProofs (disch:=first|omega|(simp only [go_sem,seval,fL];first|done|omega)) only [go_sem,seval,fL]
       refine Qb (Q9 l x1 (by omega) _) ?_
       simp -implicitDefEqProofs (disch:=first|omega|(simp only [go_sem,seval,fL];first|done|omega)) only [go_sem,seval,fL]
       have n1:Q X 26 [.I G.1,.I G.2,.I 0,.I (spread l)] (.B true):=by have:=Qp (X:=X) G.1 G.2 (0) (spread l);rwa [decide_eq_true (by rw [hG];simp [hB'])] at this
       have n2:Q X 26 [.I H.1,.I H.2,.I 0,.I (QV x1 l)] (.B true):=by have:=Qp (X:=X) H.1 H.2 (0) (QV x1 l);rwa [decide_eq_true (by rw [hC];simp [hD'])] at this
       refine Qm (α:=Nat) 0 (fun k => k ≤ R.length) (fun k => M ++ [.row true 2 k ((R.take k).map Qh)])
        (fun k => [(0,.fs (c.map Qn)),(8,.I 0),(9,.I G.1),(10,.I G.2),(11,.I H.1),(12,.I H.2),(13,.I (Qv c)),(14,.I 0),(15,.I 0),(16,.I 0),(17,.fs (R.map Qh)),(18,.os M.length k 0 k),(19,.I (spread l)),(20,.I (QV x1 l)),(97,.fs (R.map Qh)),(98,.I R.length),(99,.I k)]) (fun k => R.length - k) (Nat.zero_le _) rfl rfl ?_
       intro k hk
       by_cases hlt:k < R.length
       ·obtain ⟨y,g1⟩:∃ y,R[k]? = some y:=⟨_,List.getElem?_eq_getElem hlt⟩
        have g2:k = ((R.take k).map Qh).length:=by simp;omega
        simp -implicitDefEqProofs (disch:=first|omega|(simp only [go_sem,seval,hlt,g1,Ql,Qy];first|done|omega)) only [go_sem,seval,hlt,g1,Ql,Qy]
        refine Qo hM rfl 1 (by simp) (by first|done|(simp only [go_sem,seval,Qq,Qj,Qw] <;> first|done|(refine ⟨?_,?_⟩ <;> omega)|omega)) (Qr (by first|done|(simp only [go_sem,seval,Qq,Qj,Qw] <;> first|done|(refine ⟨?_,?_⟩ <;> omega)|omega))) ?_
        simp -implicitDefEqProofs (disch:=first|omega|(simp only [go_sem,seval];first|done|omega)) only [go_sem,seval]
        exact again' (k + 1) (by omega) (by omega) (by rw [QC g1];rfl) rfl
       ·rw [List.take_of_length_le (by omega)]
        have hkR:k = R.length:=by omega
        subst hkR
        simp -implicitDefEqProofs (disch:=first|omega|(simp only [go_sem,seval];first|done|omega)) only [go_sem,seval]
        refine Qb (QK c (by omega) _) ?_
        simp -implicitDefEqProofs (disch:=first|omega|(simp only [go_sem,seval];first|done|omega)) only [go_sem,seval]
        refine Qb (Qx c (by omega) _) ?_
        simp -implicitDefEqProofs (disch:=first|omega|(simp only [go_sem,seval];first|done|omega)) only [go_sem,seval]
        refine Qb (QE R R (by omega) _) ?_
        simp -implicitDefEqProofs (disch:=first|omega|(simp only [go_sem,seval];first|done|omega)) only [go_sem,seval]
        refine Qb (n1 _) ?_
        simp -implicitDefEqProofs (disch:=first|omega|(simp only [go_sem,seval];first|done|omega)) only [go_sem,seval]
        refine Qb (n2 _) ?_
        simp -implicitDefEqProofs (disch:=first|omega|(simp only [go_sem,seval];first|done|omega)) only [go_sem,seval]
        (all_goals (first|refine pfN hM ?_ ?_|refine pf0 hM ?_ ?_);all_goals first|(simp only [go_sem,seval]<;>omega)|skip;all_goals (try simp -implicitDefEqProofs (disch:=first|omega|(simp only [go_sem,seval];first|done|omega)) only [go_sem,seval]))
      ·have hD':=hD
       simp -implicitDefEqProofs (disch:=first|omega|(simp only [go_sem,seval,fL,hD];first|done|omega)) only [go_sem,seval,fL,hD]
       refine Qb (Vi c x0 (by omega) (hgd rfl).1 (hgd rfl).2 _) ?_
       rw [← hR rfl]
       simp -implicitDefEqProofs (disch:=first|omega|(simp only [go_sem,seval,fL,hD];first|done|omega)) only [go_sem,seval,fL,hD]
       refine Qb (VX l (by omega) (hsm rfl) _) ?_
       simp -implicitDefEqProofs (disch:=first|omega|(simp only [go_sem,seval,fL,hD];first|done|omega)) only [go_sem,seval,fL,hD]
       have n1:Q X 26 [.I G.1,.I G.2,.I 0,.I (spread l)] (.B true):=by have:=Qp (X:=X) G.1 G.2 (0) (spread l);rwa [decide_eq_true (by rw [hG];simp [hB'])] at this
       have n2:Q X 26 [.I H.1,.I H.2,.I D,.I 0] (.B true):=by have:=Qp (X:=X) H.1 H.2 (D) 0;rwa [decide_eq_true (by rw [hC];simp [hD'])] at this
       refine Qm (α:=Nat) 0 (fun k => k ≤ R.length) (fun k => M ++ [.row true 2 k ((R.take k).map Qh)])
        (fun k => [(0,.fs (c.map Qn)),(8,.I 0),(9,.I G.1),(10,.I G.2),(11,.I H.1),(12,.I H.2),(13,.I (Qv c)),(14,.I 0),(15,.I 0),(16,.I D),(17,.fs (R.map Qh)),(18,.os M.length k 0 k),(19,.I (spread l)),(20,.I 0),(97,.fs (R.map Qh)),(98,.I R.length),(99,.I k)]) (fun k => R.length - k) (Nat.zero_le _) rfl rfl ?_
       intro k hk
       by_cases hlt:k < R.length
       ·obtain ⟨y,g1⟩:∃ y,R[k]? = some y:=⟨_,List.getElem?_eq_getElem hlt⟩
        have g2:k = ((R.take k).map Qh).length:=by simp;omega
        simp -implicitDefEqProofs (disch:=first|omega|(simp only [go_sem,seval,hlt,g1,Ql,Qy];first|done|omega)) only [go_sem,seval,hlt,g1,Ql,Qy]
        refine Qo hM rfl 1 (by simp) (by first|done|(simp only [go_sem,seval,Qq,Qj,Qw] <;> first|done|(refine ⟨?_,?_⟩ <;> omega)|omega)) (Qr (by first|done|(simp only [go_sem,seval,Qq,Qj,Qw] <;> first|done|(refine ⟨?_,?_⟩ <;> omega)|omega))) ?_
        simp -implicitDefEqProofs (disch:=first|omega|(simp only [go_sem,seval];first|done|omega)) only [go_sem,seval]
        exact again' (k + 1) (by omega) (by omega) (by rw [QC g1];rfl) rfl
       ·rw [List.take_of_length_le (by omega)]
        have hkR:k = R.length:=by omega
        subst hkR
        simp -implicitDefEqProofs (disch:=first|omega|(simp only [go_sem,seval];first|done|omega)) only [go_sem,seval]
        refine Qb (QK c (by omega) _) ?_
        simp -implicitDefEqProofs (disch:=first|omega|(simp only [go_sem,seval];first|done|omega)) only [go_sem,seval]
        refine Qb (Qx c (by omega) _) ?_
        simp -implicitDefEqProofs (disch:=first|omega|(simp only [go_sem,seval];first|done|omega)) only [go_sem,seval]
        refine Qb (QE R R (by omega) _) ?_
        simp -implicitDefEqProofs (disch:=first|omega|(simp only [go_sem,seval];first|done|omega)) only [go_sem,seval]
        refine Qb (n1 _) ?_
        simp -implicitDefEqProofs (disch:=first|omega|(simp only [go_sem,seval];first|done|omega)) only [go_sem,seval]
        refine Qb (n2 _) ?_
        simp -implicitDefEqProofs (disch:=first|omega|(simp only [go_sem,seval];first|done|omega)) only [go_sem,seval]
        (all_goals (first|refine pfN hM ?_ ?_|refine pf0 hM ?_ ?_);all_goals first|(simp only [go_sem,seval]<;>omega)|skip;all_goals (try simp -implicitDefEqProofs (disch:=first|omega|(simp only [go_sem,seval];first|done|omega)) only [go_sem,seval]))
     ·have hR0':=hR0 hA0
      by_cases hD:D = 0
      ·subst hD
       have hD':True:=trivial
       simp -implicitDefEqProofs (disch:=first|omega|(simp only [go_sem,seval,fL,hA0];first|done|omega)) only [go_sem,seval,fL,hA0]
       refine Qb (VX l (by omega) (hsm rfl) _) ?_
       simp -implicitDefEqProofs (disch:=first|omega|(simp only [go_sem,seval,fL,hA0];first|done|omega)) only [go_sem,seval,fL,hA0]
       refine Qb (Q9 l x1 (by omega) _) ?_
       simp -implicitDefEqProofs (disch:=first|omega|(simp only [go_sem,seval,fL,hA0];first|done|omega)) only [go_sem,seval,fL,hA0]
       have n1:Q X 26 [.I G.1,.I G.2,.I 0,.I (spread l)] (.B true):=by have:=Qp (X:=X) G.1 G.2 (0) (spread l);rwa [decide_eq_true (by rw [hG];simp [hB'])] at this
       have n2:Q X 26 [.I H.1,.I H.2,.I 0,.I (QV x1 l)] (.B true):=by have:=Qp (X:=X) H.1 H.2 (0) (QV x1 l);rwa [decide_eq_true (by rw [hC];simp [hD'])] at this
       refine Qm (α:=Nat) 0 (fun k => k ≤ R.length) (fun k => M ++ [.row true 2 k ((R.take k).map Qh)])
        (fun k => [(0,.fs (c.map Qn)),(8,.I A),(9,.I G.1),(10,.I G.2),(11,.I H.1),(12,.I H.2),(13,.I (Qv c)),(14,.I 0),(15,.I A),(16,.I 0),(17,PV.nilS),(18,.os M.length k 0 k),(19,.I (spread l)),(20,.I (QV x1 l)),(97,.fs (R.map Qh)),(98,.I R.length),(99,.I k)]) (fun k => R.length - k) (Nat.zero_le _) rfl rfl ?_
       intro k hk
       by_cases hlt:k < R.length
       ·obtain ⟨y,g1⟩:∃ y,R[k]? = some y:=⟨_,List.getElem?_eq_getElem hlt⟩
        have g2:k = ((R.take k).map Qh).length:=by simp;omega
        simp -implicitDefEqProofs (disch:=first|omega|(simp only [go_sem,seval,hlt,g1,Ql,Qy];first|done|omega)) only [go_sem,seval,hlt,g1,Ql,Qy]
        refine Qo hM rfl 1 (by simp) (by first|done|(simp only [go_sem,seval,Qq,Qj,Qw] <;> first|done|(refine ⟨?_,?_⟩ <;> omega)|omega)) (Qr (by first|done|(simp only [go_sem,seval,Qq,Qj,Qw] <;> first|done|(refine ⟨?_,?_⟩ <;> omega)|omega))) ?_
        simp -implicitDefEqProofs (disch:=first|omega|(simp only [go_sem,seval];first|done|omega)) only [go_sem,seval]
        exact again' (k + 1) (by omega) (by omega) (by rw [QC g1];rfl) rfl
       ·rw [List.take_of_length_le (by omega)]
        have hkR:k = R.length:=by omega
        subst hkR
        simp -implicitDefEqProofs (disch:=first|omega|(simp only [go_sem,seval];first|done|omega)) only [go_sem,seval]
        refine Qb (QK c (by omega) _) ?_
        simp -implicitDefEqProofs (disch:=first|omega|(simp only [go_sem,seval];first|done|omega)) only [go_sem,seval]
        refine Qb (Qx c (by omega) _) ?_
        simp -implicitDefEqProofs (disch:=first|omega|(simp only [go_sem,seval];first|done|omega)) only [go_sem,seval]
        refine Qb (QE R [] (by omega) _) ?_
        simp -implicitDefEqProofs (disch:=first|omega|(simp only [go_sem,seval,hR0'];first|done|omega)) only [go_sem,seval,hR0']
        refine Qb (n1 _) ?_
        simp -implicitDefEqProofs (disch:=first|omega|(simp only [go_sem,seval];first|done|omega)) only [go_sem,seval]
        refine Qb (n2 _) ?_
        simp -implicitDefEqProofs (disch:=first|omega|(simp only [go_sem,seval];first|done|omega)) only [go_sem,seval]
        (all_goals (first|refine pfN hM ?_ ?_|refine pf0 hM ?_ ?_);all_goals first|(simp only [go_sem,seval]<;>omega)|skip;all_goals (try simp -implicitDefEqProofs (disch:=first|omega|(simp only [go_sem,seval];first|done|omega)) only [go_sem,seval]))
      ·have hD':=hD
       simp -implicitDefEqProofs (disch:=first|omega|(simp only [go_sem,seval,fL,hA0,hD];first|done|omega)) only [go_sem,seval,fL,hA0,hD]
       refine Qb (VX l (by omega) (hsm rfl) _) ?_
       simp -implicitDefEqProofs (disch:=first|omega|(simp only [go_sem,seval,fL,hA0,hD];first|done|omega)) only [go_sem,seval,fL,hA0,hD]
       have n1:Q X 26 [.I G.1,.I G.2,.I 0,.I (spread l)] (.B true):=by have:=Qp (X:=X) G.1 G.2 (0) (spread l);rwa [decide_eq_true (by rw [hG];simp [hB'])] at this
       have n2:Q X 26 [.I H.1,.I H.2,.I D,.I 0] (.B true):=by have:=Qp (X:=X) H.1 H.2 (D) 0;rwa [decide_eq_true (by rw [hC];simp [hD'])] at this
       refine Qm (α:=Nat) 0 (fun k => k ≤ R.length) (fun k => M ++ [.row true 2 k ((R.take k).map Qh)])
        (fun k => [(0,.fs (c.map Qn)),(8,.I A),(9,.I G.1),(10,.I G.2),(11,.I H.1),(12,.I H.2),(13,.I (Qv c)),(14,.I 0),(15,.I A),(16,.I D),(17,PV.nilS),(18,.os M.length k 0 k),(19,.I (spread l)),(20,.I 0),(97,.fs (R.map Qh)),(98,.I R.length),(99,.I k)]) (fun k => R.length - k) (Nat.zero_le _) rfl rfl ?_
       intro k hk
       by_cases hlt:k < R.length
       ·obtain ⟨y,g1⟩:∃ y,R[k]? = some y:=⟨_,List.getElem?_eq_getElem hlt⟩
        have g2:k = ((R.take k).map Qh).length:=by simp;omega
        simp -implicitDefEqProofs (disch:=first|omega|(simp only [go_sem,seval,hlt,g1,Ql,Qy];first|done|omega)) only [go_sem,seval,hlt,g1,Ql,Qy]
        refine Qo hM rfl 1 (by simp) (by first|done|(simp only [go_sem,seval,Qq,Qj,Qw] <;> first|done|(refine ⟨?_,?_⟩ <;> omega)|omega)) (Qr (by first|done|(simp only [go_sem,seval,Qq,Qj,Qw] <;> first|done|(refine ⟨?_,?_⟩ <;> omega)|omega))) ?_
        simp -implicitDefEqProofs (disch:=first|omega|(simp only [go_sem,seval];first|done|omega)) only [go_sem,seval]
        exact again' (k + 1) (by omega) (by omega) (by rw [QC g1];rfl) rfl
       ·rw [List.take_of_length_le (by omega)]
        have hkR:k = R.length:=by omega
        subst hkR
        simp -implicitDefEqProofs (disch:=first|omega|(simp only [go_sem,seval];first|done|omega)) only [go_sem,seval]
        refine Qb (QK c (by omega) _) ?_
        simp -implicitDefEqProofs (disch:=first|omega|(simp only [go_sem,seval];first|done|omega)) only [go_sem,seval]
        refine Qb (Qx c (by omega) _) ?_
        simp -implicitDefEqProofs (disch:=first|omega|(simp only [go_sem,seval];first|done|omega)) only [go_sem,seval]
        refine Qb (QE R [] (by omega) _) ?_
        simp -implicitDefEqProofs (disch:=first|omega|(simp only [go_sem,seval,hR0'];first|done|omega)) only [go_sem,seval,hR0']
        refine Qb (n1 _) ?_
        simp -implicitDefEqProofs (disch:=first|omega|(simp only [go_sem,seval];first|done|omega)) only [go_sem,seval]
        refine Qb (n2 _) ?_
        simp -implicitDefEqProofs (disch:=first|omega|(simp only [go_sem,seval];first|done|omega)) only [go_sem,seval]
        (all_goals (first|refine pfN hM ?_ ?_|refine pf0 hM ?_ ?_);all_goals first|(simp only [go_sem,seval]<;>omega)|skip;all_goals (try simp -implicitDefEqProofs (disch:=first|omega|(simp only [go_sem,seval];first|done|omega)) only [go_sem,seval]))
   ·have hB':=hB
    by_cases hA0:A = 0
    ·subst hA0
     by_cases hD:D = 0
     ·subst hD
      have hD':True:=trivial
      simp -implicitDefEqProofs (disch:=first|omega|(simp only [go_sem,seval,hB];first|done|omega)) only [go_sem,seval,hB]
      refine Qb (Vi c x0 (by omega) (hgd rfl).1 (hgd rfl).2 _) ?_
      rw [← hR rfl]
      simp -implicitDefEqProofs (disch:=first|omega|(simp only [go_sem,seval,hB];first|done|omega)) only [go_sem,seval,hB]
      refine Qb (Q9 l x1 (by omega) _) ?_
      simp -implicitDefEqProofs (disch:=first|omega|(simp only [go_sem,seval,hB];first|done|omega)) only [go_sem,seval,hB]
      have n1:Q X 26 [.I G.1,.I G.2,.I B,.I (0)] (.B true):=by have:=Qp (X:=X) G.1 G.2 (B) (0);rwa [decide_eq_true (by rw [hG];simp [hB'])] at this
      have n2:Q X 26 [.I H.1,.I H.2,.I 0,.I (QV x1 l)] (.B true):=by have:=Qp (X:=X) H.1 H.2 (0) (QV x1 l);rwa [decide_eq_true (by rw [hC];simp [hD'])] at this
      refine Qm (α:=Nat) 0 (fun k => k ≤ R.length) (fun k => M ++ [.row true 2 k ((R.take k).map Qh)])
       (fun k => [(0,.fs (c.map Qn)),(8,.I 0),(9,.I G.1),(10,.I G.2),(11,.I H.1),(12,.I H.2),(13,.I (Qv c)),(14,.I B),(15,.I 0),(16,.I 0),(17,.fs (R.map Qh)),(18,.os M.length k 0 k),(19,.I (0)),(20,.I (QV x1 l)),(97,.fs (R.map Qh)),(98,.I R.length),(99,.I k)]) (fun k => R.length - k) (Nat.zero_le _) rfl rfl ?_
      intro k hk
      by_cases hlt:k < R.length
      ·obtain ⟨y,g1⟩:∃ y,R[k]? = some y:=⟨_,List.getElem?_eq_getElem hlt⟩
       have g2:k = ((R.take k).map Qh).length:=by simp;omega
       simp -implicitDefEqProofs (disch:=first|omega|(simp only [go_sem,seval,hlt,g1,Ql,Qy];first|done|omega)) only [go_sem,seval,hlt,g1,Ql,Qy]
       refine Qo hM rfl 1 (by simp) (by first|done|(simp only [go_sem,seval,Qq,Qj,Qw] <;> first|done|(refine ⟨?_,?_⟩ <;> omega)|omega)) (Qr (by first|done|(simp only [go_sem,seval,Qq,Qj,Qw] <;> first|done|(refine ⟨?_,?_⟩ <;> omega)|omega))) ?_
       simp -implicitDefEqProofs (disch:=first|omega|(simp only [go_sem,seval];first|done|omega)) only [go_sem,seval]
       exact again' (k + 1) (by omega) (by omega) (by rw [QC g1];rfl) rfl
      ·rw [List.take_of_length_le (by omega)]
       have hkR:k = R.length:=by omega
       subst hkR
       simp -implicitDefEqProofs (disch:=first|omega|(simp only [go_sem,seval];first|done|omega)) only [go_sem,seval]
       refine Qb (QK c (by omega) _) ?_
       simp -implicitDefEqProofs (disch:=first|omega|(simp only [go_sem,seval];first|done|omega)) only [go_sem,seval]
       refine Qb (Qx c (by omega) _) ?_
       simp -implicitDefEqProofs (disch:=first|omega|(simp only [go_sem,seval];first|done|omega)) only [go_sem,seval]
       refine Qb (QE R R (by omega) _) ?_
       simp -implicitDefEqProofs (disch:=first|omega|(simp only [go_sem,seval];first|done|omega)) only [go_sem,seval]
       refine Qb (n1 _) ?_
       simp -implicitDefEqProofs (disch:=first|omega|(simp only [go_sem,seval];first|done|omega)) only [go_sem,seval]
       refine Qb (n2 _) ?_
       simp -implicitDefEqProofs (disch:=first|omega|(simp only [go_sem,seval];first|done|omega)) only [go_sem,seval]
       (all_goals (first|refine pfN hM ?_ ?_|refine pf0 hM ?_ ?_);all_goals first|(simp only [go_sem,seval]<;>omega)|skip;all_goals (try simp -implicitDefEqProofs (disch:=first|omega|(simp only [go_sem,seval];first|done|omega)) only [go_sem,seval]))
     ·have hD':=hD
      simp -implicitDefEqProofs (disch:=first|omega|(simp only [go_sem,seval,hB,hD];first|done|omega)) only [go_sem,seval,hB,hD]
      refine Qb (Vi c x0 (by omega) (hgd rfl).1 (hgd rfl).2 _) ?_
      rw [← hR rfl]
      simp -implicitDefEqProofs (disch:=first|omega|(simp only [go_sem,seval,hB,hD];first|done|omega)) only [go_sem,seval,hB,hD]
      have n1:Q X 26 [.I G.1,.I G.2,.I B,.I (0)] (.B true):=by have:=Qp (X:=X) G.1 G.2 (B) (0);rwa [decide_eq_true (by rw [hG];simp [hB'])] at this
      have n2:Q X 26 [.I H.1,.I H.2,.I D,.I 0] (.B true):=by have:=Qp (X:=X) H.1 H.2 (D) 0;rwa [decide_eq_true (by rw [hC];simp [hD'])] at this
      refine Qm (α:=Nat) 0 (fun k => k ≤ R.length) (fun k => M ++ [.row true 2 k ((R.take k).map Qh)])
       (fun k => [(0,.fs (c.map Qn)),(8,.I 0),(9,.I G.1),(10,.I G.2),(11,.I H.1),(12,.I H.2),(13,.I (Qv c)),(14,.I B),(15,.I 0),(16,.I D),(17,.fs (R.map Qh)),(18,.os M.length k 0 k),(19,.I (0)),(20,.I 0),(97,.fs (R.map Qh)),(98,.I R.length),(99,.I k)]) (fun k => R.length - k) (Nat.zero_le _) rfl rfl ?_
      intro k hk
      by_cases hlt:k < R.length
      ·obtain ⟨y,g1⟩:∃ y,R[k]? = some y:=⟨_,List.getElem?_eq_getElem hlt⟩
       have g2:k = ((R.take k).map Qh).length:=by simp;omega
       simp -implicitDefEqProofs (disch:=first|omega|(simp only [go_sem,seval,hlt,g1,Ql,Qy];first|done|omega)) only [go_sem,seval,hlt,g1,Ql,Qy]
       refine Qo hM rfl 1 (by simp) (by first|done|(simp only [go_sem,seval,Qq,Qj,Qw] <;> first|done|(refine ⟨?_,?_⟩ <;> omega)|omega)) (Qr (by first|done|(simp only [go_sem,seval,Qq,Qj,Qw] <;> first|done|(refine ⟨?_,?_⟩ <;> omega)|omega))) ?_
       simp -implicitDefEqProofs (disch:=first|omega|(simp only [go_sem,seval];first|done|omega)) only [go_sem,seval]
       exact again' (k + 1) (by omega) (by omega) (by rw [QC g1];rfl) rfl
      ·rw [List.take_of_length_le (by omega)]
       have hkR:k = R.length:=by omega
       subst hkR
       simp -implicitDefEqProofs (disch:=first|omega|(simp only [go_sem,seval];first|done|omega)) only [go_sem,seval]
       refine Qb (QK c (by omega) _) ?_
       simp -implicitDefEqProofs (disch:=first|omega|(simp only [go_sem,seval];first|done|omega)) only [go_sem,seval]
       refine Qb (Qx c (by omega) _) ?_
       simp -implicitDefEqProofs (disch:=first|omega|(simp only [go_sem,seval];first|done|omega)) only [go_sem,seval]
       refine Qb (QE R R (by omega) _) ?_
       simp -implicitDefEqProofs (disch:=first|omega|(simp only [go_sem,seval];first|done|omega)) only [go_sem,seval]
       refine Qb (n1 _) ?_
       simp -implicitDefEqProofs (disch:=first|omega|(simp only [go_sem,seval];first|done|omega)) only [go_sem,seval]
       refine Qb (n2 _) ?_
       simp -implicitDefEqProofs (disch:=first|omega|(simp only [go_sem,seval];first|done|omega)) only [go_sem,seval]
       (all_goals (first|refine pfN hM ?_ ?_|refine pf0 hM ?_ ?_);all_goals first|(simp only [go_sem,seval]<;>omega)|skip;all_goals (try simp -implicitDefEqProofs (disch:=first|omega|(simp only [go_sem,seval];first|done|omega)) only [go_sem,seval]))
    ·have hR0':=hR0 hA0
     by_cases hD:D = 0
     ·subst hD
      have hD':True:=trivial
      simp -implicitDefEqProofs (disch:=first|omega|(simp only [go_sem,seval,hB,hA0];first|done|omega)) only [go_sem,seval,hB,hA0]
      refine Qb (Q9 l x1 (by omega) _) ?_
      simp -implicitDefEqProofs (disch:=first|omega|(simp only [go_sem,seval,hB,hA0];first|done|omega)) only [go_sem,seval,hB,hA0]
      have n1:Q X 26 [.I G.1,.I G.2,.I B,.I (0)] (.B true):=by have:=Qp (X:=X) G.1 G.2 (B) (0);rwa [decide_eq_true (by rw [hG];simp [hB'])] at this
      have n2:Q X 26 [.I H.1,.I H.2,.I 0,.I (QV x1 l)] (.B true):=by have:=Qp (X:=X) H.1 H.2 (0) (QV x1 l);rwa [decide_eq_true (by rw [hC];simp [hD'])] at this
      refine Qm (α:=Nat) 0 (fun k => k ≤ R.length) (fun k => M ++ [.row true 2 k ((R.take k).map Qh)])
       (fun k => [(0,.fs (c.map Qn)),(8,.I A),(9,.I G.1),(10,.I G.2),(11,.I H.1),(12,.I H.2),(13,.I (Qv c)),(14,.I B),(15,.I A),(16,.I 0),(17,PV.nilS),(18,.os M.length k 0 k),(19,.I (0)),(20,.I (QV x1 l)),(97,.fs (R.map Qh)),(98,.I R.length),(99,.I k)]) (fun k => R.length - k) (Nat.zero_le _) rfl rfl ?_
      intro k hk
      by_cases hlt:k < R.length
      ·obtain ⟨y,g1⟩:∃ y,R[k]? = some y:=⟨_,List.getElem?_eq_getElem hlt⟩
       have g2:k = ((R.take k).map Qh).length:=by simp;omega
       simp -implicitDefEqProofs (disch:=first|omega|(simp only [go_sem,seval,hlt,g1,Ql,Qy];first|done|omega)) only [go_sem,seval,hlt,g1,Ql,Qy]
       refine Qo hM rfl 1 (by simp) (by first|done|(simp only [go_sem,seval,Qq,Qj,Qw] <;> first|done|(refine ⟨?_,?_⟩ <;> omega)|omega)) (Qr (by first|done|(simp only [go_sem,seval,Qq,Qj,Qw] <;> first|done|(refine ⟨?_,?_⟩ <;> omega)|omega))) ?_
       simp -implicitDefEqProofs (disch:=first|omega|(simp only [go_sem,seval];first|done|omega)) only [go_sem,seval]
       exact again' (k + 1) (by omega) (by omega) (by rw [QC g1];rfl) rfl
      ·rw [List.take_of_length_le (by omega)]
       have hkR:k = R.length:=by omega
       subst hkR
       simp -implicitDefEqProofs (disch:=first|omega|(simp only [go_sem,seval];first|done|omega)) only [go_sem,seval]
       refine Qb (QK c (by omega) _) ?_
       simp -implicitDefEqProofs (disch:=first|omega|(simp only [go_sem,seval];first|done|omega)) only [go_sem,seval]
       refine Qb (Qx c (by omega) _) ?_
       simp -implicitDefEqProofs (disch:=first|omega|(simp only [go_sem,seval];first|done|omega)) only [go_sem,seval]
       refine Qb (QE R [] (by omega) _) ?_
       simp -implicitDefEqProofs (disch:=first|omega|(simp only [go_sem,seval,hR0'];first|done|omega)) only [go_sem,seval,hR0']
       refine Qb (n1 _) ?_
       simp -implicitDefEqProofs (disch:=first|omega|(simp only [go_sem,seval];first|done|omega)) only [go_sem,seval]
       refine Qb (n2 _) ?_
       simp -implicitDefEqProofs (disch:=first|omega|(simp only [go_sem,seval];first|done|omega)) only [go_sem,seval]
       (all_goals (first|refine pfN hM ?_ ?_|refine pf0 hM ?_ ?_);all_goals first|(simp only [go_sem,seval]<;>omega)|skip;all_goals (try simp -implicitDefEqProofs (disch:=first|omega|(simp only [go_sem,seval];first|done|omega)) only [go_sem,seval]))
     ·have hD':=hD
      simp -implicitDefEqProofs (disch:=first|omega|(simp only [go_sem,seval,hB,hA0,hD];first|done|omega)) only [go_sem,seval,hB,hA0,hD]
      have n1:Q X 26 [.I G.1,.I G.2,.I B,.I (0)] (.B true):=by have:=Qp (X:=X) G.1 G.2 (B) (0);rwa [decide_eq_true (by rw [hG];simp [hB'])] at this
      have n2:Q X 26 [.I H.1,.I H.2,.I D,.I 0] (.B true):=by have:=Qp (X:=X) H.1 H.2 (D) 0;rwa [decide_eq_true (by rw [hC];simp [hD'])] at this
      refine Qm (α:=Nat) 0 (fun k => k ≤ R.length) (fun k => M ++ [.row true 2 k ((R.take k).map Qh)])
       (fun k => [(0,.fs (c.map Qn)),(8,.I A),(9,.I G.1),(10,.I G.2),(11,.I H.1),(12,.I H.2),(13,.I (Qv c)),(14,.I B),(15,.I A),(16,.I D),(17,PV.nilS),(18,.os M.length k 0 k),(19,.I (0)),(20,.I 0),(97,.fs (R.map Qh)),(98,.I R.length),(99,.I k)]) (fun k => R.length - k) (Nat.zero_le _) rfl rfl ?_
      intro k hk
      by_cases hlt:k < R.length
      ·obtain ⟨y,g1⟩:∃ y,R[k]? = some y:=⟨_,List.getElem?_eq_getElem hlt⟩
       have g2:k = ((R.take k).map Qh).length:=by simp;omega
       simp -implicitDefEqProofs (disch:=first|omega|(simp only [go_sem,seval,hlt,g1,Ql,Qy];first|done|omega)) only [go_sem,seval,hlt,g1,Ql,Qy]
       refine Qo hM rfl 1 (by simp) (by first|done|(simp only [go_sem,seval,Qq,Qj,Qw] <;> first|done|(refine ⟨?_,?_⟩ <;> omega)|omega)) (Qr (by first|done|(simp only [go_sem,seval,Qq,Qj,Qw] <;> first|done|(refine ⟨?_,?_⟩ <;> omega)|omega))) ?_
       simp -implicitDefEqProofs (disch:=first|omega|(simp only [go_sem,seval];first|done|omega)) only [go_sem,seval]
       exact again' (k + 1) (by omega) (by omega) (by rw [QC g1];rfl) rfl
      ·rw [List.take_of_length_le (by omega)]
       have hkR:k = R.length:=by omega
       subst hkR
       simp -implicitDefEqProofs (disch:=first|omega|(simp only [go_sem,seval];first|done|omega)) only [go_sem,seval]
       refine Qb (QK c (by omega) _) ?_
       simp -implicitDefEqProofs (disch:=first|omega|(simp only [go_sem,seval];first|done|omega)) only [go_sem,seval]
       refine Qb (Qx c (by omega) _) ?_
       simp -implicitDefEqProofs (disch:=first|omega|(simp only [go_sem,seval];first|done|omega)) only [go_sem,seval]
       refine Qb (QE R [] (by omega) _) ?_
       simp -implicitDefEqProofs (disch:=first|omega|(simp only [go_sem,seval,hR0'];first|done|omega)) only [go_sem,seval,hR0']
       refine Qb (n1 _) ?_
       simp -implicitDefEqProofs (disch:=first|omega|(simp only [go_sem,seval];first|done|omega)) only [go_sem,seval]
       refine Qb (n2 _) ?_
       simp -implicitDefEqProofs (disch:=first|omega|(simp only [go_sem,seval];first|done|omega)) only [go_sem,seval]
       (all_goals (first|refine pfN hM ?_ ?_|refine pf0 hM ?_ ?_);all_goals first|(simp only [go_sem,seval]<;>omega)|skip;all_goals (try simp -implicitDefEqProofs (disch:=first|omega|(simp only [go_sem,seval];first|done|omega)) only [go_sem,seval]))
  ·have f2:((l.length:Int) ≤ 20) = False:=eq_false (by omega)
   simp -implicitDefEqProofs (disch:=first|omega|(simp only [go_sem,seval,f2];first|done|omega)) only [go_sem,seval,f2]
   refine Qb (Yz _) ?_
   simp -implicitDefEqProofs (disch:=first|omega|(simp only [go_sem,seval];first|done|omega)) only [go_sem,seval]
   (all_goals (first|refine pfN hM ?_ ?_|refine pf0 hM ?_ ?_);all_goals first|(simp only [go_sem,seval]<;>omega)|skip;all_goals (try simp -implicitDefEqProofs (disch:=first|omega|(simp only [go_sem,seval];first|done|omega)) only [go_sem,seval]))
 ·have f1:((20:Int) < c.length) = True:=eq_true (by omega)
  simp -implicitDefEqProofs (disch:=first|omega|(simp only [go_sem,seval,f1];first|done|omega)) only [go_sem,seval,f1]
  refine Qb (Yz _) ?_
  simp -implicitDefEqProofs (disch:=first|omega|(simp only [go_sem,seval];first|done|omega)) only [go_sem,seval]
  (all_goals (first|refine pfN hM ?_ ?_|refine pf0 hM ?_ ?_);all_goals first|(simp only [go_sem,seval]<;>omega)|skip;all_goals (try simp -implicitDefEqProofs (disch:=first|omega|(simp only [go_sem,seval];first|done|omega)) only [go_sem,seval]))
end
end Go.Nac.L9
