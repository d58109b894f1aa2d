/- Sorting by a comparison, as the shelf's contract has it. -/
import Derived.Test.YtbmicihfhfcpkaaGreatDoorW08
import Derived.Shelf.SlSortCmp.WholeK
import Derived.Shelf.SlSortCmp.NoneTotal
import Derived.Shelf.Strconv.Itoa3
import Derived.Shelf.Strconv.AtoiAll
import Derived.Shelf.Strings.Cut
import Derived.Shelf.Strings.Split
import Derived.Shelf.Strings.Prefix
import Derived.Shelf.Strings.OnBuilder
import Derived.Shelf.Bytes.SlSmallAll
import Derived.LaidMore
import Derived.ChangeArms
import Derived.OpenShut
import Derived.Shelf.Strings.Builder1
import Derived.Lib.ItoaLen
set_option linter.unusedVariables false
set_option linter.unusedSectionVars false
namespace Go.Nac
open Go.Shelf Go.Sort Go.Proofs Go.RowKit
section
variable {α:Type} [Inhabited α]
variable [Env] {P:Program} {M:List Blk}
def encV (enc:α → List Value) (x:α):PV:=.agg ((enc x).map .s)
def CmpAt (P:Program) (g:FuncId) (enc:α → List Value) (cf:α → α → Int):Prop :=
 ∀ (W:World) (x y:α),Calls P g #[.agg (enc x).toArray,.agg (enc y).toArray] W fun e W' => e = .returned (.int .i64 (cf x y)) ∧ Below W.heap.size W W' ∧ W.drawn ≤ W'.drawn
def srtL (cf:α → α → Int) (d:List α):List α:=(pdq (ltOf cf) d.toArray 0 d.length (Lib.bitLen d.length) true true).toList
end
end Go.Nac
namespace Go.Nac
open Go.RowKit
abbrev env0:Env:=⟨fun _ => none,True⟩
end Go.Nac
namespace Go.Nac
open Go.Shelf Go.Sort Go.Proofs Go.RowKit
variable [Env] {P:Program} {ρ:Ren} {M:List Blk}
abbrev PV.S (l:List UInt8):PV:=.s (.string ⟨l.toArray⟩)
theorem JN {L:Loc} {w:World} (S:Sim (RO P) M L w) {g:Nat} {cs:List Value} (h:Env.glb g = some cs) (i:Nat):w.cell? ⟨g,i,none⟩ = cs[i]?:=by
 obtain ⟨⟨el,h1⟩,_⟩:=S.env g cs h
 simp [World.cell?,h1]
theorem QlM {L:Loc} {w:World} (S:Sim (RO P) M L w) {g:Nat} {k:IntKind} {zs:List Int} {n:String} (hn:P.globalNamed n = some g) (h:Env.glb g = some (zs.map (.int k))):Lib.TabIs P w n k zs:=by
 obtain ⟨⟨el,h1⟩,_⟩:=S.env g _ h
 simp [Lib.TabIs,World.var?,hn,h1]
theorem Qmy {L:Loc} {w:World} {s:ByteArray} {cargs:Array Value} (A:LRel M L w [.s (.string s)] cargs.toList):cargs = #[.string s]:=by
 obtain ⟨cargs⟩:=cargs
 cases A with|cons _ v _ vs h hs => cases hs;rw [h.s_inv]
theorem Qco {L:Loc} {w:World} {s t:ByteArray} {cargs:Array Value} (A:LRel M L w [.s (.string s),.s (.string t)] cargs.toList):cargs = #[.string s,.string t]:=by
 obtain ⟨cargs⟩:=cargs
 cases A with|cons _ v _ vs h hs => cases hs with|cons _ v' _ vs' h' hs' => cases hs';rw [h.s_inv,h'.s_inv]
theorem QiK (Ls : LaysM.n171 P ρ) {f : FuncId} (hf : f = ρ.f 171) (he : ∀ args w, (callFunc f args).run P w = .ok (.enter f args) w) {g : Nat} (hn : P.globalNamed "internal/strconv.uint64pow10" = some g) (hg : Env.glb g = some (Lib.pow10Tab.map (.int .u64))) {n : Int} (h0 : -9223372036854775808 ≤ n) (h1 : n ≤ 9223372036854775807) :
    Conc P (.fn f) [.I n] M (.S (Lib.itoa n)) M:=by
  refine Ye fun L w cargs S A => ?_
  subst hf
  obtain ⟨cargs⟩:=cargs
  cases A with|cons _ v _ vs h hs =>
  cases hs
  have hv:=h.s_inv
  subst hv
  refine ⟨he _ _,(Any.strconv_Itoa Ls n h0 h1 w (QlM S hn hg)).mono ?_⟩
  rintro e w' ⟨rfl,k,os,rfl⟩
  exact ⟨_,rfl,Qf9 w k os,fun _ => Nat.le_add_right _ _,.s _ rfl⟩
theorem Qko (Ls:Lays.n145 P ρ) {f:FuncId} (hf:f = ρ.f 145) (he:∀ args w,(callFunc f args).run P w = .ok (.enter f args) w) {m:Int} (hg:Env.glb (ρ.g 1) = some [.int .i64 m]) {s sep:ByteArray} (hs:s.size < 4294967281) :
  Conc P (.fn f) [.s (.string s),.s (.string sep)] M (.tup [.S (Lib.cut s.data.toList sep.data.toList).1,.S (Lib.cut s.data.toList sep.data.toList).2.1,.B (Lib.cut s.data.toList sep.data.toList).2.2]) M:=by
 refine Ye fun L w cargs S A => ?_
 subst hf
 have:=Qco A
 subst this
 refine ⟨he _ _,(Any.strings_Cut Ls s sep m w hs (JN S hg 0)).mono ?_⟩
 rintro e w' ⟨rfl,n,rfl⟩
 exact ⟨_,rfl,Qgp _ w n,fun _ => Nat.le_add_right _ _,.tup _ _ (.cons _ _ _ _ (.s _ rfl) (.cons _ _ _ _ (.s _ rfl) (.cons _ _ _ _ (.s _ rfl) .nil)))⟩
theorem Qa4 (h:Array Obj) (o:Obj) {k:Nat} (hk:k < h.size):(h.push o)[k]? = h[k]?:=by
 rw [Array.getElem?_push,if_neg (Nat.ne_of_lt hk)]
theorem QkS {L:Loc} {w:World} (l:List ByteArray):LRel M L w ((l.map fun s => PV.s (.string s)).flatMap PV.cells) (l.map Value.string):=by
 induction l with
 | nil => exact .nil
 | cons x l ih => exact .cons _ _ _ _ (.s _ rfl) ih
theorem QgP (Ls:Lays.n146 P ρ) {f:FuncId} (hf:f = ρ.f 146) (he:∀ args w,(callFunc f args).run P w = .ok (.enter f args) w) {m:Int} (hg:Env.glb (ρ.g 1) = some [.int .i64 m]) (hi9:(P.info? (ρ.t 9)).map (fun i => (i.zero,i.size,i.bytes)) = some (some (.string ByteArray.empty),1,16))
  {s sep:ByteArray} (hs:s.size < 4294967281) (h1:1 ≤ sep.size) (hlen:(Lib.splitB sep 0 (Lib.countB s sep) s).length = Lib.countB s sep + 1) :
  Conc P (.fn f) [.s (.string s),.s (.string sep)] M (.fs ((Lib.splitB sep 0 (Lib.countB s sep) s).map fun x => .s (.string x))) M:=by
 refine Ye fun L w cargs S A => ?_
 subst hf
 have:=Qco A
 subst this
 refine ⟨he _ _,(Any.strings_Split Ls hi9 s sep m w hs (JN S hg 0) h1).mono ?_⟩
 rintro e w' ⟨rfl,rfl⟩
 refine ⟨_,rfl,⟨rfl,rfl,rfl,by simp,fun k hk => Qa4 _ _ hk⟩,fun _ => Nat.le_refl _,?_⟩
 refine Qgt S (k:=1) (by simp [hlen]) (by simp [hlen]) (fun x hx => by obtain ⟨y,_,rfl⟩:=List.mem_map.1 hx;rfl) (QkS _) (Nat.le_refl _) (by simp) fun m v hv => ?_
 show (match (w.heap.push _)[w.heap.size]? with|some (.cells c _ _) => _|_ => _) = _
 rw [Array.getElem?_push_size]
 show (Array.mk _)[0 + m]? = _
 simpa using hv
theorem Qiq (Ls:Lays.n101 P ρ) {f:FuncId} (hf:f = ρ.f 101) (he:∀ args w,(callFunc f args).run P w = .ok (.enter f args) w) {s p:ByteArray}:Conc P (.fn f) [.s (.string s),.s (.string p)] M (.S (Lib.trimPrefix s.data.toList p.data.toList)) M:=by
 refine Ye fun L w cargs S A => ?_
 subst hf
 have:=Qco A
 subst this
 refine ⟨he _ _,(Any.strings_TrimPrefix Ls s p w).mono ?_⟩
 rintro e w' ⟨rfl,rfl⟩
 exact ⟨_,rfl,Qb3 _ _,fun _ => Nat.le_refl _,.s _ rfl⟩
end Go.Nac
namespace Go.Nac
open Go.Shelf Go.Sort Go.Proofs Go.RowKit
variable [Env] {P:Program} {ρ:Ren} {M:List Blk}
def atoiV (s:ByteArray):PV :=
 match Lib.atoiAll s.data.toList with
 | .ok v => .tup [.I v,.s .nilIface]
 | .range => .tup [.I (Lib.atoiSat s.data.toList),.err]
 | _ => .tup [.I 0,.err]
theorem Qfm (w:World) (e:TypeId) (s:ByteArray):Below w.heap.size w (Lib.bytesWorld w e s):=by
 unfold Lib.bytesWorld World.freeze
 split
 ·exact ⟨rfl,rfl,rfl,by simp,fun k hk => Qa4 _ _ hk⟩
 ·refine ⟨rfl,rfl,rfl,by simp,fun k hk => ?_⟩
  show ((w.heap.push _).modify w.heap.size _)[k]? = _
  rw [Array.getElem?_modify,if_neg (Nat.ne_of_gt hk)]
  exact Qa4 _ _ hk
theorem QiA (Ls:LaysC.n172 P ρ) (hm:¬ Env.mono) {f:FuncId} (hf:f = ρ.f 172) (he:∀ args w,(callFunc f args).run P w = .ok (.enter f args) w) {t1 t2:TypeId} {v1 v2:Value} (hg1:Env.glb (ρ.g 15) = some [.iface t1 v1]) (hg2:Env.glb (ρ.g 16) = some [.iface t2 v2]) {s:ByteArray} (hs:s.size ≤ 281474976710656) :
  Conc P (.fn f) [.s (.string s)] M (atoiV s) M:=by
 refine Ye fun L w cargs S A => ?_
 subst hf
 have:=Qmy A
 subst this
 refine ⟨he _ _,?_⟩
 unfold atoiV
 cases h:Lib.atoiAll s.data.toList
 ·rename_i v
  refine (Any.strconv_Atoi_ok Ls s (by omega) v h w).mono ?_
  rintro e w' ⟨rfl,rfl|⟨t,rfl⟩⟩
  ·exact ⟨_,rfl,Qb3 _ _,fun _ => Nat.le_refl _,.tup _ _ (.cons _ _ _ _ (.s _ rfl) (.cons _ _ _ _ (.s _ rfl) .nil))⟩
  ·exact ⟨_,rfl,Qfm _ _ _,fun m => absurd m hm,.tup _ _ (.cons _ _ _ _ (.s _ rfl) (.cons _ _ _ _ (.s _ rfl) .nil))⟩
 ·refine (Any.strconv_Atoi_syntax Ls s hs h _ w (JN S hg1 0) (.inr ⟨_,_,rfl⟩)).mono ?_
  rintro e w' ⟨N,rfl,_,_,hb⟩
  exact ⟨_,rfl,hb,fun m => absurd m hm,.tup _ _ (.cons _ _ _ _ (.s _ rfl) (.cons _ _ _ _ (.err _ _) .nil))⟩
 ·refine (Any.strconv_Atoi_range Ls s hs h _ w (JN S hg2 0) (.inr ⟨_,_,rfl⟩)).mono ?_
  rintro e w' ⟨N,rfl,_,_,hb⟩
  exact ⟨_,rfl,hb,fun m => absurd m hm,.tup _ _ (.cons _ _ _ _ (.s _ rfl) (.cons _ _ _ _ (.err _ _) .nil))⟩
end Go.Nac
namespace Go.Nac
section
variable [Env]
end
theorem Qlm {H:Type} {enc:TypeId × Value → H} {P:Program} {W:World} {t:TypeId} {k:IntKind} {held:Bool} {m:Nat} {cs:List Value} {z:Int} {q:List MemPlace} {x:DataW H × List MemPlace} (ht:P.underlying t = some (.int k))
  (h:DataW.trod enc P W 0 (fun _ => true) held m t cs = some x) (hx:x.1 = .lit (.int k z)):cs = [.int k z]:=by
 obtain ⟨n,h1,h2,_⟩:=DataW.trod_int ht h
 rw [h2] at hx
 cases hx
 exact h1
theorem QkH {H:Type} {enc:TypeId × Value → H} {P:Program} {W:World} {t e:TypeId} {n:Nat} {k:IntKind} {held:Bool} {fuel:Nat} {cs:List Value} {zs:List Int} {p:List MemPlace} (ht:P.underlying t = some (.array n e)) (he:P.underlying e = some (.int k))
  (hc:P.cellsOf e = 1) (hct:P.cellsOf t = n) (hz:zs.length = n) (h:DataW.trod enc P W 0 (fun _ => true) held fuel t cs = some (.agg (zs.map fun z => .lit (.int k z)),p)):cs = zs.map (.int k):=by
 obtain ⟨xs,m,_,hx,hl,hxl,hel⟩:=DataW.trod_array ht h
 rw [hc] at hel
 simp only [Prod.mk.injEq,DataW.agg.injEq] at hx
 apply List.ext_getElem?
 intro i
 rcases Nat.lt_or_ge i n with hi|hi
 ·have h1:=hel i hi
  obtain ⟨x,hx2⟩:∃ x,xs[i]? = some x:=⟨_,List.getElem?_eq_getElem (by omega)⟩
  rw [hx2] at h1
  have h2:x.1 = .lit (.int k (zs[i]'(by omega))):=by
   have h3:=congrArg (·[i]?) hx.1
   simp only [List.getElem?_map,hx2,List.getElem?_eq_getElem (show i < zs.length by omega),Option.map_some,Option.some.injEq] at h3
   exact h3.symm
  have h4:=Qlm (q:=[]) he h1 h2
  have h5:cs[i]? = some (.int k (zs[i]'(by omega))):=by
   rw [Nat.mul_one] at h4
   have h6:((cs.drop i).take 1)[0]? = some (.int k (zs[i]'(by omega))):=by rw [h4];rfl
   rw [List.getElem?_take_of_lt (by decide),List.getElem?_drop] at h6
   simpa using h6
  rw [h5,List.getElem?_map,List.getElem?_eq_getElem (show i < zs.length by omega)];rfl
 ·rw [List.getElem?_eq_none (by omega),List.getElem?_eq_none (by simp;omega)]
theorem Qa3 {P:Program} {W:World} {name:String} {g:Nat} {cs:Array Value} (hg:P.globalNamed name = some g) (hv:W.var? P name = some cs) (hc:∃ c t,W.heap[g]? = some (.cells c t (0,0))):∃ el,W.heap[g]? = some (.cells cs el (0,0)):=by
 obtain ⟨c,t,hc⟩:=hc
 unfold World.var? at hv
 rw [hg] at hv
 simp only [Option.bind_some,hc,Option.some.injEq] at hv
 subst hv
 exact ⟨t,hc⟩
end Go.Nac
namespace Go.Nac
end Go.Nac
namespace Go.Nac
open Go.Shelf Go.Proofs Go.RowKit
variable [Env] {P:Program} {ρ:Ren} {M:List Blk}
theorem Qkh {α:Type} {l:List α} {i:Nat} {x:α} (h:l[i]? = some x):l.set i x = l:=by
 obtain ⟨hlt,hget⟩:=List.getElem?_eq_some_iff.1 h
 rw [← hget];exact List.set_getElem_self hlt
theorem Qiw (Ls:Lays.n240 P ρ) (X:Builder.X72 P ρ) {f:FuncId} (hf:f = ρ.f 240) (he:∀ args w,(callFunc f args).run P w = .ok (.enter f args) w) {i ver:Nat} {T:TypeId} (hT:T = ρ.t 72) {p s:PV}
  (hi:M[i]? = some (.row true 2 ver [.agg [p,s]])) (hp:p = .s (.pointer none) ∨ p = .bp i ver T):Conc P (.fn f) [.bp i ver T] M (.tup []) (M.set i (.row true 2 ver [.agg [.bp i ver T,s]])):=by
 intro L w cargs S A
 subst hf
 subst hT
 obtain ⟨cargs⟩:=cargs
 cases A with|cons _ v _ vs h hs =>
 cases hs
 obtain ⟨b,cc,rfl,hx,hL,hr,hsz⟩:=h.bp_live hi
 obtain ⟨hk1,c',el,us,g1,g2,g3,g4⟩:=Q7 S hi hL
 obtain ⟨rfl,_⟩:=hr.uniq g1
 have g2':LRel M L w [p,s] us:=by simpa [PV.cells] using g2
 cases g2' with|cons _ v0 _ us' h0 hs0 =>
 cases hs0 with|cons _ v1 _ us'' h1 hs1 =>
 cases hs1
 have c0:w.cell? ⟨b,0,none⟩ = some v0:=by have:=g4 0 v0 rfl;simpa using this
 left
 refine ⟨he _ _,?_⟩
 rcases hp with rfl|rfl
 ·have hv0:=h0.s_inv
  subst hv0
  obtain ⟨z,hbz,hz⟩:=hr
  have hsh:w.shape? b = some (ρ.t 72,2):=by simp [World.shape?,hbz,hsz]
  have hfz:w.frozen? ⟨b,0,none⟩ = false:=RowAt.unfrozen ⟨z,hbz,hz⟩ (by omega)
  refine (Any.Builder_copyCheck_fresh Ls X b w c0 hsh hfz).mono ?_
  rintro e w' ⟨rfl,rfl⟩
  have hw':∀ b',b' ≠ b → (w.setCell ⟨b,0,none⟩ (.pointer (some ⟨b,0,none⟩))).heap[b']? = w.heap[b']?:=by
   intro b' hb'
   simp only [World.setCell,Array.getElem?_modify]
   rw [if_neg (fun e => hb' e.symm)]
  have hwb:(w.setCell ⟨b,0,none⟩ (.pointer (some ⟨b,0,none⟩))).heap[b]? = some (.cells (cc.setIfInBounds 0 (.pointer (some ⟨b,0,none⟩))) (ρ.t 72) z):=by
   simp [World.setCell,Array.getElem?_modify,hbz]
  have hrow':RowAt (w.setCell ⟨b,0,none⟩ (.pointer (some ⟨b,0,none⟩))) b (cc.setIfInBounds 0 (.pointer (some ⟨b,0,none⟩))) (ρ.t 72):=⟨z,hwb,hz.size (by simp)⟩
  have hr:RowAt w b cc (ρ.t 72):=⟨z,hbz,hz⟩
  have hlt:i < M.length:=(List.getElem?_eq_some_iff.1 hi).1
  obtain ⟨E,S'⟩:=Yd S (ver':=ver) (o':=0) (xs':=[.agg [.bp i ver (ρ.t 72),s]]) hi hL hr (w':=w.setCell ⟨b,0,none⟩ (.pointer (some ⟨b,0,none⟩))) ⟨rfl,rfl,rfl,Nat.le_refl _⟩ hrow' hw' (by simp [World.setCell]) (by simp) (.inr ⟨rfl,rfl,rfl⟩)
   (by simp [PV.cells]) (vs:=[.pointer (some ⟨b,0,none⟩),v1]) (by
    simp only [List.flatMap_cons,List.flatMap_nil,List.append_nil,PV.cells]
    exact .cons _ _ _ _ h (.cons _ _ _ _ h1 .nil)) (fun m v hm => by
    rcases m with _|_|m
    ·simp at hm;subst hm
     have:0 < cc.size:=by omega
     simp [this]
    ·have:=g3 1 v1 rfl
     simp at hm;subst hm
     simp only [Array.getElem?_setIfInBounds]
     rw [if_neg (by omega)]
     simpa using this
    ·simp at hm)
  exact ⟨_,E,S',.tup _ _ .nil⟩
 ·have h00:=h0
  obtain ⟨b2,cc2,rfl,_,hL2,_,_⟩:=h0.bp_live hi
  obtain rfl:b = b2:=by rw [hL] at hL2;cases hL2;rfl
  refine (Any.Builder_copyCheck_used Ls X b w c0).mono ?_
  rintro e w' ⟨rfl,rfl⟩
  rw [Qkh hi]
  exact ⟨L,Evo.refl _ _ _,S,.tup _ _ .nil⟩
end Go.Nac
namespace Go.Nac
open Go.Sort
instance:Inhabited Spn:=⟨⟨0,0⟩⟩
def spnV (x:Spn):List Value:=[.int .i64 x.fr,.int .i64 x.to_]
def Qn6 (x y:Spn):Int:=if x.fr < y.fr then -1 else if y.fr < x.fr then 1 else 0
def QmT (o:List Spn) (s:Spn):List Spn :=
 match o[o.length - 1]? with
 | some p => if s.fr ≤ p.to_ then o.set (o.length - 1) ⟨p.fr,max p.to_ s.to_⟩ else o ++ [s]
 | none => [s]
def QjF (l:List Spn):List Spn:=l.foldl QmT []
def QlB (l:List Spn):List Spn:=QjF (srtL Qn6 l)
end Go.Nac
namespace Go.Nac
def mrow (N:Nat) (c:Nat → Int) (w:Int) (g:Nat → Bool):List PV:=(List.range N).map fun t => PV.I (c t + if g t = true then w else 0)
def gapN (l:List Spn) (t:Nat):Bool:=gapAt l (t:Int)
def mG (l:List Spn) (k:Nat) (x:Spn) (j:Nat) (t:Nat):Bool:=gapAt (l.take k) t || decide (x.fr ≤ (t:Int) ∧ (t:Int) < (j:Int))
def andI (a b:Int):Int:=IntKind.i64.wrap ((BitVec.ofInt 64 a &&& BitVec.ofInt 64 b).toNat:Nat)
def mark2 (a b:List Spn) (t:Nat):Int:=(if gapAt a t = true then 1 else 0) + if gapAt b t = true then 2 else 0
def Qk5 (p:Nat → Bool) (s:List Spn × Int) (t:Nat):List Spn × Int :=
 if p t = true ∧ s.2 < 0 then (s.1,t) else if p t = false ∧ 0 ≤ s.2 then (s.1 ++ [⟨s.2,t⟩],-1) else s
def Qo3 (p:Nat → Bool) (n:Nat):List Spn × Int:=(List.range n).foldl (Qk5 p) ([],-1)
def Qpp (p:Nat → Bool):List Spn:=(Qo3 p 40001).1
def Qpm (want:List Int) (a b:List Spn) (t:Nat):Bool:=decide (¬ mark2 a b t = 0) && decide (mark2 a b t ∈ want)
end Go.Nac
namespace Go.Nac
def QmA (s:List Spn × Int) (x:Spn):List Spn × Int:=(if s.2 < x.fr then s.1 ++ [⟨s.2,x.fr⟩] else s.1,x.to_)
def othTo (l:List Spn):List Spn × Int:=l.foldl QmA ([],0)
def Qkk (l:List Spn):List Spn:=if (othTo l).2 < 40000 then (othTo l).1 ++ [⟨(othTo l).2,40000⟩] else (othTo l).1
def meetN:Nat → List Spn → List Spn → List Spn
 | n + 1,x :: a,y :: b => (if max x.fr y.fr < min x.to_ y.to_ then [⟨max x.fr y.fr,min x.to_ y.to_⟩] else []) ++ if x.to_ < y.to_ then meetN n a (y :: b) else meetN n (x :: a) b
 | _,_,_ => []
def QoT (a b:List Spn):List Spn:=meetN (a.length + b.length) a b
end Go.Nac
namespace Go.Nac
def spOk (l:List Spn):Prop:=∀ x ∈ l,0 ≤ x.fr ∧ x.fr < x.to_ ∧ x.to_ ≤ 40000
def totOf (l:List Spn):Int:=l.foldl (fun s x => s + (x.to_ - x.fr)) 0
def Qpe (f:List Spn → List Spn → List Spn) (a b:List Spn):List Spn × Int :=
 if fst0 [ZB a,ZB b] = 0 then (if 1024 < (f a b).length then ([],5) else (f a b,0)) else ([],fst0 [ZB a,ZB b])
def Qo7 (c:List Spn) (e w:Int) (v:List Spn):Bool :=
 if w = 0 then (if 1024 < v.length then decide (c = []) && decide (e = 5) else decide (e = 0) && decide (c = v)) else decide (c = []) && decide (e = w)
def Qpn (a b:List Spn):List Spn:=QlB (a ++ b)
def Qpa (a b:List Spn):List Spn:=QoT a (Qkk b)
end Go.Nac
namespace Go.Nac
structure Tb where
 name:ByteArray
 x:Int
 y:Int
 deriving DecidableEq
def encTb (t:Tb):PV:=.agg [.s (.string t.name),.I t.x,.I t.y]
structure Ste where
 name:ByteArray
 least:Int
 tbs:List Tb
def Qpk (s:Ste):PV:=.agg [.s (.string s.name),.I s.least,.fs (s.tbs.map encTb)]
def zSte:PV:=.agg [.s (.string ⟨#[]⟩),.I 0,.s (.slice none 0 0)]
structure Pt where
 x:Int
 y:Int
 deriving DecidableEq
def encPt (p:Pt):PV:=.agg [.I p.x,.I p.y]
def Tb.at_ (t:Tb):Pt:=⟨t.x,t.y⟩
def Qec (a b:Pt):Int:=(a.x - b.x) * (a.x - b.x) + (a.y - b.y) * (a.y - b.y)
def ptE (p:Pt):Int:=fst0 [rng p.x (-1000) 1000,rng p.y (-1000) 1000]
def ptIn (p:Pt):Prop:=-1000 ≤ p.x ∧ p.x ≤ 1000 ∧ -1000 ≤ p.y ∧ p.y ≤ 1000
def ptW (p:Pt):Prop:=-100000 ≤ p.x ∧ p.x ≤ 100000 ∧ -100000 ≤ p.y ∧ p.y ≤ 100000
def tbE (least:Int) (pre:List Tb) (t:Tb):Int :=
 fst0 [if Qb6 t.name = false then 8 else 0,ptE t.at_,if pre.any (fun o => decide (o.name = t.name)) = true then 9 else 0,if pre.any (fun o => decide (Qec t.at_ o.at_ < least * least)) = true then 15 else 0]
def tbL (least:Int) (l:List Tb):List Int:=l.zipIdx.map fun p => tbE least (l.take p.2) p.1
def QbY (s:Ste):Int :=
 if Qb6 s.name = false then 8 else if ¬ rng s.least 1 1000 = 0 then 3 else if 64 < s.tbs.length then 5 else fst0 (tbL s.least s.tbs)
def tbsIn (least:Int) (l:List Tb) (k:Nat):Prop:=∀ (i:Nat) (t:Tb),i < k → l[i]? = some t → tbE least (l.take i) t = 0
def Qph (l:List Tb):List (Value × Value):=l.map fun t => (.string t.name,.bool true)
theorem QnI (a b:ByteArray):(a == b) = decide (a = b):=by
 cases a with|mk x => cases b with|mk y =>
 have h:((ByteArray.mk x) == (ByteArray.mk y)) = (x == y):=rfl
 rw [h,Bool.eq_iff_iff]
 simp
theorem Qb7 (a b:ByteArray):(a.toList == b.toList) = decide (a = b):=by
 rw [ByteArray.toList_eq,ByteArray.toList_eq,← QnI]
 obtain ⟨⟨x⟩⟩:=a
 obtain ⟨⟨y⟩⟩:=b
 show (x == y) = ((⟨x⟩:Array UInt8) == ⟨y⟩)
 simp
theorem Qau {a b:ByteArray}:bin .eql (.s (.string a)) (.s (.string b)) = some (.B (decide (a = b))):=by
 simp only [bin,Y0,Option.map_some,Qb7]
theorem Yn {a b:ByteArray}:bin .neq (.s (.string a)) (.s (.string b)) = some (.B (decide (¬ a = b))):=by
 simp only [bin,Y0,Option.map_some,Qb7,decide_not]
end Go.Nac
namespace Go.Nac
def tb0:Tb:=⟨⟨#[]⟩,0,0⟩
def nearK (x:Tb) (m:Int) (l:List Tb):Int:=l.foldl (fun m o => min m (Qec x.at_ o.at_)) m
def spcTo (l:List Tb):Nat → Int
 | 0 => Qec (l.getD 0 tb0).at_ (l.getD 1 tb0).at_
 | k + 1 => nearK (l.getD k tb0) (spcTo l k) (l.take k)
def spcOf (l:List Tb):Int:=spcTo l l.length
def spcE (s:Ste):Int:=fst0 [QbY s,if s.tbs.length < 2 then 7 else 0]
def trnN:Nat → Pt → Pt
 | 0,p => p
 | n + 1,p => ⟨(trnN n p).y,-(trnN n p).x⟩
def mvT (f:Pt → Pt) (t:Tb):Tb:=⟨t.name,(f t.at_).x,(f t.at_).y⟩
def mvK (f:Pt → Pt) (l:List Tb) (k:Nat):List Tb:=(l.take k).map (mvT f) ++ l.drop k
end Go.Nac
namespace Go.Nac
abbrev bs (l:List UInt8):ByteArray:=⟨l.toArray⟩
def itoaB (n:Int):ByteArray:=⟨(Lib.itoa n).toArray⟩
def tbTxt (t:Tb):ByteArray:=(((((⟨#[116,117,114,98,105,110,101,32]⟩:ByteArray) ++ t.name) ++ ⟨#[32]⟩) ++ itoaB t.x) ++ ⟨#[32]⟩) ++ itoaB t.y ++ ⟨#[10]⟩
def joinB (l:List ByteArray):ByteArray:=⟨(Lib.join (l.map (·.data.toList)) []).toArray⟩
def Qpd (s:Ste):ByteArray:=((((⟨#[115,105,116,101,32]⟩:ByteArray) ++ s.name) ++ ⟨#[32]⟩) ++ itoaB s.least ++ ⟨#[10]⟩) ++ joinB (s.tbs.map tbTxt)
theorem QH {a b:ByteArray} (h:a.size + b.size ≤ 1099511627776):bin .add (.s (.string a)) (.s (.string b)) = some (.s (.string (a ++ b))):=by
 simp only [bin,Y0]
 rw [if_pos (by omega)];rfl
end Go.Nac
namespace Go.Nac
def spl (c:UInt8):List UInt8 → List (List UInt8)
 | [] => [[]]
 | x :: r => if x = c then [] :: spl c r else match spl c r with
  | h :: t => (x :: h) :: t
  | [] => [[x]]
theorem Qbw (c:UInt8) (l:List UInt8):spl c l ≠ []:=by
 cases l with
 | nil => simp [spl]
 | cons x r =>
  unfold spl
  split
  ·simp
  ·split <;> simp
theorem JK {c:UInt8}:∀ {w:List UInt8},c ∉ w → spl c w = [w]
 | [],_ => rfl
 | x :: r,h => by
  simp only [List.mem_cons,not_or] at h
  unfold spl
  rw [if_neg (fun e => h.1 e.symm),JK h.2]
theorem Jk {c:UInt8} {r:List UInt8}:∀ {w:List UInt8},c ∉ w → spl c (w ++ c :: r) = w :: spl c r
 | [],_ => by simp [spl]
 | x :: w,h => by
  simp only [List.mem_cons,not_or] at h
  rw [List.cons_append,spl,if_neg (fun e => h.1 e.symm),Jk h.2]
theorem Qax {c:UInt8}:∀ {l:List UInt8},c ∈ l → ∃ w r,c ∉ w ∧ l = w ++ c :: r
 | x :: l,h => by
  by_cases hx:x = c
  ·exact ⟨[],l,by simp,by rw [hx];rfl⟩
  ·have:c ∈ l:=by
    rcases List.mem_cons.1 h with rfl|h
    ·exact absurd rfl hx
    ·exact h
   obtain ⟨w,r,h1,h2⟩:=Qax this
   exact ⟨x :: w,r,by simp [h1];exact fun e => hx e.symm,by rw [h2];rfl⟩
theorem ZK {c:UInt8}:∀ {w:List UInt8},c ∉ w → Lib.indexByte w c = -1
 | [],_ => rfl
 | x :: r,h => by
  simp only [List.mem_cons,not_or] at h
  unfold Lib.indexByte
  rw [if_neg (by simpa using fun e => h.1 (e:x = c).symm),ZK h.2];rfl
theorem Z7 {c:UInt8} {r:List UInt8}:∀ {w:List UInt8},c ∉ w → Lib.indexByte (w ++ c :: r) c = w.length
 | [],_ => by simp [Lib.indexByte]
 | x :: w,h => by
  simp only [List.mem_cons,not_or] at h
  rw [List.cons_append]
  unfold Lib.indexByte
  rw [if_neg (by simpa using fun e => h.1 (e:x = c).symm),Z7 h.2,if_neg (by simp)]
  simp
theorem Qjx {c:UInt8} {l:List UInt8} (h:c ∉ l):Lib.cut l [c] = (l,[],false):=by
 unfold Lib.cut
 rw [Lib.index_one,ZK h];rfl
theorem Qnt {c:UInt8} {w r:List UInt8} (h:c ∉ w):Lib.cut (w ++ c :: r) [c] = (w,r,true):=by
 unfold Lib.cut
 rw [Lib.index_one,Z7 h,if_pos (by omega)]
 simp
theorem Qf8 {c:UInt8} {l:List UInt8} (h:c ∉ l):∀ n,Lib.countFrom [c] n l = 0
 | 0 => rfl
 | n + 1 => by unfold Lib.countFrom;rw [Lib.index_one,ZK h];rfl
theorem QcT (c:UInt8):∀ (n:Nat) (l:List UInt8) (k f:Nat),l.length ≤ n → l.length < f → Lib.countFrom [c] f l ≤ k → Lib.splitK [c] 0 k l = spl c l ∧ (spl c l).length = Lib.countFrom [c] f l + 1
 | n,l,k,f,hn,hf,hk => by
  by_cases h:c ∈ l
  ·obtain ⟨w,r,h1,rfl⟩:=Qax h
   obtain ⟨f,rfl⟩:∃ g,f = g + 1:=⟨f - 1,by omega⟩
   have hc:Lib.countFrom [c] (f + 1) (w ++ c :: r) = 1 + Lib.countFrom [c] f r:=by
    rw [Lib.countFrom,Lib.index_one,Z7 h1,if_neg (by simp)]
    congr 2
    simp
   simp only [List.length_append,List.length_cons] at hn hf
   cases n with
   | zero => omega
   | succ n =>
   rw [hc] at hk ⊢
   obtain ⟨k,rfl⟩:∃ g,k = g + 1:=⟨k - 1,by omega⟩
   obtain ⟨i1,i2⟩:=QcT c n r k f (by omega) (by omega) (by omega)
   rw [Jk h1,List.length_cons,i2]
   refine ⟨?_,by omega⟩
   rw [Lib.splitK,Lib.index_one,Z7 h1,if_neg (by simp)]
   simp [i1]
  ·rw [JK h,Qf8 h]
   refine ⟨?_,rfl⟩
   cases k with
   | zero => rfl
   | succ k => unfold Lib.splitK;rw [Lib.index_one,ZK h];rfl
theorem Qca (c:UInt8) (s:ByteArray):(Lib.splitB ⟨#[c]⟩ 0 (Lib.countB s ⟨#[c]⟩) s).map (·.data.toList) = spl c s.data.toList ∧ (Lib.splitB ⟨#[c]⟩ 0 (Lib.countB s ⟨#[c]⟩) s).length = Lib.countB s ⟨#[c]⟩ + 1:=by
 have e1:=Lib.splitB_data ⟨#[c]⟩ 0 (Lib.countB s ⟨#[c]⟩) s
 have e2:Lib.countB s ⟨#[c]⟩ = Lib.countFrom [c] (s.data.toList.length + 1) s.data.toList:=rfl
 obtain ⟨h1,h2⟩:=QcT c s.data.toList.length s.data.toList (Lib.countB s ⟨#[c]⟩) (s.data.toList.length + 1) (Nat.le_refl _) (by omega) (by rw [e2];exact Nat.le_refl _)
 have e3:(Lib.splitB ⟨#[c]⟩ 0 (Lib.countB s ⟨#[c]⟩) s).map (·.data.toList) = spl c s.data.toList:=e1.trans h1
 refine ⟨e3,?_⟩
 have:=congrArg List.length e3
 rw [List.length_map,h2,← e2] at this
 exact this
theorem QaF {a b:ByteArray} (h:a.data.toList = b.data.toList):a = b:=by
 obtain ⟨⟨a⟩⟩:=a
 obtain ⟨⟨b⟩⟩:=b
 simp at h
 rw [h]
theorem Qh6 (c:UInt8) (s:ByteArray):Lib.splitB ⟨#[c]⟩ 0 (Lib.countB s ⟨#[c]⟩) s = (spl c s.data.toList).map bs:=by
 rw [← (Qca c s).1,List.map_map]
 conv => lhs;rw [← List.map_id (Lib.splitB _ _ _ _)]
 exact List.map_congr_left fun x _ => QaF rfl
end Go.Nac
namespace Go.Nac
open Lib (decFrom digitVal decDigits itoa atoiAll parseUint10 parseMag)
def numP (w:List UInt8):Option Nat:=if w = [] ∨ 9 < w.length ∨ (1 < w.length ∧ w.head? = some 48) then none else decFrom 0 w
def numR:List UInt8 → Int × Bool
 | [] => (0,false)
 | c :: r => if c = 45 then (-(numR r).1,(numR r).2 && decide (0 < (numR r).1)) else match numP (c :: r) with
  | some n => ((n:Int),true)
  | none => (0,false)
theorem Qg7 (d:Nat) (h:d < 10):digitVal (UInt8.ofNat (48 + d)) = some d:=by
 have h1:(UInt8.ofNat (48 + d)).toNat = 48 + d:=UInt8.toNat_ofNat_of_lt' (by show 48 + d < 256;omega)
 unfold digitVal
 rw [h1,if_pos (by omega)]
 congr 1;omega
theorem QnX {b:UInt8} {d:Nat} (h:digitVal b = some d):d < 10 ∧ b = UInt8.ofNat (48 + d):=by
 obtain ⟨h1,h2,h3⟩:=Lib.digitVal_eq h
 refine ⟨by omega,?_⟩
 have:48 + d = b.toNat:=by omega
 rw [this];simp
theorem Je:∀ (l:List UInt8) (acc:Nat) (b:UInt8),decFrom acc (l ++ [b]) = (decFrom acc l).bind fun m => (digitVal b).map fun d => m * 10 + d
 | [],acc,b => by
  rw [List.nil_append]
  unfold decFrom
  cases digitVal b <;> rfl
 | x :: l,acc,b => by
  rw [List.cons_append]
  unfold decFrom
  cases digitVal x with
  | none => rfl
  | some d => exact Je l _ b
theorem VL (n:Nat):decFrom 0 (decDigits n) = some n:=by
 induction n using Nat.strongRecOn with
 | ind n ih =>
  unfold decDigits
  split
  ·rename_i h
   have:=Qg7 n h
   unfold decFrom
   rw [this]
   simp [decFrom]
  ·rename_i h
   rw [Je,ih (n / 10) (by omega),Qg7 (n % 10) (by omega)]
   simp
   omega
theorem ZJ (n:Nat):decDigits n ≠ []:=by
 unfold decDigits
 split <;> simp
theorem Qcm (n:Nat) (h:1 < (decDigits n).length):(decDigits n).head? ≠ some 48:=by
 induction n using Nat.strongRecOn with
 | ind n ih =>
  unfold decDigits at h ⊢
  split
  ·rename_i h1;rw [dif_pos h1] at h;simp at h
  ·rename_i h1
   rw [dif_neg h1] at h
   by_cases h2:n / 10 < 10
   ·have h3:decDigits (n / 10) = [UInt8.ofNat (48 + n / 10)]:=by unfold decDigits;rw [dif_pos h2]
    rw [h3]
    simp only [List.cons_append,List.head?_cons,ne_eq,Option.some.injEq]
    intro h4
    have h5:=congrArg UInt8.toNat h4
    rw [UInt8.toNat_ofNat_of_lt' (by show 48 + n / 10 < 256;omega)] at h5
    have:(48:UInt8).toNat = 48:=rfl
    omega
   ·have h3:1 < (decDigits (n / 10)).length:=by
     rw [Lib.decDigits_length]
     rw [Lib.nDigits_big h2]
     have:=Lib.nDigits_pos (n / 10 / 10)
     omega
    have:=ih (n / 10) (by omega) h3
    have h4:=ZJ (n / 10)
    cases hd:decDigits (n / 10) with
    | nil => exact absurd hd h4
    | cons x t => rw [hd] at this;simpa using this
theorem Qgz {w:List UInt8}:∀ {n:Nat},w ≠ [] → (1 < w.length → w.head? ≠ some 48) → decFrom 0 w = some n → w = decDigits n:=by
 induction hk:w.length generalizing w with
 | zero => intro n h;exact absurd (List.eq_nil_of_length_eq_zero hk) h
 | succ k ih =>
  intro n h0 h1 h2
  obtain ⟨v,b,rfl⟩:∃ v b,w = v ++ [b]:=⟨w.dropLast,w.getLast h0,(List.dropLast_concat_getLast h0).symm⟩
  rw [Je] at h2
  cases hv:decFrom 0 v with
  | none => rw [hv] at h2;cases h2
  | some m =>
   rw [hv] at h2
   cases hd:digitVal b with
   | none => rw [hd] at h2;cases h2
   | some d =>
    rw [hd] at h2
    simp at h2
    obtain ⟨hd1,hd2⟩:=QnX hd
    simp only [List.length_append,List.length_singleton] at hk h1
    by_cases hv0:v = []
    ·subst hv0
     simp [decFrom] at hv
     subst hv
     have:n = d:=by omega
     subst this
     unfold decDigits
     rw [dif_pos hd1,hd2];rfl
    ·have hvl:0 < v.length:=List.length_pos_iff.2 hv0
     have hh:(v ++ [b]).head? = v.head?:=by cases v with|nil => exact absurd rfl hv0|cons x t => rfl
     have h3:=ih (w:=v) (by omega) (n:=m) hv0 (fun _ => by rw [← hh];exact h1 (by omega)) hv
     have hm:m ≠ 0:=by
      intro h
      subst h
      have e:decDigits 0 = [48]:=by unfold decDigits;rw [dif_pos (by omega)];rfl
      rw [e] at h3
      rw [hh,h3] at h1
      exact h1 (by omega) rfl
     have e1:n / 10 = m:=by omega
     have e2:n % 10 = d:=by omega
     rw [decDigits,dif_neg (by omega),e1,e2,← h3,hd2]
theorem J2:∀ {l:List UInt8} {acc m:Nat},decFrom acc l = some m → acc ≤ m
 | [],acc,m,h => by cases h;exact Nat.le_refl _
 | x :: l,acc,m,h => by
  unfold decFrom at h
  cases hd:digitVal x with
  | none => rw [hd] at h;cases h
  | some d => rw [hd] at h;have:=J2 h;omega
theorem QcQ:∀ {l:List UInt8} {acc m:Nat},decFrom acc l = some m → m < 1000000000 → parseUint10 acc l = .ok m
 | [],acc,m,h,_ => by cases h;rfl
 | x :: l,acc,m,h,hm => by
  unfold decFrom at h
  cases hd:digitVal x with
  | none => rw [hd] at h;cases h
  | some d =>
   rw [hd] at h
   have h1:=J2 h
   obtain ⟨h2,h3,h4⟩:=Lib.digitVal_eq hd
   unfold parseUint10
   rw [if_pos ⟨h2,h3⟩,if_neg (by omega),if_neg (by omega),← h4]
   exact QcQ h hm
theorem QfF {n:Nat} (h:n < 1000000000):parseMag (decDigits n) = .ok n:=by
 unfold parseMag
 rw [if_neg (ZJ n),QcQ (VL n) h]
theorem nDig9 {n:Nat}:Lib.nDigits n ≤ 9 ↔ n < 1000000000:=by
 constructor
 ·intro h
  have:=Lib.lt_pow_nDigits n
  have h2:10 ^ Lib.nDigits n ≤ 10 ^ 9:=Nat.pow_le_pow_right (by decide) h
  have:(10:Nat) ^ 9 = 1000000000:=rfl
  omega
 ·intro h
  have h1:=VL n
  rcases Nat.lt_or_ge 9 (Lib.nDigits n) with h2|h2
  ·exfalso
   have key:∀ (k u:Nat),k < Lib.nDigits u → 1 ≤ k → 10 ^ k ≤ u:=by
    intro k
    induction k with
    | zero => intro u _ h;omega
    | succ k ih =>
     intro u hu _
     have hu10:¬ u < 10:=fun h => by rw [Lib.nDigits_small h] at hu;omega
     rw [Lib.nDigits_big hu10] at hu
     rw [Nat.pow_succ]
     cases k with
     | zero => omega
     | succ k =>
      have:=ih (u / 10) (by omega) (by omega)
      have h3:10 ^ (k + 1) * 10 ≤ u / 10 * 10:=Nat.mul_le_mul_right _ this
      omega
   have:=key 9 n h2 (by decide)
   have:(10:Nat) ^ 9 = 1000000000:=rfl
   omega
  ·exact h2
def NumIs (w:List UInt8) (v:Int):Prop:=w = itoa v ∧ v.natAbs < 1000000000
theorem Qbs (n:Nat):∀ r,decDigits n ≠ 45 :: r:=by
 intro r h
 have h1:=VL n
 rw [h] at h1
 unfold decFrom at h1
 have:digitVal 45 = none:=by decide
 rw [this] at h1
 cases h1
theorem YR {w:List UInt8} {n:Nat}:numP w = some n ↔ w = decDigits n ∧ n < 1000000000:=by
 unfold numP
 constructor
 ·intro h
  split at h
  ·cases h
  ·rename_i hc
   simp only [not_or,not_and] at hc
   have:=Qgz hc.1 hc.2.2 h
   refine ⟨this,nDig9.1 ?_⟩
   rw [← Lib.decDigits_length,← this]
   omega
 ·rintro ⟨rfl,h⟩
  have hl:(decDigits n).length ≤ 9:=by rw [Lib.decDigits_length];exact nDig9.2 h
  rw [if_neg,VL]
  rintro (h1|h1|⟨h1,h2⟩)
  ·exact ZJ n h1
  ·omega
  ·exact Qcm n h1 h2
theorem YA {w:List UInt8} (h:∀ r,w ≠ 45 :: r):numR w = match numP w with|some n => ((n:Int),true)|none => (0,false):=by
 cases w with
 | nil => simp [numR,numP]
 | cons c r =>
  unfold numR
  rw [if_neg (fun e => h r (by rw [e]))]
theorem Qee {w:List UInt8} {v:Int}:numR w = (v,true) ↔ NumIs w v:=by
 unfold NumIs
 by_cases h:∃ r,w = 45 :: r
 ·obtain ⟨r,rfl⟩:=h
  have e:numR (45 :: r) = (-(numR r).1,(numR r).2 && decide (0 < (numR r).1)):=by rw [numR,if_pos rfl]
  rw [e]
  constructor
  ·intro h
   simp only [Prod.mk.injEq,Bool.and_eq_true,decide_eq_true_eq] at h
   obtain ⟨rfl,h2,h3⟩:=h
   have hp:∀ t,r ≠ 45 :: t:=by
    rintro t rfl
    rw [numR,if_pos rfl] at h2 h3
    simp at h2 h3
    omega
   rw [YA hp] at h2 h3 ⊢
   cases hn:numP r with
   | none => rw [hn] at h2;cases h2
   | some n =>
    rw [hn] at h3
    simp only at h3
    obtain ⟨rfl,hlt⟩:=YR.1 hn
    simp only
    refine ⟨?_,by omega⟩
    unfold itoa
    rw [if_pos (by omega)]
    have:(-(n:Int)).natAbs = n:=by omega
    rw [this]
  ·rintro ⟨h1,h2⟩
   unfold itoa at h1
   split at h1
   ·rename_i hv
    have h3:r = decDigits v.natAbs:=by injection h1
    have hp:∀ t,r ≠ 45 :: t:=fun t => by rw [h3];exact Qbs _ t
    rw [YA hp,YR.2 ⟨h3,h2⟩]
    simp
    omega
   ·exact absurd h1.symm (Qbs _ _)
 ·have hp:∀ r,w ≠ 45 :: r:=fun r e => h ⟨r,e⟩
  rw [YA hp]
  constructor
  ·intro h
   cases hn:numP w with
   | none => rw [hn] at h;cases h
   | some n =>
    rw [hn] at h
    simp only [Prod.mk.injEq] at h
    obtain ⟨rfl,_⟩:=h
    obtain ⟨rfl,hlt⟩:=YR.1 hn
    refine ⟨?_,by omega⟩
    unfold itoa
    rw [if_neg (by omega)];rfl
  ·rintro ⟨h1,h2⟩
   unfold itoa at h1
   split at h1
   ·exact absurd h1 (hp _)
   ·rename_i hv
    have:numP w = some v.toNat:=YR.2 ⟨h1,by omega⟩
    rw [this]
    simp
    omega
def atoiI (w:List UInt8):Int:=match atoiAll w with|.ok v => v|.range => Lib.atoiSat w|_ => 0
def okW (w:List UInt8):Bool:=match atoiAll w with|.ok v => decide (itoa v = w) && decide ((Lib.trimPrefix w [45]).length ≤ 9)|_ => false
theorem QlK {w:List UInt8} {v:Int} (h:atoiAll w = .ok v):-9223372036854775808 ≤ v ∧ v ≤ 9223372036854775807:=by
 cases w with
 | nil => cases h
 | cons c r =>
  unfold atoiAll at h
  simp only at h
  split at h
  ·cases h
  ·cases h
  ·split at h
   ·cases h
   ·split at h
    ·cases h
    ·injection h with h
     split at h <;> omega
theorem Qcx (r:List UInt8):Lib.trimPrefix (45 :: r) [45] = r:=by unfold Lib.trimPrefix Lib.hasPrefix;simp
theorem Qcu {w:List UInt8} (h:∀ r,w ≠ 45 :: r):Lib.trimPrefix w [45] = w:=by
 unfold Lib.trimPrefix Lib.hasPrefix
 cases w with
 | nil => rfl
 | cons c r =>
  rw [if_neg]
  simp only [List.isPrefixOf,Bool.and_true,beq_iff_eq]
  intro e;exact h r (by rw [e])
theorem QnK {w:List UInt8} (h:okW w = true):∃ v,NumIs w v ∧ atoiI w = v:=by
 unfold okW at h
 cases hv:atoiAll w
 ·rename_i v
  rw [hv] at h
  simp only [Bool.and_eq_true,decide_eq_true_eq] at h
  refine ⟨v,⟨h.1.symm,?_⟩,by unfold atoiI;rw [hv]⟩
  have h1:=h.1
  have h2:=h.2
  unfold itoa at h1
  split at h1
  ·rw [← h1,Qcx,Lib.decDigits_length] at h2
   exact nDig9.1 h2
  ·rw [← h1,Qcu (Qbs _),Lib.decDigits_length] at h2
   have:=nDig9.1 h2
   omega
 ·rw [hv] at h;cases h
 ·rw [hv] at h;cases h
theorem QoN {w:List UInt8} {v:Int} (h:NumIs w v):okW w = true ∧ atoiI w = v:=by
 obtain ⟨h1,h2⟩:=h
 have ha:atoiAll w = .ok v:=by
  rw [h1]
  unfold itoa
  split
  ·rename_i hv
   unfold atoiAll
   have e:((45:UInt8).toNat = 43 ∨ (45:UInt8).toNat = 45):=.inr rfl
   simp only [if_pos e]
   rw [QfF h2]
   simp only
   have e2:(45:UInt8).toNat = 45:=rfl
   rw [if_neg (by simp [e2]),if_neg (by omega),if_pos e2]
   congr 1;omega
  ·rename_i hv
   have hd:=VL v.toNat
   have hne:=ZJ v.toNat
   have hm:=QfF (n:=v.toNat) (by omega)
   cases hc:decDigits v.toNat with
   | nil => exact absurd hc hne
   | cons c r =>
    rw [hc] at hd hm
    have hcd:48 ≤ c.toNat ∧ c.toNat ≤ 57:=by
     unfold decFrom at hd
     cases hx:digitVal c with
     | none => rw [hx] at hd;cases hd
     | some d => obtain ⟨a,b,_⟩:=Lib.digitVal_eq hx;exact ⟨a,b⟩
    unfold atoiAll
    have e:¬ (c.toNat = 43 ∨ c.toNat = 45):=by omega
    simp only [if_neg e]
    rw [hm]
    simp only
    rw [if_neg (by omega),if_neg (by omega),if_neg (by omega)]
    congr 1;omega
 refine ⟨?_,by unfold atoiI;rw [ha]⟩
 unfold okW
 rw [ha]
 simp only [Bool.and_eq_true,decide_eq_true_eq]
 refine ⟨h1.symm,?_⟩
 rw [h1]
 unfold itoa
 split
 ·rw [Qcx,Lib.decDigits_length];exact nDig9.2 h2
 ·rw [Qcu (Qbs _),Lib.decDigits_length];exact nDig9.2 (by omega)
theorem Qft (w:List UInt8):okW w = (numR w).2 ∧ (okW w = true → (numR w).1 = atoiI w):=by
 cases hb:(numR w).2 with
 | true =>
  have h2:=Qee.1 (show numR w = ((numR w).1,true) by rw [← hb])
  obtain ⟨h3,h4⟩:=QoN h2
  exact ⟨h3,fun _ => h4.symm⟩
 | false =>
  have h:¬ okW w = true:=fun h => by
   obtain ⟨v,h1,_⟩:=QnK h
   rw [Qee.2 h1] at hb
   cases hb
  exact ⟨by simpa using h,fun h1 => absurd h1 h⟩
end Go.Nac
namespace Go.Nac
theorem QU (l:List UInt8):(⟨l.toArray⟩:ByteArray).size = l.length:=by
 show l.toArray.size = _
 simp
theorem bs_eq {a b:List UInt8}:((⟨a.toArray⟩:ByteArray) = ⟨b.toArray⟩) = (a = b):=by
 apply propext
 constructor
 ·intro h
  injection h with h
  simpa using congrArg Array.toList h
 ·intro h;rw [h]
theorem Jv (a b:List UInt8):(⟨a.toArray⟩:ByteArray) ++ ⟨b.toArray⟩ = ⟨(a ++ b).toArray⟩:=QaF (by simp)
theorem bs_of (s:ByteArray):(⟨s.data.toList.toArray⟩:ByteArray) = s:=QaF (by simp)
theorem Qbl {l:List UInt8} {k:Nat} {u:UInt8} (h:l[k]? = some u):idxsV (.s (.string ⟨l.toArray⟩)) (some k) = some (.s (.int .u8 u.toNat)):=by
 refine Qgu ?_
 obtain ⟨h1,h2⟩:=List.getElem?_eq_some_iff.1 h
 have h3:k < (⟨l.toArray⟩:ByteArray).size:=by rw [QU];exact h1
 rw [getElem?_pos (⟨l.toArray⟩:ByteArray) k h3]
 exact congrArg some h2
theorem QcE {l:List UInt8} {lo hi:Option PV}:Qd5 (.s (.string ⟨l.toArray⟩)) lo hi = (bounds l.length lo hi).map fun p => .s (.string ⟨((l.drop p.1).take (p.2 - p.1)).toArray⟩):=by
 show (bounds (⟨l.toArray⟩:ByteArray).size lo hi).map _ = _
 rw [QU]
 congr 1
 funext p
 congr 2
 exact QaF (by rw [Lib.extract_data])
def ste0:Ste:=⟨⟨#[]⟩,0,[]⟩
def siteW:List UInt8:=[115,105,116,101]
def turbW:List UInt8:=[116,117,114,98,105,110,101]
def hdrL:List (List UInt8) → Option (ByteArray × Int)
 | [a,b,c] => if a = siteW ∧ b ≠ [] ∧ (numR c).2 = true then some (bs b,(numR c).1) else none
 | _ => none
def tbL2:List (List UInt8) → Option Tb
 | [a,b,c,d] => if a = turbW ∧ b ≠ [] ∧ (numR c).2 = true ∧ (numR d).2 = true then some ⟨bs b,(numR c).1,(numR d).1⟩ else none
 | _ => none
def lineS (k:Nat) (s:Ste) (l:List UInt8):Option Ste :=
 if k = 0 then (hdrL (spl 32 l)).map fun p => { s with name:=p.1,least:=p.2 } else (tbL2 (spl 32 l)).map fun t => { s with tbs:=s.tbs ++ [t] }
def parL:Nat → Ste → List (List UInt8) → Option Ste × Nat
 | k,s,[] => (some s,k)
 | k,s,l :: r => if r = [] then (if l = [] then some s else none,k) else match lineS k s l with
  | some s' => parL (k + 1) s' r
  | none => (none,k)
def endE:Option Ste × Nat → Int
 | (none,_) => 26
 | (some s,_) => QbY s
def endN:Option Ste × Nat → Nat
 | (none,k) => k
 | (some s,k) => if QbY s = 0 then 0 else k
def endS:Option Ste × Nat → Ste
 | (none,_) => ste0
 | (some s,_) => if QbY s = 0 then s else ste0
def parE (t:List UInt8):Int:=if 1000000 < t.length then 27 else if t = [] then 26 else endE (parL 0 ste0 (spl 10 t))
def parN (t:List UInt8):Nat:=if 1000000 < t.length then 0 else if t = [] then 0 else endN (parL 0 ste0 (spl 10 t))
def parS (t:List UInt8):Ste:=if 1000000 < t.length then ste0 else if t = [] then ste0 else endS (parL 0 ste0 (spl 10 t))
def wordS:List (List UInt8) × Bool → List UInt8 × (List (List UInt8) × Bool)
 | ([],_) => ([],([],true))
 | (x :: r,w) => if x = [] then ([],(x :: r,true)) else (x,(r,w))
def intS (t:List (List UInt8) × Bool):Int × (List (List UInt8) × Bool) :=
 (atoiI (wordS t).1,((wordS t).2.1,if okW (wordS t).1 = true then (wordS t).2.2 else true))
def takeS (k:Nat) (s:Ste) (l:List UInt8):Bool × Ste :=
 let a:=wordS (spl 32 l,false)
 let b:=wordS a.2
 let c:=intS b.2
 if k = 0 then (decide (a.1 = siteW) && !c.2.2 && decide (c.2.1 = []),{ s with name:=bs b.1,least:=c.1 })
 else
  let d:=intS c.2
  (decide (a.1 = turbW) && !d.2.2 && decide (d.2.1 = []),{ s with tbs:=s.tbs ++ [⟨bs b.1,c.1,d.1⟩] })
end Go.Nac
namespace Go.Nac
def uns (c:UInt8):List (List UInt8) → List UInt8
 | [] => []
 | [l] => l
 | l :: r => l ++ c :: uns c r
def hdrT (s:Ste):List UInt8:=uns 32 [siteW,s.name.data.toList,Lib.itoa s.least]
def tbT (t:Tb):List UInt8:=uns 32 [turbW,t.name.data.toList,Lib.itoa t.x,Lib.itoa t.y]
def QnZ (s:Ste):List (List UInt8):=hdrT s :: s.tbs.map tbT
def steL (s:Ste):List UInt8:=uns 10 (QnZ s ++ [[]])
def wordy (w:List UInt8):Prop:=(32:UInt8) ∉ w ∧ (10:UInt8) ∉ w
end Go.Nac
namespace Go.Nac
def rvT (r:Rev):List UInt8:=uns 32 [Lib.itoa r.at_,Lib.itoa r.ld]
def rvsL (l:List Rev):List UInt8:=(l.map fun r => rvT r ++ [10]).flatten
def Q0 (l:List Rev):ByteArray:=⟨(rvsL l).toArray⟩
theorem QdB (r:Rev):rvT r = Lib.itoa r.at_ ++ 32 :: Lib.itoa r.ld:=rfl
theorem Qij (l:List Rev) (r:Rev):rvsL (l ++ [r]) = rvsL l ++ (rvT r ++ [10]):=by
 unfold rvsL;rw [List.map_append,List.flatten_append];simp
def V3:List (List UInt8) → Option Rev
 | [a,b] => if (numR a).2 = true ∧ (numR b).2 = true then some ⟨(numR a).1,(numR b).1⟩ else none
 | _ => none
def parRv:List Rev → List (List UInt8) → Option (List Rev) × Nat
 | o,[] => (some o,o.length)
 | o,l :: r => if r = [] then (if l = [] then some o else none,o.length) else match V3 (spl 32 l) with
  | some v => parRv (o ++ [v]) r
  | none => (none,o.length)
theorem JM (o:List Rev) (l:List UInt8):parRv o [l] = (if l = [] then some o else none,o.length):=by rw [parRv,if_pos rfl]
theorem JF {o:List Rev} {v:Rev} {w:List UInt8} {r:List (List UInt8)} (h:V3 (spl 32 w) = some v) (hr:r ≠ []):parRv o (w :: r) = parRv (o ++ [v]) r:=by rw [parRv,if_neg hr,h]
theorem JO {o:List Rev} {w:List UInt8} {r:List (List UInt8)} (h:V3 (spl 32 w) = none) (hr:r ≠ []):parRv o (w :: r) = (none,o.length):=by rw [parRv,if_neg hr,h]
def rvE:Option (List Rev) × Nat → Int
 | (none,_) => 26
 | (some o,_) => Qh o
def rvN:Option (List Rev) × Nat → Nat
 | (none,k) => k
 | (some o,k) => if Qh o = 0 then 0 else k
def rvS:Option (List Rev) × Nat → List Rev
 | (none,_) => []
 | (some o,_) => if Qh o = 0 then o else []
theorem QdD:∀ (L:List (List UInt8)) (o:List Rev),(parRv o L).2 ≤ o.length + L.length ∧ ∀ o' n,parRv o L = (some o',n) → o'.length ≤ o.length + L.length
 | [],o => ⟨by simp [parRv],fun o' n h => by simp only [parRv,Prod.mk.injEq,Option.some.injEq] at h;rw [← h.1];simp⟩
 | w :: r,o => by
  by_cases hr:r = []
  ·subst hr
   rw [JM]
   refine ⟨by simp,fun o' n h => ?_⟩
   split at h
   ·simp only [Prod.mk.injEq,Option.some.injEq] at h;rw [← h.1];simp
   ·simp at h
  ·cases hl:V3 (spl 32 w) with
   | none => rw [JO hl hr];exact ⟨by simp,fun o' n h => by simp at h⟩
   | some v =>
    rw [JF hl hr]
    obtain ⟨h1,h2⟩:=QdD r (o ++ [v])
    simp only [List.length_append,List.length_cons,List.length_nil] at h1 h2 ⊢
    exact ⟨by omega,fun o' n h => by have:=h2 o' n h;omega⟩
theorem QjN:∀ (L:List (List UInt8)) (o:List Rev),(rvS (parRv o L)).length ≤ o.length + L.length:=by
 intro L o
 have h:=QdD L o
 cases hp:parRv o L with
 | mk a n =>
  cases a with
  | none => show ([]:List Rev).length ≤ _;simp
  | some o' =>
   have:=h.2 o' n hp
   show (if Qh o' = 0 then o' else []).length ≤ _
   split
   ·exact this
   ·simp
def litR (r:Rev):Prop:=r.at_.natAbs < 1000000000 ∧ r.ld.natAbs < 1000000000
theorem QjI {l:List Rev} (h:∀ r ∈ l,(Lib.itoa r.at_).length ≤ 21 ∧ (Lib.itoa r.ld).length ≤ 21):(rvsL l).length ≤ 50 * l.length:=by
 induction l with
 | nil => simp [rvsL]
 | cons r l ih =>
  have h1:=h r (by simp)
  have h2:=ih fun x hx => h x (by simp [hx])
  have e:rvsL (r :: l) = (rvT r ++ [10]) ++ rvsL l:=rfl
  rw [e,List.length_append,List.length_append,QdB,List.length_append,List.length_cons,List.length_cons]
  simp only [List.length_cons,List.length_nil]
  omega
def betw:Option Int → List Rev → List Int
 | _,[] => []
 | none,r :: l => r.ld :: betw (some r.ld) l
 | some a,r :: l => (a + (r.ld - a).tdiv 2) :: r.ld :: betw (some r.ld) l
def Qpf (out:List Int) (p:Int):List Int :=
 match out with
 | [] => [p]
 | a :: r => if a = p then out else
  match r with
  | [] => p :: out
  | b :: _ => if trn b a p = true then p :: out else p :: r
end Go.Nac
namespace Go.Nac
end Go.Nac
set_option linter.unusedSimpArgs false
set_option linter.unnecessarySimpa false
set_option maxRecDepth 10000
namespace Go.Nac.L7
attribute [local congr] Qa6 YU Qbb Jg Jh YZ Qba Qbn
section
variable {X:XRel}
theorem VG (n:Int) (h0:-9223372036854775808 ≤ n) (h1:n ≤ 9223372036854775807):(itoaB n).size ≤ 21:=by
 have:=Lib.itoa_length_le n h0 h1
 show (Lib.itoa n).toArray.size ≤ 21
 simpa using this
def encW (w:List UInt8):PV:=.s (.string ⟨w.toArray⟩)
theorem Qa8 {n:Nat} (l:List (List UInt8)):lowL n (l.map encW) = True:=eq_true (VJ _ _ fun r => by simp [encW,PV.low])
theorem V5 (w:List UInt8):(encW w).cells = [.s (.string ⟨w.toArray⟩)]:=rfl
theorem Z1 (w:List UInt8):encW w = .s (.string ⟨w.toArray⟩):=rfl
theorem QgK (l:List (List UInt8)):sized 1 (l.map encW) = true:=by unfold sized;rw [List.all_eq_true];intro x hx;obtain ⟨y,_,rfl⟩:=List.mem_map.1 hx;rfl
theorem JY (c:UInt8) (l:List UInt8) (hl:l.length ≤ 1000000):Q X 15 [.s (.string ⟨l.toArray⟩),.s (.int .u8 c.toNat)] (.fs ((spl c l).map encW)):=by
 intro M
 have hz:=QU l
 (refine Qd (cf:=L7.c15) rfl rfl fun hM hA => ?_;simp only [L7.c15,zO,zF,zT,zM,CX.i];rw [mk2 _ (by decide)];simp -implicitDefEqProofs (disch:=first|omega|(simp only [go_sem,seval,hz];first|done|omega)) only [go_sem,seval,hz])
 refine Qm (α:=Nat × Nat × List (List UInt8)) (0,0,[]) (fun a => (a.1 ≤ l.length ∧ a.2.1 ≤ a.1 ∧ c ∉ (l.drop a.2.1).take (a.1 - a.2.1) ∧ spl c l = a.2.2 ++ spl c (l.drop a.2.1) ∧ a.2.2.length ≤ a.2.1) ∨ (a.1 = l.length + 1 ∧ spl c l = a.2.2))
  (fun a => M ++ [.row true 1 a.2.2.length (a.2.2.map encW)])
  (fun a => [(0,.s (.string ⟨l.toArray⟩)),(1,.s (.int .u8 c.toNat)),(5,.os M.length a.2.2.length 0 a.2.2.length),(6,.I a.2.1),(7,.I a.1)]) (fun a => l.length + 1 - a.1) (.inl ⟨Nat.zero_le _,Nat.le_refl _,by simp,by simp,Nat.le_refl _⟩) rfl rfl ?_
 rintro ⟨i,f,P⟩ hinv
 simp only at hinv
 rcases hinv with ⟨h1,h2,h3,h4,h5⟩|⟨h1,h2⟩
 case inr =>
  have f1:((i:Int) ≤ l.length) = False:=eq_false (by omega)
  have tk:(P.map encW).take P.length = P.map encW:=List.take_of_length_le (by simp)
  simp -implicitDefEqProofs (disch:=first|omega|(simp only [go_sem,seval,f1,hz];first|done|omega)) only [go_sem,seval,f1,hz]
  (first|refine pfN hM ?_ ?_|refine pf0 hM ?_ ?_)
  ·simp -implicitDefEqProofs (disch:=first|omega|(simp only [go_sem,seval,tk];first|done|omega)) only [go_sem,seval,tk]
   rw [h2]
  ·(simp only [go_sem,seval,Qa8]<;>omega)
 have f1:((i:Int) ≤ l.length) = True:=eq_true (by omega)
 have hss:=@QcE l (some (.I f)) (some (.I i))
 have b1:(f ≤ i ∧ i ≤ l.length) = True:=eq_true ⟨h2,h1⟩
 have again:∀ (N:List Blk) (T:List (Nat × PV)) (f':Nat) (P':List (List UInt8)),((i + 1 ≤ l.length ∧ f' ≤ i + 1 ∧ c ∉ (l.drop f').take (i + 1 - f') ∧ spl c l = P' ++ spl c (l.drop f') ∧ P'.length ≤ f') ∨ (i + 1 = l.length + 1 ∧ spl c l = P')) →
   M ++ [.row true 1 P'.length (P'.map encW)] = N → [(0,.s (.string ⟨l.toArray⟩)),(1,.s (.int .u8 c.toNat)),(5,.os M.length P'.length 0 P'.length),(6,.I f'),(7,.I (i + 1))] = T → Again 35 (fun a:Nat × Nat × List (List UInt8) => (a.1 ≤ l.length ∧ a.2.1 ≤ a.1 ∧ c ∉ (l.drop a.2.1).take (a.1 - a.2.1) ∧ spl c l = a.2.2 ++ spl c (l.drop a.2.1) ∧ a.2.2.length ≤ a.2.1) ∨ (a.1 = l.length + 1 ∧ spl c l = a.2.2))
   (fun a => M ++ [.row true 1 a.2.2.length (a.2.2.map encW)]) (fun a => [(0,.s (.string ⟨l.toArray⟩)),(1,.s (.int .u8 c.toNat)),(5,.os M.length a.2.2.length 0 a.2.2.length),(6,.I a.2.1),(7,.I a.1)]) (fun a => l.length + 1 - a.1) (i,f,P) N (mk 35 T):=by
  rintro N T f' P' hi rfl rfl
  exact again' (i + 1,f',P') hi (by simp only;omega) rfl rfl
 by_cases he:i = l.length
 ·have f2:((i:Int) = l.length) = True:=eq_true (by omega)
  have hd:(l.drop f).take (i - f) = l.drop f:=List.take_of_length_le (by rw [List.length_drop];omega)
  rw [hd] at h3
  rw [JK h3] at h4
  simp -implicitDefEqProofs (disch:=first|omega|(simp only [go_sem,seval,f1,f2,hz,hss,b1,hd];first|done|omega)) only [go_sem,seval,f1,f2,hz,hss,b1,hd]
  refine again _ _ (i + 1) (P ++ [l.drop f]) (.inr ⟨by omega,h4⟩) ?_ ?_ <;> simp [encW]
 ·have f2:((i:Int) = l.length) = False:=eq_false (by omega)
  obtain ⟨x,hx⟩:∃ x,l[i]? = some x:=⟨_,List.getElem?_eq_getElem (by omega)⟩
  have hix:=Qbl hx
  have hdi:l.drop f = (l.drop f).take (i - f) ++ x :: l.drop (i + 1):=by
   have e1:(l.drop f).drop (i - f) = x :: l.drop (i + 1):=by
    rw [List.drop_drop,show f + (i - f) = i by omega]
    obtain ⟨g1,g2⟩:=List.getElem?_eq_some_iff.1 hx
    rw [List.drop_eq_getElem_cons g1,g2]
   rw [← e1,List.take_append_drop]
  by_cases hc:x = c
  ·have f3:((x.toNat:Int) = c.toNat) = True:=eq_true (by rw [hc])
   subst hc
   rw [hdi,Jk h3] at h4
   simp -implicitDefEqProofs (disch:=first|omega|(simp only [go_sem,seval,f1,f2,f3,hz,hss,b1,hix];first|done|omega)) only [go_sem,seval,f1,f2,f3,hz,hss,b1,hix]
   refine again _ _ (i + 1) (P ++ [(l.drop f).take (i - f)]) (.inl ⟨by omega,Nat.le_refl _,by simp,by rw [h4];simp,by simp;omega⟩) ?_ ?_ <;> simp [encW]
  ·have f3:((x.toNat:Int) = c.toNat) = False:=eq_false (fun h => hc (UInt8.toNat_inj.1 (by omega)))
   simp -implicitDefEqProofs (disch:=first|omega|(simp only [go_sem,seval,f1,f2,f3,hz,hix];first|done|omega)) only [go_sem,seval,f1,f2,f3,hz,hix]
   refine again _ _ f P (.inl ⟨by omega,by omega,?_,h4,h5⟩) rfl rfl
   have e2:i + 1 - f = (i - f) + 1:=by omega
   have hlt:i - f < (l.drop f).length:=by rw [List.length_drop];omega
   rw [e2,List.take_succ_eq_append_getElem hlt]
   simp only [List.mem_append,List.mem_singleton,not_or]
   refine ⟨h3,fun h => hc ?_⟩
   rw [h,List.getElem_drop]
   have e3:f + (i - f) = i:=by omega
   obtain ⟨g1,g2⟩:=List.getElem?_eq_some_iff.1 hx
   simp only [e3]
   exact g2.symm
theorem QfB:∀ w:List UInt8,-1000000000 < (numR w).1 ∧ (numR w).1 < 1000000000
 | [] => by simp [numR]
 | c :: r => by
  unfold numR
  split
  ·have:=QfB r
   simp only
   omega
  ·cases hn:numP (c :: r) with
   | none => simp
   | some n =>
    have:=(YR.1 hn).2
    simp only
    omega
theorem Qk2 {b:UInt8} (h1:¬ b.toNat < 48) (h2:¬ 57 < b.toNat):Lib.digitVal b = some (b.toNat - 48):=by unfold Lib.digitVal;rw [if_pos (by omega)]
theorem Qdq {b:UInt8} (h:b.toNat < 48 ∨ 57 < b.toNat):Lib.digitVal b = none:=by unfold Lib.digitVal;rw [if_neg (by omega)]
theorem VC:∀ (l:List UInt8),l.length ≤ 1000000 → Q X 43 [.s (.string ⟨l.toArray⟩)] (.tup [.I (numR l).1,.B (numR l).2])
 | [],_ => by
  have e:numR [] = (0,false):=rfl
  have hz:(⟨([]:List UInt8).toArray⟩:ByteArray).size = 0:=rfl
  rw [e]
  intro M
  (refine Qd (cf:=L7.c43) rfl rfl fun hM hA => ?_;simp only [L7.c43,zO,zF,zT,zM,CX.i];rw [mk1 _ (by decide)];simp -implicitDefEqProofs (disch:=first|omega|(simp only [go_sem,seval,hz];first|done|omega)) only [go_sem,seval,hz])
  (all_goals (first|refine pfN hM ?_ ?_|refine pf0 hM ?_ ?_);all_goals first|(simp only [go_sem,seval]<;>omega)|skip;all_goals (try simp -implicitDefEqProofs (disch:=first|omega|(simp only [go_sem,seval];first|done|omega)) only [go_sem,seval]))
 | c :: r,hl => by
  have hz:=QU (c :: r)
  have hix:=Qbl (l:=c :: r) (k:=0) (u:=c) rfl
  simp only [List.length_cons] at hz hl
  have hc0:(0:Int) < ((r.length + 1:Nat):Int):=by omega
  have hcf:=eq_true hc0
  have hc1:(((r.length + 1:Nat):Int) = 0) = False:=eq_false (by omega)
  by_cases hc:c = 45
  ·subst hc
   have e:numR (45 :: r) = (-(numR r).1,(numR r).2 && decide (0 < (numR r).1)):=by rw [numR,if_pos rfl]
   rw [e]
   obtain ⟨g1,g2⟩:=QfB r
   have hN:=VC r (by omega)
   have hss:=@QcE (45 :: r) (some (.I 1)) none
   simp only [List.length_cons] at hss
   have htk:r.take r.length = r:=List.take_length
   have e45:((45:UInt8).toNat:Int) = 45:=rfl
   intro M
   (refine Qd (cf:=L7.c43) rfl rfl fun hM hA => ?_;simp only [L7.c43,zO,zF,zT,zM,CX.i];rw [mk1 _ (by decide)];simp -implicitDefEqProofs (disch:=first|omega|(simp only [go_sem,seval,hz,hix,hcf,hss,htk,e45];first|done|omega)) only [go_sem,seval,hz,hix,hcf,hss,htk,e45])
   refine Qb (hN _) ?_
   generalize (numR r).1 = v at g1 g2
   generalize (numR r).2 = is
   simp -implicitDefEqProofs (disch:=first|omega|(simp only [go_sem,seval];first|done|omega)) only [go_sem,seval]
   cases is
   ·simp -implicitDefEqProofs (disch:=first|omega|(simp only [go_sem,seval];first|done|omega)) only [go_sem,seval]
    (all_goals (first|refine pfN hM ?_ ?_|refine pf0 hM ?_ ?_);all_goals first|(simp only [go_sem,seval]<;>omega)|skip;all_goals (try simp -implicitDefEqProofs (disch:=first|omega|(simp only [go_sem,seval];first|done|omega)) only [go_sem,seval]))
   ·simp -implicitDefEqProofs (disch:=first|omega|(simp only [go_sem,seval];first|done|omega)) only [go_sem,seval]
    (all_goals (first|refine pfN hM ?_ ?_|refine pf0 hM ?_ ?_);all_goals first|(simp only [go_sem,seval]<;>omega)|skip;all_goals (try simp -implicitDefEqProofs (disch:=first|omega|(simp only [go_sem,seval];first|done|omega)) only [go_sem,seval]))
  ·have f45:((c.toNat:Int) = 45) = False:=eq_false (fun h => hc (UInt8.toNat_inj.1 (by have:(45:UInt8).toNat = 45:=rfl;omega)))
   have hp:∀ t,c :: r ≠ 45 :: t:=fun t h => hc (by injection h)
   rw [YA hp]
   by_cases c9:9 < (c :: r).length
   ·have e:numP (c :: r) = none:=by unfold numP;rw [if_pos (.inr (.inl c9))]
    have f9:((9:Int) < ((r.length + 1:Nat):Int)) = True:=eq_true (by simp at c9;omega)
    rw [e]
    intro M
    (refine Qd (cf:=L7.c43) rfl rfl fun hM hA => ?_;simp only [L7.c43,zO,zF,zT,zM,CX.i];rw [mk1 _ (by decide)];simp -implicitDefEqProofs (disch:=first|omega|(simp only [go_sem,seval,hz,hix,hcf,hc1,f45,f9];first|done|omega)) only [go_sem,seval,hz,hix,hcf,hc1,f45,f9])
    (all_goals (first|refine pfN hM ?_ ?_|refine pf0 hM ?_ ?_);all_goals first|(simp only [go_sem,seval]<;>omega)|skip;all_goals (try simp -implicitDefEqProofs (disch:=first|omega|(simp only [go_sem,seval];first|done|omega)) only [go_sem,seval]))
   have f9:((9:Int) < ((r.length + 1:Nat):Int)) = False:=eq_false (by simp at c9;omega)
   by_cases c0:1 < (c :: r).length ∧ c = 48
   ·have e:numP (c :: r) = none:=by unfold numP;rw [if_pos (.inr (.inr ⟨c0.1,by rw [c0.2];rfl⟩))]
    have f1:((1:Int) < ((r.length + 1:Nat):Int)) = True:=eq_true (by have:=c0.1;simp at this;omega)
    have f48:((c.toNat:Int) = 48) = True:=eq_true (by rw [c0.2];rfl)
    rw [e]
    intro M
    (refine Qd (cf:=L7.c43) rfl rfl fun hM hA => ?_;simp only [L7.c43,zO,zF,zT,zM,CX.i];rw [mk1 _ (by decide)];simp -implicitDefEqProofs (disch:=first|omega|(simp only [go_sem,seval,hz,hix,hcf,hc1,f45,f9,f1,f48];first|done|omega)) only [go_sem,seval,hz,hix,hcf,hc1,f45,f9,f1,f48])
    (all_goals (first|refine pfN hM ?_ ?_|refine pf0 hM ?_ ?_);all_goals first|(simp only [go_sem,seval]<;>omega)|skip;all_goals (try simp -implicitDefEqProofs (disch:=first|omega|(simp only [go_sem,seval];first|done|omega)) only [go_sem,seval]))
   have e:numP (c :: r) = Lib.decFrom 0 (c :: r):=by
    unfold numP
    rw [if_neg]
    rintro (h|h|⟨h1,h2⟩)
    ·cases h
    ·exact c9 h
    ·exact c0 ⟨h1,by simpa using h2⟩
   rw [e]
   clear e
   have hl9:(c :: r).length ≤ 9:=by omega
   intro M
   have hstart:((1:Int) < ((r.length + 1:Nat):Int)) = False ∨ ((1:Int) < ((r.length + 1:Nat):Int)) = True ∧ ((c.toNat:Int) = 48) = False:=by
    by_cases h1:1 < (c :: r).length
    ·right
     refine ⟨eq_true (by simp at h1;omega),eq_false fun h => c0 ⟨h1,UInt8.toNat_inj.1 ?_⟩⟩
     have:(48:UInt8).toNat = 48:=rfl
     omega
    ·left;exact eq_false (by simp at h1;simp [h1])
   have hlen:(c :: r).length = r.length + 1:=rfl
   rcases hstart with f1|⟨f1,f48⟩
   (refine Qd (cf:=L7.c43) rfl rfl fun hM hA => ?_;simp only [L7.c43,zO,zF,zT,zM,CX.i];rw [mk1 _ (by decide)];simp -implicitDefEqProofs (disch:=first|omega|(simp only [go_sem,seval,hz,hix,hcf,hc1,f45,f9,f1];first|done|omega)) only [go_sem,seval,hz,hix,hcf,hc1,f45,f9,f1])
   rotate_left
   (refine Qd (cf:=L7.c43) rfl rfl fun hM hA => ?_;simp only [L7.c43,zO,zF,zT,zM,CX.i];rw [mk1 _ (by decide)];simp -implicitDefEqProofs (disch:=first|omega|(simp only [go_sem,seval,hz,hix,hcf,hc1,f45,f9,f1,f48];first|done|omega)) only [go_sem,seval,hz,hix,hcf,hc1,f45,f9,f1,f48])
   all_goals
    clear hix hp f1 c0
    generalize c :: r = w at hz hlen hl9 ⊢
    rw [← hlen] at hz
    clear hl hc0 hcf hc1 f9 hlen
    refine Qm (α:=Nat × Nat) (0,0) (fun a => a.1 ≤ w.length ∧ Lib.decFrom 0 (w.take a.1) = some a.2 ∧ a.2 < 1000000000) (fun a => M) (fun a => [(0,.s (.string ⟨w.toArray⟩)),(6,.I a.2),(7,.I a.1)]) (fun a => w.length - a.1) ⟨Nat.zero_le _,rfl,by decide⟩ rfl rfl ?_
    rintro ⟨k,n⟩ ⟨hk,hd,hn⟩
    simp only at hk hd hn
    by_cases hlt:k < w.length
    ·have fk:((k:Int) < w.length) = True:=eq_true (by omega)
     obtain ⟨b,hb⟩:∃ b,w[k]? = some b:=⟨_,List.getElem?_eq_getElem hlt⟩
     have hib:=Qbl hb
     have bl:=b.toNat_lt
     by_cases g1:b.toNat < 48
     ·have fb:((b.toNat:Int) < 48) = True:=eq_true (by omega)
      have hN:Lib.decFrom 0 w = none:=by
       cases hx:Lib.decFrom 0 w with
       | none => rfl
       | some m => obtain ⟨d,hd2⟩:=Lib.digit_of_decFrom w 0 m hx k b hb;rw [Qdq (.inl g1)] at hd2;cases hd2
      rw [hN]
      simp -implicitDefEqProofs (disch:=first|omega|(simp only [go_sem,seval,hz,fk,hib,fb];first|done|omega)) only [go_sem,seval,hz,fk,hib,fb]
      (all_goals (first|refine pfN hM ?_ ?_|refine pf0 hM ?_ ?_);all_goals first|(simp only [go_sem,seval]<;>omega)|skip;all_goals (try simp -implicitDefEqProofs (disch:=first|omega|(simp only [go_sem,seval];first|done|omega)) only [go_sem,seval]))
     by_cases g2:57 < b.toNat
     ·have fb:((b.toNat:Int) < 48) = False:=eq_false (by omega)
      have fc:((57:Int) < b.toNat) = True:=eq_true (by omega)
      have hN:Lib.decFrom 0 w = none:=by
       cases hx:Lib.decFrom 0 w with
       | none => rfl
       | some m => obtain ⟨d,hd2⟩:=Lib.digit_of_decFrom w 0 m hx k b hb;rw [Qdq (.inr g2)] at hd2;cases hd2
      rw [hN]
      simp -implicitDefEqProofs (disch:=first|omega|(simp only [go_sem,seval,hz,fk,hib,fb,fc];first|done|omega)) only [go_sem,seval,hz,fk,hib,fb,fc]
      (all_goals (first|refine pfN hM ?_ ?_|refine pf0 hM ?_ ?_);all_goals first|(simp only [go_sem,seval]<;>omega)|skip;all_goals (try simp -implicitDefEqProofs (disch:=first|omega|(simp only [go_sem,seval];first|done|omega)) only [go_sem,seval]))
     have fb:((b.toNat:Int) < 48) = False:=eq_false (by omega)
     have fc:((57:Int) < b.toNat) = False:=eq_false (by omega)
     have hst:=Lib.decFrom_take w k 0 n b _ hd hb (Qk2 g1 g2)
     have hlt9:=Lib.decFrom_lt _ _ _ hst
     have htl:(w.take (k + 1)).length ≤ 9:=by rw [List.length_take];omega
     have hp9:10 ^ (w.take (k + 1)).length ≤ 10 ^ 9:=Nat.pow_le_pow_right (by decide) htl
     have hbound:n * 10 + (b.toNat - 48) < 1000000000:=by
      have:(10:Nat) ^ 9 = 1000000000:=rfl
      omega
     have w8:IntKind.u8.wrap ((b.toNat:Int) - 48) = ((b.toNat - 48:Nat):Int):=by
      have e:∀ z:Int,IntKind.u8.wrap z = z % 256:=fun _ => rfl
      rw [e];omega
     have hb9:b.toNat - 48 ≤ 9:=by omega
     have en:(10 * (n:Int) + ((b.toNat - 48:Nat):Int)) = ((n * 10 + (b.toNat - 48):Nat):Int):=by omega
     simp -implicitDefEqProofs (disch:=first|omega|(simp only [go_sem,seval,hz,fk,hib,fb,fc,w8,en];first|done|omega)) only [go_sem,seval,hz,fk,hib,fb,fc,w8,en]
     exact again' (k + 1,n * 10 + (b.toNat - 48)) ⟨by omega,hst,hbound⟩ (by simp only;omega) rfl rfl
    ·have hkk:k = w.length:=by omega
     have fk:((k:Int) < w.length) = False:=eq_false (by omega)
     rw [hkk,List.take_length] at hd
     rw [hd]
     simp -implicitDefEqProofs (disch:=first|omega|(simp only [go_sem,seval,hz,fk];first|done|omega)) only [go_sem,seval,hz,fk]
     (all_goals (first|refine pfN hM ?_ ?_|refine pf0 hM ?_ ?_);all_goals first|(simp only [go_sem,seval]<;>omega)|skip;all_goals (try simp -implicitDefEqProofs (disch:=first|omega|(simp only [go_sem,seval];first|done|omega)) only [go_sem,seval]))
theorem Qab {n:Int} (h:0 ≤ n ∧ n ≤ 9):itoaB n = ⟨#[UInt8.ofNat (48 + n.toNat)]⟩:=by
 unfold itoaB Lib.itoa
 rw [if_neg (by omega),Lib.decDigits_one (by omega)]
theorem QcP {n:Int} (h:9 < n):itoaB n = itoaB (n / 10) ++ itoaB (n % 10):=by
 have h1:¬ n.toNat < 10:=by omega
 have e:Lib.decDigits n.toNat = Lib.decDigits (n.toNat / 10) ++ [UInt8.ofNat (48 + n.toNat % 10)]:=by
  conv => lhs;rw [Lib.decDigits,dif_neg h1]
 rw [Qab (n:=n % 10) (by omega)]
 unfold itoaB Lib.itoa
 rw [if_neg (by omega),if_neg (by omega),e,Jv]
 have e1:(n / 10).toNat = n.toNat / 10:=by omega
 have e2:(n % 10).toNat = n.toNat % 10:=by omega
 rw [e1,e2]
theorem Qaq {n:Int} (h:n < 0):itoaB n = (⟨#[45]⟩:ByteArray) ++ itoaB (-n):=by
 unfold itoaB Lib.itoa
 rw [if_pos h,if_neg (by omega)]
 have e1:(-n).toNat = n.natAbs:=by omega
 rw [e1]
 exact (Jv [45] _).symm
theorem Qg1 {n:Int} (h:n < -9):itoaB n = itoaB (-((-n) / 10)) ++ itoaB ((-n) % 10):=by
 rw [Qaq (by omega),QcP (n:=-n) (by omega),Qaq (n:=-((-n) / 10)) (by omega),Int.neg_neg,ByteArray.append_assoc]
theorem Qam (n:Int) (h:-1000000000 ≤ n ∧ n ≤ 1000000000):Q X 42 [.I n] (.s (.string (itoaB n))):=by
 induction hk:n.natAbs using Nat.strongRecOn generalizing n with
 | ind k ih =>
  intro M
  by_cases h1:9 < n
  ·have f1:((9:Int) < n) = True:=eq_true h1
   have t1:n.tdiv 10 = n / 10:=Int.tdiv_eq_ediv_of_nonneg (by omega)
   have t2:n.tmod 10 = n % 10:=Int.tmod_eq_emod_of_nonneg (by omega)
   have s1:=VG (n / 10) (by omega) (by omega)
   have s2:=VG (n % 10) (by omega) (by omega)
   rw [QcP h1]
   (refine Qd (cf:=L7.c42) rfl rfl fun hM hA => ?_;simp only [L7.c42,zO,zF,zT,zM,CX.i];rw [mk1 _ (by decide)];simp -implicitDefEqProofs (disch:=first|omega|(simp only [go_sem,seval,f1,t1];first|done|omega)) only [go_sem,seval,f1,t1])
   refine Qb (ih _ (by omega) (n / 10) (by omega) rfl _) ?_
   simp -implicitDefEqProofs (disch:=first|omega|(simp only [go_sem,seval,t2];first|done|omega)) only [go_sem,seval,t2]
   refine Qb (ih _ (by omega) (n % 10) (by omega) rfl _) ?_
   simp -implicitDefEqProofs (disch:=first|omega|(simp only [go_sem,seval,QH];first|done|omega)) only [go_sem,seval,QH]
   (all_goals (first|refine pfN hM ?_ ?_|refine pf0 hM ?_ ?_);all_goals first|(simp only [go_sem,seval]<;>omega)|skip;all_goals (try simp -implicitDefEqProofs (disch:=first|omega|(simp only [go_sem,seval];first|done|omega)) only [go_sem,seval]))
  have f1:((9:Int) < n) = False:=eq_false h1
  by_cases h2:n < -9
  ·have f2:(n < (-9:Int)) = True:=eq_true h2
   have t1:n.tdiv 10 = -((-n) / 10):=by
    have e:n = -(-n):=by omega
    conv => lhs;rw [e,Int.neg_tdiv,Int.tdiv_eq_ediv_of_nonneg (by omega)]
   have t2:n.tmod 10 = -((-n) % 10):=by
    have e:n = -(-n):=by omega
    conv => lhs;rw [e,Int.neg_tmod,Int.tmod_eq_emod_of_nonneg (by omega)]
   have s1:=VG (-((-n) / 10)) (by omega) (by omega)
   have s2:=VG ((-n) % 10) (by omega) (by omega)
   have e0:- -((-n) % 10) = (-n) % 10:=by omega
   rw [Qg1 h2]
   (refine Qd (cf:=L7.c42) rfl rfl fun hM hA => ?_;simp only [L7.c42,zO,zF,zT,zM,CX.i];rw [mk1 _ (by decide)];simp -implicitDefEqProofs (disch:=first|omega|(simp only [go_sem,seval,f1,f2,t1];first|done|omega)) only [go_sem,seval,f1,f2,t1])
   refine Qb (ih _ (by omega) (-((-n) / 10)) (by omega) rfl _) ?_
   simp -implicitDefEqProofs (disch:=first|omega|(simp only [go_sem,seval,t2,e0];first|done|omega)) only [go_sem,seval,t2,e0]
   refine Qb (ih _ (by omega) ((-n) % 10) (by omega) rfl _) ?_
   simp -implicitDefEqProofs (disch:=first|omega|(simp only [go_sem,seval,QH];first|done|omega)) only [go_sem,seval,QH]
   (all_goals (first|refine pfN hM ?_ ?_|refine pf0 hM ?_ ?_);all_goals first|(simp only [go_sem,seval]<;>omega)|skip;all_goals (try simp -implicitDefEqProofs (disch:=first|omega|(simp only [go_sem,seval];first|done|omega)) only [go_sem,seval]))
  have f2:(n < (-9:Int)) = False:=eq_false h2
  by_cases h3:n < 0
  ·have f3:(n < (0:Int)) = True:=eq_true h3
   have s1:=VG (-n) (by omega) (by omega)
   have sz1:(⟨#[45]⟩:ByteArray).size = 1:=rfl
   rw [Qaq h3]
   have hq:Q X 42 [.I (-n)] (.s (.string (itoaB (-n)))):=by
    intro M
    have g1:((9:Int) < -n) = False:=eq_false (by omega)
    have g2:(-n < (-9:Int)) = False:=eq_false (by omega)
    have g3:(-n < (0:Int)) = False:=eq_false (by omega)
    have w8:IntKind.u8.wrap (48 + -n) = 48 + -n:=by
     have e:∀ z:Int,IntKind.u8.wrap z = z % 256:=fun _ => rfl
     rw [e];omega
    have hs:strOf [.s (.int .u8 (48 + -n))] = some (itoaB (-n)):=by
     rw [Qab (by omega)]
     have:(48 + -n).toNat = 48 + (-n).toNat:=by omega
     show some _ = _
     rw [this]
    (refine Qd (cf:=L7.c42) rfl rfl fun hM hA => ?_;simp only [L7.c42,zO,zF,zT,zM,CX.i];rw [mk1 _ (by decide)];simp -implicitDefEqProofs (disch:=first|omega|(simp only [go_sem,seval,g1,g2,g3,w8,hs];first|done|omega)) only [go_sem,seval,g1,g2,g3,w8,hs])
    (all_goals (first|refine pfN hM ?_ ?_|refine pf0 hM ?_ ?_);all_goals first|(simp only [go_sem,seval]<;>omega)|skip;all_goals (try simp -implicitDefEqProofs (disch:=first|omega|(simp only [go_sem,seval];first|done|omega)) only [go_sem,seval]))
   (refine Qd (cf:=L7.c42) rfl rfl fun hM hA => ?_;simp only [L7.c42,zO,zF,zT,zM,CX.i];rw [mk1 _ (by decide)];simp -implicitDefEqProofs (disch:=first|omega|(simp only [go_sem,seval,f1,f2,f3];first|done|omega)) only [go_sem,seval,f1,f2,f3])
   refine Qb (hq _) ?_
   simp -implicitDefEqProofs (disch:=first|omega|(simp only [go_sem,seval,QH,sz1];first|done|omega)) only [go_sem,seval,QH,sz1]
   (all_goals (first|refine pfN hM ?_ ?_|refine pf0 hM ?_ ?_);all_goals first|(simp only [go_sem,seval]<;>omega)|skip;all_goals (try simp -implicitDefEqProofs (disch:=first|omega|(simp only [go_sem,seval];first|done|omega)) only [go_sem,seval]))
  have f3:(n < (0:Int)) = False:=eq_false h3
  have w8:IntKind.u8.wrap (48 + n) = 48 + n:=by
   have e:∀ z:Int,IntKind.u8.wrap z = z % 256:=fun _ => rfl
   rw [e];omega
  have hs:strOf [.s (.int .u8 (48 + n))] = some (itoaB n):=by
   rw [Qab (by omega)]
   have:(48 + n).toNat = 48 + n.toNat:=by omega
   show some _ = _
   rw [this]
  (refine Qd (cf:=L7.c42) rfl rfl fun hM hA => ?_;simp only [L7.c42,zO,zF,zT,zM,CX.i];rw [mk1 _ (by decide)];simp -implicitDefEqProofs (disch:=first|omega|(simp only [go_sem,seval,f1,f2,f3,w8,hs];first|done|omega)) only [go_sem,seval,f1,f2,f3,w8,hs])
  (all_goals (first|refine pfN hM ?_ ?_|refine pf0 hM ?_ ?_);all_goals first|(simp only [go_sem,seval]<;>omega)|skip;all_goals (try simp -implicitDefEqProofs (disch:=first|omega|(simp only [go_sem,seval];first|done|omega)) only [go_sem,seval]))
def ItoaX (X:XRel):Prop:=∀ (n:Int) (M:List Blk),-9223372036854775808 ≤ n → n ≤ 9223372036854775807 → X 34 [.I n] M (.s (.string (itoaB n))) M
abbrev bTy:Nat:=74
abbrev uTy:Nat:=5
def CopyX (X:XRel):Prop:=∀ (i ver:Nat) (p s:PV) (M:List Blk),M[i]? = some (.row true 2 ver [.agg [p,s]]) → (p = .s (.pointer none) ∨ p = .bp i ver bTy) → X 65 [.bp i ver bTy] M (.tup []) (M.set i (.row true 2 ver [.agg [.bp i ver bTy,s]]))
theorem QdO (b:ByteArray):(Qi b).all (QM 1) = true:=by
 unfold Qi;rw [List.all_eq_true];intro x hx;obtain ⟨u,_,rfl⟩:=List.mem_map.1 hx;rfl
theorem Yy (b:ByteArray):(Qi b).length = b.size:=by simp [Qi]
theorem Qg9 (a b:ByteArray):Qi a ++ Qi b = Qi (a ++ b):=by
 unfold Qi;rw [ByteArray.data_append,Array.toList_append,List.map_append]
def bld0:Blk:=.row true 2 0 [.agg [.s (.pointer none),.s (.slice none 0 0)]]
def bldP (i j ver n:Nat):Blk:=.row true 2 0 [.agg [.bp i 0 bTy,.ot j ver n uTy]]
def bldB (ver:Nat) (b:ByteArray):Blk:=.row true 1 ver (Qi b)
theorem Za (b:ByteArray) (n:Nat):lowL n (Qi b):=by
 refine VJ _ _ fun u => ?_
 simp [PV.low]
theorem Qn1 {n:Nat} {M E:List Blk} {b b' c:Blk} (h:lowM n (M ++ b :: E)) (h1:b'.low n) (h2:c.low n):lowM n (M ++ b' :: (E ++ [c])):=by
 intro x hx
 rcases List.mem_append.1 hx with hx|hx
 ·exact h x (by simp [hx])
 ·rcases List.mem_cons.1 hx with rfl|hx
  ·exact h1
  ·rcases List.mem_append.1 hx with hx|hx
   ·exact h x (by simp [hx])
   ·rw [List.mem_singleton] at hx;subst hx;exact h2
theorem Y6 {n:Nat} {rs:List (Nat × Option (Option Nat))} {r:PV} {M2 M':List Blk} {t:List PV} {e:Ex} (he:(match e with|.ret|.normal => True|_ => False)) (h2:M2 = M') (hM:lowM M2.length M2) (hn:n ≤ M2.length)
  (h:(resOf M' t rs).map (mkRes M'.length M') = some r) (hl:r.low M2.length):Va n rs r M2 e M' t:=by
 subst h2
 cases hv:resOf M2 t rs with
 | none => rw [hv] at h;cases h
 | some vs => rw [hv] at h;exact ⟨he,M2.length,hn,Nat.le_refl _,by rw [List.take_length];exact hM,by rw [List.take_length],vs,hv,.inl (Option.some.inj h).symm,hl⟩
theorem Qla (hC:CopyX X) (s:ByteArray) (h0:0 < s.size) (hs:s.size ≤ 100000) {M E:List Blk} :
  ACall F X (.fn 33) [.bp M.length 0 bTy,.s (.string s)] (M ++ bld0 :: E) (.tup [.I s.size,.s .nilIface]) (M ++ bldP M.length (M.length + (1 + E.length)) 0 s.size :: (E ++ [bldB 0 s])):=by
 refine Qd (cf:=c33) rfl rfl fun hM hA => ?_
 simp only [c33,zO,zF,zT,zM,CX.i]
 rw [mk2 _ (by decide)]
 have hc:=hC M.length 0 (.s (.pointer none)) (.s (.slice none 0 0)) (M ++ bld0 :: E) (by simp [bld0]) (.inl rfl)
 have b1:=QdO s
 have b2:=Yy s
 have e:(M ++ bld0 :: E).set M.length (.row true 2 0 [.agg [.bp M.length 0 bTy,.s (.slice none 0 0)]]) = M ++ .row true 2 0 [.agg [.bp M.length 0 bTy,.s (.slice none 0 0)]] :: E:=by simp
 rw [e] at hc
 simp -implicitDefEqProofs (disch:=first|omega|(simp only [go_sem,seval];first|done|omega)) only [go_sem,seval]
 refine QY (QQ hc) ?_
 simp -implicitDefEqProofs (disch:=first|omega|(simp only [go_sem,seval,b1,b2];first|done|omega)) only [go_sem,seval,b1,b2]
 have hlow:lowM (M ++ bldP M.length (M.length + (1 + E.length)) 0 s.size :: (E ++ [bldB 0 s])).length (M ++ bldP M.length (M.length + (1 + E.length)) 0 s.size :: (E ++ [bldB 0 s])):=by
  have h1:lowM (M ++ bldP M.length (M.length + (1 + E.length)) 0 s.size :: (E ++ [bldB 0 s])).length (M ++ bld0 :: E):=Zo (by simp) hM
  refine Qn1 h1 ?_ ?_
  ·simp [bldP,Blk.low,lowL,PV.low];omega
  ·show lowL _ (Qi s)
   exact Za s _
 refine Y6 (by trivial) ?_ hlow (by simp) ?_ ?_
 ·simp [bldP,bldB,Nat.add_comm,Nat.add_left_comm]
 ·have ov:∀ n M,outV n M (.s .nilIface) = .s .nilIface:=fun _ _ => rfl
  simp -implicitDefEqProofs (disch:=first|omega|(simp only [go_sem,seval,ov];first|done|omega)) only [go_sem,seval,ov]
 ·(simp only [go_sem,seval]<;>omega)
theorem Qfv {n:Nat} {M E G:List Blk} {b b' c c':Blk} (h:lowM n (M ++ b :: (E ++ c :: G))) (h1:b'.low n) (h2:c'.low n):lowM n (M ++ b' :: (E ++ c' :: G)):=by
 intro x hx
 rcases List.mem_append.1 hx with hx|hx
 ·exact h x (by simp [hx])
 ·rcases List.mem_cons.1 hx with rfl|hx
  ·exact h1
  ·rcases List.mem_append.1 hx with hx|hx
   ·exact h x (by simp [hx])
   ·rcases List.mem_cons.1 hx with rfl|hx
    ·exact h2
    ·exact h x (by simp [hx])
theorem Qlf (hC:CopyX X) (b s:ByteArray) (ver:Nat) (h0:0 < s.size) (hs:s.size ≤ 100000) (hb:b.size ≤ 900000) {M E G:List Blk} :
  ACall F X (.fn 33) [.bp M.length 0 bTy,.s (.string s)] (M ++ bldP M.length (M.length + (1 + E.length)) ver b.size :: (E ++ bldB ver b :: G)) (.tup [.I s.size,.s .nilIface])
   (M ++ bldP M.length (M.length + (1 + E.length)) (ver + 1) (b.size + s.size) :: (E ++ bldB (ver + 1) (b ++ s) :: G)):=by
 refine Qd (cf:=c33) rfl rfl fun hM hA => ?_
 simp only [c33,zO,zF,zT,zM,CX.i]
 rw [mk2 _ (by decide)]
 have hc:=hC M.length 0 (.bp M.length 0 bTy) (.ot (M.length + (1 + E.length)) ver b.size uTy) (M ++ bldP M.length (M.length + (1 + E.length)) ver b.size :: (E ++ bldB ver b :: G)) (by simp [bldP]) (.inr rfl)
 have b1:=QdO s
 have b2:=Yy s
 have b3:=Yy b
 have e:(M ++ bldP M.length (M.length + (1 + E.length)) ver b.size :: (E ++ bldB ver b :: G)).set M.length (.row true 2 0 [.agg [.bp M.length 0 bTy,.ot (M.length + (1 + E.length)) ver b.size uTy]]) = M ++ bldP M.length (M.length + (1 + E.length)) ver b.size :: (E ++ bldB ver b :: G):=by simp [bldP]
 rw [e] at hc
 have g1:(M ++ bldP M.length (M.length + (1 + E.length)) ver b.size :: (E ++ bldB ver b :: G))[M.length + (1 + E.length)]? = some (.row true 1 ver (Qi b)):=by
  rw [List.getElem?_append_right (by omega),show M.length + (1 + E.length) - M.length = E.length + 1 by omega,List.getElem?_cons_succ,List.getElem?_append_right (by omega)]
  simp [bldB]
 have g2:∀ c:Blk,(M ++ bldP M.length (M.length + (1 + E.length)) ver b.size :: (E ++ bldB ver b :: G)).set (M.length + (1 + E.length)) c = M ++ bldP M.length (M.length + (1 + E.length)) ver b.size :: (E ++ c :: G):=by
  intro c
  rw [List.set_append_right _ _ (by omega),show M.length + (1 + E.length) - M.length = E.length + 1 by omega,List.set_cons_succ,List.set_append_right _ _ (by omega)]
  simp
 have hlow:lowM (M ++ bldP M.length (M.length + (1 + E.length)) (ver + 1) (b.size + s.size) :: (E ++ bldB (ver + 1) (b ++ s) :: G)).length (M ++ bldP M.length (M.length + (1 + E.length)) (ver + 1) (b.size + s.size) :: (E ++ bldB (ver + 1) (b ++ s) :: G)):=by
  refine Qfv (b:=bldP M.length (M.length + (1 + E.length)) ver b.size) (c:=bldB ver b) (by simpa using hM) ?_ ?_
  ·simp [bldP,Blk.low,lowL,PV.low];omega
  ·show lowL _ (Qi _)
   exact Za _ _
 have hba:=Qg9 b s
 have hJ:M.length + (1 + E.length) < M.length + (E.length + G.length + 2):=by omega
 generalize M.length + (1 + E.length) = J at *
 simp only [bldP,bldB] at g1 g2 hc hlow ⊢
 simp -implicitDefEqProofs (disch:=first|omega|(simp only [go_sem,seval];first|done|omega)) only [go_sem,seval]
 refine QY (QQ hc) ?_
 simp -implicitDefEqProofs (disch:=first|omega|(simp only [go_sem,seval,b1,b2,b3,g1,g2,hba];first|done|omega)) only [go_sem,seval,b1,b2,b3,g1,g2,hba]
 refine Y6 (e:=.ret) trivial rfl hlow (by simp <;> omega) ?_ ?_
 ·have ov:∀ n M,outV n M (.s .nilIface) = .s .nilIface:=fun _ _ => rfl
  simp -implicitDefEqProofs (disch:=first|omega|(simp only [go_sem,seval,ov];first|done|omega)) only [go_sem,seval,ov]
 ·(simp only [go_sem,seval]<;>omega)
theorem QeS (b:ByteArray):strOf (Qi b) = some b:=by
 have:∀ l:List UInt8,strOf (l.map fun u => PV.s (.int .u8 u.toNat)) = some ⟨l.toArray⟩:=by
  intro l
  induction l with
  | nil => rfl
  | cons u l ih =>
   rw [List.map_cons]
   unfold strOf
   rw [ih]
   simp
 unfold Qi
 rw [this,bs_of]
theorem Qke (b:ByteArray) (ver:Nat) (hb:b.size ≤ 900000) (h0:0 < b.size) {M E G:List Blk} :
  ACall F X (.fn 35) [.bp M.length 0 bTy] (M ++ bldP M.length (M.length + (1 + E.length)) ver b.size :: (E ++ bldB ver b :: G)) (.s (.string b))
   (M ++ bldP M.length (M.length + (1 + E.length)) ver b.size :: (E ++ .row false 1 (ver + 1) [] :: G)):=by
 refine Qd (cf:=c35) rfl rfl fun hM hA => ?_
 simp only [c35,zO,zF,zT,zM,CX.i]
 rw [mk1 _ (by decide)]
 have b3:=Yy b
 have b4:=QeS b
 have g1:(M ++ bldP M.length (M.length + (1 + E.length)) ver b.size :: (E ++ bldB ver b :: G))[M.length + (1 + E.length)]? = some (.row true 1 ver (Qi b)):=by
  rw [List.getElem?_append_right (by omega),show M.length + (1 + E.length) - M.length = E.length + 1 by omega,List.getElem?_cons_succ,List.getElem?_append_right (by omega)]
  simp [bldB]
 have g2:∀ c:Blk,(M ++ bldP M.length (M.length + (1 + E.length)) ver b.size :: (E ++ bldB ver b :: G)).set (M.length + (1 + E.length)) c = M ++ bldP M.length (M.length + (1 + E.length)) ver b.size :: (E ++ c :: G):=by
  intro c
  rw [List.set_append_right _ _ (by omega),show M.length + (1 + E.length) - M.length = E.length + 1 by omega,List.set_cons_succ,List.set_append_right _ _ (by omega)]
  simp
 have hlow:lowM (M ++ bldP M.length (M.length + (1 + E.length)) ver b.size :: (E ++ .row false 1 (ver + 1) [] :: G)).length (M ++ bldP M.length (M.length + (1 + E.length)) ver b.size :: (E ++ .row false 1 (ver + 1) [] :: G)):=by
  refine Qfv (b:=bldP M.length (M.length + (1 + E.length)) ver b.size) (c:=bldB ver b) (by simpa using hM) ?_ ?_
  ·simp [bldP,Blk.low,lowL,PV.low];omega
  ·simp [Blk.low,lowL]
 have hJ:M.length + (1 + E.length) < M.length + (E.length + G.length + 2):=by omega
 generalize M.length + (1 + E.length) = J at *
 simp only [bldP,bldB] at g1 g2 hlow ⊢
 simp -implicitDefEqProofs (disch:=first|omega|(simp only [go_sem,seval,g1,g2,b3,b4];first|done|omega)) only [go_sem,seval,g1,g2,b3,b4]
 refine Y6 (e:=.ret) trivial rfl hlow (by simp <;> omega) ?_ ?_
 ·simp -implicitDefEqProofs (disch:=first|omega|(simp only [go_sem,seval];first|done|omega)) only [go_sem,seval]
 ·(simp only [go_sem,seval]<;>omega)
theorem Qkp {M E:List Blk}:ACall F X (.fn 35) [.bp M.length 0 bTy] (M ++ bld0 :: E) (.s (.string ⟨#[]⟩)) (M ++ bld0 :: E):=by
 refine Qd (cf:=c35) rfl rfl fun hM hA => ?_
 simp only [c35,zO,zF,zT,zM,CX.i]
 rw [mk1 _ (by decide)]
 simp only [bld0] at hM ⊢
 simp -implicitDefEqProofs (disch:=first|omega|(simp only [go_sem,seval];first|done|omega)) only [go_sem,seval]
 refine Y6 (e:=.ret) trivial rfl (by simpa using hM) (by simp <;> omega) ?_ ?_
 ·simp -implicitDefEqProofs (disch:=first|omega|(simp only [go_sem,seval];first|done|omega)) only [go_sem,seval]
 ·(simp only [go_sem,seval]<;>omega)
theorem sz_sp:(⟨#[32]⟩:ByteArray).size = 1:=rfl
theorem sz_nl:(⟨#[10]⟩:ByteArray).size = 1:=rfl
theorem Qd1 (r:Rev):(((itoaB r.at_ ++ (⟨#[32]⟩:ByteArray)) ++ itoaB r.ld) ++ (⟨#[10]⟩:ByteArray)) = ⟨(rvT r ++ [10]).toArray⟩:=by
 have e:∀ n,itoaB n = ⟨(Lib.itoa n).toArray⟩:=fun _ => rfl
 have e1:(⟨#[32]⟩:ByteArray) = ⟨([32]:List UInt8).toArray⟩:=rfl
 have e2:(⟨#[10]⟩:ByteArray) = ⟨([10]:List UInt8).toArray⟩:=rfl
 rw [e,e,e1,e2,Jv,Jv,Jv,QdB]
 simp
theorem Qdx (l:List Rev) (r:Rev):Q0 l ++ (⟨(rvT r ++ [10]).toArray⟩:ByteArray) = Q0 (l ++ [r]):=by
 unfold Q0;rw [Jv,Qij]
theorem Qcw:∀ {l:List Rev} {pp p:Option Rev},Q1 pp p l = 0 → ∀ r ∈ l,(0 ≤ r.at_ ∧ r.at_ ≤ 39999) ∧ (-32768 ≤ r.ld ∧ r.ld ≤ 32768)
 | [],_,_,_,r,hr => by cases hr
 | x :: l,pp,p,h,r,hr => by
  have h2:errAt pp p x = 0 ∧ Q1 p (some x) l = 0:=by
   unfold Q1 at h
   split at h
   ·rename_i h0;exact ⟨h0,h⟩
   ·rename_i h0;exact absurd h h0
  rcases List.mem_cons.1 hr with rfl|hr
  ·have h3:=Qep h2.1 _ (by simp:rng r.at_ 0 39999 ∈ _)
   have h4:=Qep h2.1 _ (by simp:rng r.ld (-32768) 32768 ∈ _)
   unfold rng at h3 h4
   split at h3
   ·cases h3
   ·split at h4
    ·cases h4
    ·omega
  ·exact Qcw h2.2 r hr
theorem Qby {l:List Rev} (h:Qh l = 0):l.length ≤ 40000 ∧ ∀ r ∈ l,(0 ≤ r.at_ ∧ r.at_ ≤ 39999) ∧ (-32768 ≤ r.ld ∧ r.ld ≤ 32768):=by
 unfold Qh at h
 split at h
 ·cases h
 ·exact ⟨by omega,Qcw h⟩
theorem Qcg {r:Rev} (h:(0 ≤ r.at_ ∧ r.at_ ≤ 39999) ∧ (-32768 ≤ r.ld ∧ r.ld ≤ 32768)):(itoaB r.at_).size ≤ 21 ∧ (itoaB r.ld).size ≤ 21 ∧ (rvT r ++ [10]).length ≤ 50 ∧ 0 < (rvT r ++ [10]).length:=by
 have h1:=VG r.at_ (by omega) (by omega)
 have h2:=VG r.ld (by omega) (by omega)
 have e1:(itoaB r.at_).size = (Lib.itoa r.at_).length:=QU _
 have e2:(itoaB r.ld).size = (Lib.itoa r.ld).length:=QU _
 rw [QdB]
 simp only [List.length_append,List.length_cons,List.length_nil]
 omega
theorem Qd6 {l:List Rev} (h:∀ r ∈ l,(0 ≤ r.at_ ∧ r.at_ ≤ 39999) ∧ (-32768 ≤ r.ld ∧ r.ld ≤ 32768)) (k:Nat):(Q0 (l.take k)).size ≤ 50 * k:=by
 have h1:(rvsL (l.take k)).length ≤ 50 * (l.take k).length:=by
  refine QjI fun r hr => ?_
  have h2:=Qcg (h r (List.mem_of_mem_take hr))
  have e1:(itoaB r.at_).size = (Lib.itoa r.at_).length:=QU _
  have e2:(itoaB r.ld).size = (Lib.itoa r.ld).length:=QU _
  omega
 have e:(Q0 (l.take k)).size = (rvsL (l.take k)).length:=QU _
 have:=List.length_take_le k l
 omega
def prM (i:Nat) (l:List Rev):Nat → List Blk
 | 0 => [bld0]
 | k + 1 => [bldP i (i + 2) k (Q0 (l.take (k + 1))).size,.row true 2 0 [Qc (l.headD ⟨0,0⟩)],bldB k (Q0 (l.take (k + 1)))]
set_option maxHeartbeats 1000000 in
theorem QdX (hC:CopyX X) (hI:ItoaX X) (l:List Rev) (hl:l.length ≤ 15000):Q X 7 [.fs (l.map Qc)] (.tup [.s (.string (if Qh l = 0 then Q0 l else ⟨#[]⟩)),.I (Qh l)]):=by
 intro M
 have hk:=Qx (X:=X) l (by omega)
 by_cases h0:Qh l = 0
 case neg =>
  rw [if_neg h0]
  generalize Qh l = z at hk h0
  (refine Qd (cf:=L7.c7) rfl rfl fun hM hA => ?_;simp only [L7.c7,zO,zF,zT,zM,CX.i];rw [mk1 _ (by decide)];simp -implicitDefEqProofs (disch:=first|omega|(simp only [go_sem,seval];first|done|omega)) only [go_sem,seval])
  refine Qb (hk _) ?_
  simp -implicitDefEqProofs (disch:=first|omega|(simp only [go_sem,seval,h0];first|done|omega)) only [go_sem,seval,h0]
  (all_goals (first|refine pfN hM ?_ ?_|refine pf0 hM ?_ ?_);all_goals first|(simp only [go_sem,seval]<;>omega)|skip;all_goals (try simp -implicitDefEqProofs (disch:=first|omega|(simp only [go_sem,seval];first|done|omega)) only [go_sem,seval]))
 rw [if_pos h0]
 rw [h0] at hk ⊢
 have hin:=(Qby h0).2
 have hsz:=Qd6 hin
 (refine Qd (cf:=L7.c7) rfl rfl fun hM hA => ?_;simp only [L7.c7,zO,zF,zT,zM,CX.i];rw [mk1 _ (by decide)];simp -implicitDefEqProofs (disch:=first|omega|(simp only [go_sem,seval];first|done|omega)) only [go_sem,seval])
 refine Qb (hk _) ?_
 simp -implicitDefEqProofs (disch:=first|omega|(simp only [go_sem,seval];first|done|omega)) only [go_sem,seval]
 refine Qm (α:=Nat) 0 (fun k => k ≤ l.length) (fun k => M ++ prM M.length l k) (fun k => [(5,.bp M.length 0 bTy),(13,.fs (l.map Qc)),(14,.I l.length),(15,.I k)]) (fun k => l.length - k) (Nat.zero_le _) rfl rfl ?_
 intro k hk'
 have hkl:=hsz k
 by_cases hlt:k < l.length
 ·obtain ⟨x,h1⟩:∃ x,l[k]? = some x:=⟨_,List.getElem?_eq_getElem hlt⟩
  have hx:=hin x (List.mem_of_getElem? h1)
  obtain ⟨s1,s2,s3,s4⟩:=Qcg hx
  have hp:=Qd1 x
  have hsx:=Qdx (l.take k) x
  have htk:l.take k ++ [x] = l.take (k + 1):=by
   obtain ⟨g1,g2⟩:=List.getElem?_eq_some_iff.1 h1
   rw [List.take_succ_eq_append_getElem g1,g2]
  rw [htk] at hsx
  have hz1:=QU (rvT x ++ [10])
  have i1:=fun M => hI x.at_ M (by omega) (by omega)
  have i2:=fun M => hI x.ld M (by omega) (by omega)
  rw [← hz1] at s3 s4
  generalize (⟨(rvT x ++ [10]).toArray⟩:ByteArray) = S at hp hsx hz1 s3 s4
  have hws:=fun (E:List Blk) => @Qla X hC S (by omega) (by omega) M E
  have hwm:=fun (b:ByteArray) (ver:Nat) (hb:b.size ≤ 900000) (E G:List Blk) => @Qlf X hC b S ver (by omega) (by omega) hb M E G
  have ec:=QO x
  cases k with
  | zero =>
   have flt:((0:Int) < l.length) = True:=eq_true (by omega)
   simp only [prM]
   simp -implicitDefEqProofs (disch:=first|omega|(simp only [go_sem,seval,hlt,flt,h1,Qa,ec];first|done|omega)) only [go_sem,seval,hlt,flt,h1,Qa,ec]
   refine Qb (QQ (i1 _)) ?_
   simp -implicitDefEqProofs (disch:=first|omega|(simp only [go_sem,seval,QH,ByteArray.size_append,sz_sp,sz_nl];first|done|omega)) only [go_sem,seval,QH,ByteArray.size_append,sz_sp,sz_nl]
   refine Qb (QQ (i2 _)) ?_
   simp -implicitDefEqProofs (disch:=first|omega|(simp only [go_sem,seval,QH,ByteArray.size_append,sz_sp,sz_nl,hp];first|done|omega)) only [go_sem,seval,QH,ByteArray.size_append,sz_sp,sz_nl,hp]
   refine QY (hws [_]) ?_
   simp -implicitDefEqProofs (disch:=first|omega|(simp only [go_sem,seval];first|done|omega)) only [go_sem,seval]
   have e0:Q0 ([]:List Rev) ++ S = S:=by
    show (⟨#[]⟩:ByteArray) ++ S = S
    exact ByteArray.empty_append
   rw [List.take_zero,e0] at hsx
   have hh:l.headD ⟨0,0⟩ = x:=by cases l with|nil => simp at h1|cons y l => simpa using h1
   refine Qp hM rfl 3 (by simp) (by first|done|(simp only [go_sem,seval,bldP,bldB,Za] <;> first|done|(refine ⟨?_,?_⟩ <;> omega)|omega)) (Qu (by first|done|(simp only [go_sem,seval,bldP,bldB,Za] <;> first|done|(refine ⟨?_,?_⟩ <;> omega)|omega))) ?_
   simp -implicitDefEqProofs (disch:=first|omega|(simp only [go_sem,seval];first|done|omega)) only [go_sem,seval]
   exact again' 1 (by omega) (by omega) (by simp only [prM,hh,ec,← hsx]) rfl
  | succ k =>
   simp only [prM]
   simp -implicitDefEqProofs (disch:=first|omega|(simp only [go_sem,seval,hlt,h1,Qa,ec];first|done|omega)) only [go_sem,seval,hlt,h1,Qa,ec]
   refine Qb (QQ (i1 _)) ?_
   simp -implicitDefEqProofs (disch:=first|omega|(simp only [go_sem,seval,QH,ByteArray.size_append,sz_sp,sz_nl];first|done|omega)) only [go_sem,seval,QH,ByteArray.size_append,sz_sp,sz_nl]
   refine Qb (QQ (i2 _)) ?_
   simp -implicitDefEqProofs (disch:=first|omega|(simp only [go_sem,seval,QH,ByteArray.size_append,sz_sp,sz_nl,hp];first|done|omega)) only [go_sem,seval,QH,ByteArray.size_append,sz_sp,sz_nl,hp]
   refine QY (hwm _ _ (by omega) [_] [_]) ?_
   simp -implicitDefEqProofs (disch:=first|omega|(simp only [go_sem,seval];first|done|omega)) only [go_sem,seval]
   have hsz2:(Q0 (l.take (k + 1))).size + S.size = (Q0 (l.take (k + 1 + 1))).size:=by rw [← hsx,ByteArray.size_append]
   refine Qp hM rfl 3 (by simp) (by first|done|(simp only [go_sem,seval,bldP,bldB,Za,QJ] <;> first|done|(refine ⟨?_,?_⟩ <;> omega)|omega)) (Qu (by first|done|(simp only [go_sem,seval,bldP,bldB,Za,QJ] <;> first|done|(refine ⟨?_,?_⟩ <;> omega)|omega))) ?_
   simp -implicitDefEqProofs (disch:=first|omega|(simp only [go_sem,seval];first|done|omega)) only [go_sem,seval]
   exact again' (k + 1 + 1) (by omega) (by omega) (by simp only [prM,hsx,hsz2]) rfl
 ·have hkk:k = l.length:=by omega
  subst hkk
  have htl:l.take l.length = l:=List.take_length
  by_cases hne:l = []
  ·subst hne
   simp only [prM,List.length_nil]
   have flt:((0:Int) < 0) = False:=eq_false (by omega)
   simp -implicitDefEqProofs (disch:=first|omega|(simp only [go_sem,seval,hlt,flt];first|done|omega)) only [go_sem,seval,hlt,flt]
   refine QY (Qkp (E:=[])) ?_
   simp -implicitDefEqProofs (disch:=first|omega|(simp only [go_sem,seval];first|done|omega)) only [go_sem,seval]
   have e:Q0 [] = ⟨#[]⟩:=rfl
   rw [e]
   (all_goals (first|refine pfN hM ?_ ?_|refine pf0 hM ?_ ?_);all_goals first|(simp only [go_sem,seval,bld0]<;>omega)|skip;all_goals (try simp -implicitDefEqProofs (disch:=first|omega|(simp only [go_sem,seval];first|done|omega)) only [go_sem,seval]))
  ·obtain ⟨k,hll⟩:∃ k,l.length = k + 1:=⟨l.length - 1,by have:=List.length_pos_iff.2 hne;omega⟩
   have flt:(((k + 1:Nat):Int) < ((k + 1:Nat):Int)) = False:=eq_false (by omega)
   rw [hll] at hkl htl ⊢
   simp only [prM,htl]
   rw [htl] at hkl
   have hpos:0 < (Q0 l).size:=by
    obtain ⟨x,q,rfl⟩:∃ x q,l = x :: q:=by cases l with|nil => exact absurd rfl hne|cons x q => exact ⟨x,q,rfl⟩
    have e:(Q0 (x :: q)).size = (rvsL (x :: q)).length:=QU _
    rw [e]
    have e2:rvsL (x :: q) = (rvT x ++ [10]) ++ rvsL q:=rfl
    rw [e2,List.length_append,List.length_append]
    simp only [List.length_cons,List.length_nil]
    omega
   simp -implicitDefEqProofs (disch:=first|omega|(simp only [go_sem,seval,hlt,flt];first|done|omega)) only [go_sem,seval,hlt,flt]
   refine QY (Qke (Q0 l) k (by omega) hpos (E:=[_]) (G:=[])) ?_
   simp -implicitDefEqProofs (disch:=first|omega|(simp only [go_sem,seval];first|done|omega)) only [go_sem,seval]
   (all_goals (first|refine pfN hM ?_ ?_|refine pf0 hM ?_ ?_);all_goals first|(simp only [go_sem,seval,bldP,QJ]<;>omega)|skip;all_goals (try simp -implicitDefEqProofs (disch:=first|omega|(simp only [go_sem,seval];first|done|omega)) only [go_sem,seval]))
def CutX (X:XRel):Prop:=∀ (l:List UInt8) (M:List Blk),l.length ≤ 1000000 → X 36 [.s (.string ⟨l.toArray⟩),.s (.string ⟨#[10]⟩)] M (.tup [.s (.string ⟨(Lib.cut l [10]).1.toArray⟩),.s (.string ⟨(Lib.cut l [10]).2.1.toArray⟩),.B (Lib.cut l [10]).2.2]) M
def SplitX (X:XRel):Prop:=∀ (l:List UInt8) (M:List Blk),l.length ≤ 1000000 → X 68 [.s (.string ⟨l.toArray⟩),.s (.string ⟨#[32]⟩)] M (.fs ((spl 32 l).map encW)) M
def AtoiX (X:XRel):Prop:=∀ (l:List UInt8) (M:List Blk),l.length ≤ 1000000 → X 83 [.s (.string ⟨l.toArray⟩)] M (atoiV ⟨l.toArray⟩) M
def TrimX (X:XRel):Prop:=∀ (l:List UInt8) (M:List Blk),X 84 [.s (.string ⟨l.toArray⟩),.s (.string ⟨#[45]⟩)] M (.s (.string ⟨(Lib.trimPrefix l [45]).toArray⟩)) M
def tkR (t:List (List UInt8) × Bool):Blk:=.row true 2 0 [.agg [.fs (t.1.map encW),.B t.2]]
theorem Jm (ws:List (List UInt8)) (w:Bool):tkR (ws,w) = .row true 2 0 [.agg [.fs (ws.map encW),.B w]]:=rfl
theorem lowR {M0 E:List Blk} {b b':Blk} (hM:lowM (M0 ++ b :: E).length (M0 ++ b :: E)) (h:b'.low (M0 ++ b :: E).length):lowM (M0 ++ b' :: E).length (M0 ++ b' :: E):=by
 intro x hx
 have e:(M0 ++ b' :: E).length = (M0 ++ b :: E).length:=by simp
 rw [e]
 rcases List.mem_append.1 hx with hx|hx
 ·exact hM x (by simp [hx])
 ·rcases List.mem_cons.1 hx with rfl|hx
  ·exact h
  ·exact hM x (by simp [hx])
theorem Qmx (t:List (List UInt8) × Bool) (n:Nat):(tkR t).low n:=by
 show lowL n [_]
 simp [lowL,PV.low,Qa8]
theorem QlA (hI:ItoaX X) (hA0:AtoiX X) (hT:TrimX X) (v:List UInt8) (ws:List (List UInt8)) (w:Bool) (hl:ws.length ≤ 1000000) (hwl:v.length ≤ 1000000) {M0 E:List Blk} :
  ACall F X (.fn 69) [.op M0.length 0 0 0] (M0 ++ tkR (v :: ws,w) :: E) (.I (atoiI v)) (M0 ++ tkR (ws,if okW v = true then w else true) :: E):=by
 refine Qd (cf:=c69) rfl rfl fun hM hA => ?_
 simp only [c69,zO,zF,zT,zM,CX.i]
 rw [mk1 _ (by decide)]
 have hlow:=fun t => lowR hM (Qmx t _)
 have a1:=hA0 v
 unfold atoiV at a1
 have hT2:=hT v
 have z0:=QU (Lib.trimPrefix v [45])
 have hsz:=QgK (v :: ws)
 simp only [List.map_cons,Z1] at hsz
 have htk:(ws.map encW).take ws.length = ws.map encW:=List.take_of_length_le (by simp)
 simp only [Jm,List.map_cons,Z1]
 simp -implicitDefEqProofs (disch:=first|omega|(simp only [go_sem,seval,hsz,htk];first|done|omega)) only [go_sem,seval,hsz,htk]
 have hd:(⟨v.toArray⟩:ByteArray).data.toList = v:=by simp
 rw [hd] at a1
 cases ha:Lib.atoiAll v
 ·rename_i n
  obtain ⟨i1,i2⟩:=QlK ha
  rw [ha] at a1
  have hv:atoiI v = n:=by unfold atoiI;rw [ha]
  have hk0:okW v = (decide (Lib.itoa n = v) && decide ((Lib.trimPrefix v [45]).length ≤ 9)):=by unfold okW;rw [ha]
  simp only at a1
  rw [hv]
  refine Qb (QQ (a1 _ hwl)) ?_
  simp -implicitDefEqProofs (disch:=first|omega|(simp only [go_sem,seval];first|done|omega)) only [go_sem,seval]
  refine Qb (QQ (hI n _ i1 i2)) ?_
  by_cases c1:Lib.itoa n = v
  ·have f1:bin .neq (.s (.string (itoaB n))) (.s (.string ⟨v.toArray⟩)) = some (.B false):=by
    rw [Yn]
    have:(itoaB n = ⟨v.toArray⟩) = True:=by unfold itoaB;rw [bs_eq];exact eq_true c1
    simp [this]
   simp -implicitDefEqProofs (disch:=first|omega|(simp only [go_sem,seval,f1];first|done|omega)) only [go_sem,seval,f1]
   refine Qb (QQ (hT2 _)) ?_
   by_cases c2:(Lib.trimPrefix v [45]).length ≤ 9
   ·have f2:((9:Int) < (Lib.trimPrefix v [45]).length) = False:=eq_false (by omega)
    have hl2:=hlow (ws,w)
    rw [decide_eq_true c1,decide_eq_true c2,Bool.and_self] at hk0
    simp only [hk0,Jm,if_true] at hl2 ⊢
    simp -implicitDefEqProofs (disch:=first|omega|(simp only [go_sem,seval,z0,f2];first|done|omega)) only [go_sem,seval,z0,f2]
    refine QP ZR hl2 (by simp) ?_ ?_
    ·simp -implicitDefEqProofs (disch:=first|omega|(simp only [go_sem,seval];first|done|omega)) only [go_sem,seval]
    ·(simp only [go_sem,seval]<;>omega)
   ·have f2:((9:Int) < (Lib.trimPrefix v [45]).length) = True:=eq_true (by omega)
    have hl2:=hlow (ws,true)
    rw [decide_eq_true c1,decide_eq_false c2,Bool.and_false] at hk0
    simp only [hk0,Jm,Bool.false_eq_true,if_false] at hl2 ⊢
    simp -implicitDefEqProofs (disch:=first|omega|(simp only [go_sem,seval,z0,f2];first|done|omega)) only [go_sem,seval,z0,f2]
    refine QP ZR hl2 (by simp) ?_ ?_
    ·simp -implicitDefEqProofs (disch:=first|omega|(simp only [go_sem,seval];first|done|omega)) only [go_sem,seval]
    ·(simp only [go_sem,seval]<;>omega)
  ·have f1:bin .neq (.s (.string (itoaB n))) (.s (.string ⟨v.toArray⟩)) = some (.B true):=by
    rw [Yn]
    have:(itoaB n = ⟨v.toArray⟩) = False:=by unfold itoaB;rw [bs_eq];exact eq_false c1
    simp [this]
   have hl2:=hlow (ws,true)
   rw [decide_eq_false c1,Bool.false_and] at hk0
   simp only [hk0,Jm,Bool.false_eq_true,if_false] at hl2 ⊢
   simp -implicitDefEqProofs (disch:=first|omega|(simp only [go_sem,seval,f1];first|done|omega)) only [go_sem,seval,f1]
   refine QP ZR hl2 (by simp) ?_ ?_
   ·simp -implicitDefEqProofs (disch:=first|omega|(simp only [go_sem,seval];first|done|omega)) only [go_sem,seval]
   ·(simp only [go_sem,seval]<;>omega)
 all_goals
  have hl2:=hlow (ws,true)
  rw [ha] at a1
  have hk0:okW v = false:=by unfold okW;rw [ha]
  unfold atoiI
  simp only [ha,hk0,Jm,Bool.false_eq_true,if_false] at a1 hl2 ⊢
  refine Qb (QQ (a1 _ hwl)) ?_
  simp -implicitDefEqProofs (disch:=first|omega|(simp only [go_sem,seval];first|done|omega)) only [go_sem,seval]
  refine QP ZR hl2 (by simp) ?_ ?_
  ·simp -implicitDefEqProofs (disch:=first|omega|(simp only [go_sem,seval];first|done|omega)) only [go_sem,seval]
  ·(simp only [go_sem,seval]<;>omega)
theorem int2 (hI:ItoaX X) (hA0:AtoiX X) (hT:TrimX X) (v:List UInt8) (ws:List (List UInt8)) (w:Bool) (hl:ws.length ≤ 1000000) (hwl:v.length ≤ 1000000) {M:List Blk} {z:Blk} :
  ACall F X (.fn 69) [.op (M.length + 1) 0 0 0] (M ++ [z,tkR (v :: ws,w)]) (.I (atoiI v)) (M ++ [z,tkR (ws,if okW v = true then w else true)]):=by
 have:=@QlA X hI hA0 hT v ws w hl hwl (M ++ [z]) []
 simpa using this
theorem J7 (c:UInt8):∀ (l:List UInt8),(spl c l).length ≤ l.length + 1 ∧ ∀ x ∈ spl c l,x.length ≤ l.length
 | [] => by simp [spl]
 | y :: r => by
  obtain ⟨h1,h2⟩:=J7 c r
  unfold spl
  split
  ·refine ⟨by simp;omega,fun x hx => ?_⟩
   rcases List.mem_cons.1 hx with rfl|hx
   ·simp
   ·have:=h2 x hx;simp;omega
  ·cases hs:spl c r with
   | nil => exact absurd hs (Qbw c r)
   | cons h t =>
    rw [hs] at h1 h2
    refine ⟨by simp at h1 ⊢;omega,fun x hx => ?_⟩
    rcases List.mem_cons.1 hx with rfl|hx
    ·have:=h2 h (by simp);simp;omega
    ·have:=h2 x (by simp [hx]);simp;omega
def rvOf:List (List UInt8) → Rev × Bool
 | [a,b] => (⟨atoiI a,atoiI b⟩,okW a && okW b)
 | _ => (⟨0,0⟩,false)
theorem Qno (w:List (List UInt8)):(rvOf w).2 = (V3 w).isSome ∧ ∀ r,V3 w = some r → (rvOf w).1 = r:=by
  unfold rvOf V3
  split
  · rename_i a b
    show (okW a && okW b) = (if (numR a).2 = true ∧ (numR b).2 = true then some (⟨(numR a).1,(numR b).1⟩:Rev) else none).isSome ∧ ∀ r,(if (numR a).2 = true ∧ (numR b).2 = true then some (⟨(numR a).1,(numR b).1⟩:Rev) else none) = some r → (⟨atoiI a,atoiI b⟩:Rev) = r
    obtain ⟨a1,a2⟩:=Qft a
    obtain ⟨b1,b2⟩:=Qft b
    by_cases ha:okW a = true
    · by_cases hb:okW b = true
      · rw [ha] at a1
        rw [hb] at b1
        rw [if_pos ⟨a1.symm,b1.symm⟩]
        refine ⟨by simp [ha,hb],fun r hr => ?_⟩
        cases hr
        rw [a2 ha,b2 hb]
      · rw [Bool.eq_false_iff.2 hb] at b1
        rw [if_neg (by intro h;rw [← b1] at h;cases h.2)]
        exact ⟨by simp [Bool.eq_false_iff.2 hb],fun r hr => by cases hr⟩
    · rw [Bool.eq_false_iff.2 ha] at a1
      rw [if_neg (by intro h;rw [← a1] at h;cases h.1)]
      exact ⟨by simp [Bool.eq_false_iff.2 ha],fun r hr => by cases hr⟩
  · rename_i h
    first
    | exact ⟨rfl,fun r hr => by cases hr⟩
    | (split
       · exact absurd rfl (h _ _)
       · exact ⟨rfl,fun r hr => by cases hr⟩)
set_option maxHeartbeats 1000000 in
theorem Y8 (hS:SplitX X) (hI:ItoaX X) (hA0:AtoiX X) (hT:TrimX X) (l:List UInt8) (hl:l.length ≤ 900000):Q X 37 [.s (.string ⟨l.toArray⟩)] (.tup [Qc (rvOf (spl 32 l)).1,.B (rvOf (spl 32 l)).2]):=by
 intro M
 obtain ⟨w1,w2⟩:=J7 32 l
 have hsp:=fun M => hS l M (by omega)
 generalize spl 32 l = ws at w1 w2 hsp ⊢
 (refine Qd (cf:=L7.c37) rfl rfl fun hM hA => ?_;simp only [L7.c37,zO,zF,zT,zM,CX.i];rw [mk1 _ (by decide)];simp -implicitDefEqProofs (disch:=first|omega|(simp only [go_sem,seval];first|done|omega)) only [go_sem,seval])
 refine Qb (QQ (hsp _)) ?_
 by_cases h2:ws.length = 2
 case neg =>
  have f2:((ws.length:Int) = 2) = False:=eq_false (by omega)
  have e:rvOf ws = (⟨0,0⟩,false):=by
   unfold rvOf
   split
   ·exact absurd rfl h2
   ·rfl
  rw [e,QO]
  simp -implicitDefEqProofs (disch:=first|omega|(simp only [go_sem,seval,f2];first|done|omega)) only [go_sem,seval,f2]
  (all_goals (first|refine pfN hM ?_ ?_|refine pf0 hM ?_ ?_);all_goals first|(simp only [go_sem,seval]<;>omega)|skip;all_goals (try simp -implicitDefEqProofs (disch:=first|omega|(simp only [go_sem,seval];first|done|omega)) only [go_sem,seval]))
 obtain ⟨a,b,rfl⟩:∃ a b,ws = [a,b]:=by
  match ws,h2 with
  | [a,b],_ => exact ⟨a,b,rfl⟩
 have r1:=fun (z:Blk) => @int2 X hI hA0 hT a [b] false (by simp) (by have:=w2 a (by simp);omega) M z
 have r2:=fun (w:Bool) (z:Blk) => @int2 X hI hA0 hT b [] w (by simp) (by have:=w2 b (by simp);omega) M z
 have hy:rvOf [a,b] = (⟨atoiI a,atoiI b⟩,okW a && okW b):=rfl
 rw [hy,QO]
 simp -implicitDefEqProofs (disch:=first|omega|(simp only [go_sem,seval];first|done|omega)) only [go_sem,seval]
 refine QY (r1 _) ?_
 generalize okW a = oa at *
 simp -implicitDefEqProofs (disch:=first|omega|(simp only [go_sem,seval];first|done|omega)) only [go_sem,seval]
 refine QY (r2 _ _) ?_
 generalize okW b = ob at *
 cases oa <;> cases ob <;> simp only [Bool.false_eq_true,if_true,if_false,Jm,List.map_nil]
 all_goals
  simp -implicitDefEqProofs (disch:=first|omega|(simp only [go_sem,seval];first|done|omega)) only [go_sem,seval]
  refine ⟨by simp [YH,YV,Zf,refs,refs1],?_⟩
  (all_goals (first|refine pfN hM ?_ ?_|refine pf0 hM ?_ ?_);all_goals first|(simp only [go_sem,seval]<;>omega)|skip;all_goals (try simp -implicitDefEqProofs (disch:=first|omega|(simp only [go_sem,seval];first|done|omega)) only [go_sem,seval]))
theorem Qfs {l:List UInt8} (h:l ≠ []):bin .eql (.s (.string ⟨l.toArray⟩)) (.s (.string ⟨#[]⟩)) = some (.B false) ∧ bin .neq (.s (.string ⟨l.toArray⟩)) (.s (.string ⟨#[]⟩)) = some (.B true):=by
 have:((⟨l.toArray⟩:ByteArray) = ⟨([]:List UInt8).toArray⟩) = False:=by rw [bs_eq];exact eq_false h
 rw [Qau,Yn]
 refine ⟨?_,?_⟩
 ·show some (PV.B (decide ((⟨l.toArray⟩:ByteArray) = ⟨([]:List UInt8).toArray⟩))) = _
  simp [this]
 ·show some (PV.B (decide ¬((⟨l.toArray⟩:ByteArray) = ⟨([]:List UInt8).toArray⟩))) = _
  simp [this]
theorem JE {k:Nat}:rvS (none,k) = []:=rfl
set_option maxHeartbeats 1000000 in
theorem Qd3 (hC:CutX X) (hS:SplitX X) (hI:ItoaX X) (hA0:AtoiX X) (hT:TrimX X) (t:List UInt8) (hl:t.length ≤ 100000) :
  Q X 9 [.s (.string ⟨t.toArray⟩)] (.tup [.fs ((rvS (parRv [] (spl 10 t))).map Qc),.I (rvN (parRv [] (spl 10 t))),.I (rvE (parRv [] (spl 10 t)))]):=by
 intro M
 have hz:=QU t
 have f1:((1000000:Int) < t.length) = False:=eq_false (by omega)
 (refine Qd (cf:=L7.c9) rfl rfl fun hM hA => ?_;simp only [L7.c9,zO,zF,zT,zM,CX.i];rw [mk1 _ (by decide)];simp -implicitDefEqProofs (disch:=first|omega|(simp only [go_sem,seval,hz,f1];first|done|omega)) only [go_sem,seval,hz,f1])
 refine Qm (α:=List UInt8 × List Rev) (t,[]) (fun a => parRv [] (spl 10 t) = parRv a.2 (spl 10 a.1) ∧ a.2.length + a.1.length ≤ t.length)
  (fun a => M ++ [.row true 2 a.2.length (a.2.map Qc)]) (fun a => [(0,.s (.string ⟨a.1.toArray⟩)),(5,.os M.length a.2.length 0 a.2.length)]) (fun a => a.1.length) ⟨rfl,by simp⟩ rfl rfl ?_
 rintro ⟨rest,o⟩ ⟨i1,i2⟩
 simp only at i1 i2
 rw [i1]
 have hT1:(o.map Qc).take o.length = o.map Qc:=List.take_of_length_le (by simp)
 have hlo:∀ n,lowL n (o.map Qc) = True:=fun n => Qe _
 by_cases hr:rest = []
 ·subst hr
  have be:bin .neq (.s (.string ⟨([]:List UInt8).toArray⟩)) (.s (.string ⟨#[]⟩)) = some (.B false):=by rw [Yn];simp
  have e:parRv o (spl 10 []) = (some o,o.length):=by simp [spl,parRv]
  rw [e,show rvE (some o,o.length) = Qh o from rfl,show rvN (some o,o.length) = if Qh o = 0 then 0 else o.length from rfl,show rvS (some o,o.length) = if Qh o = 0 then o else [] from rfl]
  have hC2:=Qx (X:=X) o (by omega)
  simp -implicitDefEqProofs (disch:=first|omega|(simp only [go_sem,seval,be,hT1];first|done|omega)) only [go_sem,seval,be,hT1]
  refine Qb (hC2 _) ?_
  generalize Qh o = ee
  by_cases hz0:ee = 0
  ·subst hz0
   rw [if_pos rfl,if_pos rfl]
   simp -implicitDefEqProofs (disch:=first|omega|(simp only [go_sem,seval];first|done|omega)) only [go_sem,seval]
   (first|refine pfN hM ?_ ?_|refine pf0 hM ?_ ?_)
   ·simp -implicitDefEqProofs (disch:=first|omega|(simp only [go_sem,seval,hT1];first|done|omega)) only [go_sem,seval,hT1]
   ·(simp only [go_sem,seval,hlo]<;>omega)
  ·rw [if_neg hz0,if_neg hz0]
   simp -implicitDefEqProofs (disch:=first|omega|(simp only [go_sem,seval,hz0];first|done|omega)) only [go_sem,seval,hz0]
   (all_goals (first|refine pfN hM ?_ ?_|refine pf0 hM ?_ ?_);all_goals first|(simp only [go_sem,seval]<;>omega)|skip;all_goals (try simp -implicitDefEqProofs (disch:=first|omega|(simp only [go_sem,seval];first|done|omega)) only [go_sem,seval]))
 have hb1:=(Qfs hr).2
 have hcut:=hC rest
 by_cases hnl:(10:UInt8) ∈ rest
 case neg =>
  have e:parRv o (spl 10 rest) = (none,o.length):=by rw [JK hnl,JM,if_neg hr]
  rw [e,show rvE (none,o.length) = 26 from rfl,show rvN (none,o.length) = o.length from rfl,JE]
  rw [Qjx hnl] at hcut
  have hrv:=Y8 hS hI hA0 hT rest (by omega)
  generalize rvOf (spl 32 rest) = R at hrv
  obtain ⟨v,b⟩:=R
  rw [QO] at hrv
  simp -implicitDefEqProofs (disch:=first|omega|(simp only [go_sem,seval,hb1];first|done|omega)) only [go_sem,seval,hb1]
  refine Qb (QQ (hcut _ (by omega))) ?_
  simp -implicitDefEqProofs (disch:=first|omega|(simp only [go_sem,seval];first|done|omega)) only [go_sem,seval]
  refine Qb (hrv _) ?_
  simp -implicitDefEqProofs (disch:=first|omega|(simp only [go_sem,seval];first|done|omega)) only [go_sem,seval]
  (all_goals (first|refine pfN hM ?_ ?_|refine pf0 hM ?_ ?_);all_goals first|(simp only [go_sem,seval]<;>omega)|skip;all_goals (try simp -implicitDefEqProofs (disch:=first|omega|(simp only [go_sem,seval];first|done|omega)) only [go_sem,seval]))
 obtain ⟨w,r,hw,rfl⟩:=Qax hnl
 have hcut2:Lib.cut (w ++ 10 :: r) [10] = (w,r,true):=Qnt hw
 rw [hcut2] at hcut
 rw [Jk hw]
 simp only [List.length_append,List.length_cons] at i2
 have hrv:=Y8 hS hI hA0 hT w (by omega)
 obtain ⟨g1,g2⟩:=Qno (spl 32 w)
 generalize rvOf (spl 32 w) = R at hrv g1 g2
 obtain ⟨v,b⟩:=R
 simp only at g1 g2 hrv
 have ev:=QO v
 cases hlv:V3 (spl 32 w) with
 | none =>
  rw [hlv] at g1
  simp only [Option.isSome_none] at g1
  subst g1
  rw [JO hlv (Qbw 10 r),show rvE (none,o.length) = 26 from rfl,show rvN (none,o.length) = o.length from rfl,JE]
  rw [ev] at hrv
  simp -implicitDefEqProofs (disch:=first|omega|(simp only [go_sem,seval,hb1];first|done|omega)) only [go_sem,seval,hb1]
  refine Qb (QQ (hcut _ (by simp;omega))) ?_
  simp -implicitDefEqProofs (disch:=first|omega|(simp only [go_sem,seval];first|done|omega)) only [go_sem,seval]
  refine Qb (hrv _) ?_
  simp -implicitDefEqProofs (disch:=first|omega|(simp only [go_sem,seval];first|done|omega)) only [go_sem,seval]
  (all_goals (first|refine pfN hM ?_ ?_|refine pf0 hM ?_ ?_);all_goals first|(simp only [go_sem,seval]<;>omega)|skip;all_goals (try simp -implicitDefEqProofs (disch:=first|omega|(simp only [go_sem,seval];first|done|omega)) only [go_sem,seval]))
 | some v' =>
  rw [hlv] at g1
  simp only [Option.isSome_some] at g1
  subst g1
  obtain rfl:=g2 v' hlv
  rw [Jk hw] at i1
  rw [JF hlv (Qbw 10 r)] at i1 ⊢
  have hsn:o.map Qc ++ [.agg [.I v.at_,.I v.ld]] = (o ++ [v]).map Qc:=by rw [List.map_append,← ev];rfl
  have hnn:(o ++ [v]).length = o.length + 1:=by simp
  have hon:(o.map Qc).length = o.length:=by simp
  rw [ev] at hrv
  simp -implicitDefEqProofs (disch:=first|omega|(simp only [go_sem,seval,hb1];first|done|omega)) only [go_sem,seval,hb1]
  refine Qb (QQ (hcut _ (by simp;omega))) ?_
  simp -implicitDefEqProofs (disch:=first|omega|(simp only [go_sem,seval];first|done|omega)) only [go_sem,seval]
  refine Qb (hrv _) ?_
  simp -implicitDefEqProofs (disch:=first|omega|(simp only [go_sem,seval,hT1,hon];first|done|omega)) only [go_sem,seval,hT1,hon]
  refine Qp hM rfl 1 (by simp) (by first|done|(simp only [go_sem,seval,hlo] <;> first|done|(refine ⟨?_,?_⟩ <;> omega)|omega)) (Qu (by first|done|(simp only [go_sem,seval,hlo] <;> first|done|(refine ⟨?_,?_⟩ <;> omega)|omega))) ?_
  simp -implicitDefEqProofs (disch:=first|omega|(simp only [go_sem,seval];first|done|omega)) only [go_sem,seval]
  exact again' (r,o ++ [v]) ⟨rfl,by show (o ++ [v]).length + r.length ≤ _;omega⟩ (by simp;omega) (by show _ = M ++ [Blk.row true 2 (o ++ [v]).length ((o ++ [v]).map Qc)];rw [hnn,← hsn]) (by simp only [hnn])
theorem Qdd (l:List Rev) (hl:l.length ≤ 15000) (hin:∀ r ∈ l,(0 ≤ r.at_ ∧ r.at_ ≤ 39999) ∧ (-32768 ≤ r.ld ∧ r.ld ≤ 32768)):Q X 11 [.fs (l.map Qc)] (.s (.string (Q0 l))):=by
 intro M
 have hsz:=Qd6 hin
 (refine Qd (cf:=L7.c11) rfl rfl fun hM hA => ?_;simp only [L7.c11,zO,zF,zT,zM,CX.i];rw [mk1 _ (by decide)];simp -implicitDefEqProofs (disch:=first|omega|(simp only [go_sem,seval];first|done|omega)) only [go_sem,seval])
 refine Qm (α:=Nat) 0 (fun k => k ≤ l.length) (fun k => M) (fun k => [(0,.fs (l.map Qc)),(3,.s (.string (Q0 (l.take k)))),(4,.I k)]) (fun k => l.length - k) (Nat.zero_le _) rfl rfl ?_
 intro k hk'
 have hkl:=hsz k
 by_cases hlt:k < l.length
 ·obtain ⟨x,h1⟩:∃ x,l[k]? = some x:=⟨_,List.getElem?_eq_getElem hlt⟩
  have hx:=hin x (List.mem_of_getElem? h1)
  obtain ⟨s1,s2,s3,s4⟩:=Qcg hx
  have hp:=Qd1 x
  have hsx:=Qdx (l.take k) x
  have htk:l.take k ++ [x] = l.take (k + 1):=by
   obtain ⟨g1,g2⟩:=List.getElem?_eq_some_iff.1 h1
   rw [List.take_succ_eq_append_getElem g1,g2]
  rw [htk] at hsx
  rw [← hp] at hsx
  have i1:=Qam (X:=X) x.at_ (by omega)
  have i2:=Qam (X:=X) x.ld (by omega)
  have ec:=QO x
  generalize itoaB x.at_ = A at *
  generalize itoaB x.ld = B at *
  generalize Q0 (l.take k) = T at *
  generalize hT2:Q0 (l.take (k + 1)) = T2 at *
  have hsx2:T ++ A ++ (⟨#[32]⟩:ByteArray) ++ B ++ ⟨#[10]⟩ = T2:=by rw [← hsx];simp [ByteArray.append_assoc]
  simp -implicitDefEqProofs (disch:=first|omega|(simp only [go_sem,seval,hlt,h1,Qa,ec];first|done|omega)) only [go_sem,seval,hlt,h1,Qa,ec]
  refine Qb (i1 _) ?_
  simp -implicitDefEqProofs (disch:=first|omega|(simp only [go_sem,seval,hlt,h1,Qa,ec,QH,ByteArray.size_append,sz_sp,sz_nl];first|done|omega)) only [go_sem,seval,hlt,h1,Qa,ec,QH,ByteArray.size_append,sz_sp,sz_nl]
  refine Qb (i2 _) ?_
  simp -implicitDefEqProofs (disch:=first|omega|(simp only [go_sem,seval,QH,ByteArray.size_append,sz_sp,sz_nl,hsx2];first|done|omega)) only [go_sem,seval,QH,ByteArray.size_append,sz_sp,sz_nl,hsx2]
  exact again' (k + 1) (by omega) (by omega) rfl (by rw [hT2];rfl)
 ·have hkk:k = l.length:=by omega
  subst hkk
  rw [List.take_length]
  simp -implicitDefEqProofs (disch:=first|omega|(simp only [go_sem,seval,hlt];first|done|omega)) only [go_sem,seval,hlt]
  (all_goals (first|refine pfN hM ?_ ?_|refine pf0 hM ?_ ?_);all_goals first|(simp only [go_sem,seval]<;>omega)|skip;all_goals (try simp -implicitDefEqProofs (disch:=first|omega|(simp only [go_sem,seval];first|done|omega)) only [go_sem,seval]))
theorem Qgh {w:List (List UInt8)} (h:w.length ≠ 2):V3 w = none:=by
 unfold V3
 split
 ·exact absurd rfl h
 ·rfl
set_option maxHeartbeats 2000000 in
theorem Qc3 (t:List UInt8) (hl:t.length ≤ 100000) :
  Q X 12 [.s (.string ⟨t.toArray⟩)] (.tup [.fs ((rvS (parRv [] (spl 10 t))).map Qc),.I (rvN (parRv [] (spl 10 t))),.I (rvE (parRv [] (spl 10 t)))]):=by
 intro M
 have hz:=QU t
 have f1:((1000000:Int) < t.length) = False:=eq_false (by omega)
 have c10:((10:UInt8).toNat:Int) = 10:=rfl
 have c32:((32:UInt8).toNat:Int) = 32:=rfl
 have hs1:=JY (X:=X) 10 t (by omega)
 rw [c10] at hs1
 obtain ⟨w1,w2⟩:=J7 10 t
 have hne:=Qbw 10 t
 (refine Qd (cf:=L7.c12) rfl rfl fun hM hA => ?_;simp only [L7.c12,zO,zF,zT,zM,CX.i];rw [mk1 _ (by decide)];simp -implicitDefEqProofs (disch:=first|omega|(simp only [go_sem,seval,hz,f1];first|done|omega)) only [go_sem,seval,hz,f1])
 refine Qb (hs1 _) ?_
 generalize spl 10 t = L at w1 w2 hne ⊢
 have hnl:(L.map encW).length = L.length:=by simp
 simp -implicitDefEqProofs (disch:=first|omega|(simp only [go_sem,seval];first|done|omega)) only [go_sem,seval]
 refine Qm (α:=List Rev) [] (fun o => parRv [] L = parRv o (L.drop o.length) ∧ o.length < L.length)
  (fun o => M ++ [.row true 2 o.length (o.map Qc)]) (fun o => [(5,.fs (L.map encW)),(6,.os M.length o.length 0 o.length),(7,.I o.length)]) (fun o => L.length - o.length) ⟨rfl,List.length_pos_iff.2 hne⟩ rfl rfl ?_
 rintro o ⟨i1,i2⟩
 have hT1:(o.map Qc).take o.length = o.map Qc:=List.take_of_length_le (by simp)
 have hlo:∀ n,lowL n (o.map Qc) = True:=fun n => Qe _
 have hlw:∀ n,lowL n (L.map encW) = True:=fun n => Qa8 _
 rw [i1]
 obtain ⟨w,hw⟩:∃ w,L[o.length]? = some w:=⟨_,List.getElem?_eq_getElem i2⟩
 have hdr:L.drop o.length = w :: L.drop (o.length + 1):=by
  obtain ⟨g1,g2⟩:=List.getElem?_eq_some_iff.1 hw
  rw [List.drop_eq_getElem_cons g1,g2]
 have ew:=Z1 w
 by_cases hlast:o.length + 1 = L.length
 ·have fl:((o.length:Int) < (L.length:Int) - 1) = False:=eq_false (by omega)
  have ek:((L.length:Int) - 1) = o.length:=by omega
  have hr0:L.drop (o.length + 1) = []:=List.drop_of_length_le (by omega)
  rw [hdr,hr0,JM]
  have hC2:=Qx (X:=X) o (by omega)
  have hC2':=Ze (X:=X) o (by omega)
  by_cases hr:w = []
  ·subst hr
   rw [if_pos rfl,show rvE (some o,o.length) = Qh o from rfl,show rvN (some o,o.length) = if Qh o = 0 then 0 else o.length from rfl,show rvS (some o,o.length) = if Qh o = 0 then o else [] from rfl]
   have be:bin .neq (.s (.string ⟨([]:List UInt8).toArray⟩)) (.s (.string ⟨#[]⟩)) = some (.B false):=by rw [Yn];simp
   simp -implicitDefEqProofs (disch:=first|omega|(simp only [go_sem,seval,fl,hnl,ek,hw,ew,be,hT1,V5];first|done|omega)) only [go_sem,seval,fl,hnl,ek,hw,ew,be,hT1,V5]
   refine Qb (hC2' _) ?_
   generalize Qh o = ee
   by_cases hz0:ee = 0
   ·subst hz0
    rw [if_pos rfl,if_pos rfl]
    simp -implicitDefEqProofs (disch:=first|omega|(simp only [go_sem,seval];first|done|omega)) only [go_sem,seval]
    (first|refine pfN hM ?_ ?_|refine pf0 hM ?_ ?_)
    ·simp -implicitDefEqProofs (disch:=first|omega|(simp only [go_sem,seval,hT1];first|done|omega)) only [go_sem,seval,hT1]
    ·(simp only [go_sem,seval,hlo]<;>omega)
   ·rw [if_neg hz0,if_neg hz0]
    simp -implicitDefEqProofs (disch:=first|omega|(simp only [go_sem,seval,hz0,hnl,ek];first|done|omega)) only [go_sem,seval,hz0,hnl,ek]
    (all_goals (first|refine pfN hM ?_ ?_|refine pf0 hM ?_ ?_);all_goals first|(simp only [go_sem,seval]<;>omega)|skip;all_goals (try simp -implicitDefEqProofs (disch:=first|omega|(simp only [go_sem,seval];first|done|omega)) only [go_sem,seval]))
  ·have hb1:=(Qfs hr).2
   rw [if_neg hr,show rvE (none,o.length) = 26 from rfl,show rvN (none,o.length) = o.length from rfl,JE]
   simp -implicitDefEqProofs (disch:=first|omega|(simp only [go_sem,seval,fl,hnl,ek,hw,ew,hb1,V5];first|done|omega)) only [go_sem,seval,fl,hnl,ek,hw,ew,hb1,V5]
   (all_goals (first|refine pfN hM ?_ ?_|refine pf0 hM ?_ ?_);all_goals first|(simp only [go_sem,seval]<;>omega)|skip;all_goals (try simp -implicitDefEqProofs (disch:=first|omega|(simp only [go_sem,seval];first|done|omega)) only [go_sem,seval]))
 have fl:((o.length:Int) < (L.length:Int) - 1) = True:=eq_true (by omega)
 have hrn:L.drop (o.length + 1) ≠ []:=by
  intro h
  have:=congrArg List.length h
  simp at this
  omega
 rw [hdr]
 have hwl:=w2 w (List.mem_of_getElem? hw)
 have hs2:=JY (X:=X) 32 w (by omega)
 rw [c32] at hs2
 obtain ⟨v1,v2⟩:=J7 32 w
 simp -implicitDefEqProofs (disch:=first|omega|(simp only [go_sem,seval,fl,hnl,hw,ew,V5];first|done|omega)) only [go_sem,seval,fl,hnl,hw,ew,V5]
 refine Qb (hs2 _) ?_
 cases hlv:V3 (spl 32 w) with
 | none =>
  rw [JO hlv hrn,show rvE (none,o.length) = 26 from rfl,show rvN (none,o.length) = o.length from rfl,JE]
  generalize spl 32 w = ws at hlv v1 v2 ⊢
  by_cases h2:ws.length = 2
  case neg =>
   have f2:((ws.length:Int) = 2) = False:=eq_false (by omega)
   simp -implicitDefEqProofs (disch:=first|omega|(simp only [go_sem,seval,f2];first|done|omega)) only [go_sem,seval,f2]
   (all_goals (first|refine pfN hM ?_ ?_|refine pf0 hM ?_ ?_);all_goals first|(simp only [go_sem,seval]<;>omega)|skip;all_goals (try simp -implicitDefEqProofs (disch:=first|omega|(simp only [go_sem,seval];first|done|omega)) only [go_sem,seval]))
  obtain ⟨a,b,rfl⟩:∃ a b,ws = [a,b]:=by
   match ws,h2 with
   | [a,b],_ => exact ⟨a,b,rfl⟩
  have n1:=VC (X:=X) a (by have:=v2 a (by simp);omega)
  have n2:=VC (X:=X) b (by have:=v2 b (by simp);omega)
  have hlv2:(if (numR a).2 = true ∧ (numR b).2 = true then some (⟨(numR a).1,(numR b).1⟩:Rev) else none) = none:=hlv
  generalize numR a = na at n1 hlv2
  generalize numR b = nb at n2 hlv2
  obtain ⟨a1,a2⟩:=na
  obtain ⟨b1,b2⟩:=nb
  have ea:=Z1 a
  have eb:=Z1 b
  simp -implicitDefEqProofs (disch:=first|omega|(simp only [go_sem,seval,ea,eb];first|done|omega)) only [go_sem,seval,ea,eb]
  refine Qb (n1 _) ?_
  simp -implicitDefEqProofs (disch:=first|omega|(simp only [go_sem,seval];first|done|omega)) only [go_sem,seval]
  refine Qb (n2 _) ?_
  cases a2
  ·simp -implicitDefEqProofs (disch:=first|omega|(simp only [go_sem,seval];first|done|omega)) only [go_sem,seval]
   (all_goals (first|refine pfN hM ?_ ?_|refine pf0 hM ?_ ?_);all_goals first|(simp only [go_sem,seval]<;>omega)|skip;all_goals (try simp -implicitDefEqProofs (disch:=first|omega|(simp only [go_sem,seval];first|done|omega)) only [go_sem,seval]))
  ·cases b2
   ·simp -implicitDefEqProofs (disch:=first|omega|(simp only [go_sem,seval];first|done|omega)) only [go_sem,seval]
    (all_goals (first|refine pfN hM ?_ ?_|refine pf0 hM ?_ ?_);all_goals first|(simp only [go_sem,seval]<;>omega)|skip;all_goals (try simp -implicitDefEqProofs (disch:=first|omega|(simp only [go_sem,seval];first|done|omega)) only [go_sem,seval]))
   ·simp at hlv2
 | some v =>
  rw [JF hlv hrn]
  generalize spl 32 w = ws at hlv v1 v2 ⊢
  obtain ⟨a,b,rfl⟩:∃ a b,ws = [a,b]:=by
   by_cases h2:ws.length = 2
   ·match ws,h2 with
    | [a,b],_ => exact ⟨a,b,rfl⟩
   ·rw [Qgh h2] at hlv;cases hlv
  have n1:=VC (X:=X) a (by have:=v2 a (by simp);omega)
  have n2:=VC (X:=X) b (by have:=v2 b (by simp);omega)
  have hlv2:(if (numR a).2 = true ∧ (numR b).2 = true then some (⟨(numR a).1,(numR b).1⟩:Rev) else none) = some v:=hlv
  split at hlv2
  case isFalse => cases hlv2
  rename_i hab
  cases hlv2
  rw [show numR a = ((numR a).1,true) from Prod.ext rfl hab.1] at n1
  rw [show numR b = ((numR b).1,true) from Prod.ext rfl hab.2] at n2
  simp only at n1 n2
  have ea:=Z1 a
  have eb:=Z1 b
  have hsn:o.map Qc ++ [.agg [.I (numR a).1,.I (numR b).1]] = (o ++ [(⟨(numR a).1,(numR b).1⟩:Rev)]).map Qc:=by rw [List.map_append];rfl
  have hnn:(o ++ [(⟨(numR a).1,(numR b).1⟩:Rev)]).length = o.length + 1:=by simp
  have hon:(o.map Qc).length = o.length:=by simp
  generalize (numR a).1 = na at *
  generalize (numR b).1 = nb at *
  simp -implicitDefEqProofs (disch:=first|omega|(simp only [go_sem,seval,ea,eb];first|done|omega)) only [go_sem,seval,ea,eb]
  refine Qb (n1 _) ?_
  simp -implicitDefEqProofs (disch:=first|omega|(simp only [go_sem,seval];first|done|omega)) only [go_sem,seval]
  refine Qb (n2 _) ?_
  simp -implicitDefEqProofs (disch:=first|omega|(simp only [go_sem,seval,hT1,hon];first|done|omega)) only [go_sem,seval,hT1,hon]
  exact again' (o ++ [(⟨na,nb⟩:Rev)]) ⟨by rw [hnn],by rw [hnn];omega⟩ (by rw [hnn];omega) (by rw [hnn,← hsn]) (by rw [hnn];rfl)
set_option maxHeartbeats 1000000 in
theorem q_law07_LoadTexts (hCp:CopyX X) (hC:CutX X) (hS:SplitX X) (hI:ItoaX X) (hA0:AtoiX X) (hT:TrimX X) (l:List Rev) (b:ByteArray):Q X 3 [.fs (l.map Qc),.s (.string b)] (.B true):=by
 obtain ⟨s,rfl⟩:∃ s:List UInt8,b = ⟨s.toArray⟩:=⟨b.data.toList,(bs_of b).symm⟩
 intro M
 have hz:=QU s
 have hW:=Qde (X:=X)
 have hsh:=QcV (X:=X) (l.map Qc) 20
 rw [List.length_map] at hsh
 by_cases hl:l.length ≤ 20
 case neg =>
  rw [decide_eq_false (show ¬ ((l.length:Int) ≤ 20) by omega)] at hsh
  (refine Qd (cf:=L7.c3) rfl rfl fun hM hA => ?_;simp only [L7.c3,zO,zF,zT,zM,CX.i];rw [mk2 _ (by decide)];simp -implicitDefEqProofs (disch:=first|omega|(simp only [go_sem,seval,hz];first|done|omega)) only [go_sem,seval,hz])
  refine Qb (hW _) ?_
  simp -implicitDefEqProofs (disch:=first|omega|(simp only [go_sem,seval];first|done|omega)) only [go_sem,seval]
  refine Qb (hsh _) ?_
  simp -implicitDefEqProofs (disch:=first|omega|(simp only [go_sem,seval];first|done|omega)) only [go_sem,seval]
  refine Qb (hW _) ?_
  simp -implicitDefEqProofs (disch:=first|omega|(simp only [go_sem,seval];first|done|omega)) only [go_sem,seval]
  (all_goals (first|refine pfN hM ?_ ?_|refine pf0 hM ?_ ?_);all_goals first|(simp only [go_sem,seval]<;>omega)|skip;all_goals (try simp -implicitDefEqProofs (disch:=first|omega|(simp only [go_sem,seval];first|done|omega)) only [go_sem,seval]))
 rw [decide_eq_true (show ((l.length:Int) ≤ 20) by omega)] at hsh
 by_cases hs:s.length ≤ 300
 case neg =>
  have f1:((300:Int) < s.length) = True:=eq_true (by omega)
  (refine Qd (cf:=L7.c3) rfl rfl fun hM hA => ?_;simp only [L7.c3,zO,zF,zT,zM,CX.i];rw [mk2 _ (by decide)];simp -implicitDefEqProofs (disch:=first|omega|(simp only [go_sem,seval,hz];first|done|omega)) only [go_sem,seval,hz])
  refine Qb (hW _) ?_
  simp -implicitDefEqProofs (disch:=first|omega|(simp only [go_sem,seval];first|done|omega)) only [go_sem,seval]
  refine Qb (hsh _) ?_
  simp -implicitDefEqProofs (disch:=first|omega|(simp only [go_sem,seval,hz,f1];first|done|omega)) only [go_sem,seval,hz,f1]
  refine Qb (hW _) ?_
  simp -implicitDefEqProofs (disch:=first|omega|(simp only [go_sem,seval];first|done|omega)) only [go_sem,seval]
  (all_goals (first|refine pfN hM ?_ ?_|refine pf0 hM ?_ ?_);all_goals first|(simp only [go_sem,seval]<;>omega)|skip;all_goals (try simp -implicitDefEqProofs (disch:=first|omega|(simp only [go_sem,seval];first|done|omega)) only [go_sem,seval]))
 have f1:((300:Int) < s.length) = False:=eq_false (by omega)
 have h1:=QeU (X:=X) l (by omega)
 have h2:=QdX (X:=X) hCp hI l (by omega)
 have h3:=Qd3 (X:=X) hC hS hI hA0 hT s (by omega)
 have h4:=Ze (X:=X) l (by omega)
 have h6:=Qc3 (X:=X) s (by omega)
 have hlen:=QjN (spl 10 s) []
 have hsl:=(J7 10 s).1
 simp only [List.length_nil,Nat.zero_add] at hlen
 generalize rvN (parRv [] (spl 10 s)) = pn at *
 generalize rvE (parRv [] (spl 10 s)) = pe at *
 generalize rvS (parRv [] (spl 10 s)) = ps at *
 have h7:=J9 (X:=X) ps (by omega)
 have h8:=Zv (X:=X) ps ps (by omega)
 simp only [decide_true] at h8
 by_cases hc:Qh l = 0
 ·have h5:=Qdd (X:=X) l (by omega) (Qby hc).2
  rw [if_pos hc] at h2
  rw [hc] at h2 h4
  generalize Q0 l = T at *
  have be:bin .eql (.s (.string T)) (.s (.string T)) = some (.B true):=by rw [Qau];simp
  (refine Qd (cf:=L7.c3) rfl rfl fun hM hA => ?_;simp only [L7.c3,zO,zF,zT,zM,CX.i];rw [mk2 _ (by decide)];simp -implicitDefEqProofs (disch:=first|omega|(simp only [go_sem,seval,hz];first|done|omega)) only [go_sem,seval,hz])
  refine Qb (hW _) ?_
  simp -implicitDefEqProofs (disch:=first|omega|(simp only [go_sem,seval];first|done|omega)) only [go_sem,seval]
  refine Qb (hsh _) ?_
  simp -implicitDefEqProofs (disch:=first|omega|(simp only [go_sem,seval,hz,f1];first|done|omega)) only [go_sem,seval,hz,f1]
  refine Qb (h1 _) ?_
  simp -implicitDefEqProofs (disch:=first|omega|(simp only [go_sem,seval];first|done|omega)) only [go_sem,seval]
  refine Qb (h2 _) ?_
  simp -implicitDefEqProofs (disch:=first|omega|(simp only [go_sem,seval];first|done|omega)) only [go_sem,seval]
  refine Qb (h3 _) ?_
  simp -implicitDefEqProofs (disch:=first|omega|(simp only [go_sem,seval];first|done|omega)) only [go_sem,seval]
  refine Qb (h4 _) ?_
  simp -implicitDefEqProofs (disch:=first|omega|(simp only [go_sem,seval];first|done|omega)) only [go_sem,seval]
  refine Qb (h5 _) ?_
  simp -implicitDefEqProofs (disch:=first|omega|(simp only [go_sem,seval];first|done|omega)) only [go_sem,seval]
  refine Qb (h6 _) ?_
  simp -implicitDefEqProofs (disch:=first|omega|(simp only [go_sem,seval,be];first|done|omega)) only [go_sem,seval,be]
  refine Qb (h7 _) ?_
  simp -implicitDefEqProofs (disch:=first|omega|(simp only [go_sem,seval];first|done|omega)) only [go_sem,seval]
  refine Qb (h8 _) ?_
  simp -implicitDefEqProofs (disch:=first|omega|(simp only [go_sem,seval];first|done|omega)) only [go_sem,seval]
  (all_goals (first|refine pfN hM ?_ ?_|refine pf0 hM ?_ ?_);all_goals first|(simp only [go_sem,seval]<;>omega)|skip;all_goals (try simp -implicitDefEqProofs (disch:=first|omega|(simp only [go_sem,seval];first|done|omega)) only [go_sem,seval]))
 ·rw [if_neg hc] at h2
  generalize Qh l = e at *
  have be:bin .eql (.s (.string ⟨#[]⟩)) (.s (.string ⟨#[]⟩)) = some (.B true):=by rw [Qau];simp
  (refine Qd (cf:=L7.c3) rfl rfl fun hM hA => ?_;simp only [L7.c3,zO,zF,zT,zM,CX.i];rw [mk2 _ (by decide)];simp -implicitDefEqProofs (disch:=first|omega|(simp only [go_sem,seval,hz];first|done|omega)) only [go_sem,seval,hz])
  refine Qb (hW _) ?_
  simp -implicitDefEqProofs (disch:=first|omega|(simp only [go_sem,seval];first|done|omega)) only [go_sem,seval]
  refine Qb (hsh _) ?_
  simp -implicitDefEqProofs (disch:=first|omega|(simp only [go_sem,seval,hz,f1];first|done|omega)) only [go_sem,seval,hz,f1]
  refine Qb (h1 _) ?_
  simp -implicitDefEqProofs (disch:=first|omega|(simp only [go_sem,seval];first|done|omega)) only [go_sem,seval]
  refine Qb (h2 _) ?_
  simp -implicitDefEqProofs (disch:=first|omega|(simp only [go_sem,seval];first|done|omega)) only [go_sem,seval]
  refine Qb (h3 _) ?_
  simp -implicitDefEqProofs (disch:=first|omega|(simp only [go_sem,seval];first|done|omega)) only [go_sem,seval]
  refine Qb (h4 _) ?_
  simp -implicitDefEqProofs (disch:=first|omega|(simp only [go_sem,seval,hc];first|done|omega)) only [go_sem,seval,hc]
  refine Qb (h6 _) ?_
  simp -implicitDefEqProofs (disch:=first|omega|(simp only [go_sem,seval,be];first|done|omega)) only [go_sem,seval,be]
  refine Qb (h7 _) ?_
  simp -implicitDefEqProofs (disch:=first|omega|(simp only [go_sem,seval];first|done|omega)) only [go_sem,seval]
  refine Qb (h8 _) ?_
  simp -implicitDefEqProofs (disch:=first|omega|(simp only [go_sem,seval];first|done|omega)) only [go_sem,seval]
  (all_goals (first|refine pfN hM ?_ ?_|refine pf0 hM ?_ ?_);all_goals first|(simp only [go_sem,seval]<;>omega)|skip;all_goals (try simp -implicitDefEqProofs (disch:=first|omega|(simp only [go_sem,seval];first|done|omega)) only [go_sem,seval]))
end
end Go.Nac.L7
