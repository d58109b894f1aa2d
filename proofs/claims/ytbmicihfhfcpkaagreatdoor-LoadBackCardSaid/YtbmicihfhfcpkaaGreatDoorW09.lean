/- Sorting by a comparison, as the shelf's contract has it. -/
import Derived.Test.YtbmicihfhfcpkaaGreatDoorW08
import Derived.Shelf.SlSortCmp.WholeK
import Derived.Shelf.SlSortCmp.NoneTotal
import Derived.Shelf.Strconv.Itoa3
import Derived.Shelf.Strconv.AtoiAll
import Derived.Shelf.Strings.Cut
import Derived.Shelf.Strings.Split
import Derived.Shelf.Strings.Prefix
import Derived.Shelf.Strings.OnBuilder
import Derived.Shelf.Bytes.SlSmallAll
import Derived.LaidMore
import Derived.ChangeArms
import Derived.OpenShut
import Derived.Shelf.Strings.Builder1
import Derived.Lib.ItoaLen
set_option linter.unusedVariables false
set_option linter.unusedSectionVars false
namespace Go.Nac
open Go.Shelf Go.Sort Go.Proofs Go.RowKit
section
variable {α:Type} [Inhabited α]
variable [Env] {P:Program} {M:List Blk}
def encV (enc:α → List Value) (x:α):PV:=.agg ((enc x).map .s)
def CmpAt (P:Program) (g:FuncId) (enc:α → List Value) (cf:α → α → Int):Prop :=
 ∀ (W:World) (x y:α),Calls P g #[.agg (enc x).toArray,.agg (enc y).toArray] W fun e W' => e = .returned (.int .i64 (cf x y)) ∧ Below W.heap.size W W' ∧ W.drawn ≤ W'.drawn
def srtL (cf:α → α → Int) (d:List α):List α:=(pdq (ltOf cf) d.toArray 0 d.length (Lib.bitLen d.length) true true).toList
end
end Go.Nac
namespace Go.Nac
open Go.RowKit
abbrev env0:Env:=⟨fun _ => none,True⟩
end Go.Nac
namespace Go.Nac
open Go.Shelf Go.Sort Go.Proofs Go.RowKit
variable [Env] {P:Program} {ρ:Ren} {M:List Blk}
abbrev PV.S (l:List UInt8):PV:=.s (.string ⟨l.toArray⟩)
theorem JG {L:Loc} {w:World} (S:Sim (RO P) M L w) {g:Nat} {cs:List Value} (h:Env.glb g = some cs) (i:Nat):w.cell? ⟨g,i,none⟩ = cs[i]?:=by
 obtain ⟨⟨el,h1⟩,_⟩:=S.env g cs h
 simp [World.cell?,h1]
theorem QmF {L:Loc} {w:World} (S:Sim (RO P) M L w) {g:Nat} {k:IntKind} {zs:List Int} {n:String} (hn:P.globalNamed n = some g) (h:Env.glb g = some (zs.map (.int k))):Lib.TabIs P w n k zs:=by
 obtain ⟨⟨el,h1⟩,_⟩:=S.env g _ h
 simp [Lib.TabIs,World.var?,hn,h1]
theorem QmU {L:Loc} {w:World} {s:ByteArray} {cargs:Array Value} (A:LRel M L w [.s (.string s)] cargs.toList):cargs = #[.string s]:=by
 obtain ⟨cargs⟩:=cargs
 cases A with|cons _ v _ vs h hs => cases hs;rw [h.s_inv]
theorem Qcf {L:Loc} {w:World} {s t:ByteArray} {cargs:Array Value} (A:LRel M L w [.s (.string s),.s (.string t)] cargs.toList):cargs = #[.string s,.string t]:=by
 obtain ⟨cargs⟩:=cargs
 cases A with|cons _ v _ vs h hs => cases hs with|cons _ v' _ vs' h' hs' => cases hs';rw [h.s_inv,h'.s_inv]
theorem Qhn (Ls : LaysM.n171 P ρ) {f : FuncId} (hf : f = ρ.f 171) (he : ∀ args w, (callFunc f args).run P w = .ok (.enter f args) w) {g : Nat} (hn : P.globalNamed "internal/strconv.uint64pow10" = some g) (hg : Env.glb g = some (Lib.pow10Tab.map (.int .u64))) {n : Int} (h0 : -9223372036854775808 ≤ n) (h1 : n ≤ 9223372036854775807) :
    Conc P (.fn f) [.I n] M (.S (Lib.itoa n)) M:=by
  refine Yb fun L w cargs S A => ?_
  subst hf
  obtain ⟨cargs⟩:=cargs
  cases A with|cons _ v _ vs h hs =>
  cases hs
  have hv:=h.s_inv
  subst hv
  refine ⟨he _ _,(Any.strconv_Itoa Ls n h0 h1 w (QmF S hn hg)).mono ?_⟩
  rintro e w' ⟨rfl,k,os,rfl⟩
  exact ⟨_,rfl,Qgg w k os,fun _ => Nat.le_add_right _ _,.s _ rfl⟩
theorem QjE (Ls:Lays.n145 P ρ) {f:FuncId} (hf:f = ρ.f 145) (he:∀ args w,(callFunc f args).run P w = .ok (.enter f args) w) {m:Int} (hg:Env.glb (ρ.g 1) = some [.int .i64 m]) {s sep:ByteArray} (hs:s.size < 4294967281) :
  Conc P (.fn f) [.s (.string s),.s (.string sep)] M (.tup [.S (Lib.cut s.data.toList sep.data.toList).1,.S (Lib.cut s.data.toList sep.data.toList).2.1,.B (Lib.cut s.data.toList sep.data.toList).2.2]) M:=by
 refine Yb fun L w cargs S A => ?_
 subst hf
 have:=Qcf A
 subst this
 refine ⟨he _ _,(Any.strings_Cut Ls s sep m w hs (JG S hg 0)).mono ?_⟩
 rintro e w' ⟨rfl,n,rfl⟩
 exact ⟨_,rfl,Qg3 _ w n,fun _ => Nat.le_add_right _ _,.tup _ _ (.cons _ _ _ _ (.s _ rfl) (.cons _ _ _ _ (.s _ rfl) (.cons _ _ _ _ (.s _ rfl) .nil)))⟩
theorem Qa0 (h:Array Obj) (o:Obj) {k:Nat} (hk:k < h.size):(h.push o)[k]? = h[k]?:=by
 rw [Array.getElem?_push,if_neg (Nat.ne_of_lt hk)]
theorem Qle {L:Loc} {w:World} (l:List ByteArray):LRel M L w ((l.map fun s => PV.s (.string s)).flatMap PV.cells) (l.map Value.string):=by
 induction l with
 | nil => exact .nil
 | cons x l ih => exact .cons _ _ _ _ (.s _ rfl) ih
theorem Qgf (Ls:Lays.n146 P ρ) {f:FuncId} (hf:f = ρ.f 146) (he:∀ args w,(callFunc f args).run P w = .ok (.enter f args) w) {m:Int} (hg:Env.glb (ρ.g 1) = some [.int .i64 m]) (hi9:(P.info? (ρ.t 9)).map (fun i => (i.zero,i.size,i.bytes)) = some (some (.string ByteArray.empty),1,16))
  {s sep:ByteArray} (hs:s.size < 4294967281) (h1:1 ≤ sep.size) (hlen:(Lib.splitB sep 0 (Lib.countB s sep) s).length = Lib.countB s sep + 1) :
  Conc P (.fn f) [.s (.string s),.s (.string sep)] M (.fs ((Lib.splitB sep 0 (Lib.countB s sep) s).map fun x => .s (.string x))) M:=by
 refine Yb fun L w cargs S A => ?_
 subst hf
 have:=Qcf A
 subst this
 refine ⟨he _ _,(Any.strings_Split Ls hi9 s sep m w hs (JG S hg 0) h1).mono ?_⟩
 rintro e w' ⟨rfl,rfl⟩
 refine ⟨_,rfl,⟨rfl,rfl,rfl,by simp,fun k hk => Qa0 _ _ hk⟩,fun _ => Nat.le_refl _,?_⟩
 refine Qf2 S (k:=1) (by simp [hlen]) (by simp [hlen]) (fun x hx => by obtain ⟨y,_,rfl⟩:=List.mem_map.1 hx;rfl) (Qle _) (Nat.le_refl _) (by simp) fun m v hv => ?_
 show (match (w.heap.push _)[w.heap.size]? with|some (.cells c _ _) => _|_ => _) = _
 rw [Array.getElem?_push_size]
 show (Array.mk _)[0 + m]? = _
 simpa using hv
theorem Qih (Ls:Lays.n101 P ρ) {f:FuncId} (hf:f = ρ.f 101) (he:∀ args w,(callFunc f args).run P w = .ok (.enter f args) w) {s p:ByteArray}:Conc P (.fn f) [.s (.string s),.s (.string p)] M (.S (Lib.trimPrefix s.data.toList p.data.toList)) M:=by
 refine Yb fun L w cargs S A => ?_
 subst hf
 have:=Qcf A
 subst this
 refine ⟨he _ _,(Any.strings_TrimPrefix Ls s p w).mono ?_⟩
 rintro e w' ⟨rfl,rfl⟩
 exact ⟨_,rfl,Qb6 _ _,fun _ => Nat.le_refl _,.s _ rfl⟩
end Go.Nac
namespace Go.Nac
open Go.Shelf Go.Sort Go.Proofs Go.RowKit
variable [Env] {P:Program} {ρ:Ren} {M:List Blk}
def atoiV (s:ByteArray):PV :=
 match Lib.atoiAll s.data.toList with
 | .ok v => .tup [.I v,.s .nilIface]
 | .range => .tup [.I (Lib.atoiSat s.data.toList),.err]
 | _ => .tup [.I 0,.err]
theorem Qfo (w:World) (e:TypeId) (s:ByteArray):Below w.heap.size w (Lib.bytesWorld w e s):=by
 unfold Lib.bytesWorld World.freeze
 split
 ·exact ⟨rfl,rfl,rfl,by simp,fun k hk => Qa0 _ _ hk⟩
 ·refine ⟨rfl,rfl,rfl,by simp,fun k hk => ?_⟩
  show ((w.heap.push _).modify w.heap.size _)[k]? = _
  rw [Array.getElem?_modify,if_neg (Nat.ne_of_gt hk)]
  exact Qa0 _ _ hk
theorem Qjb (Ls:LaysC.n172 P ρ) (hm:¬ Env.mono) {f:FuncId} (hf:f = ρ.f 172) (he:∀ args w,(callFunc f args).run P w = .ok (.enter f args) w) {t1 t2:TypeId} {v1 v2:Value} (hg1:Env.glb (ρ.g 15) = some [.iface t1 v1]) (hg2:Env.glb (ρ.g 16) = some [.iface t2 v2]) {s:ByteArray} (hs:s.size ≤ 281474976710656) :
  Conc P (.fn f) [.s (.string s)] M (atoiV s) M:=by
 refine Yb fun L w cargs S A => ?_
 subst hf
 have:=QmU A
 subst this
 refine ⟨he _ _,?_⟩
 unfold atoiV
 cases h:Lib.atoiAll s.data.toList
 ·rename_i v
  refine (Any.strconv_Atoi_ok Ls s (by omega) v h w).mono ?_
  rintro e w' ⟨rfl,rfl|⟨t,rfl⟩⟩
  ·exact ⟨_,rfl,Qb6 _ _,fun _ => Nat.le_refl _,.tup _ _ (.cons _ _ _ _ (.s _ rfl) (.cons _ _ _ _ (.s _ rfl) .nil))⟩
  ·exact ⟨_,rfl,Qfo _ _ _,fun m => absurd m hm,.tup _ _ (.cons _ _ _ _ (.s _ rfl) (.cons _ _ _ _ (.s _ rfl) .nil))⟩
 ·refine (Any.strconv_Atoi_syntax Ls s hs h _ w (JG S hg1 0) (.inr ⟨_,_,rfl⟩)).mono ?_
  rintro e w' ⟨N,rfl,_,_,hb⟩
  exact ⟨_,rfl,hb,fun m => absurd m hm,.tup _ _ (.cons _ _ _ _ (.s _ rfl) (.cons _ _ _ _ (.err _ _) .nil))⟩
 ·refine (Any.strconv_Atoi_range Ls s hs h _ w (JG S hg2 0) (.inr ⟨_,_,rfl⟩)).mono ?_
  rintro e w' ⟨N,rfl,_,_,hb⟩
  exact ⟨_,rfl,hb,fun m => absurd m hm,.tup _ _ (.cons _ _ _ _ (.s _ rfl) (.cons _ _ _ _ (.err _ _) .nil))⟩
end Go.Nac
namespace Go.Nac
section
variable [Env]
end
theorem QnQ {H:Type} {enc:TypeId × Value → H} {P:Program} {W:World} {t:TypeId} {k:IntKind} {held:Bool} {m:Nat} {cs:List Value} {z:Int} {q:List MemPlace} {x:DataW H × List MemPlace} (ht:P.underlying t = some (.int k))
  (h:DataW.trod enc P W 0 (fun _ => true) held m t cs = some x) (hx:x.1 = .lit (.int k z)):cs = [.int k z]:=by
 obtain ⟨n,h1,h2,_⟩:=DataW.trod_int ht h
 rw [h2] at hx
 cases hx
 exact h1
theorem Qjh {H:Type} {enc:TypeId × Value → H} {P:Program} {W:World} {t e:TypeId} {n:Nat} {k:IntKind} {held:Bool} {fuel:Nat} {cs:List Value} {zs:List Int} {p:List MemPlace} (ht:P.underlying t = some (.array n e)) (he:P.underlying e = some (.int k))
  (hc:P.cellsOf e = 1) (hct:P.cellsOf t = n) (hz:zs.length = n) (h:DataW.trod enc P W 0 (fun _ => true) held fuel t cs = some (.agg (zs.map fun z => .lit (.int k z)),p)):cs = zs.map (.int k):=by
 obtain ⟨xs,m,_,hx,hl,hxl,hel⟩:=DataW.trod_array ht h
 rw [hc] at hel
 simp only [Prod.mk.injEq,DataW.agg.injEq] at hx
 apply List.ext_getElem?
 intro i
 rcases Nat.lt_or_ge i n with hi|hi
 ·have h1:=hel i hi
  obtain ⟨x,hx2⟩:∃ x,xs[i]? = some x:=⟨_,List.getElem?_eq_getElem (by omega)⟩
  rw [hx2] at h1
  have h2:x.1 = .lit (.int k (zs[i]'(by omega))):=by
   have h3:=congrArg (·[i]?) hx.1
   simp only [List.getElem?_map,hx2,List.getElem?_eq_getElem (show i < zs.length by omega),Option.map_some,Option.some.injEq] at h3
   exact h3.symm
  have h4:=QnQ (q:=[]) he h1 h2
  have h5:cs[i]? = some (.int k (zs[i]'(by omega))):=by
   rw [Nat.mul_one] at h4
   have h6:((cs.drop i).take 1)[0]? = some (.int k (zs[i]'(by omega))):=by rw [h4];rfl
   rw [List.getElem?_take_of_lt (by decide),List.getElem?_drop] at h6
   simpa using h6
  rw [h5,List.getElem?_map,List.getElem?_eq_getElem (show i < zs.length by omega)];rfl
 ·rw [List.getElem?_eq_none (by omega),List.getElem?_eq_none (by simp;omega)]
theorem Qa4 {P:Program} {W:World} {name:String} {g:Nat} {cs:Array Value} (hg:P.globalNamed name = some g) (hv:W.var? P name = some cs) (hc:∃ c t,W.heap[g]? = some (.cells c t (0,0))):∃ el,W.heap[g]? = some (.cells cs el (0,0)):=by
 obtain ⟨c,t,hc⟩:=hc
 unfold World.var? at hv
 rw [hg] at hv
 simp only [Option.bind_some,hc,Option.some.injEq] at hv
 subst hv
 exact ⟨t,hc⟩
end Go.Nac
namespace Go.Nac
end Go.Nac
namespace Go.Nac
open Go.Shelf Go.Proofs Go.RowKit
variable [Env] {P:Program} {ρ:Ren} {M:List Blk}
theorem Qjj {α:Type} {l:List α} {i:Nat} {x:α} (h:l[i]? = some x):l.set i x = l:=by
 obtain ⟨hlt,hget⟩:=List.getElem?_eq_some_iff.1 h
 rw [← hget];exact List.set_getElem_self hlt
theorem QhW (Ls:Lays.n240 P ρ) (X:Builder.X72 P ρ) {f:FuncId} (hf:f = ρ.f 240) (he:∀ args w,(callFunc f args).run P w = .ok (.enter f args) w) {i ver:Nat} {T:TypeId} (hT:T = ρ.t 72) {p s:PV}
  (hi:M[i]? = some (.row true 2 ver [.agg [p,s]])) (hp:p = .s (.pointer none) ∨ p = .bp i ver T):Conc P (.fn f) [.bp i ver T] M (.tup []) (M.set i (.row true 2 ver [.agg [.bp i ver T,s]])):=by
 intro L w cargs S A
 subst hf
 subst hT
 obtain ⟨cargs⟩:=cargs
 cases A with|cons _ v _ vs h hs =>
 cases hs
 obtain ⟨b,cc,rfl,hx,hL,hr,hsz⟩:=h.bp_live hi
 obtain ⟨hk1,c',el,us,g1,g2,g3,g4⟩:=Q8 S hi hL
 obtain ⟨rfl,_⟩:=hr.uniq g1
 have g2':LRel M L w [p,s] us:=by simpa [PV.cells] using g2
 cases g2' with|cons _ v0 _ us' h0 hs0 =>
 cases hs0 with|cons _ v1 _ us'' h1 hs1 =>
 cases hs1
 have c0:w.cell? ⟨b,0,none⟩ = some v0:=by have:=g4 0 v0 rfl;simpa using this
 left
 refine ⟨he _ _,?_⟩
 rcases hp with rfl|rfl
 ·have hv0:=h0.s_inv
  subst hv0
  obtain ⟨z,hbz,hz⟩:=hr
  have hsh:w.shape? b = some (ρ.t 72,2):=by simp [World.shape?,hbz,hsz]
  have hfz:w.frozen? ⟨b,0,none⟩ = false:=RowAt.unfrozen ⟨z,hbz,hz⟩ (by omega)
  refine (Any.Builder_copyCheck_fresh Ls X b w c0 hsh hfz).mono ?_
  rintro e w' ⟨rfl,rfl⟩
  have hw':∀ b',b' ≠ b → (w.setCell ⟨b,0,none⟩ (.pointer (some ⟨b,0,none⟩))).heap[b']? = w.heap[b']?:=by
   intro b' hb'
   simp only [World.setCell,Array.getElem?_modify]
   rw [if_neg (fun e => hb' e.symm)]
  have hwb:(w.setCell ⟨b,0,none⟩ (.pointer (some ⟨b,0,none⟩))).heap[b]? = some (.cells (cc.setIfInBounds 0 (.pointer (some ⟨b,0,none⟩))) (ρ.t 72) z):=by
   simp [World.setCell,Array.getElem?_modify,hbz]
  have hrow':RowAt (w.setCell ⟨b,0,none⟩ (.pointer (some ⟨b,0,none⟩))) b (cc.setIfInBounds 0 (.pointer (some ⟨b,0,none⟩))) (ρ.t 72):=⟨z,hwb,hz.size (by simp)⟩
  have hr:RowAt w b cc (ρ.t 72):=⟨z,hbz,hz⟩
  have hlt:i < M.length:=(List.getElem?_eq_some_iff.1 hi).1
  obtain ⟨E,S'⟩:=Ye S (ver':=ver) (o':=0) (xs':=[.agg [.bp i ver (ρ.t 72),s]]) hi hL hr (w':=w.setCell ⟨b,0,none⟩ (.pointer (some ⟨b,0,none⟩))) ⟨rfl,rfl,rfl,Nat.le_refl _⟩ hrow' hw' (by simp [World.setCell]) (by simp) (.inr ⟨rfl,rfl,rfl⟩)
   (by simp [PV.cells]) (vs:=[.pointer (some ⟨b,0,none⟩),v1]) (by
    simp only [List.flatMap_cons,List.flatMap_nil,List.append_nil,PV.cells]
    exact .cons _ _ _ _ h (.cons _ _ _ _ h1 .nil)) (fun m v hm => by
    rcases m with _|_|m
    ·simp at hm;subst hm
     have:0 < cc.size:=by omega
     simp [this]
    ·have:=g3 1 v1 rfl
     simp at hm;subst hm
     simp only [Array.getElem?_setIfInBounds]
     rw [if_neg (by omega)]
     simpa using this
    ·simp at hm)
  exact ⟨_,E,S',.tup _ _ .nil⟩
 ·have h00:=h0
  obtain ⟨b2,cc2,rfl,_,hL2,_,_⟩:=h0.bp_live hi
  obtain rfl:b = b2:=by rw [hL] at hL2;cases hL2;rfl
  refine (Any.Builder_copyCheck_used Ls X b w c0).mono ?_
  rintro e w' ⟨rfl,rfl⟩
  rw [Qjj hi]
  exact ⟨L,Evo.refl _ _ _,S,.tup _ _ .nil⟩
end Go.Nac
namespace Go.Nac
open Go.Sort
instance:Inhabited Spn:=⟨⟨0,0⟩⟩
def spnV (x:Spn):List Value:=[.int .i64 x.fr,.int .i64 x.to_]
def Qpd (x y:Spn):Int:=if x.fr < y.fr then -1 else if y.fr < x.fr then 1 else 0
def QlK (o:List Spn) (s:Spn):List Spn :=
 match o[o.length - 1]? with
 | some p => if s.fr ≤ p.to_ then o.set (o.length - 1) ⟨p.fr,max p.to_ s.to_⟩ else o ++ [s]
 | none => [s]
def Qju (l:List Spn):List Spn:=l.foldl QlK []
def QmQ (l:List Spn):List Spn:=Qju (srtL Qpd l)
end Go.Nac
namespace Go.Nac
def mrow (N:Nat) (c:Nat → Int) (w:Int) (g:Nat → Bool):List PV:=(List.range N).map fun t => PV.I (c t + if g t = true then w else 0)
def gapN (l:List Spn) (t:Nat):Bool:=gapAt l (t:Int)
def mG (l:List Spn) (k:Nat) (x:Spn) (j:Nat) (t:Nat):Bool:=gapAt (l.take k) t || decide (x.fr ≤ (t:Int) ∧ (t:Int) < (j:Int))
def andI (a b:Int):Int:=IntKind.i64.wrap ((BitVec.ofInt 64 a &&& BitVec.ofInt 64 b).toNat:Nat)
def mark2 (a b:List Spn) (t:Nat):Int:=(if gapAt a t = true then 1 else 0) + if gapAt b t = true then 2 else 0
def Qlt (p:Nat → Bool) (s:List Spn × Int) (t:Nat):List Spn × Int :=
 if p t = true ∧ s.2 < 0 then (s.1,t) else if p t = false ∧ 0 ≤ s.2 then (s.1 ++ [⟨s.2,t⟩],-1) else s
def QoF (p:Nat → Bool) (n:Nat):List Spn × Int:=(List.range n).foldl (Qlt p) ([],-1)
def QpD (p:Nat → Bool):List Spn:=(QoF p 40001).1
def QpO (want:List Int) (a b:List Spn) (t:Nat):Bool:=decide (¬ mark2 a b t = 0) && decide (mark2 a b t ∈ want)
end Go.Nac
namespace Go.Nac
def QnD (s:List Spn × Int) (x:Spn):List Spn × Int:=(if s.2 < x.fr then s.1 ++ [⟨s.2,x.fr⟩] else s.1,x.to_)
def othTo (l:List Spn):List Spn × Int:=l.foldl QnD ([],0)
def Qkq (l:List Spn):List Spn:=if (othTo l).2 < 40000 then (othTo l).1 ++ [⟨(othTo l).2,40000⟩] else (othTo l).1
def meetN:Nat → List Spn → List Spn → List Spn
 | n + 1,x :: a,y :: b => (if max x.fr y.fr < min x.to_ y.to_ then [⟨max x.fr y.fr,min x.to_ y.to_⟩] else []) ++ if x.to_ < y.to_ then meetN n a (y :: b) else meetN n (x :: a) b
 | _,_,_ => []
def QnV (a b:List Spn):List Spn:=meetN (a.length + b.length) a b
end Go.Nac
namespace Go.Nac
def spOk (l:List Spn):Prop:=∀ x ∈ l,0 ≤ x.fr ∧ x.fr < x.to_ ∧ x.to_ ≤ 40000
def totOf (l:List Spn):Int:=l.foldl (fun s x => s + (x.to_ - x.fr)) 0
def QpG (f:List Spn → List Spn → List Spn) (a b:List Spn):List Spn × Int :=
 if fst0 [Zr a,Zr b] = 0 then (if 1024 < (f a b).length then ([],5) else (f a b,0)) else ([],fst0 [Zr a,Zr b])
def Qpv (c:List Spn) (e w:Int) (v:List Spn):Bool :=
 if w = 0 then (if 1024 < v.length then decide (c = []) && decide (e = 5) else decide (e = 0) && decide (c = v)) else decide (c = []) && decide (e = w)
def QpB (a b:List Spn):List Spn:=QmQ (a ++ b)
def QpA (a b:List Spn):List Spn:=QnV a (Qkq b)
end Go.Nac
namespace Go.Nac
structure Tb where
 name:ByteArray
 x:Int
 y:Int
 deriving DecidableEq
def encTb (t:Tb):PV:=.agg [.s (.string t.name),.I t.x,.I t.y]
structure Ste where
 name:ByteArray
 least:Int
 tbs:List Tb
def QpJ (s:Ste):PV:=.agg [.s (.string s.name),.I s.least,.fs (s.tbs.map encTb)]
def zSte:PV:=.agg [.s (.string ⟨#[]⟩),.I 0,.s (.slice none 0 0)]
structure Pt where
 x:Int
 y:Int
 deriving DecidableEq
def encPt (p:Pt):PV:=.agg [.I p.x,.I p.y]
def Tb.at_ (t:Tb):Pt:=⟨t.x,t.y⟩
def Qd5 (a b:Pt):Int:=(a.x - b.x) * (a.x - b.x) + (a.y - b.y) * (a.y - b.y)
def ptE (p:Pt):Int:=fst0 [rng p.x (-1000) 1000,rng p.y (-1000) 1000]
def ptIn (p:Pt):Prop:=-1000 ≤ p.x ∧ p.x ≤ 1000 ∧ -1000 ≤ p.y ∧ p.y ≤ 1000
def ptW (p:Pt):Prop:=-100000 ≤ p.x ∧ p.x ≤ 100000 ∧ -100000 ≤ p.y ∧ p.y ≤ 100000
def tbE (least:Int) (pre:List Tb) (t:Tb):Int :=
 fst0 [if Qbl t.name = false then 8 else 0,ptE t.at_,if pre.any (fun o => decide (o.name = t.name)) = true then 9 else 0,if pre.any (fun o => decide (Qd5 t.at_ o.at_ < least * least)) = true then 15 else 0]
def tbL (least:Int) (l:List Tb):List Int:=l.zipIdx.map fun p => tbE least (l.take p.2) p.1
def Qb8 (s:Ste):Int :=
 if Qbl s.name = false then 8 else if ¬ rng s.least 1 1000 = 0 then 3 else if 64 < s.tbs.length then 5 else fst0 (tbL s.least s.tbs)
def tbsIn (least:Int) (l:List Tb) (k:Nat):Prop:=∀ (i:Nat) (t:Tb),i < k → l[i]? = some t → tbE least (l.take i) t = 0
def QpF (l:List Tb):List (Value × Value):=l.map fun t => (.string t.name,.bool true)
theorem QoV (a b:ByteArray):(a == b) = decide (a = b):=by
 cases a with|mk x => cases b with|mk y =>
 have h:((ByteArray.mk x) == (ByteArray.mk y)) = (x == y):=rfl
 rw [h,Bool.eq_iff_iff]
 simp
theorem Qb3 (a b:ByteArray):(a.toList == b.toList) = decide (a = b):=by
 rw [ByteArray.toList_eq,ByteArray.toList_eq,← QoV]
 obtain ⟨⟨x⟩⟩:=a
 obtain ⟨⟨y⟩⟩:=b
 show (x == y) = ((⟨x⟩:Array UInt8) == ⟨y⟩)
 simp
theorem QhT {a b:ByteArray}:bin .eql (.s (.string a)) (.s (.string b)) = some (.B (decide (a = b))):=by
 simp only [bin,YQ,Option.map_some,Qb3]
theorem Yc {a b:ByteArray}:bin .neq (.s (.string a)) (.s (.string b)) = some (.B (decide (¬ a = b))):=by
 simp only [bin,YQ,Option.map_some,Qb3,decide_not]
end Go.Nac
namespace Go.Nac
def tb0:Tb:=⟨⟨#[]⟩,0,0⟩
def nearK (x:Tb) (m:Int) (l:List Tb):Int:=l.foldl (fun m o => min m (Qd5 x.at_ o.at_)) m
def spcTo (l:List Tb):Nat → Int
 | 0 => Qd5 (l.getD 0 tb0).at_ (l.getD 1 tb0).at_
 | k + 1 => nearK (l.getD k tb0) (spcTo l k) (l.take k)
def spcOf (l:List Tb):Int:=spcTo l l.length
def spcE (s:Ste):Int:=fst0 [Qb8 s,if s.tbs.length < 2 then 7 else 0]
def trnN:Nat → Pt → Pt
 | 0,p => p
 | n + 1,p => ⟨(trnN n p).y,-(trnN n p).x⟩
def mvT (f:Pt → Pt) (t:Tb):Tb:=⟨t.name,(f t.at_).x,(f t.at_).y⟩
def mvK (f:Pt → Pt) (l:List Tb) (k:Nat):List Tb:=(l.take k).map (mvT f) ++ l.drop k
end Go.Nac
namespace Go.Nac
abbrev bs (l:List UInt8):ByteArray:=⟨l.toArray⟩
def itoaB (n:Int):ByteArray:=⟨(Lib.itoa n).toArray⟩
def tbTxt (t:Tb):ByteArray:=(((((⟨#[116,117,114,98,105,110,101,32]⟩:ByteArray) ++ t.name) ++ ⟨#[32]⟩) ++ itoaB t.x) ++ ⟨#[32]⟩) ++ itoaB t.y ++ ⟨#[10]⟩
def joinB (l:List ByteArray):ByteArray:=⟨(Lib.join (l.map (·.data.toList)) []).toArray⟩
def QpN (s:Ste):ByteArray:=((((⟨#[115,105,116,101,32]⟩:ByteArray) ++ s.name) ++ ⟨#[32]⟩) ++ itoaB s.least ++ ⟨#[10]⟩) ++ joinB (s.tbs.map tbTxt)
theorem VY {a b:ByteArray} (h:a.size + b.size ≤ 1099511627776):bin .add (.s (.string a)) (.s (.string b)) = some (.s (.string (a ++ b))):=by
 simp only [bin,YQ]
 rw [if_pos (by omega)];rfl
end Go.Nac
namespace Go.Nac
def spl (c:UInt8):List UInt8 → List (List UInt8)
 | [] => [[]]
 | x :: r => if x = c then [] :: spl c r else match spl c r with
  | h :: t => (x :: h) :: t
  | [] => [[x]]
theorem Qae (c:UInt8) (l:List UInt8):spl c l ≠ []:=by
 cases l with
 | nil => simp [spl]
 | cons x r =>
  unfold spl
  split
  ·simp
  ·split <;> simp
theorem YN {c:UInt8}:∀ {w:List UInt8},c ∉ w → spl c w = [w]
 | [],_ => rfl
 | x :: r,h => by
  simp only [List.mem_cons,not_or] at h
  unfold spl
  rw [if_neg (fun e => h.1 e.symm),YN h.2]
theorem YC {c:UInt8} {r:List UInt8}:∀ {w:List UInt8},c ∉ w → spl c (w ++ c :: r) = w :: spl c r
 | [],_ => by simp [spl]
 | x :: w,h => by
  simp only [List.mem_cons,not_or] at h
  rw [List.cons_append,spl,if_neg (fun e => h.1 e.symm),YC h.2]
theorem Qay {c:UInt8}:∀ {l:List UInt8},c ∈ l → ∃ w r,c ∉ w ∧ l = w ++ c :: r
 | x :: l,h => by
  by_cases hx:x = c
  ·exact ⟨[],l,by simp,by rw [hx];rfl⟩
  ·have:c ∈ l:=by
    rcases List.mem_cons.1 h with rfl|h
    ·exact absurd rfl hx
    ·exact h
   obtain ⟨w,r,h1,h2⟩:=Qay this
   exact ⟨x :: w,r,by simp [h1];exact fun e => hx e.symm,by rw [h2];rfl⟩
theorem ZK {c:UInt8}:∀ {w:List UInt8},c ∉ w → Lib.indexByte w c = -1
 | [],_ => rfl
 | x :: r,h => by
  simp only [List.mem_cons,not_or] at h
  unfold Lib.indexByte
  rw [if_neg (by simpa using fun e => h.1 (e:x = c).symm),ZK h.2];rfl
theorem Z2 {c:UInt8} {r:List UInt8}:∀ {w:List UInt8},c ∉ w → Lib.indexByte (w ++ c :: r) c = w.length
 | [],_ => by simp [Lib.indexByte]
 | x :: w,h => by
  simp only [List.mem_cons,not_or] at h
  rw [List.cons_append]
  unfold Lib.indexByte
  rw [if_neg (by simpa using fun e => h.1 (e:x = c).symm),Z2 h.2,if_neg (by simp)]
  simp
theorem Qkm {c:UInt8} {l:List UInt8} (h:c ∉ l):Lib.cut l [c] = (l,[],false):=by
 unfold Lib.cut
 rw [Lib.index_one,ZK h];rfl
theorem QmK {c:UInt8} {w r:List UInt8} (h:c ∉ w):Lib.cut (w ++ c :: r) [c] = (w,r,true):=by
 unfold Lib.cut
 rw [Lib.index_one,Z2 h,if_pos (by omega)]
 simp
theorem Qf5 {c:UInt8} {l:List UInt8} (h:c ∉ l):∀ n,Lib.countFrom [c] n l = 0
 | 0 => rfl
 | n + 1 => by unfold Lib.countFrom;rw [Lib.index_one,ZK h];rfl
theorem QcZ (c:UInt8):∀ (n:Nat) (l:List UInt8) (k f:Nat),l.length ≤ n → l.length < f → Lib.countFrom [c] f l ≤ k → Lib.splitK [c] 0 k l = spl c l ∧ (spl c l).length = Lib.countFrom [c] f l + 1
 | n,l,k,f,hn,hf,hk => by
  by_cases h:c ∈ l
  ·obtain ⟨w,r,h1,rfl⟩:=Qay h
   obtain ⟨f,rfl⟩:∃ g,f = g + 1:=⟨f - 1,by omega⟩
   have hc:Lib.countFrom [c] (f + 1) (w ++ c :: r) = 1 + Lib.countFrom [c] f r:=by
    rw [Lib.countFrom,Lib.index_one,Z2 h1,if_neg (by simp)]
    congr 2
    simp
   simp only [List.length_append,List.length_cons] at hn hf
   cases n with
   | zero => omega
   | succ n =>
   rw [hc] at hk ⊢
   obtain ⟨k,rfl⟩:∃ g,k = g + 1:=⟨k - 1,by omega⟩
   obtain ⟨i1,i2⟩:=QcZ c n r k f (by omega) (by omega) (by omega)
   rw [YC h1,List.length_cons,i2]
   refine ⟨?_,by omega⟩
   rw [Lib.splitK,Lib.index_one,Z2 h1,if_neg (by simp)]
   simp [i1]
  ·rw [YN h,Qf5 h]
   refine ⟨?_,rfl⟩
   cases k with
   | zero => rfl
   | succ k => unfold Lib.splitK;rw [Lib.index_one,ZK h];rfl
theorem Qbt (c:UInt8) (s:ByteArray):(Lib.splitB ⟨#[c]⟩ 0 (Lib.countB s ⟨#[c]⟩) s).map (·.data.toList) = spl c s.data.toList ∧ (Lib.splitB ⟨#[c]⟩ 0 (Lib.countB s ⟨#[c]⟩) s).length = Lib.countB s ⟨#[c]⟩ + 1:=by
 have e1:=Lib.splitB_data ⟨#[c]⟩ 0 (Lib.countB s ⟨#[c]⟩) s
 have e2:Lib.countB s ⟨#[c]⟩ = Lib.countFrom [c] (s.data.toList.length + 1) s.data.toList:=rfl
 obtain ⟨h1,h2⟩:=QcZ c s.data.toList.length s.data.toList (Lib.countB s ⟨#[c]⟩) (s.data.toList.length + 1) (Nat.le_refl _) (by omega) (by rw [e2];exact Nat.le_refl _)
 have e3:(Lib.splitB ⟨#[c]⟩ 0 (Lib.countB s ⟨#[c]⟩) s).map (·.data.toList) = spl c s.data.toList:=e1.trans h1
 refine ⟨e3,?_⟩
 have:=congrArg List.length e3
 rw [List.length_map,h2,← e2] at this
 exact this
theorem Qaz {a b:ByteArray} (h:a.data.toList = b.data.toList):a = b:=by
 obtain ⟨⟨a⟩⟩:=a
 obtain ⟨⟨b⟩⟩:=b
 simp at h
 rw [h]
theorem Qi2 (c:UInt8) (s:ByteArray):Lib.splitB ⟨#[c]⟩ 0 (Lib.countB s ⟨#[c]⟩) s = (spl c s.data.toList).map bs:=by
 rw [← (Qbt c s).1,List.map_map]
 conv => lhs;rw [← List.map_id (Lib.splitB _ _ _ _)]
 exact List.map_congr_left fun x _ => Qaz rfl
end Go.Nac
namespace Go.Nac
open Lib (decFrom digitVal decDigits itoa atoiAll parseUint10 parseMag)
def numP (w:List UInt8):Option Nat:=if w = [] ∨ 9 < w.length ∨ (1 < w.length ∧ w.head? = some 48) then none else decFrom 0 w
def numR:List UInt8 → Int × Bool
 | [] => (0,false)
 | c :: r => if c = 45 then (-(numR r).1,(numR r).2 && decide (0 < (numR r).1)) else match numP (c :: r) with
  | some n => ((n:Int),true)
  | none => (0,false)
theorem Qi3 (d:Nat) (h:d < 10):digitVal (UInt8.ofNat (48 + d)) = some d:=by
 have h1:(UInt8.ofNat (48 + d)).toNat = 48 + d:=UInt8.toNat_ofNat_of_lt' (by show 48 + d < 256;omega)
 unfold digitVal
 rw [h1,if_pos (by omega)]
 congr 1;omega
theorem Qoj {b:UInt8} {d:Nat} (h:digitVal b = some d):d < 10 ∧ b = UInt8.ofNat (48 + d):=by
 obtain ⟨h1,h2,h3⟩:=Lib.digitVal_eq h
 refine ⟨by omega,?_⟩
 have:48 + d = b.toNat:=by omega
 rw [this];simp
theorem Jm:∀ (l:List UInt8) (acc:Nat) (b:UInt8),decFrom acc (l ++ [b]) = (decFrom acc l).bind fun m => (digitVal b).map fun d => m * 10 + d
 | [],acc,b => by
  rw [List.nil_append]
  unfold decFrom
  cases digitVal b <;> rfl
 | x :: l,acc,b => by
  rw [List.cons_append]
  unfold decFrom
  cases digitVal x with
  | none => rfl
  | some d => exact Jm l _ b
theorem Vw (n:Nat):decFrom 0 (decDigits n) = some n:=by
 induction n using Nat.strongRecOn with
 | ind n ih =>
  unfold decDigits
  split
  ·rename_i h
   have:=Qi3 n h
   unfold decFrom
   rw [this]
   simp [decFrom]
  ·rename_i h
   rw [Jm,ih (n / 10) (by omega),Qi3 (n % 10) (by omega)]
   simp
   omega
theorem ZM (n:Nat):decDigits n ≠ []:=by
 unfold decDigits
 split <;> simp
theorem Qcv (n:Nat) (h:1 < (decDigits n).length):(decDigits n).head? ≠ some 48:=by
 induction n using Nat.strongRecOn with
 | ind n ih =>
  unfold decDigits at h ⊢
  split
  ·rename_i h1;rw [dif_pos h1] at h;simp at h
  ·rename_i h1
   rw [dif_neg h1] at h
   by_cases h2:n / 10 < 10
   ·have h3:decDigits (n / 10) = [UInt8.ofNat (48 + n / 10)]:=by unfold decDigits;rw [dif_pos h2]
    rw [h3]
    simp only [List.cons_append,List.head?_cons,ne_eq,Option.some.injEq]
    intro h4
    have h5:=congrArg UInt8.toNat h4
    rw [UInt8.toNat_ofNat_of_lt' (by show 48 + n / 10 < 256;omega)] at h5
    have:(48:UInt8).toNat = 48:=rfl
    omega
   ·have h3:1 < (decDigits (n / 10)).length:=by
     rw [Lib.decDigits_length]
     rw [Lib.nDigits_big h2]
     have:=Lib.nDigits_pos (n / 10 / 10)
     omega
    have:=ih (n / 10) (by omega) h3
    have h4:=ZM (n / 10)
    cases hd:decDigits (n / 10) with
    | nil => exact absurd hd h4
    | cons x t => rw [hd] at this;simpa using this
theorem Qge {w:List UInt8}:∀ {n:Nat},w ≠ [] → (1 < w.length → w.head? ≠ some 48) → decFrom 0 w = some n → w = decDigits n:=by
 induction hk:w.length generalizing w with
 | zero => intro n h;exact absurd (List.eq_nil_of_length_eq_zero hk) h
 | succ k ih =>
  intro n h0 h1 h2
  obtain ⟨v,b,rfl⟩:∃ v b,w = v ++ [b]:=⟨w.dropLast,w.getLast h0,(List.dropLast_concat_getLast h0).symm⟩
  rw [Jm] at h2
  cases hv:decFrom 0 v with
  | none => rw [hv] at h2;cases h2
  | some m =>
   rw [hv] at h2
   cases hd:digitVal b with
   | none => rw [hd] at h2;cases h2
   | some d =>
    rw [hd] at h2
    simp at h2
    obtain ⟨hd1,hd2⟩:=Qoj hd
    simp only [List.length_append,List.length_singleton] at hk h1
    by_cases hv0:v = []
    ·subst hv0
     simp [decFrom] at hv
     subst hv
     have:n = d:=by omega
     subst this
     unfold decDigits
     rw [dif_pos hd1,hd2];rfl
    ·have hvl:0 < v.length:=List.length_pos_iff.2 hv0
     have hh:(v ++ [b]).head? = v.head?:=by cases v with|nil => exact absurd rfl hv0|cons x t => rfl
     have h3:=ih (w:=v) (by omega) (n:=m) hv0 (fun _ => by rw [← hh];exact h1 (by omega)) hv
     have hm:m ≠ 0:=by
      intro h
      subst h
      have e:decDigits 0 = [48]:=by unfold decDigits;rw [dif_pos (by omega)];rfl
      rw [e] at h3
      rw [hh,h3] at h1
      exact h1 (by omega) rfl
     have e1:n / 10 = m:=by omega
     have e2:n % 10 = d:=by omega
     rw [decDigits,dif_neg (by omega),e1,e2,← h3,hd2]
theorem J9:∀ {l:List UInt8} {acc m:Nat},decFrom acc l = some m → acc ≤ m
 | [],acc,m,h => by cases h;exact Nat.le_refl _
 | x :: l,acc,m,h => by
  unfold decFrom at h
  cases hd:digitVal x with
  | none => rw [hd] at h;cases h
  | some d => rw [hd] at h;have:=J9 h;omega
theorem Qc0:∀ {l:List UInt8} {acc m:Nat},decFrom acc l = some m → m < 1000000000 → parseUint10 acc l = .ok m
 | [],acc,m,h,_ => by cases h;rfl
 | x :: l,acc,m,h,hm => by
  unfold decFrom at h
  cases hd:digitVal x with
  | none => rw [hd] at h;cases h
  | some d =>
   rw [hd] at h
   have h1:=J9 h
   obtain ⟨h2,h3,h4⟩:=Lib.digitVal_eq hd
   unfold parseUint10
   rw [if_pos ⟨h2,h3⟩,if_neg (by omega),if_neg (by omega),← h4]
   exact Qc0 h hm
theorem QfA {n:Nat} (h:n < 1000000000):parseMag (decDigits n) = .ok n:=by
 unfold parseMag
 rw [if_neg (ZM n),Qc0 (Vw n) h]
theorem nDig9 {n:Nat}:Lib.nDigits n ≤ 9 ↔ n < 1000000000:=by
 constructor
 ·intro h
  have:=Lib.lt_pow_nDigits n
  have h2:10 ^ Lib.nDigits n ≤ 10 ^ 9:=Nat.pow_le_pow_right (by decide) h
  have:(10:Nat) ^ 9 = 1000000000:=rfl
  omega
 ·intro h
  have h1:=Vw n
  rcases Nat.lt_or_ge 9 (Lib.nDigits n) with h2|h2
  ·exfalso
   have key:∀ (k u:Nat),k < Lib.nDigits u → 1 ≤ k → 10 ^ k ≤ u:=by
    intro k
    induction k with
    | zero => intro u _ h;omega
    | succ k ih =>
     intro u hu _
     have hu10:¬ u < 10:=fun h => by rw [Lib.nDigits_small h] at hu;omega
     rw [Lib.nDigits_big hu10] at hu
     rw [Nat.pow_succ]
     cases k with
     | zero => omega
     | succ k =>
      have:=ih (u / 10) (by omega) (by omega)
      have h3:10 ^ (k + 1) * 10 ≤ u / 10 * 10:=Nat.mul_le_mul_right _ this
      omega
   have:=key 9 n h2 (by decide)
   have:(10:Nat) ^ 9 = 1000000000:=rfl
   omega
  ·exact h2
def NumIs (w:List UInt8) (v:Int):Prop:=w = itoa v ∧ v.natAbs < 1000000000
theorem Qbw (n:Nat):∀ r,decDigits n ≠ 45 :: r:=by
 intro r h
 have h1:=Vw n
 rw [h] at h1
 unfold decFrom at h1
 have:digitVal 45 = none:=by decide
 rw [this] at h1
 cases h1
theorem JK {w:List UInt8} {n:Nat}:numP w = some n ↔ w = decDigits n ∧ n < 1000000000:=by
 unfold numP
 constructor
 ·intro h
  split at h
  ·cases h
  ·rename_i hc
   simp only [not_or,not_and] at hc
   have:=Qge hc.1 hc.2.2 h
   refine ⟨this,nDig9.1 ?_⟩
   rw [← Lib.decDigits_length,← this]
   omega
 ·rintro ⟨rfl,h⟩
  have hl:(decDigits n).length ≤ 9:=by rw [Lib.decDigits_length];exact nDig9.2 h
  rw [if_neg,Vw]
  rintro (h1|h1|⟨h1,h2⟩)
  ·exact ZM n h1
  ·omega
  ·exact Qcv n h1 h2
theorem JS {w:List UInt8} (h:∀ r,w ≠ 45 :: r):numR w = match numP w with|some n => ((n:Int),true)|none => (0,false):=by
 cases w with
 | nil => simp [numR,numP]
 | cons c r =>
  unfold numR
  rw [if_neg (fun e => h r (by rw [e]))]
theorem Y3 {w:List UInt8} {v:Int}:numR w = (v,true) ↔ NumIs w v:=by
 unfold NumIs
 by_cases h:∃ r,w = 45 :: r
 ·obtain ⟨r,rfl⟩:=h
  have e:numR (45 :: r) = (-(numR r).1,(numR r).2 && decide (0 < (numR r).1)):=by rw [numR,if_pos rfl]
  rw [e]
  constructor
  ·intro h
   simp only [Prod.mk.injEq,Bool.and_eq_true,decide_eq_true_eq] at h
   obtain ⟨rfl,h2,h3⟩:=h
   have hp:∀ t,r ≠ 45 :: t:=by
    rintro t rfl
    rw [numR,if_pos rfl] at h2 h3
    simp at h2 h3
    omega
   rw [JS hp] at h2 h3 ⊢
   cases hn:numP r with
   | none => rw [hn] at h2;cases h2
   | some n =>
    rw [hn] at h3
    simp only at h3
    obtain ⟨rfl,hlt⟩:=JK.1 hn
    simp only
    refine ⟨?_,by omega⟩
    unfold itoa
    rw [if_pos (by omega)]
    have:(-(n:Int)).natAbs = n:=by omega
    rw [this]
  ·rintro ⟨h1,h2⟩
   unfold itoa at h1
   split at h1
   ·rename_i hv
    have h3:r = decDigits v.natAbs:=by injection h1
    have hp:∀ t,r ≠ 45 :: t:=fun t => by rw [h3];exact Qbw _ t
    rw [JS hp,JK.2 ⟨h3,h2⟩]
    simp
    omega
   ·exact absurd h1.symm (Qbw _ _)
 ·have hp:∀ r,w ≠ 45 :: r:=fun r e => h ⟨r,e⟩
  rw [JS hp]
  constructor
  ·intro h
   cases hn:numP w with
   | none => rw [hn] at h;cases h
   | some n =>
    rw [hn] at h
    simp only [Prod.mk.injEq] at h
    obtain ⟨rfl,_⟩:=h
    obtain ⟨rfl,hlt⟩:=JK.1 hn
    refine ⟨?_,by omega⟩
    unfold itoa
    rw [if_neg (by omega)];rfl
  ·rintro ⟨h1,h2⟩
   unfold itoa at h1
   split at h1
   ·exact absurd h1 (hp _)
   ·rename_i hv
    have:numP w = some v.toNat:=JK.2 ⟨h1,by omega⟩
    rw [this]
    simp
    omega
def atoiI (w:List UInt8):Int:=match atoiAll w with|.ok v => v|.range => Lib.atoiSat w|_ => 0
def okW (w:List UInt8):Bool:=match atoiAll w with|.ok v => decide (itoa v = w) && decide ((Lib.trimPrefix w [45]).length ≤ 9)|_ => false
theorem QmC {w:List UInt8} {v:Int} (h:atoiAll w = .ok v):-9223372036854775808 ≤ v ∧ v ≤ 9223372036854775807:=by
 cases w with
 | nil => cases h
 | cons c r =>
  unfold atoiAll at h
  simp only at h
  split at h
  ·cases h
  ·cases h
  ·split at h
   ·cases h
   ·split at h
    ·cases h
    ·injection h with h
     split at h <;> omega
theorem QcQ (r:List UInt8):Lib.trimPrefix (45 :: r) [45] = r:=by unfold Lib.trimPrefix Lib.hasPrefix;simp
theorem QcM {w:List UInt8} (h:∀ r,w ≠ 45 :: r):Lib.trimPrefix w [45] = w:=by
 unfold Lib.trimPrefix Lib.hasPrefix
 cases w with
 | nil => rfl
 | cons c r =>
  rw [if_neg]
  simp only [List.isPrefixOf,Bool.and_true,beq_iff_eq]
  intro e;exact h r (by rw [e])
theorem Qo5 {w:List UInt8} (h:okW w = true):∃ v,NumIs w v ∧ atoiI w = v:=by
 unfold okW at h
 cases hv:atoiAll w
 ·rename_i v
  rw [hv] at h
  simp only [Bool.and_eq_true,decide_eq_true_eq] at h
  refine ⟨v,⟨h.1.symm,?_⟩,by unfold atoiI;rw [hv]⟩
  have h1:=h.1
  have h2:=h.2
  unfold itoa at h1
  split at h1
  ·rw [← h1,QcQ,Lib.decDigits_length] at h2
   exact nDig9.1 h2
  ·rw [← h1,QcM (Qbw _),Lib.decDigits_length] at h2
   have:=nDig9.1 h2
   omega
 ·rw [hv] at h;cases h
 ·rw [hv] at h;cases h
theorem Qoz {w:List UInt8} {v:Int} (h:NumIs w v):okW w = true ∧ atoiI w = v:=by
 obtain ⟨h1,h2⟩:=h
 have ha:atoiAll w = .ok v:=by
  rw [h1]
  unfold itoa
  split
  ·rename_i hv
   unfold atoiAll
   have e:((45:UInt8).toNat = 43 ∨ (45:UInt8).toNat = 45):=.inr rfl
   simp only [if_pos e]
   rw [QfA h2]
   simp only
   have e2:(45:UInt8).toNat = 45:=rfl
   rw [if_neg (by simp [e2]),if_neg (by omega),if_pos e2]
   congr 1;omega
  ·rename_i hv
   have hd:=Vw v.toNat
   have hne:=ZM v.toNat
   have hm:=QfA (n:=v.toNat) (by omega)
   cases hc:decDigits v.toNat with
   | nil => exact absurd hc hne
   | cons c r =>
    rw [hc] at hd hm
    have hcd:48 ≤ c.toNat ∧ c.toNat ≤ 57:=by
     unfold decFrom at hd
     cases hx:digitVal c with
     | none => rw [hx] at hd;cases hd
     | some d => obtain ⟨a,b,_⟩:=Lib.digitVal_eq hx;exact ⟨a,b⟩
    unfold atoiAll
    have e:¬ (c.toNat = 43 ∨ c.toNat = 45):=by omega
    simp only [if_neg e]
    rw [hm]
    simp only
    rw [if_neg (by omega),if_neg (by omega),if_neg (by omega)]
    congr 1;omega
 refine ⟨?_,by unfold atoiI;rw [ha]⟩
 unfold okW
 rw [ha]
 simp only [Bool.and_eq_true,decide_eq_true_eq]
 refine ⟨h1.symm,?_⟩
 rw [h1]
 unfold itoa
 split
 ·rw [QcQ,Lib.decDigits_length];exact nDig9.2 h2
 ·rw [QcM (Qbw _),Lib.decDigits_length];exact nDig9.2 (by omega)
theorem QfT (w:List UInt8):okW w = (numR w).2 ∧ (okW w = true → (numR w).1 = atoiI w):=by
 cases hb:(numR w).2 with
 | true =>
  have h2:=Y3.1 (show numR w = ((numR w).1,true) by rw [← hb])
  obtain ⟨h3,h4⟩:=Qoz h2
  exact ⟨h3,fun _ => h4.symm⟩
 | false =>
  have h:¬ okW w = true:=fun h => by
   obtain ⟨v,h1,_⟩:=Qo5 h
   rw [Y3.2 h1] at hb
   cases hb
  exact ⟨by simpa using h,fun h1 => absurd h1 h⟩
end Go.Nac
namespace Go.Nac
theorem QV (l:List UInt8):(⟨l.toArray⟩:ByteArray).size = l.length:=by
 show l.toArray.size = _
 simp
theorem bs_eq {a b:List UInt8}:((⟨a.toArray⟩:ByteArray) = ⟨b.toArray⟩) = (a = b):=by
 apply propext
 constructor
 ·intro h
  injection h with h
  simpa using congrArg Array.toList h
 ·intro h;rw [h]
theorem Qcc (a b:List UInt8):(⟨a.toArray⟩:ByteArray) ++ ⟨b.toArray⟩ = ⟨(a ++ b).toArray⟩:=Qaz (by simp)
theorem bs_of (s:ByteArray):(⟨s.data.toList.toArray⟩:ByteArray) = s:=Qaz (by simp)
theorem Qjw {l:List UInt8} {k:Nat} {u:UInt8} (h:l[k]? = some u):idxsV (.s (.string ⟨l.toArray⟩)) (some k) = some (.s (.int .u8 u.toNat)):=by
 refine QgO ?_
 obtain ⟨h1,h2⟩:=List.getElem?_eq_some_iff.1 h
 have h3:k < (⟨l.toArray⟩:ByteArray).size:=by rw [QV];exact h1
 rw [getElem?_pos (⟨l.toArray⟩:ByteArray) k h3]
 exact congrArg some h2
theorem QiJ {l:List UInt8} {lo hi:Option PV}:Qer (.s (.string ⟨l.toArray⟩)) lo hi = (bounds l.length lo hi).map fun p => .s (.string ⟨((l.drop p.1).take (p.2 - p.1)).toArray⟩):=by
 show (bounds (⟨l.toArray⟩:ByteArray).size lo hi).map _ = _
 rw [QV]
 congr 1
 funext p
 congr 2
 exact Qaz (by rw [Lib.extract_data])
def ste0:Ste:=⟨⟨#[]⟩,0,[]⟩
def siteW:List UInt8:=[115,105,116,101]
def turbW:List UInt8:=[116,117,114,98,105,110,101]
def hdrL:List (List UInt8) → Option (ByteArray × Int)
 | [a,b,c] => if a = siteW ∧ b ≠ [] ∧ (numR c).2 = true then some (bs b,(numR c).1) else none
 | _ => none
def tbL2:List (List UInt8) → Option Tb
 | [a,b,c,d] => if a = turbW ∧ b ≠ [] ∧ (numR c).2 = true ∧ (numR d).2 = true then some ⟨bs b,(numR c).1,(numR d).1⟩ else none
 | _ => none
def lineS (k:Nat) (s:Ste) (l:List UInt8):Option Ste :=
 if k = 0 then (hdrL (spl 32 l)).map fun p => { s with name:=p.1,least:=p.2 } else (tbL2 (spl 32 l)).map fun t => { s with tbs:=s.tbs ++ [t] }
def parL:Nat → Ste → List (List UInt8) → Option Ste × Nat
 | k,s,[] => (some s,k)
 | k,s,l :: r => if r = [] then (if l = [] then some s else none,k) else match lineS k s l with
  | some s' => parL (k + 1) s' r
  | none => (none,k)
def endE:Option Ste × Nat → Int
 | (none,_) => 26
 | (some s,_) => Qb8 s
def endN:Option Ste × Nat → Nat
 | (none,k) => k
 | (some s,k) => if Qb8 s = 0 then 0 else k
def endS:Option Ste × Nat → Ste
 | (none,_) => ste0
 | (some s,_) => if Qb8 s = 0 then s else ste0
def parE (t:List UInt8):Int:=if 1000000 < t.length then 27 else if t = [] then 26 else endE (parL 0 ste0 (spl 10 t))
def parN (t:List UInt8):Nat:=if 1000000 < t.length then 0 else if t = [] then 0 else endN (parL 0 ste0 (spl 10 t))
def parS (t:List UInt8):Ste:=if 1000000 < t.length then ste0 else if t = [] then ste0 else endS (parL 0 ste0 (spl 10 t))
def wordS:List (List UInt8) × Bool → List UInt8 × (List (List UInt8) × Bool)
 | ([],_) => ([],([],true))
 | (x :: r,w) => if x = [] then ([],(x :: r,true)) else (x,(r,w))
def intS (t:List (List UInt8) × Bool):Int × (List (List UInt8) × Bool) :=
 (atoiI (wordS t).1,((wordS t).2.1,if okW (wordS t).1 = true then (wordS t).2.2 else true))
def takeS (k:Nat) (s:Ste) (l:List UInt8):Bool × Ste :=
 let a:=wordS (spl 32 l,false)
 let b:=wordS a.2
 let c:=intS b.2
 if k = 0 then (decide (a.1 = siteW) && !c.2.2 && decide (c.2.1 = []),{ s with name:=bs b.1,least:=c.1 })
 else
  let d:=intS c.2
  (decide (a.1 = turbW) && !d.2.2 && decide (d.2.1 = []),{ s with tbs:=s.tbs ++ [⟨bs b.1,c.1,d.1⟩] })
end Go.Nac
namespace Go.Nac
def uns (c:UInt8):List (List UInt8) → List UInt8
 | [] => []
 | [l] => l
 | l :: r => l ++ c :: uns c r
theorem YO {c:UInt8} {l:List UInt8} {r:List (List UInt8)} (h:r ≠ []):uns c (l :: r) = l ++ c :: uns c r:=by
 cases r with
 | nil => exact absurd rfl h
 | cons a r => rfl
theorem Qcs (c:UInt8):∀ t:List UInt8,uns c (spl c t) = t
 | [] => rfl
 | x :: t => by
  have ih:=Qcs c t
  have hn:=Qae c t
  unfold spl
  split
  ·rename_i h
   rw [YO hn,ih,h];rfl
  ·cases hs:spl c t with
   | nil => exact absurd hs hn
   | cons a r =>
    rw [hs] at ih
    cases r with
    | nil => simp only [uns] at ih ⊢;rw [ih]
    | cons b r => rw [YO (by simp)] at ih ⊢;rw [List.cons_append,ih]
theorem Qcn {c:UInt8}:∀ {L:List (List UInt8)},L ≠ [] → (∀ l ∈ L,c ∉ l) → spl c (uns c L) = L
 | [],h,_ => absurd rfl h
 | [l],_,h => YN (h l (by simp))
 | l :: a :: r,_,h => by
  rw [YO (by simp),YC (h l (by simp)),Qcn (by simp) fun x hx => h x (by simp [hx])]
theorem QdN (c:UInt8):∀ {L:List (List UInt8)},L ≠ [] → uns c (L ++ [[]]) = (L.map (· ++ [c])).flatten
 | [],h => absurd rfl h
 | [l],_ => by simp [uns]
 | l :: a :: r,_ => by
  rw [List.cons_append,YO (by simp),QdN c (by simp)];simp
def hdrT (s:Ste):List UInt8:=uns 32 [siteW,s.name.data.toList,Lib.itoa s.least]
def tbT (t:Tb):List UInt8:=uns 32 [turbW,t.name.data.toList,Lib.itoa t.x,Lib.itoa t.y]
def QoB (s:Ste):List (List UInt8):=hdrT s :: s.tbs.map tbT
def steL (s:Ste):List UInt8:=uns 10 (QoB s ++ [[]])
def wordy (w:List UInt8):Prop:=(32:UInt8) ∉ w ∧ (10:UInt8) ∉ w
theorem Qag (n:Nat):∀ c ∈ Lib.decDigits n,48 ≤ c.toNat:=by
 intro c hc
 obtain ⟨k,hk,hx⟩:=List.mem_iff_getElem.1 hc
 obtain ⟨d,hd⟩:=Lib.digit_of_decFrom _ 0 n (Vw n) k c (by rw [List.getElem?_eq_getElem hk,hx])
 exact (Lib.digitVal_eq hd).1
theorem Qbu (n:Int):wordy (Lib.itoa n):=by
 have key:∀ c ∈ Lib.itoa n,c.toNat = 45 ∨ 48 ≤ c.toNat:=by
  intro c hc
  unfold Lib.itoa at hc
  split at hc
  ·rcases List.mem_cons.1 hc with rfl|hc
   ·exact .inl rfl
   ·exact .inr (Qag _ c hc)
  ·exact .inr (Qag _ c hc)
 refine ⟨fun h => ?_,fun h => ?_⟩
 ·have:=key _ h;have e:(32:UInt8).toNat = 32:=rfl;omega
 ·have:=key _ h;have e:(10:UInt8).toNat = 10:=rfl;omega
theorem Qhe {c d:UInt8} (hcd:d ≠ c):∀ {L:List (List UInt8)},(∀ l ∈ L,d ∉ l) → d ∉ uns c L
 | [],_ => by simp [uns]
 | [l],h => h l (by simp)
 | l :: a :: r,h => by
  rw [YO (by simp)]
  simp only [List.mem_append,List.mem_cons,not_or]
  exact ⟨h l (by simp),hcd,Qhe hcd fun x hx => h x (by simp [hx])⟩
theorem Qcz {n:Int} (h:n.natAbs < 1000000000):numR (Lib.itoa n) = (n,true):=Y3.2 ⟨rfl,h⟩
end Go.Nac
namespace Go.Nac
def rvT (r:Rev):List UInt8:=uns 32 [Lib.itoa r.at_,Lib.itoa r.ld]
def rvsL (l:List Rev):List UInt8:=(l.map fun r => rvT r ++ [10]).flatten
def Q7 (l:List Rev):ByteArray:=⟨(rvsL l).toArray⟩
theorem Qbn (r:Rev):rvT r = Lib.itoa r.at_ ++ 32 :: Lib.itoa r.ld:=rfl
theorem QhN (l:List Rev) (r:Rev):rvsL (l ++ [r]) = rvsL l ++ (rvT r ++ [10]):=by
 unfold rvsL;rw [List.map_append,List.flatten_append];simp
theorem Qd8 (l:List Rev):rvsL l = uns 10 (l.map rvT ++ [[]]):=by
 cases l with
 | nil => rfl
 | cons r l =>
  rw [QdN 10 (by simp)]
  unfold rvsL
  rw [List.map_map];rfl
def VU:List (List UInt8) → Option Rev
 | [a,b] => if (numR a).2 = true ∧ (numR b).2 = true then some ⟨(numR a).1,(numR b).1⟩ else none
 | _ => none
def parRv:List Rev → List (List UInt8) → Option (List Rev) × Nat
 | o,[] => (some o,o.length)
 | o,l :: r => if r = [] then (if l = [] then some o else none,o.length) else match VU (spl 32 l) with
  | some v => parRv (o ++ [v]) r
  | none => (none,o.length)
theorem Yt (o:List Rev) (l:List UInt8):parRv o [l] = (if l = [] then some o else none,o.length):=by rw [parRv,if_pos rfl]
theorem Yu {o:List Rev} {v:Rev} {w:List UInt8} {r:List (List UInt8)} (h:VU (spl 32 w) = some v) (hr:r ≠ []):parRv o (w :: r) = parRv (o ++ [v]) r:=by rw [parRv,if_neg hr,h]
theorem JV {o:List Rev} {w:List UInt8} {r:List (List UInt8)} (h:VU (spl 32 w) = none) (hr:r ≠ []):parRv o (w :: r) = (none,o.length):=by rw [parRv,if_neg hr,h]
def rvE:Option (List Rev) × Nat → Int
 | (none,_) => 26
 | (some o,_) => Qh o
def rvN:Option (List Rev) × Nat → Nat
 | (none,k) => k
 | (some o,k) => if Qh o = 0 then 0 else k
def rvS:Option (List Rev) × Nat → List Rev
 | (none,_) => []
 | (some o,_) => if Qh o = 0 then o else []
theorem QdE:∀ (L:List (List UInt8)) (o:List Rev),(parRv o L).2 ≤ o.length + L.length ∧ ∀ o' n,parRv o L = (some o',n) → o'.length ≤ o.length + L.length
 | [],o => ⟨by simp [parRv],fun o' n h => by simp only [parRv,Prod.mk.injEq,Option.some.injEq] at h;rw [← h.1];simp⟩
 | w :: r,o => by
  by_cases hr:r = []
  ·subst hr
   rw [Yt]
   refine ⟨by simp,fun o' n h => ?_⟩
   split at h
   ·simp only [Prod.mk.injEq,Option.some.injEq] at h;rw [← h.1];simp
   ·simp at h
  ·cases hl:VU (spl 32 w) with
   | none => rw [JV hl hr];exact ⟨by simp,fun o' n h => by simp at h⟩
   | some v =>
    rw [Yu hl hr]
    obtain ⟨h1,h2⟩:=QdE r (o ++ [v])
    simp only [List.length_append,List.length_cons,List.length_nil] at h1 h2 ⊢
    exact ⟨by omega,fun o' n h => by have:=h2 o' n h;omega⟩
theorem Qj8:∀ (L:List (List UInt8)) (o:List Rev),(rvS (parRv o L)).length ≤ o.length + L.length:=by
 intro L o
 have h:=QdE L o
 cases hp:parRv o L with
 | mk a n =>
  cases a with
  | none => show ([]:List Rev).length ≤ _;simp
  | some o' =>
   have:=h.2 o' n hp
   show (if Qh o' = 0 then o' else []).length ≤ _
   split
   ·exact this
   ·simp
theorem Qfy (r:Rev):spl 32 (rvT r) = [Lib.itoa r.at_,Lib.itoa r.ld] ∧ (10:UInt8) ∉ rvT r ∧ rvT r ≠ []:=by
 have h1:=Qbu r.at_
 have h2:=Qbu r.ld
 refine ⟨Qcn (by simp) ?_,Qhe (by decide) ?_,by rw [Qbn];simp⟩
 ·intro l hl
  simp only [List.mem_cons,List.not_mem_nil,or_false] at hl
  rcases hl with rfl|rfl
  ·exact h1.1
  ·exact h2.1
 ·intro l hl
  simp only [List.mem_cons,List.not_mem_nil,or_false] at hl
  rcases hl with rfl|rfl
  ·exact h1.2
  ·exact h2.2
def litR (r:Rev):Prop:=r.at_.natAbs < 1000000000 ∧ r.ld.natAbs < 1000000000
theorem Qga {r:Rev} (h:litR r):VU (spl 32 (rvT r)) = some r:=by
 rw [(Qfy r).1]
 show (if (numR (Lib.itoa r.at_)).2 = true ∧ (numR (Lib.itoa r.ld)).2 = true then some (⟨(numR (Lib.itoa r.at_)).1,(numR (Lib.itoa r.ld)).1⟩:Rev) else none) = _
 rw [Qcz h.1,Qcz h.2,if_pos ⟨rfl,rfl⟩]
theorem QcU:∀ (l o:List Rev),(∀ r ∈ l,litR r) → parRv o (l.map rvT ++ [[]]) = (some (o ++ l),(o ++ l).length)
 | [],o,_ => by rw [List.map_nil,List.nil_append,Yt,if_pos rfl,List.append_nil]
 | r :: l,o,h => by
  rw [List.map_cons,List.cons_append,Yu (Qga (h r (by simp))) (by simp),QcU l _ fun x hx => h x (by simp [hx])]
  simp
theorem QfL (l:List Rev):spl 10 (rvsL l) = l.map rvT ++ [[]]:=by
 rw [Qd8]
 refine Qcn (by simp) ?_
 intro x hx
 rcases List.mem_append.1 hx with hx|hx
 ·obtain ⟨r,_,rfl⟩:=List.mem_map.1 hx
  exact (Qfy r).2.1
 ·simp only [List.mem_singleton] at hx;subst hx;simp
theorem Qhd {l:List Rev} (h:∀ r ∈ l,litR r):parRv [] (spl 10 (rvsL l)) = (some l,l.length):=by
 rw [QfL,QcU l [] h];rfl
theorem Qfc {w:List UInt8} {r:Rev} (h:VU (spl 32 w) = some r):w = rvT r:=by
 have hu:=Qcs 32 w
 cases hs:spl 32 w with
 | nil => rw [hs] at h;cases h
 | cons a q =>
  cases q with
  | nil => rw [hs] at h;cases h
  | cons b q =>
   cases q with
   | cons c q => rw [hs] at h;cases h
   | nil =>
    rw [hs] at h hu
    have hh:(if (numR a).2 = true ∧ (numR b).2 = true then some (⟨(numR a).1,(numR b).1⟩:Rev) else none) = some r:=h
    split at hh
    ·rename_i hc
     cases hh
     have n1:=(Y3 (w:=a) (v:=(numR a).1)).1 (Prod.ext rfl hc.1)
     have n2:=(Y3 (w:=b) (v:=(numR b).1)).1 (Prod.ext rfl hc.2)
     rw [← hu]
     unfold rvT
     rw [← n1.1,← n2.1]
    ·cases hh
theorem QbI:∀ (L:List (List UInt8)) (o o':List Rev) (n:Nat),L ≠ [] → parRv o L = (some o',n) → ∃ l,o' = o ++ l ∧ L = l.map rvT ++ [[]]
 | [],_,_,_,h,_ => absurd rfl h
 | w :: r,o,o',n,_,h => by
  by_cases hr:r = []
  ·subst hr
   rw [Yt] at h
   split at h
   ·rename_i hw
    subst hw
    simp only [Prod.mk.injEq,Option.some.injEq] at h
    exact ⟨[],by simp [h.1],rfl⟩
   ·simp at h
  ·cases hl:VU (spl 32 w) with
   | none => rw [JV hl hr] at h;simp at h
   | some v =>
    rw [Yu hl hr] at h
    obtain ⟨l,c1,c2⟩:=QbI r _ _ _ hr h
    exact ⟨v :: l,by rw [c1];simp,by rw [c2,Qfc hl];simp⟩
theorem Qig {t:List UInt8} (h:rvE (parRv [] (spl 10 t)) = 0):Qh (rvS (parRv [] (spl 10 t))) = 0 ∧ rvsL (rvS (parRv [] (spl 10 t))) = t:=by
 cases hp:parRv [] (spl 10 t) with
 | mk a n =>
  rw [hp] at h
  cases a with
  | none => cases h
  | some o =>
   have hc:Qh o = 0:=h
   have e:rvS (some o,n) = o:=if_pos hc
   rw [e]
   refine ⟨hc,?_⟩
   obtain ⟨l,c1,c2⟩:=QbI _ _ _ _ (Qae 10 t) hp
   simp only [List.nil_append] at c1
   subst c1
   rw [Qd8,← c2,Qcs]
theorem Qdr {l:List Rev} (h:∀ r ∈ l,(Lib.itoa r.at_).length ≤ 21 ∧ (Lib.itoa r.ld).length ≤ 21):(rvsL l).length ≤ 50 * l.length:=by
 induction l with
 | nil => simp [rvsL]
 | cons r l ih =>
  have h1:=h r (by simp)
  have h2:=ih fun x hx => h x (by simp [hx])
  have e:rvsL (r :: l) = (rvT r ++ [10]) ++ rvsL l:=rfl
  rw [e,List.length_append,List.length_append,Qbn,List.length_append,List.length_cons,List.length_cons]
  simp only [List.length_cons,List.length_nil]
  omega
def betw:Option Int → List Rev → List Int
 | _,[] => []
 | none,r :: l => r.ld :: betw (some r.ld) l
 | some a,r :: l => (a + (r.ld - a).tdiv 2) :: r.ld :: betw (some r.ld) l
theorem Qhj {a b:Int} (h:a < b):a ≤ a + (b - a).tdiv 2 ∧ a + (b - a).tdiv 2 < b:=by
 have h1:(b - a).tdiv 2 = (b - a) / 2:=Int.tdiv_eq_ediv_of_nonneg (by omega)
 omega
theorem QhE {a b:Int} (h:b < a):b < a + (b - a).tdiv 2 ∧ a + (b - a).tdiv 2 ≤ a:=by
 have h1:(b - a).tdiv 2 = -((a - b) / 2):=by
  have:b - a = -(a - b):=by omega
  rw [this,Int.neg_tdiv,Int.tdiv_eq_ediv_of_nonneg (by omega)]
 omega
def QK (out:List Int) (p:Int):List Int :=
 match out with
 | [] => [p]
 | a :: r => if a = p then out else
  match r with
  | [] => p :: out
  | b :: _ => if trn b a p = true then p :: out else p :: r
theorem Qgm (out:List Rev) (p:Rev):(Qz out p).reverse.map Rev.ld = QK (out.reverse.map Rev.ld) p.ld:=by
 unfold Qz QK
 cases h:out.reverse with
 | nil =>
  have:out = []:=by simpa using h
  subst this;rfl
 | cons a r =>
  have ho:out = r.reverse ++ [a]:=by have:=congrArg List.reverse h;simpa using this
  simp only [List.map_cons]
  by_cases he:a.ld = p.ld
  ·rw [if_pos he,if_pos he,ho];simp
  ·rw [if_neg he,if_neg he]
   cases r with
   | nil => simp [ho]
   | cons b q =>
    simp only [List.map_cons]
    split
    ·simp [ho]
    ·simp [ho]
theorem Qm3 (l:List Rev):∀ (out:List Rev),(l.foldl Qz out).reverse.map Rev.ld = (l.map Rev.ld).foldl QK (out.reverse.map Rev.ld):=by
 induction l with
 | nil => intro out;rfl
 | cons p l ih => intro out;rw [List.foldl_cons,ih,Qgm];rfl
theorem QiI (l:List Int):(points l).map Rev.ld = l:=by
 unfold points
 rw [List.map_map]
 have:(Rev.ld ∘ fun p:Int × Nat => (⟨p.2,p.1⟩:Rev)) = Prod.fst:=rfl
 rw [this]
 simp
theorem Qiv {b a p:Int} (h:(b < a ∧ a < p) ∨ (p < a ∧ a < b)):trn b a p = false:=by unfold trn;rw [decide_eq_false_iff_not];omega
theorem Qok {a b:Int} {r:List Int} (hab:a ≠ b) (ht:∀ z q,r = z :: q → trn z a b = true):QK (QK (a :: r) (a + (b - a).tdiv 2)) b = b :: a :: r:=by
 have hd:QK (a :: r) b = b :: a :: r:=by
  unfold QK
  simp only [if_neg hab]
  cases r with
  | nil => rfl
  | cons z q => simp only [ht z q rfl,if_true]
 rcases Int.lt_or_lt_of_ne hab with h|h
 ·obtain ⟨m1,m2⟩:=Qhj h
  generalize a + (b - a).tdiv 2 = m at m1 m2
  by_cases hm:a = m
  ·subst hm
   have:QK (a :: r) a = a :: r:=by unfold QK;simp
   rw [this,hd]
  ·have h1:QK (a :: r) m = m :: a :: r:=by
    unfold QK
    simp only [if_neg hm]
    cases r with
    | nil => rfl
    | cons z q =>
     have:=ht z q rfl
     have hz:trn z a m = true:=by
      unfold trn at this ⊢
      rw [decide_eq_true_eq] at this ⊢
      omega
     simp only [hz,if_true]
   rw [h1]
   unfold QK
   simp only []
   rw [if_neg (by omega:¬ m = b)]
   simp only [Qiv (b:=a) (a:=m) (p:=b) (.inl ⟨by omega,by omega⟩),Bool.false_eq_true,if_false]
 ·obtain ⟨m1,m2⟩:=QhE h
  generalize a + (b - a).tdiv 2 = m at m1 m2
  by_cases hm:a = m
  ·subst hm
   have:QK (a :: r) a = a :: r:=by unfold QK;simp
   rw [this,hd]
  ·have h1:QK (a :: r) m = m :: a :: r:=by
    unfold QK
    simp only [if_neg hm]
    cases r with
    | nil => rfl
    | cons z q =>
     have:=ht z q rfl
     have hz:trn z a m = true:=by
      unfold trn at this ⊢
      rw [decide_eq_true_eq] at this ⊢
      omega
     simp only [hz,if_true]
   rw [h1]
   unfold QK
   simp only []
   rw [if_neg (by omega:¬ m = b)]
   simp only [Qiv (b:=a) (a:=m) (p:=b) (.inr ⟨by omega,by omega⟩),Bool.false_eq_true,if_false]
theorem Qof {pp:Option Rev} {a r:Rev} (h:shpB pp (some a) r = false):a.ld ≠ r.ld:=by
 intro e
 unfold shpB at h
 simp only [Bool.or_eq_false_iff,decide_eq_false_iff_not] at h
 exact h.1 e.symm
theorem Ql5 {y a r:Rev} (h:shpB (some y) (some a) r = false):trn y.ld a.ld r.ld = true:=by
 unfold shpB at h
 simp only [Bool.or_eq_false_iff,Bool.not_eq_false'] at h
 exact h.2
theorem Qaa:∀ (l:List Rev) (pp p:Option Rev) (out:List Int),QJ pp p l = 0 → (match p with|none => out = []|some a => ∃ r,out = a.ld :: r ∧ ∀ z q,r = z :: q → ∃ y,pp = some y ∧ y.ld = z) → (betw (p.map Rev.ld) l).foldl QK out = (l.map Rev.ld).reverse ++ out
 | [],_,_,out,_,_ => by cases ‹Option Rev› <;> rfl
 | r :: l,pp,p,out,h,hp => by
  have h2:errAt pp p r = 0 ∧ QJ p (some r) l = 0:=by
   unfold QJ at h
   split at h
   ·rename_i h0;exact ⟨h0,h⟩
   ·rename_i h0;exact absurd h h0
  obtain ⟨he,hr⟩:=h2
  have hs:shpB pp p r = false:=by
   have h4:=Qa6 (l:=[rng r.at_ 0 39999,rng r.ld (-32768) 32768,if ordB p r = true then 11 else 0,if shpB pp p r = true then 2 else 0]) he (if shpB pp p r = true then 2 else 0) (by simp)
   cases hb:shpB pp p r with
   | false => rfl
   | true => rw [hb] at h4;cases h4
  cases p with
  | none =>
   simp only at hp
   subst hp
   have ih:=Qaa l none (some r) [r.ld] hr ⟨[],rfl,fun z q e => by cases e⟩
   have e:betw (none:Option Int) (r :: l) = r.ld :: betw (some r.ld) l:=rfl
   show (betw none (r :: l)).foldl QK [] = _
   rw [e,List.foldl_cons,show QK [] r.ld = [r.ld] from rfl]
   have ih':(betw (some r.ld) l).foldl QK [r.ld] = (l.map Rev.ld).reverse ++ [r.ld]:=ih
   rw [ih'];simp
  | some a =>
   obtain ⟨q,rfl,hq⟩:=hp
   have hne:a.ld ≠ r.ld:=Qof hs
   have ht:∀ z s,q = z :: s → trn z a.ld r.ld = true:=by
    intro z s e
    obtain ⟨y,hy,hz⟩:=hq z s e
    subst hy
    rw [← hz];exact Ql5 hs
   have ih:=Qaa l (some a) (some r) (r.ld :: a.ld :: q) hr ⟨a.ld :: q,rfl,fun z s e => ⟨a,rfl,by cases e;rfl⟩⟩
   have e:betw (some a.ld) (r :: l) = (a.ld + (r.ld - a.ld).tdiv 2) :: r.ld :: betw (some r.ld) l:=rfl
   show (betw (some a.ld) (r :: l)).foldl QK (a.ld :: q) = _
   rw [e,List.foldl_cons,List.foldl_cons,Qok hne ht]
   have ih':(betw (some r.ld) l).foldl QK (r.ld :: a.ld :: q) = (l.map Rev.ld).reverse ++ (r.ld :: a.ld :: q):=ih
   rw [ih'];simp
theorem Qia {l:List Rev} (h:Qh l = 0):(Qv (points (betw none l))).map Rev.ld = l.map Rev.ld:=by
 have hc:QJ none none l = 0:=by
  unfold Qh at h
  split at h
  ·cases h
  ·exact h
 have h1:=Qaa l none none [] hc rfl
 have h2:=Qm3 (points (betw none l)) []
 rw [QiI] at h2
 have h3:(betw none l).foldl QK [] = (l.map Rev.ld).reverse ++ []:=h1
 unfold Qv
 have h4:((List.foldl Qz [] (points (betw none l))).reverse.map Rev.ld) = (l.map Rev.ld).reverse:=by
  rw [h2];simpa using h3
 have:=congrArg List.reverse h4
 simpa [List.map_reverse] using this
end Go.Nac
namespace Go.Nac
theorem QcP:∀ (l:List Rev) (p:Option Int) (r:Rev),betw p (l ++ [r]) = betw p l ++ (match ((l.getLast?).map Rev.ld).or p with|none => [r.ld]|some a => [a + (r.ld - a).tdiv 2,r.ld])
 | [],none,r => rfl
 | [],some a,r => rfl
 | x :: l,p,r => by
  have ih:=QcP l (some x.ld) r
  have e:((x :: l).getLast?.map Rev.ld).or p = ((l.getLast?).map Rev.ld).or (some x.ld):=by
   cases l with
   | nil => rfl
   | cons y l =>
    rw [List.getLast?_cons_cons]
    have:∃ z,(y :: l).getLast? = some z:=⟨_,List.getLast?_eq_some_getLast (by simp)⟩
    obtain ⟨z,hz⟩:=this
    rw [hz];rfl
  rw [e]
  cases p with
  | none =>
   show x.ld :: betw (some x.ld) (l ++ [r]) = x.ld :: betw (some x.ld) l ++ _
   rw [ih];rfl
  | some a =>
   show (a + (x.ld - a).tdiv 2) :: x.ld :: betw (some x.ld) (l ++ [r]) = (a + (x.ld - a).tdiv 2) :: x.ld :: betw (some x.ld) l ++ _
   rw [ih];rfl
theorem QbP {l:List Rev} {x:Rev} (h:l[0]? = some x):betw none (l.take 1) = [x.ld]:=by
 cases l with
 | nil => simp at h
 | cons y l => simp at h;subst h;rfl
theorem QcA {l:List Rev} {k:Nat} {y x:Rev} (hy:l[k]? = some y) (hx:l[k + 1]? = some x):betw none (l.take (k + 1 + 1)) = betw none (l.take (k + 1)) ++ [y.ld + (x.ld - y.ld).tdiv 2,x.ld]:=by
 obtain ⟨g1,g2⟩:=List.getElem?_eq_some_iff.1 hx
 obtain ⟨g3,g4⟩:=List.getElem?_eq_some_iff.1 hy
 rw [List.take_succ_eq_append_getElem g1,g2,QcP]
 have:(l.take (k + 1)).getLast? = some y:=by
  rw [List.take_succ_eq_append_getElem g3,g4];simp
 rw [this];rfl
theorem YP:∀ (l:List Rev) (p:Option Int),(betw p l).length ≤ 2 * l.length
 | [],p => by cases p <;> simp [betw]
 | r :: l,none => by
  have:=YP l (some r.ld)
  show (r.ld :: betw (some r.ld) l).length ≤ _
  simp only [List.length_cons];omega
 | r :: l,some a => by
  have:=YP l (some r.ld)
  show ((a + (r.ld - a).tdiv 2) :: r.ld :: betw (some r.ld) l).length ≤ _
  simp only [List.length_cons];omega
theorem Qdm {a b:Int} (ha:-32768 ≤ a ∧ a ≤ 32768) (hb:-32768 ≤ b ∧ b ≤ 32768):-32768 ≤ a + (b - a).tdiv 2 ∧ a + (b - a).tdiv 2 ≤ 32768:=by
 rcases Int.lt_trichotomy a b with h|h|h
 ·have:=Qhj h;omega
 ·subst h;simp;omega
 ·have:=QhE h;omega
theorem Qcx:∀ (l:List Rev) (p:Option Int),(∀ r ∈ l,-32768 ≤ r.ld ∧ r.ld ≤ 32768) → (∀ a,p = some a → -32768 ≤ a ∧ a ≤ 32768) → ∀ z ∈ betw p l,-32768 ≤ z ∧ z ≤ 32768
 | [],p,_,_,z,hz => by cases p <;> cases hz
 | r :: l,none,h,hp,z,hz => by
  have hz2:z ∈ r.ld :: betw (some r.ld) l:=hz
  rcases List.mem_cons.1 hz2 with rfl|hz2
  ·exact h r (by simp)
  ·exact Qcx l (some r.ld) (fun x hx => h x (by simp [hx])) (fun a e => by cases e;exact h r (by simp)) z hz2
 | r :: l,some a,h,hp,z,hz => by
  have hz2:z ∈ (a + (r.ld - a).tdiv 2) :: r.ld :: betw (some r.ld) l:=hz
  rcases List.mem_cons.1 hz2 with rfl|hz2
  ·exact Qdm (hp a rfl) (h r (by simp))
  rcases List.mem_cons.1 hz2 with rfl|hz2
  ·exact h r (by simp)
  ·exact Qcx l (some r.ld) (fun x hx => h x (by simp [hx])) (fun a e => by cases e;exact h r (by simp)) z hz2
theorem Qe6 {l:List Int} (hl:l.length ≤ 40000) (h:∀ z ∈ l,-32768 ≤ z ∧ z ≤ 32768):QI l = 0:=by
 unfold QI
 rw [if_neg (by omega),if_pos]
 rw [List.length_eq_zero_iff,List.filter_eq_nil_iff]
 intro z hz
 have:=h z hz
 unfold Zo rng
 rw [if_neg (by omega)]
 simp
end Go.Nac
set_option linter.unusedSimpArgs false
set_option linter.unnecessarySimpa false
set_option maxRecDepth 10000
namespace Go.Nac.L7
attribute [local congr] Qa8 YZ Qbf Jn Jf YU Qbc QaZ
section
variable {X:XRel}
theorem Qb4 (n:Int) (h0:-9223372036854775808 ≤ n) (h1:n ≤ 9223372036854775807):(itoaB n).size ≤ 21:=by
 have:=Lib.itoa_length_le n h0 h1
 show (Lib.itoa n).toArray.size ≤ 21
 simpa using this
def encW (w:List UInt8):PV:=.s (.string ⟨w.toArray⟩)
theorem Qd1 {n:Nat} (l:List (List UInt8)):lowL n (l.map encW) = True:=eq_true (Vr _ _ fun r => by simp [encW,PV.low])
theorem QfE (w:List UInt8):encW w = .s (.string ⟨w.toArray⟩):=rfl
theorem Qg0 (l:List (List UInt8)):sized 1 (l.map encW) = true:=by unfold sized;rw [List.all_eq_true];intro x hx;obtain ⟨y,_,rfl⟩:=List.mem_map.1 hx;rfl
theorem Qde (c:UInt8) (l:List UInt8) (hl:l.length ≤ 1000000):Q X 15 [.s (.string ⟨l.toArray⟩),.s (.int .u8 c.toNat)] (.fs ((spl c l).map encW)):=by
 intro M
 have hz:=QV l
 (refine Qd (cf:=L7.c15) rfl rfl fun hM hA => ?_;simp only [L7.c15,zO,zF,zT,zM,CX.i];rw [mk2 _ (by decide)];simp -implicitDefEqProofs (disch:=first|omega|(simp only [go_sem,seval,hz];first|done|omega)) only [go_sem,seval,hz])
 refine Qn (α:=Nat × Nat × List (List UInt8)) (0,0,[]) (fun a => (a.1 ≤ l.length ∧ a.2.1 ≤ a.1 ∧ c ∉ (l.drop a.2.1).take (a.1 - a.2.1) ∧ spl c l = a.2.2 ++ spl c (l.drop a.2.1) ∧ a.2.2.length ≤ a.2.1) ∨ (a.1 = l.length + 1 ∧ spl c l = a.2.2))
  (fun a => M ++ [.row true 1 a.2.2.length (a.2.2.map encW)])
  (fun a => [(0,.s (.string ⟨l.toArray⟩)),(1,.s (.int .u8 c.toNat)),(5,.os M.length a.2.2.length 0 a.2.2.length),(6,.I a.2.1),(7,.I a.1)]) (fun a => l.length + 1 - a.1) (.inl ⟨Nat.zero_le _,Nat.le_refl _,by simp,by simp,Nat.le_refl _⟩) rfl rfl ?_
 rintro ⟨i,f,P⟩ hinv
 simp only at hinv
 rcases hinv with ⟨h1,h2,h3,h4,h5⟩|⟨h1,h2⟩
 case inr =>
  have f1:((i:Int) ≤ l.length) = False:=eq_false (by omega)
  have tk:(P.map encW).take P.length = P.map encW:=List.take_of_length_le (by simp)
  simp -implicitDefEqProofs (disch:=first|omega|(simp only [go_sem,seval,f1,hz];first|done|omega)) only [go_sem,seval,f1,hz]
  (first|refine pfN hM ?_ ?_|refine pf0 hM ?_ ?_)
  ·simp -implicitDefEqProofs (disch:=first|omega|(simp only [go_sem,seval,tk];first|done|omega)) only [go_sem,seval,tk]
   rw [h2]
  ·(simp only [go_sem,seval,Qd1]<;>omega)
 have f1:((i:Int) ≤ l.length) = True:=eq_true (by omega)
 have hss:=@QiJ l (some (.I f)) (some (.I i))
 have b1:(f ≤ i ∧ i ≤ l.length) = True:=eq_true ⟨h2,h1⟩
 have again:∀ (N:List Blk) (T:List (Nat × PV)) (f':Nat) (P':List (List UInt8)),((i + 1 ≤ l.length ∧ f' ≤ i + 1 ∧ c ∉ (l.drop f').take (i + 1 - f') ∧ spl c l = P' ++ spl c (l.drop f') ∧ P'.length ≤ f') ∨ (i + 1 = l.length + 1 ∧ spl c l = P')) →
   M ++ [.row true 1 P'.length (P'.map encW)] = N → [(0,.s (.string ⟨l.toArray⟩)),(1,.s (.int .u8 c.toNat)),(5,.os M.length P'.length 0 P'.length),(6,.I f'),(7,.I (i + 1))] = T → Again 35 (fun a:Nat × Nat × List (List UInt8) => (a.1 ≤ l.length ∧ a.2.1 ≤ a.1 ∧ c ∉ (l.drop a.2.1).take (a.1 - a.2.1) ∧ spl c l = a.2.2 ++ spl c (l.drop a.2.1) ∧ a.2.2.length ≤ a.2.1) ∨ (a.1 = l.length + 1 ∧ spl c l = a.2.2))
   (fun a => M ++ [.row true 1 a.2.2.length (a.2.2.map encW)]) (fun a => [(0,.s (.string ⟨l.toArray⟩)),(1,.s (.int .u8 c.toNat)),(5,.os M.length a.2.2.length 0 a.2.2.length),(6,.I a.2.1),(7,.I a.1)]) (fun a => l.length + 1 - a.1) (i,f,P) N (mk 35 T):=by
  rintro N T f' P' hi rfl rfl
  exact again' (i + 1,f',P') hi (by simp only;omega) rfl rfl
 by_cases he:i = l.length
 ·have f2:((i:Int) = l.length) = True:=eq_true (by omega)
  have hd:(l.drop f).take (i - f) = l.drop f:=List.take_of_length_le (by rw [List.length_drop];omega)
  rw [hd] at h3
  rw [YN h3] at h4
  simp -implicitDefEqProofs (disch:=first|omega|(simp only [go_sem,seval,f1,f2,hz,hss,b1,hd];first|done|omega)) only [go_sem,seval,f1,f2,hz,hss,b1,hd]
  refine again _ _ (i + 1) (P ++ [l.drop f]) (.inr ⟨by omega,h4⟩) ?_ ?_ <;> simp [encW]
 ·have f2:((i:Int) = l.length) = False:=eq_false (by omega)
  obtain ⟨x,hx⟩:∃ x,l[i]? = some x:=⟨_,List.getElem?_eq_getElem (by omega)⟩
  have hix:=Qjw hx
  have hdi:l.drop f = (l.drop f).take (i - f) ++ x :: l.drop (i + 1):=by
   have e1:(l.drop f).drop (i - f) = x :: l.drop (i + 1):=by
    rw [List.drop_drop,show f + (i - f) = i by omega]
    obtain ⟨g1,g2⟩:=List.getElem?_eq_some_iff.1 hx
    rw [List.drop_eq_getElem_cons g1,g2]
   rw [← e1,List.take_append_drop]
  by_cases hc:x = c
  ·have f3:((x.toNat:Int) = c.toNat) = True:=eq_true (by rw [hc])
   subst hc
   rw [hdi,YC h3] at h4
   simp -implicitDefEqProofs (disch:=first|omega|(simp only [go_sem,seval,f1,f2,f3,hz,hss,b1,hix];first|done|omega)) only [go_sem,seval,f1,f2,f3,hz,hss,b1,hix]
   refine again _ _ (i + 1) (P ++ [(l.drop f).take (i - f)]) (.inl ⟨by omega,Nat.le_refl _,by simp,by rw [h4];simp,by simp;omega⟩) ?_ ?_ <;> simp [encW]
  ·have f3:((x.toNat:Int) = c.toNat) = False:=eq_false (fun h => hc (UInt8.toNat_inj.1 (by omega)))
   simp -implicitDefEqProofs (disch:=first|omega|(simp only [go_sem,seval,f1,f2,f3,hz,hix];first|done|omega)) only [go_sem,seval,f1,f2,f3,hz,hix]
   refine again _ _ f P (.inl ⟨by omega,by omega,?_,h4,h5⟩) rfl rfl
   have e2:i + 1 - f = (i - f) + 1:=by omega
   have hlt:i - f < (l.drop f).length:=by rw [List.length_drop];omega
   rw [e2,List.take_succ_eq_append_getElem hlt]
   simp only [List.mem_append,List.mem_singleton,not_or]
   refine ⟨h3,fun h => hc ?_⟩
   rw [h,List.getElem_drop]
   have e3:f + (i - f) = i:=by omega
   obtain ⟨g1,g2⟩:=List.getElem?_eq_some_iff.1 hx
   simp only [e3]
   exact g2.symm
def ItoaX (X:XRel):Prop:=∀ (n:Int) (M:List Blk),-9223372036854775808 ≤ n → n ≤ 9223372036854775807 → X 34 [.I n] M (.s (.string (itoaB n))) M
abbrev bTy:Nat:=74
abbrev uTy:Nat:=5
def CopyX (X:XRel):Prop:=∀ (i ver:Nat) (p s:PV) (M:List Blk),M[i]? = some (.row true 2 ver [.agg [p,s]]) → (p = .s (.pointer none) ∨ p = .bp i ver bTy) → X 65 [.bp i ver bTy] M (.tup []) (M.set i (.row true 2 ver [.agg [.bp i ver bTy,s]]))
theorem QdU (b:ByteArray):(Qi b).all (QP 1) = true:=by
 unfold Qi;rw [List.all_eq_true];intro x hx;obtain ⟨u,_,rfl⟩:=List.mem_map.1 hx;rfl
theorem Yy (b:ByteArray):(Qi b).length = b.size:=by simp [Qi]
theorem Qhb (a b:ByteArray):Qi a ++ Qi b = Qi (a ++ b):=by
 unfold Qi;rw [ByteArray.data_append,Array.toList_append,List.map_append]
def bld0:Blk:=.row true 2 0 [.agg [.s (.pointer none),.s (.slice none 0 0)]]
def bldP (i j ver n:Nat):Blk:=.row true 2 0 [.agg [.bp i 0 bTy,.ot j ver n uTy]]
def bldB (ver:Nat) (b:ByteArray):Blk:=.row true 1 ver (Qi b)
theorem V3 (b:ByteArray) (n:Nat):lowL n (Qi b):=by
 refine Vr _ _ fun u => ?_
 simp [PV.low]
theorem Qom {n:Nat} {M E:List Blk} {b b' c:Blk} (h:lowM n (M ++ b :: E)) (h1:b'.low n) (h2:c.low n):lowM n (M ++ b' :: (E ++ [c])):=by
 intro x hx
 rcases List.mem_append.1 hx with hx|hx
 ·exact h x (by simp [hx])
 ·rcases List.mem_cons.1 hx with rfl|hx
  ·exact h1
  ·rcases List.mem_append.1 hx with hx|hx
   ·exact h x (by simp [hx])
   ·rw [List.mem_singleton] at hx;subst hx;exact h2
theorem Jb {n:Nat} {rs:List (Nat × Option (Option Nat))} {r:PV} {M2 M':List Blk} {t:List PV} {e:Ex} (he:(match e with|.ret|.normal => True|_ => False)) (h2:M2 = M') (hM:lowM M2.length M2) (hn:n ≤ M2.length)
  (h:(resOf M' t rs).map (mkRes M'.length M') = some r) (hl:r.low M2.length):Q9 n rs r M2 e M' t:=by
 subst h2
 cases hv:resOf M2 t rs with
 | none => rw [hv] at h;cases h
 | some vs => rw [hv] at h;exact ⟨he,M2.length,hn,Nat.le_refl _,by rw [List.take_length];exact hM,by rw [List.take_length],vs,hv,.inl (Option.some.inj h).symm,hl⟩
theorem QjG (hC:CopyX X) (s:ByteArray) (h0:0 < s.size) (hs:s.size ≤ 100000) {M E:List Blk} :
  ACall F X (.fn 33) [.bp M.length 0 bTy,.s (.string s)] (M ++ bld0 :: E) (.tup [.I s.size,.s .nilIface]) (M ++ bldP M.length (M.length + (1 + E.length)) 0 s.size :: (E ++ [bldB 0 s])):=by
 refine Qd (cf:=c33) rfl rfl fun hM hA => ?_
 simp only [c33,zO,zF,zT,zM,CX.i]
 rw [mk2 _ (by decide)]
 have hc:=hC M.length 0 (.s (.pointer none)) (.s (.slice none 0 0)) (M ++ bld0 :: E) (by simp [bld0]) (.inl rfl)
 have b1:=QdU s
 have b2:=Yy s
 have e:(M ++ bld0 :: E).set M.length (.row true 2 0 [.agg [.bp M.length 0 bTy,.s (.slice none 0 0)]]) = M ++ .row true 2 0 [.agg [.bp M.length 0 bTy,.s (.slice none 0 0)]] :: E:=by simp
 rw [e] at hc
 simp -implicitDefEqProofs (disch:=first|omega|(simp only [go_sem,seval];first|done|omega)) only [go_sem,seval]
 refine Q0 (QS hc) ?_
 simp -implicitDefEqProofs (disch:=first|omega|(simp only [go_sem,seval,b1,b2];first|done|omega)) only [go_sem,seval,b1,b2]
 have hlow:lowM (M ++ bldP M.length (M.length + (1 + E.length)) 0 s.size :: (E ++ [bldB 0 s])).length (M ++ bldP M.length (M.length + (1 + E.length)) 0 s.size :: (E ++ [bldB 0 s])):=by
  have h1:lowM (M ++ bldP M.length (M.length + (1 + E.length)) 0 s.size :: (E ++ [bldB 0 s])).length (M ++ bld0 :: E):=Zv (by simp) hM
  refine Qom h1 ?_ ?_
  ·simp [bldP,Blk.low,lowL,PV.low];omega
  ·show lowL _ (Qi s)
   exact V3 s _
 refine Jb (by trivial) ?_ hlow (by simp) ?_ ?_
 ·simp [bldP,bldB,Nat.add_comm,Nat.add_left_comm]
 ·have ov:∀ n M,outV n M (.s .nilIface) = .s .nilIface:=fun _ _ => rfl
  simp -implicitDefEqProofs (disch:=first|omega|(simp only [go_sem,seval,ov];first|done|omega)) only [go_sem,seval,ov]
 ·(simp only [go_sem,seval]<;>omega)
theorem QfH {n:Nat} {M E G:List Blk} {b b' c c':Blk} (h:lowM n (M ++ b :: (E ++ c :: G))) (h1:b'.low n) (h2:c'.low n):lowM n (M ++ b' :: (E ++ c' :: G)):=by
 intro x hx
 rcases List.mem_append.1 hx with hx|hx
 ·exact h x (by simp [hx])
 ·rcases List.mem_cons.1 hx with rfl|hx
  ·exact h1
  ·rcases List.mem_append.1 hx with hx|hx
   ·exact h x (by simp [hx])
   ·rcases List.mem_cons.1 hx with rfl|hx
    ·exact h2
    ·exact h x (by simp [hx])
theorem QlT (hC:CopyX X) (b s:ByteArray) (ver:Nat) (h0:0 < s.size) (hs:s.size ≤ 100000) (hb:b.size ≤ 900000) {M E G:List Blk} :
  ACall F X (.fn 33) [.bp M.length 0 bTy,.s (.string s)] (M ++ bldP M.length (M.length + (1 + E.length)) ver b.size :: (E ++ bldB ver b :: G)) (.tup [.I s.size,.s .nilIface])
   (M ++ bldP M.length (M.length + (1 + E.length)) (ver + 1) (b.size + s.size) :: (E ++ bldB (ver + 1) (b ++ s) :: G)):=by
 refine Qd (cf:=c33) rfl rfl fun hM hA => ?_
 simp only [c33,zO,zF,zT,zM,CX.i]
 rw [mk2 _ (by decide)]
 have hc:=hC M.length 0 (.bp M.length 0 bTy) (.ot (M.length + (1 + E.length)) ver b.size uTy) (M ++ bldP M.length (M.length + (1 + E.length)) ver b.size :: (E ++ bldB ver b :: G)) (by simp [bldP]) (.inr rfl)
 have b1:=QdU s
 have b2:=Yy s
 have b3:=Yy b
 have e:(M ++ bldP M.length (M.length + (1 + E.length)) ver b.size :: (E ++ bldB ver b :: G)).set M.length (.row true 2 0 [.agg [.bp M.length 0 bTy,.ot (M.length + (1 + E.length)) ver b.size uTy]]) = M ++ bldP M.length (M.length + (1 + E.length)) ver b.size :: (E ++ bldB ver b :: G):=by simp [bldP]
 rw [e] at hc
 have g1:(M ++ bldP M.length (M.length + (1 + E.length)) ver b.size :: (E ++ bldB ver b :: G))[M.length + (1 + E.length)]? = some (.row true 1 ver (Qi b)):=by
  rw [List.getElem?_append_right (by omega),show M.length + (1 + E.length) - M.length = E.length + 1 by omega,List.getElem?_cons_succ,List.getElem?_append_right (by omega)]
  simp [bldB]
 have g2:∀ c:Blk,(M ++ bldP M.length (M.length + (1 + E.length)) ver b.size :: (E ++ bldB ver b :: G)).set (M.length + (1 + E.length)) c = M ++ bldP M.length (M.length + (1 + E.length)) ver b.size :: (E ++ c :: G):=by
  intro c
  rw [List.set_append_right _ _ (by omega),show M.length + (1 + E.length) - M.length = E.length + 1 by omega,List.set_cons_succ,List.set_append_right _ _ (by omega)]
  simp
 have hlow:lowM (M ++ bldP M.length (M.length + (1 + E.length)) (ver + 1) (b.size + s.size) :: (E ++ bldB (ver + 1) (b ++ s) :: G)).length (M ++ bldP M.length (M.length + (1 + E.length)) (ver + 1) (b.size + s.size) :: (E ++ bldB (ver + 1) (b ++ s) :: G)):=by
  refine QfH (b:=bldP M.length (M.length + (1 + E.length)) ver b.size) (c:=bldB ver b) (by simpa using hM) ?_ ?_
  ·simp [bldP,Blk.low,lowL,PV.low];omega
  ·show lowL _ (Qi _)
   exact V3 _ _
 have hba:=Qhb b s
 have hJ:M.length + (1 + E.length) < M.length + (E.length + G.length + 2):=by omega
 generalize M.length + (1 + E.length) = J at *
 simp only [bldP,bldB] at g1 g2 hc hlow ⊢
 simp -implicitDefEqProofs (disch:=first|omega|(simp only [go_sem,seval];first|done|omega)) only [go_sem,seval]
 refine Q0 (QS hc) ?_
 simp -implicitDefEqProofs (disch:=first|omega|(simp only [go_sem,seval,b1,b2,b3,g1,g2,hba];first|done|omega)) only [go_sem,seval,b1,b2,b3,g1,g2,hba]
 refine Jb (e:=.ret) trivial rfl hlow (by simp <;> omega) ?_ ?_
 ·have ov:∀ n M,outV n M (.s .nilIface) = .s .nilIface:=fun _ _ => rfl
  simp -implicitDefEqProofs (disch:=first|omega|(simp only [go_sem,seval,ov];first|done|omega)) only [go_sem,seval,ov]
 ·(simp only [go_sem,seval]<;>omega)
theorem Qfs (b:ByteArray):strOf (Qi b) = some b:=by
 have:∀ l:List UInt8,strOf (l.map fun u => PV.s (.int .u8 u.toNat)) = some ⟨l.toArray⟩:=by
  intro l
  induction l with
  | nil => rfl
  | cons u l ih =>
   rw [List.map_cons]
   unfold strOf
   rw [ih]
   simp
 unfold Qi
 rw [this,bs_of]
theorem Qk2 (b:ByteArray) (ver:Nat) (hb:b.size ≤ 900000) (h0:0 < b.size) {M E G:List Blk} :
  ACall F X (.fn 35) [.bp M.length 0 bTy] (M ++ bldP M.length (M.length + (1 + E.length)) ver b.size :: (E ++ bldB ver b :: G)) (.s (.string b))
   (M ++ bldP M.length (M.length + (1 + E.length)) ver b.size :: (E ++ .row false 1 (ver + 1) [] :: G)):=by
 refine Qd (cf:=c35) rfl rfl fun hM hA => ?_
 simp only [c35,zO,zF,zT,zM,CX.i]
 rw [mk1 _ (by decide)]
 have b3:=Yy b
 have b4:=Qfs b
 have g1:(M ++ bldP M.length (M.length + (1 + E.length)) ver b.size :: (E ++ bldB ver b :: G))[M.length + (1 + E.length)]? = some (.row true 1 ver (Qi b)):=by
  rw [List.getElem?_append_right (by omega),show M.length + (1 + E.length) - M.length = E.length + 1 by omega,List.getElem?_cons_succ,List.getElem?_append_right (by omega)]
  simp [bldB]
 have g2:∀ c:Blk,(M ++ bldP M.length (M.length + (1 + E.length)) ver b.size :: (E ++ bldB ver b :: G)).set (M.length + (1 + E.length)) c = M ++ bldP M.length (M.length + (1 + E.length)) ver b.size :: (E ++ c :: G):=by
  intro c
  rw [List.set_append_right _ _ (by omega),show M.length + (1 + E.length) - M.length = E.length + 1 by omega,List.set_cons_succ,List.set_append_right _ _ (by omega)]
  simp
 have hlow:lowM (M ++ bldP M.length (M.length + (1 + E.length)) ver b.size :: (E ++ .row false 1 (ver + 1) [] :: G)).length (M ++ bldP M.length (M.length + (1 + E.length)) ver b.size :: (E ++ .row false 1 (ver + 1) [] :: G)):=by
  refine QfH (b:=bldP M.length (M.length + (1 + E.length)) ver b.size) (c:=bldB ver b) (by simpa using hM) ?_ ?_
  ·simp [bldP,Blk.low,lowL,PV.low];omega
  ·simp [Blk.low,lowL]
 have hJ:M.length + (1 + E.length) < M.length + (E.length + G.length + 2):=by omega
 generalize M.length + (1 + E.length) = J at *
 simp only [bldP,bldB] at g1 g2 hlow ⊢
 simp -implicitDefEqProofs (disch:=first|omega|(simp only [go_sem,seval,g1,g2,b3,b4];first|done|omega)) only [go_sem,seval,g1,g2,b3,b4]
 refine Jb (e:=.ret) trivial rfl hlow (by simp <;> omega) ?_ ?_
 ·simp -implicitDefEqProofs (disch:=first|omega|(simp only [go_sem,seval];first|done|omega)) only [go_sem,seval]
 ·(simp only [go_sem,seval]<;>omega)
theorem Qji {M E:List Blk}:ACall F X (.fn 35) [.bp M.length 0 bTy] (M ++ bld0 :: E) (.s (.string ⟨#[]⟩)) (M ++ bld0 :: E):=by
 refine Qd (cf:=c35) rfl rfl fun hM hA => ?_
 simp only [c35,zO,zF,zT,zM,CX.i]
 rw [mk1 _ (by decide)]
 simp only [bld0] at hM ⊢
 simp -implicitDefEqProofs (disch:=first|omega|(simp only [go_sem,seval];first|done|omega)) only [go_sem,seval]
 refine Jb (e:=.ret) trivial rfl (by simpa using hM) (by simp <;> omega) ?_ ?_
 ·simp -implicitDefEqProofs (disch:=first|omega|(simp only [go_sem,seval];first|done|omega)) only [go_sem,seval]
 ·(simp only [go_sem,seval]<;>omega)
theorem sz_sp:(⟨#[32]⟩:ByteArray).size = 1:=rfl
theorem sz_nl:(⟨#[10]⟩:ByteArray).size = 1:=rfl
theorem Qlh (r:Rev):(((itoaB r.at_ ++ (⟨#[32]⟩:ByteArray)) ++ itoaB r.ld) ++ (⟨#[10]⟩:ByteArray)) = ⟨(rvT r ++ [10]).toArray⟩:=by
 have e:∀ n,itoaB n = ⟨(Lib.itoa n).toArray⟩:=fun _ => rfl
 have e1:(⟨#[32]⟩:ByteArray) = ⟨([32]:List UInt8).toArray⟩:=rfl
 have e2:(⟨#[10]⟩:ByteArray) = ⟨([10]:List UInt8).toArray⟩:=rfl
 rw [e,e,e1,e2,Qcc,Qcc,Qcc,Qbn]
 simp
theorem QjR (l:List Rev) (r:Rev):Q7 l ++ (⟨(rvT r ++ [10]).toArray⟩:ByteArray) = Q7 (l ++ [r]):=by
 unfold Q7;rw [Qcc,QhN]
theorem Qc1:∀ {l:List Rev} {pp p:Option Rev},QJ pp p l = 0 → ∀ r ∈ l,(0 ≤ r.at_ ∧ r.at_ ≤ 39999) ∧ (-32768 ≤ r.ld ∧ r.ld ≤ 32768)
 | [],_,_,_,r,hr => by cases hr
 | x :: l,pp,p,h,r,hr => by
  have h2:errAt pp p x = 0 ∧ QJ p (some x) l = 0:=by
   unfold QJ at h
   split at h
   ·rename_i h0;exact ⟨h0,h⟩
   ·rename_i h0;exact absurd h h0
  rcases List.mem_cons.1 hr with rfl|hr
  ·have h3:=Qa6 h2.1 _ (by simp:rng r.at_ 0 39999 ∈ _)
   have h4:=Qa6 h2.1 _ (by simp:rng r.ld (-32768) 32768 ∈ _)
   unfold rng at h3 h4
   split at h3
   ·cases h3
   ·split at h4
    ·cases h4
    ·omega
  ·exact Qc1 h2.2 r hr
theorem Qcb {l:List Rev} (h:Qh l = 0):l.length ≤ 40000 ∧ ∀ r ∈ l,(0 ≤ r.at_ ∧ r.at_ ≤ 39999) ∧ (-32768 ≤ r.ld ∧ r.ld ≤ 32768):=by
 unfold Qh at h
 split at h
 ·cases h
 ·exact ⟨by omega,Qc1 h⟩
theorem Qcp {r:Rev} (h:(0 ≤ r.at_ ∧ r.at_ ≤ 39999) ∧ (-32768 ≤ r.ld ∧ r.ld ≤ 32768)):(itoaB r.at_).size ≤ 21 ∧ (itoaB r.ld).size ≤ 21 ∧ (rvT r ++ [10]).length ≤ 50 ∧ 0 < (rvT r ++ [10]).length:=by
 have h1:=Qb4 r.at_ (by omega) (by omega)
 have h2:=Qb4 r.ld (by omega) (by omega)
 have e1:(itoaB r.at_).size = (Lib.itoa r.at_).length:=QV _
 have e2:(itoaB r.ld).size = (Lib.itoa r.ld).length:=QV _
 rw [Qbn]
 simp only [List.length_append,List.length_cons,List.length_nil]
 omega
theorem QkX {l:List Rev} (h:∀ r ∈ l,(0 ≤ r.at_ ∧ r.at_ ≤ 39999) ∧ (-32768 ≤ r.ld ∧ r.ld ≤ 32768)) (k:Nat):(Q7 (l.take k)).size ≤ 50 * k:=by
 have h1:(rvsL (l.take k)).length ≤ 50 * (l.take k).length:=by
  refine Qdr fun r hr => ?_
  have h2:=Qcp (h r (List.mem_of_mem_take hr))
  have e1:(itoaB r.at_).size = (Lib.itoa r.at_).length:=QV _
  have e2:(itoaB r.ld).size = (Lib.itoa r.ld).length:=QV _
  omega
 have e:(Q7 (l.take k)).size = (rvsL (l.take k)).length:=QV _
 have:=List.length_take_le k l
 omega
def prM (i:Nat) (l:List Rev):Nat → List Blk
 | 0 => [bld0]
 | k + 1 => [bldP i (i + 2) k (Q7 (l.take (k + 1))).size,.row true 2 0 [Qc (l.headD ⟨0,0⟩)],bldB k (Q7 (l.take (k + 1)))]
set_option maxHeartbeats 1000000 in
theorem Qan (hC:CopyX X) (hI:ItoaX X) (l:List Rev) (hl:l.length ≤ 15000):Q X 7 [.fs (l.map Qc)] (.tup [.s (.string (if Qh l = 0 then Q7 l else ⟨#[]⟩)),.I (Qh l)]):=by
 intro M
 have hk:=QB (X:=X) l (by omega)
 by_cases h0:Qh l = 0
 case neg =>
  rw [if_neg h0]
  generalize Qh l = z at hk h0
  (refine Qd (cf:=L7.c7) rfl rfl fun hM hA => ?_;simp only [L7.c7,zO,zF,zT,zM,CX.i];rw [mk1 _ (by decide)];simp -implicitDefEqProofs (disch:=first|omega|(simp only [go_sem,seval];first|done|omega)) only [go_sem,seval])
  refine Qb (hk _) ?_
  simp -implicitDefEqProofs (disch:=first|omega|(simp only [go_sem,seval,h0];first|done|omega)) only [go_sem,seval,h0]
  (all_goals (first|refine pfN hM ?_ ?_|refine pf0 hM ?_ ?_);all_goals first|(simp only [go_sem,seval]<;>omega)|skip;all_goals (try simp -implicitDefEqProofs (disch:=first|omega|(simp only [go_sem,seval];first|done|omega)) only [go_sem,seval]))
 rw [if_pos h0]
 rw [h0] at hk ⊢
 have hin:=(Qcb h0).2
 have hsz:=QkX hin
 (refine Qd (cf:=L7.c7) rfl rfl fun hM hA => ?_;simp only [L7.c7,zO,zF,zT,zM,CX.i];rw [mk1 _ (by decide)];simp -implicitDefEqProofs (disch:=first|omega|(simp only [go_sem,seval];first|done|omega)) only [go_sem,seval])
 refine Qb (hk _) ?_
 simp -implicitDefEqProofs (disch:=first|omega|(simp only [go_sem,seval];first|done|omega)) only [go_sem,seval]
 refine Qn (α:=Nat) 0 (fun k => k ≤ l.length) (fun k => M ++ prM M.length l k) (fun k => [(5,.bp M.length 0 bTy),(13,.fs (l.map Qc)),(14,.I l.length),(15,.I k)]) (fun k => l.length - k) (Nat.zero_le _) rfl rfl ?_
 intro k hk'
 have hkl:=hsz k
 by_cases hlt:k < l.length
 ·obtain ⟨x,h1⟩:∃ x,l[k]? = some x:=⟨_,List.getElem?_eq_getElem hlt⟩
  have hx:=hin x (List.mem_of_getElem? h1)
  obtain ⟨s1,s2,s3,s4⟩:=Qcp hx
  have hp:=Qlh x
  have hsx:=QjR (l.take k) x
  have htk:l.take k ++ [x] = l.take (k + 1):=by
   obtain ⟨g1,g2⟩:=List.getElem?_eq_some_iff.1 h1
   rw [List.take_succ_eq_append_getElem g1,g2]
  rw [htk] at hsx
  have hz1:=QV (rvT x ++ [10])
  have i1:=fun M => hI x.at_ M (by omega) (by omega)
  have i2:=fun M => hI x.ld M (by omega) (by omega)
  rw [← hz1] at s3 s4
  generalize (⟨(rvT x ++ [10]).toArray⟩:ByteArray) = S at hp hsx hz1 s3 s4
  have hws:=fun (E:List Blk) => @QjG X hC S (by omega) (by omega) M E
  have hwm:=fun (b:ByteArray) (ver:Nat) (hb:b.size ≤ 900000) (E G:List Blk) => @QlT X hC b S ver (by omega) (by omega) hb M E G
  have ec:=QD x
  cases k with
  | zero =>
   have flt:((0:Int) < l.length) = True:=eq_true (by omega)
   simp only [prM]
   simp -implicitDefEqProofs (disch:=first|omega|(simp only [go_sem,seval,hlt,flt,h1,Qa,ec];first|done|omega)) only [go_sem,seval,hlt,flt,h1,Qa,ec]
   refine Qb (QS (i1 _)) ?_
   simp -implicitDefEqProofs (disch:=first|omega|(simp only [go_sem,seval,VY,ByteArray.size_append,sz_sp,sz_nl];first|done|omega)) only [go_sem,seval,VY,ByteArray.size_append,sz_sp,sz_nl]
   refine Qb (QS (i2 _)) ?_
   simp -implicitDefEqProofs (disch:=first|omega|(simp only [go_sem,seval,VY,ByteArray.size_append,sz_sp,sz_nl,hp];first|done|omega)) only [go_sem,seval,VY,ByteArray.size_append,sz_sp,sz_nl,hp]
   refine Q0 (hws [_]) ?_
   simp -implicitDefEqProofs (disch:=first|omega|(simp only [go_sem,seval];first|done|omega)) only [go_sem,seval]
   have e0:Q7 ([]:List Rev) ++ S = S:=by
    show (⟨#[]⟩:ByteArray) ++ S = S
    exact ByteArray.empty_append
   rw [List.take_zero,e0] at hsx
   have hh:l.headD ⟨0,0⟩ = x:=by cases l with|nil => simp at h1|cons y l => simpa using h1
   refine Qm hM rfl 3 (by simp) (by first|done|(simp only [go_sem,seval,bldP,bldB,V3] <;> first|done|(refine ⟨?_,?_⟩ <;> omega)|omega)) (Qr (by first|done|(simp only [go_sem,seval,bldP,bldB,V3] <;> first|done|(refine ⟨?_,?_⟩ <;> omega)|omega))) ?_
   simp -implicitDefEqProofs (disch:=first|omega|(simp only [go_sem,seval];first|done|omega)) only [go_sem,seval]
   exact again' 1 (by omega) (by omega) (by simp only [prM,hh,ec,← hsx]) rfl
  | succ k =>
   simp only [prM]
   simp -implicitDefEqProofs (disch:=first|omega|(simp only [go_sem,seval,hlt,h1,Qa,ec];first|done|omega)) only [go_sem,seval,hlt,h1,Qa,ec]
   refine Qb (QS (i1 _)) ?_
   simp -implicitDefEqProofs (disch:=first|omega|(simp only [go_sem,seval,VY,ByteArray.size_append,sz_sp,sz_nl];first|done|omega)) only [go_sem,seval,VY,ByteArray.size_append,sz_sp,sz_nl]
   refine Qb (QS (i2 _)) ?_
   simp -implicitDefEqProofs (disch:=first|omega|(simp only [go_sem,seval,VY,ByteArray.size_append,sz_sp,sz_nl,hp];first|done|omega)) only [go_sem,seval,VY,ByteArray.size_append,sz_sp,sz_nl,hp]
   refine Q0 (hwm _ _ (by omega) [_] [_]) ?_
   simp -implicitDefEqProofs (disch:=first|omega|(simp only [go_sem,seval];first|done|omega)) only [go_sem,seval]
   have hsz2:(Q7 (l.take (k + 1))).size + S.size = (Q7 (l.take (k + 1 + 1))).size:=by rw [← hsx,ByteArray.size_append]
   refine Qm hM rfl 3 (by simp) (by first|done|(simp only [go_sem,seval,bldP,bldB,V3,QM] <;> first|done|(refine ⟨?_,?_⟩ <;> omega)|omega)) (Qr (by first|done|(simp only [go_sem,seval,bldP,bldB,V3,QM] <;> first|done|(refine ⟨?_,?_⟩ <;> omega)|omega))) ?_
   simp -implicitDefEqProofs (disch:=first|omega|(simp only [go_sem,seval];first|done|omega)) only [go_sem,seval]
   exact again' (k + 1 + 1) (by omega) (by omega) (by simp only [prM,hsx,hsz2]) rfl
 ·have hkk:k = l.length:=by omega
  subst hkk
  have htl:l.take l.length = l:=List.take_length
  by_cases hne:l = []
  ·subst hne
   simp only [prM,List.length_nil]
   have flt:((0:Int) < 0) = False:=eq_false (by omega)
   simp -implicitDefEqProofs (disch:=first|omega|(simp only [go_sem,seval,hlt,flt];first|done|omega)) only [go_sem,seval,hlt,flt]
   refine Q0 (Qji (E:=[])) ?_
   simp -implicitDefEqProofs (disch:=first|omega|(simp only [go_sem,seval];first|done|omega)) only [go_sem,seval]
   have e:Q7 [] = ⟨#[]⟩:=rfl
   rw [e]
   (all_goals (first|refine pfN hM ?_ ?_|refine pf0 hM ?_ ?_);all_goals first|(simp only [go_sem,seval,bld0]<;>omega)|skip;all_goals (try simp -implicitDefEqProofs (disch:=first|omega|(simp only [go_sem,seval];first|done|omega)) only [go_sem,seval]))
  ·obtain ⟨k,hll⟩:∃ k,l.length = k + 1:=⟨l.length - 1,by have:=List.length_pos_iff.2 hne;omega⟩
   have flt:(((k + 1:Nat):Int) < ((k + 1:Nat):Int)) = False:=eq_false (by omega)
   rw [hll] at hkl htl ⊢
   simp only [prM,htl]
   rw [htl] at hkl
   have hpos:0 < (Q7 l).size:=by
    obtain ⟨x,q,rfl⟩:∃ x q,l = x :: q:=by cases l with|nil => exact absurd rfl hne|cons x q => exact ⟨x,q,rfl⟩
    have e:(Q7 (x :: q)).size = (rvsL (x :: q)).length:=QV _
    rw [e]
    have e2:rvsL (x :: q) = (rvT x ++ [10]) ++ rvsL q:=rfl
    rw [e2,List.length_append,List.length_append]
    simp only [List.length_cons,List.length_nil]
    omega
   simp -implicitDefEqProofs (disch:=first|omega|(simp only [go_sem,seval,hlt,flt];first|done|omega)) only [go_sem,seval,hlt,flt]
   refine Q0 (Qk2 (Q7 l) k (by omega) hpos (E:=[_]) (G:=[])) ?_
   simp -implicitDefEqProofs (disch:=first|omega|(simp only [go_sem,seval];first|done|omega)) only [go_sem,seval]
   (all_goals (first|refine pfN hM ?_ ?_|refine pf0 hM ?_ ?_);all_goals first|(simp only [go_sem,seval,bldP,QM]<;>omega)|skip;all_goals (try simp -implicitDefEqProofs (disch:=first|omega|(simp only [go_sem,seval];first|done|omega)) only [go_sem,seval]))
def CutX (X:XRel):Prop:=∀ (l:List UInt8) (M:List Blk),l.length ≤ 1000000 → X 36 [.s (.string ⟨l.toArray⟩),.s (.string ⟨#[10]⟩)] M (.tup [.s (.string ⟨(Lib.cut l [10]).1.toArray⟩),.s (.string ⟨(Lib.cut l [10]).2.1.toArray⟩),.B (Lib.cut l [10]).2.2]) M
def SplitX (X:XRel):Prop:=∀ (l:List UInt8) (M:List Blk),l.length ≤ 1000000 → X 68 [.s (.string ⟨l.toArray⟩),.s (.string ⟨#[32]⟩)] M (.fs ((spl 32 l).map encW)) M
def AtoiX (X:XRel):Prop:=∀ (l:List UInt8) (M:List Blk),l.length ≤ 1000000 → X 83 [.s (.string ⟨l.toArray⟩)] M (atoiV ⟨l.toArray⟩) M
def TrimX (X:XRel):Prop:=∀ (l:List UInt8) (M:List Blk),X 84 [.s (.string ⟨l.toArray⟩),.s (.string ⟨#[45]⟩)] M (.s (.string ⟨(Lib.trimPrefix l [45]).toArray⟩)) M
def tkR (t:List (List UInt8) × Bool):Blk:=.row true 2 0 [.agg [.fs (t.1.map encW),.B t.2]]
theorem Jt (ws:List (List UInt8)) (w:Bool):tkR (ws,w) = .row true 2 0 [.agg [.fs (ws.map encW),.B w]]:=rfl
theorem lowR {M0 E:List Blk} {b b':Blk} (hM:lowM (M0 ++ b :: E).length (M0 ++ b :: E)) (h:b'.low (M0 ++ b :: E).length):lowM (M0 ++ b' :: E).length (M0 ++ b' :: E):=by
 intro x hx
 have e:(M0 ++ b' :: E).length = (M0 ++ b :: E).length:=by simp
 rw [e]
 rcases List.mem_append.1 hx with hx|hx
 ·exact hM x (by simp [hx])
 ·rcases List.mem_cons.1 hx with rfl|hx
  ·exact h
  ·exact hM x (by simp [hx])
theorem Qm8 (t:List (List UInt8) × Bool) (n:Nat):(tkR t).low n:=by
 show lowL n [_]
 simp [lowL,PV.low,Qd1]
theorem Ql8 (hI:ItoaX X) (hA0:AtoiX X) (hT:TrimX X) (v:List UInt8) (ws:List (List UInt8)) (w:Bool) (hl:ws.length ≤ 1000000) (hwl:v.length ≤ 1000000) {M0 E:List Blk} :
  ACall F X (.fn 69) [.op M0.length 0 0 0] (M0 ++ tkR (v :: ws,w) :: E) (.I (atoiI v)) (M0 ++ tkR (ws,if okW v = true then w else true) :: E):=by
 refine Qd (cf:=c69) rfl rfl fun hM hA => ?_
 simp only [c69,zO,zF,zT,zM,CX.i]
 rw [mk1 _ (by decide)]
 have hlow:=fun t => lowR hM (Qm8 t _)
 have a1:=hA0 v
 unfold atoiV at a1
 have hT2:=hT v
 have z0:=QV (Lib.trimPrefix v [45])
 have hsz:=Qg0 (v :: ws)
 simp only [List.map_cons,QfE] at hsz
 have htk:(ws.map encW).take ws.length = ws.map encW:=List.take_of_length_le (by simp)
 simp only [Jt,List.map_cons,QfE]
 simp -implicitDefEqProofs (disch:=first|omega|(simp only [go_sem,seval,hsz,htk];first|done|omega)) only [go_sem,seval,hsz,htk]
 have hd:(⟨v.toArray⟩:ByteArray).data.toList = v:=by simp
 rw [hd] at a1
 cases ha:Lib.atoiAll v
 ·rename_i n
  obtain ⟨i1,i2⟩:=QmC ha
  rw [ha] at a1
  have hv:atoiI v = n:=by unfold atoiI;rw [ha]
  have hk0:okW v = (decide (Lib.itoa n = v) && decide ((Lib.trimPrefix v [45]).length ≤ 9)):=by unfold okW;rw [ha]
  simp only at a1
  rw [hv]
  refine Qb (QS (a1 _ hwl)) ?_
  simp -implicitDefEqProofs (disch:=first|omega|(simp only [go_sem,seval];first|done|omega)) only [go_sem,seval]
  refine Qb (QS (hI n _ i1 i2)) ?_
  by_cases c1:Lib.itoa n = v
  ·have f1:bin .neq (.s (.string (itoaB n))) (.s (.string ⟨v.toArray⟩)) = some (.B false):=by
    rw [Yc]
    have:(itoaB n = ⟨v.toArray⟩) = True:=by unfold itoaB;rw [bs_eq];exact eq_true c1
    simp [this]
   simp -implicitDefEqProofs (disch:=first|omega|(simp only [go_sem,seval,f1];first|done|omega)) only [go_sem,seval,f1]
   refine Qb (QS (hT2 _)) ?_
   by_cases c2:(Lib.trimPrefix v [45]).length ≤ 9
   ·have f2:((9:Int) < (Lib.trimPrefix v [45]).length) = False:=eq_false (by omega)
    have hl2:=hlow (ws,w)
    rw [decide_eq_true c1,decide_eq_true c2,Bool.and_self] at hk0
    simp only [hk0,Jt,if_true] at hl2 ⊢
    simp -implicitDefEqProofs (disch:=first|omega|(simp only [go_sem,seval,z0,f2];first|done|omega)) only [go_sem,seval,z0,f2]
    refine QQ ZP hl2 (by simp) ?_ ?_
    ·simp -implicitDefEqProofs (disch:=first|omega|(simp only [go_sem,seval];first|done|omega)) only [go_sem,seval]
    ·(simp only [go_sem,seval]<;>omega)
   ·have f2:((9:Int) < (Lib.trimPrefix v [45]).length) = True:=eq_true (by omega)
    have hl2:=hlow (ws,true)
    rw [decide_eq_true c1,decide_eq_false c2,Bool.and_false] at hk0
    simp only [hk0,Jt,Bool.false_eq_true,if_false] at hl2 ⊢
    simp -implicitDefEqProofs (disch:=first|omega|(simp only [go_sem,seval,z0,f2];first|done|omega)) only [go_sem,seval,z0,f2]
    refine QQ ZP hl2 (by simp) ?_ ?_
    ·simp -implicitDefEqProofs (disch:=first|omega|(simp only [go_sem,seval];first|done|omega)) only [go_sem,seval]
    ·(simp only [go_sem,seval]<;>omega)
  ·have f1:bin .neq (.s (.string (itoaB n))) (.s (.string ⟨v.toArray⟩)) = some (.B true):=by
    rw [Yc]
    have:(itoaB n = ⟨v.toArray⟩) = False:=by unfold itoaB;rw [bs_eq];exact eq_false c1
    simp [this]
   have hl2:=hlow (ws,true)
   rw [decide_eq_false c1,Bool.false_and] at hk0
   simp only [hk0,Jt,Bool.false_eq_true,if_false] at hl2 ⊢
   simp -implicitDefEqProofs (disch:=first|omega|(simp only [go_sem,seval,f1];first|done|omega)) only [go_sem,seval,f1]
   refine QQ ZP hl2 (by simp) ?_ ?_
   ·simp -implicitDefEqProofs (disch:=first|omega|(simp only [go_sem,seval];first|done|omega)) only [go_sem,seval]
   ·(simp only [go_sem,seval]<;>omega)
 all_goals
  have hl2:=hlow (ws,true)
  rw [ha] at a1
  have hk0:okW v = false:=by unfold okW;rw [ha]
  unfold atoiI
  simp only [ha,hk0,Jt,Bool.false_eq_true,if_false] at a1 hl2 ⊢
  refine Qb (QS (a1 _ hwl)) ?_
  simp -implicitDefEqProofs (disch:=first|omega|(simp only [go_sem,seval];first|done|omega)) only [go_sem,seval]
  refine QQ ZP hl2 (by simp) ?_ ?_
  ·simp -implicitDefEqProofs (disch:=first|omega|(simp only [go_sem,seval];first|done|omega)) only [go_sem,seval]
  ·(simp only [go_sem,seval]<;>omega)
theorem int2 (hI:ItoaX X) (hA0:AtoiX X) (hT:TrimX X) (v:List UInt8) (ws:List (List UInt8)) (w:Bool) (hl:ws.length ≤ 1000000) (hwl:v.length ≤ 1000000) {M:List Blk} {z:Blk} :
  ACall F X (.fn 69) [.op (M.length + 1) 0 0 0] (M ++ [z,tkR (v :: ws,w)]) (.I (atoiI v)) (M ++ [z,tkR (ws,if okW v = true then w else true)]):=by
 have:=@Ql8 X hI hA0 hT v ws w hl hwl (M ++ [z]) []
 simpa using this
theorem Qdo (c:UInt8):∀ (l:List UInt8),(spl c l).length ≤ l.length + 1 ∧ ∀ x ∈ spl c l,x.length ≤ l.length
 | [] => by simp [spl]
 | y :: r => by
  obtain ⟨h1,h2⟩:=Qdo c r
  unfold spl
  split
  ·refine ⟨by simp;omega,fun x hx => ?_⟩
   rcases List.mem_cons.1 hx with rfl|hx
   ·simp
   ·have:=h2 x hx;simp;omega
  ·cases hs:spl c r with
   | nil => exact absurd hs (Qae c r)
   | cons h t =>
    rw [hs] at h1 h2
    refine ⟨by simp at h1 ⊢;omega,fun x hx => ?_⟩
    rcases List.mem_cons.1 hx with rfl|hx
    ·have:=h2 h (by simp);simp;omega
    ·have:=h2 x (by simp [hx]);simp;omega
def rvOf:List (List UInt8) → Rev × Bool
 | [a,b] => (⟨atoiI a,atoiI b⟩,okW a && okW b)
 | _ => (⟨0,0⟩,false)
theorem Qnr (w:List (List UInt8)):(rvOf w).2 = (VU w).isSome ∧ ∀ r,VU w = some r → (rvOf w).1 = r:=by
  unfold rvOf VU
  split
  · rename_i a b
    show (okW a && okW b) = (if (numR a).2 = true ∧ (numR b).2 = true then some (⟨(numR a).1,(numR b).1⟩:Rev) else none).isSome ∧ ∀ r,(if (numR a).2 = true ∧ (numR b).2 = true then some (⟨(numR a).1,(numR b).1⟩:Rev) else none) = some r → (⟨atoiI a,atoiI b⟩:Rev) = r
    obtain ⟨a1,a2⟩:=QfT a
    obtain ⟨b1,b2⟩:=QfT b
    by_cases ha:okW a = true
    · by_cases hb:okW b = true
      · rw [ha] at a1
        rw [hb] at b1
        rw [if_pos ⟨a1.symm,b1.symm⟩]
        refine ⟨by simp [ha,hb],fun r hr => ?_⟩
        cases hr
        rw [a2 ha,b2 hb]
      · rw [Bool.eq_false_iff.2 hb] at b1
        rw [if_neg (by intro h;rw [← b1] at h;cases h.2)]
        exact ⟨by simp [Bool.eq_false_iff.2 hb],fun r hr => by cases hr⟩
    · rw [Bool.eq_false_iff.2 ha] at a1
      rw [if_neg (by intro h;rw [← a1] at h;cases h.1)]
      exact ⟨by simp [Bool.eq_false_iff.2 ha],fun r hr => by cases hr⟩
  · rename_i h
    first
    | exact ⟨rfl,fun r hr => by cases hr⟩
    | (split
       · exact absurd rfl (h _ _)
       · exact ⟨rfl,fun r hr => by cases hr⟩)
set_option maxHeartbeats 1000000 in
theorem Ja (hS:SplitX X) (hI:ItoaX X) (hA0:AtoiX X) (hT:TrimX X) (l:List UInt8) (hl:l.length ≤ 900000):Q X 37 [.s (.string ⟨l.toArray⟩)] (.tup [Qc (rvOf (spl 32 l)).1,.B (rvOf (spl 32 l)).2]):=by
 intro M
 obtain ⟨w1,w2⟩:=Qdo 32 l
 have hsp:=fun M => hS l M (by omega)
 generalize spl 32 l = ws at w1 w2 hsp ⊢
 (refine Qd (cf:=L7.c37) rfl rfl fun hM hA => ?_;simp only [L7.c37,zO,zF,zT,zM,CX.i];rw [mk1 _ (by decide)];simp -implicitDefEqProofs (disch:=first|omega|(simp only [go_sem,seval];first|done|omega)) only [go_sem,seval])
 refine Qb (QS (hsp _)) ?_
 by_cases h2:ws.length = 2
 case neg =>
  have f2:((ws.length:Int) = 2) = False:=eq_false (by omega)
  have e:rvOf ws = (⟨0,0⟩,false):=by
   unfold rvOf
   split
   ·exact absurd rfl h2
   ·rfl
  rw [e,QD]
  simp -implicitDefEqProofs (disch:=first|omega|(simp only [go_sem,seval,f2];first|done|omega)) only [go_sem,seval,f2]
  (all_goals (first|refine pfN hM ?_ ?_|refine pf0 hM ?_ ?_);all_goals first|(simp only [go_sem,seval]<;>omega)|skip;all_goals (try simp -implicitDefEqProofs (disch:=first|omega|(simp only [go_sem,seval];first|done|omega)) only [go_sem,seval]))
 obtain ⟨a,b,rfl⟩:∃ a b,ws = [a,b]:=by
  match ws,h2 with
  | [a,b],_ => exact ⟨a,b,rfl⟩
 have r1:=fun (z:Blk) => @int2 X hI hA0 hT a [b] false (by simp) (by have:=w2 a (by simp);omega) M z
 have r2:=fun (w:Bool) (z:Blk) => @int2 X hI hA0 hT b [] w (by simp) (by have:=w2 b (by simp);omega) M z
 have hy:rvOf [a,b] = (⟨atoiI a,atoiI b⟩,okW a && okW b):=rfl
 rw [hy,QD]
 simp -implicitDefEqProofs (disch:=first|omega|(simp only [go_sem,seval];first|done|omega)) only [go_sem,seval]
 refine Q0 (r1 _) ?_
 generalize okW a = oa at *
 simp -implicitDefEqProofs (disch:=first|omega|(simp only [go_sem,seval];first|done|omega)) only [go_sem,seval]
 refine Q0 (r2 _ _) ?_
 generalize okW b = ob at *
 cases oa <;> cases ob <;> simp only [Bool.false_eq_true,if_true,if_false,Jt,List.map_nil]
 all_goals
  simp -implicitDefEqProofs (disch:=first|omega|(simp only [go_sem,seval];first|done|omega)) only [go_sem,seval]
  refine ⟨by simp [YE,YW,Zd,refs,refs1],?_⟩
  (all_goals (first|refine pfN hM ?_ ?_|refine pf0 hM ?_ ?_);all_goals first|(simp only [go_sem,seval]<;>omega)|skip;all_goals (try simp -implicitDefEqProofs (disch:=first|omega|(simp only [go_sem,seval];first|done|omega)) only [go_sem,seval]))
theorem Qmr {l:List UInt8} (h:l ≠ []):bin .eql (.s (.string ⟨l.toArray⟩)) (.s (.string ⟨#[]⟩)) = some (.B false) ∧ bin .neq (.s (.string ⟨l.toArray⟩)) (.s (.string ⟨#[]⟩)) = some (.B true):=by
 have:((⟨l.toArray⟩:ByteArray) = ⟨([]:List UInt8).toArray⟩) = False:=by rw [bs_eq];exact eq_false h
 rw [QhT,Yc]
 refine ⟨?_,?_⟩
 ·show some (PV.B (decide ((⟨l.toArray⟩:ByteArray) = ⟨([]:List UInt8).toArray⟩))) = _
  simp [this]
 ·show some (PV.B (decide ¬((⟨l.toArray⟩:ByteArray) = ⟨([]:List UInt8).toArray⟩))) = _
  simp [this]
theorem Qdp {k:Nat}:rvS (none,k) = []:=rfl
set_option maxHeartbeats 1000000 in
theorem J3 (hC:CutX X) (hS:SplitX X) (hI:ItoaX X) (hA0:AtoiX X) (hT:TrimX X) (t:List UInt8) (hl:t.length ≤ 100000) :
  Q X 9 [.s (.string ⟨t.toArray⟩)] (.tup [.fs ((rvS (parRv [] (spl 10 t))).map Qc),.I (rvN (parRv [] (spl 10 t))),.I (rvE (parRv [] (spl 10 t)))]):=by
 intro M
 have hz:=QV t
 have f1:((1000000:Int) < t.length) = False:=eq_false (by omega)
 (refine Qd (cf:=L7.c9) rfl rfl fun hM hA => ?_;simp only [L7.c9,zO,zF,zT,zM,CX.i];rw [mk1 _ (by decide)];simp -implicitDefEqProofs (disch:=first|omega|(simp only [go_sem,seval,hz,f1];first|done|omega)) only [go_sem,seval,hz,f1])
 refine Qn (α:=List UInt8 × List Rev) (t,[]) (fun a => parRv [] (spl 10 t) = parRv a.2 (spl 10 a.1) ∧ a.2.length + a.1.length ≤ t.length)
  (fun a => M ++ [.row true 2 a.2.length (a.2.map Qc)]) (fun a => [(0,.s (.string ⟨a.1.toArray⟩)),(5,.os M.length a.2.length 0 a.2.length)]) (fun a => a.1.length) ⟨rfl,by simp⟩ rfl rfl ?_
 rintro ⟨rest,o⟩ ⟨i1,i2⟩
 simp only at i1 i2
 rw [i1]
 have hT1:(o.map Qc).take o.length = o.map Qc:=List.take_of_length_le (by simp)
 have hlo:∀ n,lowL n (o.map Qc) = True:=fun n => Qe _
 by_cases hr:rest = []
 ·subst hr
  have be:bin .neq (.s (.string ⟨([]:List UInt8).toArray⟩)) (.s (.string ⟨#[]⟩)) = some (.B false):=by rw [Yc];simp
  have e:parRv o (spl 10 []) = (some o,o.length):=by simp [spl,parRv]
  rw [e,show rvE (some o,o.length) = Qh o from rfl,show rvN (some o,o.length) = if Qh o = 0 then 0 else o.length from rfl,show rvS (some o,o.length) = if Qh o = 0 then o else [] from rfl]
  have hC2:=QB (X:=X) o (by omega)
  simp -implicitDefEqProofs (disch:=first|omega|(simp only [go_sem,seval,be,hT1];first|done|omega)) only [go_sem,seval,be,hT1]
  refine Qb (hC2 _) ?_
  generalize Qh o = ee
  by_cases hz0:ee = 0
  ·subst hz0
   rw [if_pos rfl,if_pos rfl]
   simp -implicitDefEqProofs (disch:=first|omega|(simp only [go_sem,seval];first|done|omega)) only [go_sem,seval]
   (first|refine pfN hM ?_ ?_|refine pf0 hM ?_ ?_)
   ·simp -implicitDefEqProofs (disch:=first|omega|(simp only [go_sem,seval,hT1];first|done|omega)) only [go_sem,seval,hT1]
   ·(simp only [go_sem,seval,hlo]<;>omega)
  ·rw [if_neg hz0,if_neg hz0]
   simp -implicitDefEqProofs (disch:=first|omega|(simp only [go_sem,seval,hz0];first|done|omega)) only [go_sem,seval,hz0]
   (all_goals (first|refine pfN hM ?_ ?_|refine pf0 hM ?_ ?_);all_goals first|(simp only [go_sem,seval]<;>omega)|skip;all_goals (try simp -implicitDefEqProofs (disch:=first|omega|(simp only [go_sem,seval];first|done|omega)) only [go_sem,seval]))
 have hb1:=(Qmr hr).2
 have hcut:=hC rest
 by_cases hnl:(10:UInt8) ∈ rest
 case neg =>
  have e:parRv o (spl 10 rest) = (none,o.length):=by rw [YN hnl,Yt,if_neg hr]
  rw [e,show rvE (none,o.length) = 26 from rfl,show rvN (none,o.length) = o.length from rfl,Qdp]
  rw [Qkm hnl] at hcut
  have hrv:=Ja hS hI hA0 hT rest (by omega)
  generalize rvOf (spl 32 rest) = R at hrv
  obtain ⟨v,b⟩:=R
  rw [QD] at hrv
  simp -implicitDefEqProofs (disch:=first|omega|(simp only [go_sem,seval,hb1];first|done|omega)) only [go_sem,seval,hb1]
  refine Qb (QS (hcut _ (by omega))) ?_
  simp -implicitDefEqProofs (disch:=first|omega|(simp only [go_sem,seval];first|done|omega)) only [go_sem,seval]
  refine Qb (hrv _) ?_
  simp -implicitDefEqProofs (disch:=first|omega|(simp only [go_sem,seval];first|done|omega)) only [go_sem,seval]
  (all_goals (first|refine pfN hM ?_ ?_|refine pf0 hM ?_ ?_);all_goals first|(simp only [go_sem,seval]<;>omega)|skip;all_goals (try simp -implicitDefEqProofs (disch:=first|omega|(simp only [go_sem,seval];first|done|omega)) only [go_sem,seval]))
 obtain ⟨w,r,hw,rfl⟩:=Qay hnl
 have hcut2:Lib.cut (w ++ 10 :: r) [10] = (w,r,true):=QmK hw
 rw [hcut2] at hcut
 rw [YC hw]
 simp only [List.length_append,List.length_cons] at i2
 have hrv:=Ja hS hI hA0 hT w (by omega)
 obtain ⟨g1,g2⟩:=Qnr (spl 32 w)
 generalize rvOf (spl 32 w) = R at hrv g1 g2
 obtain ⟨v,b⟩:=R
 simp only at g1 g2 hrv
 have ev:=QD v
 cases hlv:VU (spl 32 w) with
 | none =>
  rw [hlv] at g1
  simp only [Option.isSome_none] at g1
  subst g1
  rw [JV hlv (Qae 10 r),show rvE (none,o.length) = 26 from rfl,show rvN (none,o.length) = o.length from rfl,Qdp]
  rw [ev] at hrv
  simp -implicitDefEqProofs (disch:=first|omega|(simp only [go_sem,seval,hb1];first|done|omega)) only [go_sem,seval,hb1]
  refine Qb (QS (hcut _ (by simp;omega))) ?_
  simp -implicitDefEqProofs (disch:=first|omega|(simp only [go_sem,seval];first|done|omega)) only [go_sem,seval]
  refine Qb (hrv _) ?_
  simp -implicitDefEqProofs (disch:=first|omega|(simp only [go_sem,seval];first|done|omega)) only [go_sem,seval]
  (all_goals (first|refine pfN hM ?_ ?_|refine pf0 hM ?_ ?_);all_goals first|(simp only [go_sem,seval]<;>omega)|skip;all_goals (try simp -implicitDefEqProofs (disch:=first|omega|(simp only [go_sem,seval];first|done|omega)) only [go_sem,seval]))
 | some v' =>
  rw [hlv] at g1
  simp only [Option.isSome_some] at g1
  subst g1
  obtain rfl:=g2 v' hlv
  rw [YC hw] at i1
  rw [Yu hlv (Qae 10 r)] at i1 ⊢
  have hsn:o.map Qc ++ [.agg [.I v.at_,.I v.ld]] = (o ++ [v]).map Qc:=by rw [List.map_append,← ev];rfl
  have hnn:(o ++ [v]).length = o.length + 1:=by simp
  have hon:(o.map Qc).length = o.length:=by simp
  rw [ev] at hrv
  simp -implicitDefEqProofs (disch:=first|omega|(simp only [go_sem,seval,hb1];first|done|omega)) only [go_sem,seval,hb1]
  refine Qb (QS (hcut _ (by simp;omega))) ?_
  simp -implicitDefEqProofs (disch:=first|omega|(simp only [go_sem,seval];first|done|omega)) only [go_sem,seval]
  refine Qb (hrv _) ?_
  simp -implicitDefEqProofs (disch:=first|omega|(simp only [go_sem,seval,hT1,hon];first|done|omega)) only [go_sem,seval,hT1,hon]
  refine Qm hM rfl 1 (by simp) (by first|done|(simp only [go_sem,seval,hlo] <;> first|done|(refine ⟨?_,?_⟩ <;> omega)|omega)) (Qr (by first|done|(simp only [go_sem,seval,hlo] <;> first|done|(refine ⟨?_,?_⟩ <;> omega)|omega))) ?_
  simp -implicitDefEqProofs (disch:=first|omega|(simp only [go_sem,seval];first|done|omega)) only [go_sem,seval]
  exact again' (r,o ++ [v]) ⟨rfl,by show (o ++ [v]).length + r.length ≤ _;omega⟩ (by simp;omega) (by show _ = M ++ [Blk.row true 2 (o ++ [v]).length ((o ++ [v]).map Qc)];rw [hnn,← hsn]) (by simp only [hnn])
theorem QkR {a b:List UInt8}:bin .neq (.s (.string ⟨a.toArray⟩)) (.s (.string ⟨b.toArray⟩)) = some (.B (decide (a ≠ b))):=by
 rw [Yc]
 have:=@bs_eq a b
 show some (PV.B (decide ¬((⟨a.toArray⟩:ByteArray) = ⟨b.toArray⟩))) = _
 simp only [this]
set_option maxHeartbeats 4000000 in
theorem q_law07_LoadBack (hCp:CopyX X) (hC:CutX X) (hS:SplitX X) (hI:ItoaX X) (hA0:AtoiX X) (hT:TrimX X) (l:List Rev) (b:ByteArray):Q X 4 [.fs (l.map Qc),.s (.string b)] (.B true):=by
 obtain ⟨s,rfl⟩:∃ s:List UInt8,b = ⟨s.toArray⟩:=⟨b.data.toList,(bs_of b).symm⟩
 intro M
 have hz:=QV s
 have hW:=Qdh (X:=X)
 have hsh:=Qc7 (X:=X) (l.map Qc) 20
 rw [List.length_map] at hsh
 by_cases hl:l.length ≤ 20
 case neg =>
  rw [decide_eq_false (show ¬ ((l.length:Int) ≤ 20) by omega)] at hsh
  (refine Qd (cf:=L7.c4) rfl rfl fun hM hA => ?_;simp only [L7.c4,zO,zF,zT,zM,CX.i];rw [mk2 _ (by decide)];simp -implicitDefEqProofs (disch:=first|omega|(simp only [go_sem,seval,hz];first|done|omega)) only [go_sem,seval,hz])
  refine Qb (hW _) ?_
  simp -implicitDefEqProofs (disch:=first|omega|(simp only [go_sem,seval];first|done|omega)) only [go_sem,seval]
  refine Qb (hsh _) ?_
  simp -implicitDefEqProofs (disch:=first|omega|(simp only [go_sem,seval];first|done|omega)) only [go_sem,seval]
  refine Qb (hW _) ?_
  simp -implicitDefEqProofs (disch:=first|omega|(simp only [go_sem,seval];first|done|omega)) only [go_sem,seval]
  (all_goals (first|refine pfN hM ?_ ?_|refine pf0 hM ?_ ?_);all_goals first|(simp only [go_sem,seval]<;>omega)|skip;all_goals (try simp -implicitDefEqProofs (disch:=first|omega|(simp only [go_sem,seval];first|done|omega)) only [go_sem,seval]))
 rw [decide_eq_true (show ((l.length:Int) ≤ 20) by omega)] at hsh
 have h4:=Jo (X:=X) l (by omega)
 by_cases hc:Qh l = 0
 case neg =>
  generalize Qh l = e at *
  (refine Qd (cf:=L7.c4) rfl rfl fun hM hA => ?_;simp only [L7.c4,zO,zF,zT,zM,CX.i];rw [mk2 _ (by decide)];simp -implicitDefEqProofs (disch:=first|omega|(simp only [go_sem,seval,hz];first|done|omega)) only [go_sem,seval,hz])
  refine Qb (hW _) ?_
  simp -implicitDefEqProofs (disch:=first|omega|(simp only [go_sem,seval];first|done|omega)) only [go_sem,seval]
  refine Qb (hsh _) ?_
  simp -implicitDefEqProofs (disch:=first|omega|(simp only [go_sem,seval];first|done|omega)) only [go_sem,seval]
  refine Qb (h4 _) ?_
  simp -implicitDefEqProofs (disch:=first|omega|(simp only [go_sem,seval,hc];first|done|omega)) only [go_sem,seval,hc]
  refine Qb (hW _) ?_
  simp -implicitDefEqProofs (disch:=first|omega|(simp only [go_sem,seval];first|done|omega)) only [go_sem,seval]
  (all_goals (first|refine pfN hM ?_ ?_|refine pf0 hM ?_ ?_);all_goals first|(simp only [go_sem,seval]<;>omega)|skip;all_goals (try simp -implicitDefEqProofs (disch:=first|omega|(simp only [go_sem,seval];first|done|omega)) only [go_sem,seval]))
 have hin:=(Qcb hc).2
 have hlit:∀ r ∈ l,litR r:=fun r hr => by have:=hin r hr;unfold litR;omega
 have h1:=Qfh (X:=X) l (by omega)
 have h2:=Qan (X:=X) hCp hI l (by omega)
 rw [if_pos hc,hc] at h2
 have hbl:=Qia hc
 have hbi:=Qcx l none (fun r hr => (hin r hr).2) (fun a e => by cases e)
 have hbn:=YP l none
 have hcl:=Qe6 (l:=betw none l) (by omega) hbi
 have hT5:(Q7 l) = ⟨(rvsL l).toArray⟩:=rfl
 rw [hT5] at h2
 have hrl:(rvsL l).length ≤ 50 * l.length:=by
  refine Qdr fun r hr => ?_
  have h2:=Qcp (hin r hr)
  have e1:(itoaB r.at_).size = (Lib.itoa r.at_).length:=QV _
  have e2:(itoaB r.ld).size = (Lib.itoa r.ld).length:=QV _
  omega
 have h3:=J3 (X:=X) hC hS hI hA0 hT (rvsL l) (by omega)
 rw [Qhd hlit,show rvS (some l,l.length) = if Qh l = 0 then l else [] from rfl,show rvN (some l,l.length) = if Qh l = 0 then 0 else l.length from rfl,show rvE (some l,l.length) = Qh l from rfl,if_pos hc,if_pos hc,hc] at h3
 have c10:((10:UInt8).toNat:Int) = 10:=rfl
 have hsp:=Qde (X:=X) 10 (rvsL l) (by omega)
 rw [c10] at hsp
 have hspn:((spl 10 (rvsL l)).map encW).length = l.length + 1:=by rw [List.length_map,QfL];simp
 generalize (spl 10 (rvsL l)).map encW = SP at hsp hspn
 rw [hc] at h4
 by_cases hs:s.length ≤ 300
 case neg =>
  have f1:((300:Int) < s.length) = True:=eq_true (by omega)
  (refine Qd (cf:=L7.c4) rfl rfl fun hM hA => ?_;simp only [L7.c4,zO,zF,zT,zM,CX.i];rw [mk2 _ (by decide)];simp -implicitDefEqProofs (disch:=first|omega|(simp only [go_sem,seval,hz];first|done|omega)) only [go_sem,seval,hz])
  refine Qb (hW _) ?_
  simp -implicitDefEqProofs (disch:=first|omega|(simp only [go_sem,seval];first|done|omega)) only [go_sem,seval]
  refine Qb (hsh _) ?_
  simp -implicitDefEqProofs (disch:=first|omega|(simp only [go_sem,seval];first|done|omega)) only [go_sem,seval]
  refine Qb (h4 _) ?_
  simp -implicitDefEqProofs (disch:=first|omega|(simp only [go_sem,seval,hz,f1];first|done|omega)) only [go_sem,seval,hz,f1]
  refine Qb (hW _) ?_
  simp -implicitDefEqProofs (disch:=first|omega|(simp only [go_sem,seval];first|done|omega)) only [go_sem,seval]
  (all_goals (first|refine pfN hM ?_ ?_|refine pf0 hM ?_ ?_);all_goals first|(simp only [go_sem,seval]<;>omega)|skip;all_goals (try simp -implicitDefEqProofs (disch:=first|omega|(simp only [go_sem,seval];first|done|omega)) only [go_sem,seval]))
 have f1:((300:Int) < s.length) = False:=eq_false (by omega)
 have h6:=J3 (X:=X) hC hS hI hA0 hT s (by omega)
 have hlen:=Qj8 (spl 10 s) []
 have hsl:=(Qdo 10 s).1
 simp only [List.length_nil,Nat.zero_add] at hlen
 have hpp:=@Qig s
 generalize rvN (parRv [] (spl 10 s)) = pn at *
 generalize rvE (parRv [] (spl 10 s)) = pe at *
 generalize rvS (parRv [] (spl 10 s)) = ps at *
 have h7:=YT (X:=X) l (by omega)
 have h8:=Zy (X:=X) l l (by omega)
 simp only [decide_true] at h8
 have h9:=Qan (X:=X) hCp hI ps (by omega)
 have hR:=Y0 (X:=X) (betw none l) (by omega)
 rw [hcl,if_pos rfl] at hR
 have hrn:(Qv (points (betw none l))).length ≤ 40:=by
  have:=congrArg List.length hbl
  simp at this
  omega
 have hTd:=YT (X:=X) (Qv (points (betw none l))) (by omega)
 have hL1:=Yo (X:=X) (Qv (points (betw none l))) (by omega)
 have hL2:=Yo (X:=X) l (by omega)
 have hSI:=Y2 (X:=X) (l.map Rev.ld) (l.map Rev.ld) (by simp;omega)
 simp only [decide_true] at hSI
 rw [hbl] at hL1
 have em:(l.map Rev.ld).map PV.I = l.map (fun x => PV.I x.ld):=by rw [List.map_map];rfl
 rw [em] at hSI hL1 hL2
 (refine Qd (cf:=L7.c4) rfl rfl fun hM hA => ?_;simp only [L7.c4,zO,zF,zT,zM,CX.i];rw [mk2 _ (by decide)];simp -implicitDefEqProofs (disch:=first|omega|(simp only [go_sem,seval,hz];first|done|omega)) only [go_sem,seval,hz])
 refine Qb (hW _) ?_
 simp -implicitDefEqProofs (disch:=first|omega|(simp only [go_sem,seval];first|done|omega)) only [go_sem,seval]
 refine Qb (hsh _) ?_
 simp -implicitDefEqProofs (disch:=first|omega|(simp only [go_sem,seval];first|done|omega)) only [go_sem,seval]
 refine Qb (h4 _) ?_
 simp -implicitDefEqProofs (disch:=first|omega|(simp only [go_sem,seval,hz,f1];first|done|omega)) only [go_sem,seval,hz,f1]
 refine Qb (h1 _) ?_
 simp -implicitDefEqProofs (disch:=first|omega|(simp only [go_sem,seval];first|done|omega)) only [go_sem,seval]
 refine Qb (h2 _) ?_
 simp -implicitDefEqProofs (disch:=first|omega|(simp only [go_sem,seval];first|done|omega)) only [go_sem,seval]
 refine Qb (h3 _) ?_
 simp -implicitDefEqProofs (disch:=first|omega|(simp only [go_sem,seval];first|done|omega)) only [go_sem,seval]
 refine Qb (h7 _) ?_
 simp -implicitDefEqProofs (disch:=first|omega|(simp only [go_sem,seval];first|done|omega)) only [go_sem,seval]
 refine Qb (h8 _) ?_
 simp -implicitDefEqProofs (disch:=first|omega|(simp only [go_sem,seval];first|done|omega)) only [go_sem,seval]
 refine Qb (hsp _) ?_
 have fnn:(((l.length + 1:Nat):Int) = (l.length:Int) + 1) = True:=eq_true (by omega)
 simp -implicitDefEqProofs (disch:=first|omega|(simp only [go_sem,seval,hspn,fnn];first|done|omega)) only [go_sem,seval,hspn,fnn]
 refine Qb (h6 _) ?_
 clear h1 h2 h3 h4 h6 h7 h8 hsp hspn hsh
 by_cases hpe:pe = 0
 ·obtain ⟨q1,q2⟩:=hpp hpe
  subst hpe
  rw [if_pos q1,q1,show Q7 ps = ⟨(rvsL ps).toArray⟩ from rfl,q2] at h9
  have bn:=@QkR s s
  simp only [ne_eq,not_true,decide_false] at bn
  simp -implicitDefEqProofs (disch:=first|omega|(simp only [go_sem,seval];first|done|omega)) only [go_sem,seval]
  refine Qb (h9 _) ?_
  simp -implicitDefEqProofs (disch:=first|omega|(simp only [go_sem,seval,bn];first|done|omega)) only [go_sem,seval,bn]
  refine Qn (α:=Nat) 0 (fun k => k ≤ l.length) (fun k => M ++ [.row true 1 (betw none (l.take k)).length ((betw none (l.take k)).map .I)]) (fun k => [(0,.fs (l.map Qc)),(15,.os M.length (betw none (l.take k)).length 0 (betw none (l.take k)).length),(96,.fs (l.map Qc)),(97,.I l.length),(98,.I k)]) (fun k => l.length - k) (Nat.zero_le _) rfl rfl ?_
  intro k hk'
  have hlo:∀ (n:Nat) (z:List Int),lowL n (z.map PV.I) = True:=fun n z => eq_true (Vr _ _ fun r => by simp [PV.low])
  by_cases hlt:k < l.length
  ·obtain ⟨x,h1⟩:∃ x,l[k]? = some x:=⟨_,List.getElem?_eq_getElem hlt⟩
   have hx:=hin x (List.mem_of_getElem? h1)
   have ec:=QD x
   cases k with
   | zero =>
    have flt:((0:Int) < l.length) = True:=eq_true (by omega)
    have hb1:=QbP h1
    simp -implicitDefEqProofs (disch:=first|omega|(simp only [go_sem,seval,flt,h1,Qa,ec,List.take_zero,betw];first|done|omega)) only [go_sem,seval,flt,h1,Qa,ec,List.take_zero,betw]
    refine Qm hM rfl 1 (by simp) (by first|done|(simp only [go_sem,seval,hlo] <;> first|done|(refine ⟨?_,?_⟩ <;> omega)|omega)) (Qr (by first|done|(simp only [go_sem,seval,hlo] <;> first|done|(refine ⟨?_,?_⟩ <;> omega)|omega))) ?_
    simp -implicitDefEqProofs (disch:=first|omega|(simp only [go_sem,seval];first|done|omega)) only [go_sem,seval]
    exact again' 1 (by omega) (by omega) (by rw [hb1];rfl) (by rw [hb1];rfl)
   | succ j =>
    obtain ⟨y,h0⟩:∃ y,l[j]? = some y:=⟨_,List.getElem?_eq_getElem (by omega)⟩
    have hy:=hin y (List.mem_of_getElem? h0)
    have ey:=QD y
    have hb1:=QcA h0 h1
    have hmi:=Qdm hy.2 hx.2
    have e1:(((j + 1:Nat):Int) - 1) = (j:Int):=by omega
    have fj:(((j + 1:Nat):Int) ≤ 0) = False:=eq_false (by omega)
    have fj2:((0:Int) < ((j + 1:Nat):Int)) = True:=eq_true (by omega)
    have hbn:=YP (l.take (j + 1)) none
    have htl:=List.length_take_le (j + 1) l
    have hn1:((betw none (l.take (j + 1))).map PV.I).length = (betw none (l.take (j + 1))).length:=by simp
    have htk:((betw none (l.take (j + 1))).map PV.I).take (betw none (l.take (j + 1))).length = (betw none (l.take (j + 1))).map PV.I:=List.take_of_length_le (by simp)
    have hml:((betw none (l.take (j + 1))).map PV.I ++ [PV.I (y.ld + (x.ld - y.ld).tdiv 2),PV.I x.ld]) = (betw none (l.take (j + 1 + 1))).map PV.I:=by rw [hb1,List.map_append];rfl
    have hll:(betw none (l.take (j + 1 + 1))).length = (betw none (l.take (j + 1))).length + 2:=by rw [hb1];simp
    have hdd:-65536 ≤ (x.ld - y.ld).tdiv 2 ∧ (x.ld - y.ld).tdiv 2 ≤ 65536:=by omega
    obtain ⟨d,hd⟩:∃ d,(x.ld - y.ld).tdiv 2 = d:=⟨_,rfl⟩
    rw [hd] at hb1 hmi hml hdd
    generalize (betw none (l.take (j + 1))).map PV.I = B at *
    generalize (betw none (l.take (j + 1))).length = n at *
    have hlo2:∀ m,lowL m (B ++ [PV.I (y.ld + d),PV.I x.ld]) = True:=by rw [hml];exact fun m => hlo m _
    simp -implicitDefEqProofs (disch:=first|omega|(simp only [go_sem,seval,hlt,h1,h0,Qa,ec,ey,e1,fj,fj2,hn1,htk,hd];first|done|omega)) only [go_sem,seval,hlt,h1,h0,Qa,ec,ey,e1,fj,fj2,hn1,htk,hd]
    refine Qm hM rfl 1 (by simp) (by first|done|(simp only [go_sem,seval,hlo2,hml] <;> first|done|(refine ⟨?_,?_⟩ <;> omega)|omega)) (Qr (by first|done|(simp only [go_sem,seval,hlo2,hml] <;> first|done|(refine ⟨?_,?_⟩ <;> omega)|omega))) ?_
    simp -implicitDefEqProofs (disch:=first|omega|(simp only [go_sem,seval];first|done|omega)) only [go_sem,seval]
    exact again' (j + 1 + 1) (by omega) (by omega) (by rw [hll,← hml]) (by rw [hll];rfl)
  ·have hkk:k = l.length:=by omega
   subst hkk
   rw [List.take_length]
   have hn1:((betw none l).map PV.I).length = (betw none l).length:=by simp
   have htk:((betw none l).map PV.I).take (betw none l).length = (betw none l).map PV.I:=List.take_of_length_le (by simp)
   simp -implicitDefEqProofs (disch:=first|omega|(simp only [go_sem,seval,hlt,hn1,htk];first|done|omega)) only [go_sem,seval,hlt,hn1,htk]
   refine Qb (hR _) ?_
   simp -implicitDefEqProofs (disch:=first|omega|(simp only [go_sem,seval];first|done|omega)) only [go_sem,seval]
   refine Qb (hTd _) ?_
   simp -implicitDefEqProofs (disch:=first|omega|(simp only [go_sem,seval];first|done|omega)) only [go_sem,seval]
   refine Qb (hL1 _) ?_
   simp -implicitDefEqProofs (disch:=first|omega|(simp only [go_sem,seval];first|done|omega)) only [go_sem,seval]
   refine Qb (hL2 _) ?_
   simp -implicitDefEqProofs (disch:=first|omega|(simp only [go_sem,seval];first|done|omega)) only [go_sem,seval]
   refine Qb (hSI _) ?_
   simp -implicitDefEqProofs (disch:=first|omega|(simp only [go_sem,seval];first|done|omega)) only [go_sem,seval]
   (all_goals (first|refine pfN hM ?_ ?_|refine pf0 hM ?_ ?_);all_goals first|(simp only [go_sem,seval,hlo]<;>omega)|skip;all_goals (try simp -implicitDefEqProofs (disch:=first|omega|(simp only [go_sem,seval];first|done|omega)) only [go_sem,seval]))
 ·simp -implicitDefEqProofs (disch:=first|omega|(simp only [go_sem,seval,hpe];first|done|omega)) only [go_sem,seval,hpe]
  refine Qn (α:=Nat) 0 (fun k => k ≤ l.length) (fun k => M ++ [.row true 1 (betw none (l.take k)).length ((betw none (l.take k)).map .I)]) (fun k => [(0,.fs (l.map Qc)),(15,.os M.length (betw none (l.take k)).length 0 (betw none (l.take k)).length),(96,.fs (l.map Qc)),(97,.I l.length),(98,.I k)]) (fun k => l.length - k) (Nat.zero_le _) rfl rfl ?_
  intro k hk'
  have hlo:∀ (n:Nat) (z:List Int),lowL n (z.map PV.I) = True:=fun n z => eq_true (Vr _ _ fun r => by simp [PV.low])
  by_cases hlt:k < l.length
  ·obtain ⟨x,h1⟩:∃ x,l[k]? = some x:=⟨_,List.getElem?_eq_getElem hlt⟩
   have hx:=hin x (List.mem_of_getElem? h1)
   have ec:=QD x
   cases k with
   | zero =>
    have flt:((0:Int) < l.length) = True:=eq_true (by omega)
    have hb1:=QbP h1
    simp -implicitDefEqProofs (disch:=first|omega|(simp only [go_sem,seval,flt,h1,Qa,ec,List.take_zero,betw];first|done|omega)) only [go_sem,seval,flt,h1,Qa,ec,List.take_zero,betw]
    refine Qm hM rfl 1 (by simp) (by first|done|(simp only [go_sem,seval,hlo] <;> first|done|(refine ⟨?_,?_⟩ <;> omega)|omega)) (Qr (by first|done|(simp only [go_sem,seval,hlo] <;> first|done|(refine ⟨?_,?_⟩ <;> omega)|omega))) ?_
    simp -implicitDefEqProofs (disch:=first|omega|(simp only [go_sem,seval];first|done|omega)) only [go_sem,seval]
    exact again' 1 (by omega) (by omega) (by rw [hb1];rfl) (by rw [hb1];rfl)
   | succ j =>
    obtain ⟨y,h0⟩:∃ y,l[j]? = some y:=⟨_,List.getElem?_eq_getElem (by omega)⟩
    have hy:=hin y (List.mem_of_getElem? h0)
    have ey:=QD y
    have hb1:=QcA h0 h1
    have hmi:=Qdm hy.2 hx.2
    have e1:(((j + 1:Nat):Int) - 1) = (j:Int):=by omega
    have fj:(((j + 1:Nat):Int) ≤ 0) = False:=eq_false (by omega)
    have fj2:((0:Int) < ((j + 1:Nat):Int)) = True:=eq_true (by omega)
    have hbn:=YP (l.take (j + 1)) none
    have htl:=List.length_take_le (j + 1) l
    have hn1:((betw none (l.take (j + 1))).map PV.I).length = (betw none (l.take (j + 1))).length:=by simp
    have htk:((betw none (l.take (j + 1))).map PV.I).take (betw none (l.take (j + 1))).length = (betw none (l.take (j + 1))).map PV.I:=List.take_of_length_le (by simp)
    have hml:((betw none (l.take (j + 1))).map PV.I ++ [PV.I (y.ld + (x.ld - y.ld).tdiv 2),PV.I x.ld]) = (betw none (l.take (j + 1 + 1))).map PV.I:=by rw [hb1,List.map_append];rfl
    have hll:(betw none (l.take (j + 1 + 1))).length = (betw none (l.take (j + 1))).length + 2:=by rw [hb1];simp
    have hdd:-65536 ≤ (x.ld - y.ld).tdiv 2 ∧ (x.ld - y.ld).tdiv 2 ≤ 65536:=by omega
    obtain ⟨d,hd⟩:∃ d,(x.ld - y.ld).tdiv 2 = d:=⟨_,rfl⟩
    rw [hd] at hb1 hmi hml hdd
    generalize (betw none (l.take (j + 1))).map PV.I = B at *
    generalize (betw none (l.take (j + 1))).length = n at *
    have hlo2:∀ m,lowL m (B ++ [PV.I (y.ld + d),PV.I x.ld]) = True:=by rw [hml];exact fun m => hlo m _
    simp -implicitDefEqProofs (disch:=first|omega|(simp only [go_sem,seval,hlt,h1,h0,Qa,ec,ey,e1,fj,fj2,hn1,htk,hd];first|done|omega)) only [go_sem,seval,hlt,h1,h0,Qa,ec,ey,e1,fj,fj2,hn1,htk,hd]
    refine Qm hM rfl 1 (by simp) (by first|done|(simp only [go_sem,seval,hlo2,hml] <;> first|done|(refine ⟨?_,?_⟩ <;> omega)|omega)) (Qr (by first|done|(simp only [go_sem,seval,hlo2,hml] <;> first|done|(refine ⟨?_,?_⟩ <;> omega)|omega))) ?_
    simp -implicitDefEqProofs (disch:=first|omega|(simp only [go_sem,seval];first|done|omega)) only [go_sem,seval]
    exact again' (j + 1 + 1) (by omega) (by omega) (by rw [hll,← hml]) (by rw [hll];rfl)
  ·have hkk:k = l.length:=by omega
   subst hkk
   rw [List.take_length]
   have hn1:((betw none l).map PV.I).length = (betw none l).length:=by simp
   have htk:((betw none l).map PV.I).take (betw none l).length = (betw none l).map PV.I:=List.take_of_length_le (by simp)
   simp -implicitDefEqProofs (disch:=first|omega|(simp only [go_sem,seval,hlt,hn1,htk];first|done|omega)) only [go_sem,seval,hlt,hn1,htk]
   refine Qb (hR _) ?_
   simp -implicitDefEqProofs (disch:=first|omega|(simp only [go_sem,seval];first|done|omega)) only [go_sem,seval]
   refine Qb (hTd _) ?_
   simp -implicitDefEqProofs (disch:=first|omega|(simp only [go_sem,seval];first|done|omega)) only [go_sem,seval]
   refine Qb (hL1 _) ?_
   simp -implicitDefEqProofs (disch:=first|omega|(simp only [go_sem,seval];first|done|omega)) only [go_sem,seval]
   refine Qb (hL2 _) ?_
   simp -implicitDefEqProofs (disch:=first|omega|(simp only [go_sem,seval];first|done|omega)) only [go_sem,seval]
   refine Qb (hSI _) ?_
   simp -implicitDefEqProofs (disch:=first|omega|(simp only [go_sem,seval];first|done|omega)) only [go_sem,seval]
   (all_goals (first|refine pfN hM ?_ ?_|refine pf0 hM ?_ ?_);all_goals first|(simp only [go_sem,seval,hlo]<;>omega)|skip;all_goals (try simp -implicitDefEqProofs (disch:=first|omega|(simp only [go_sem,seval];first|done|omega)) only [go_sem,seval]))
end
end Go.Nac.L7
