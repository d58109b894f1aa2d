/- Levels in sixteenths, and the greatest sample. -/
import Derived.Test.YtcbfjgpdogcdbaaGreatDoorW08
set_option linter.unusedVariables false
set_option maxRecDepth 100000
namespace Go.Nac
open Ieee
def lvOf (z:Int):Nat:=(single.div (FloatKind.f32.nearest z) 1098907648).getD 0
def lvB (z:Int):Bool:=(single.div (FloatKind.f32.nearest z) 1098907648).isSome && decide (smpE (lvOf z) = 0)
theorem QpU:(List.range 640).all (fun n => lvB ((n:Int) - 320)) = true:=by decide +kernel
theorem lv_ok {z:Int} (h:-320 ≤ z ∧ z ≤ 319):single.div (FloatKind.f32.nearest z) 1098907648 = some (lvOf z) ∧ smpE (lvOf z) = 0:=by
 have h1:lvB ((((z + 320).toNat:Nat):Int) - 320) = true:=List.all_eq_true.1 QpU (z + 320).toNat (List.mem_range.2 (by omega))
 have e:(((z + 320).toNat:Nat):Int) - 320 = z:=by omega
 rw [e] at h1
 unfold lvB at h1
 rw [Bool.and_eq_true,decide_eq_true_eq] at h1
 refine ⟨?_,h1.2⟩
 unfold lvOf
 cases hd:single.div (FloatKind.f32.nearest z) 1098907648 with
 | none => rw [hd] at h1;simp at h1
 | some r => rfl
theorem mx_ok:smpE 1157627904 = 0 ∧ six 1157627904 = 32768:=by decide +kernel
theorem le_mx {x:Nat} (h:smpE x = 0):fOf x ≤ fOf 1157627904:=by
 have h1:=Qc0 h
 have h2:=Qc0 mx_ok.1
 rw [mx_ok.2] at h2
 have h3:=(QdB h).2
 have h4:=Qjv
 have h5:six x * uP ≤ 32768 * uP:=Int.mul_le_mul_of_nonneg_right h3 (by omega)
 omega
theorem Qnb {z:Int} (h:-320 ≤ z ∧ z ≤ 319):sopV (.fbin .quo) [.s (.float .f32 (FloatKind.f32.nearest z)),.s (.float .f32 1098907648)] = some (.s (.float .f32 (lvOf z))):=by
 have e2:FloatKind.f32.format.div (FloatKind.f32.nearest z) 1098907648 = some (lvOf z):=(lv_ok h).1
 simp only [sopV,if_true,QR,e2]
theorem Qna {e:Nat} (h:e < 8):bin .shl (.s (.int .u8 1)) (.s (.int .u8 (e:Int))) = some (.s (.int .u8 ((2 ^ e:Nat):Int))):=by
 rcases (by omega:e = 0 ∨ e = 1 ∨ e = 2 ∨ e = 3 ∨ e = 4 ∨ e = 5 ∨ e = 6 ∨ e = 7) with rfl|rfl|rfl|rfl|rfl|rfl|rfl|rfl <;> rfl
theorem QqL (c d:UInt8):bin .xor (.s (.int .u8 (c.toNat:Int))) (.s (.int .u8 (d.toNat:Int))) = some (.s (.int .u8 ((c ^^^ d).toNat:Int))):=by
 rw [Qoz]
 have e:∀ x:UInt8,BitVec.ofInt 8 (x.toNat:Int) = x.toBitVec:=fun x => by
  rw [BitVec.ofInt_natCast]
  show BitVec.ofNat 8 x.toBitVec.toNat = _
  rw [BitVec.ofNat_toNat];simp
 have h:(BitVec.ofInt IntKind.u8.bits (c.toNat:Int) ^^^ BitVec.ofInt IntKind.u8.bits (d.toNat:Int)).toNat = (c ^^^ d).toNat:=by
  show (BitVec.ofInt 8 (c.toNat:Int) ^^^ BitVec.ofInt 8 (d.toNat:Int)).toNat = _
  rw [e,e,← UInt8.toBitVec_xor];rfl
 rw [h]
 have h2:=u8_lt (c ^^^ d)
 have h3:IntKind.u8.wrap (((c ^^^ d).toNat:Nat):Int) = ((c ^^^ d).toNat:Nat):=by
  generalize (c ^^^ d).toNat = n at h2
  show ((n:Int) % 256) = n
  omega
 rw [h3]
theorem QpC {c:UInt8} {e:Nat} (h:e < 8):bin .xor (.s (.int .u8 (c.toNat:Int))) (.s (.int .u8 ((2 ^ e:Nat):Int))) = some (bt (c ^^^ UInt8.ofNat (2 ^ e))):=by
 have h1:(UInt8.ofNat (2 ^ e)).toNat = 2 ^ e:=by
  rcases (by omega:e = 0 ∨ e = 1 ∨ e = 2 ∨ e = 3 ∨ e = 4 ∨ e = 5 ∨ e = 6 ∨ e = 7) with rfl|rfl|rfl|rfl|rfl|rfl|rfl|rfl <;> rfl
 have:=QqL c (UInt8.ofNat (2 ^ e))
 rw [h1] at this
 exact this
theorem Qpp {b:List UInt8} {j:Nat} (d:UInt8):(b.map bt).set j (bt d) = (b.set j d).map bt:=by rw [List.map_set]
end Go.Nac
set_option linter.unusedSimpArgs false
set_option linter.unnecessarySimpa false
set_option maxRecDepth 10000
namespace Go.Nac.L6
attribute [local congr] VQ Vq VS Vd Vb Q2 VT VN
section
variable {X:XRel}
theorem Qcd (l:List Spn):Q X 71 [.fs (l.map Qa)] (.fn (.func 92) [] [.fp [.fs (l.map Qa)]]):=by
 intro M
 (refine Qe (cf:=L6.c71) rfl rfl fun hM hA => ?_;simp only [L6.c71,zO,zF,zT,zM,CX.i];rw [mk1 _ (by decide)];simp -implicitDefEqProofs (disch:=first|omega|(simp only [go_sem,seval];first|done|omega)) only [go_sem,seval])
 (all_goals (first|refine pfN hM ?_ ?_|refine pf0 hM ?_ ?_);all_goals first|(simp only [go_sem,seval,Qg]<;>omega)|skip;all_goals (try simp -implicitDefEqProofs (disch:=first|omega|(simp only [go_sem,seval];first|done|omega)) only [go_sem,seval]))
theorem QcH (l:List Spn) (hl:l.length ≤ 1048576):Yields X 92 [.fp [.fs (l.map Qa)]] (l.map Qa):=by
 intro i N hN hy
 have hpl:(l.map Qa).length = l.length:=by simp
 refine Qe (cf:=c92) rfl rfl fun hM hA => ?_
 have hi:i < (N 0).length:=by simp only [lowL,PV.low] at hA;exact hA.1
 simp only [c92,zO,zF,zT,zM,CX.i]
 rw [mk2 _ (by decide)]
 simp -implicitDefEqProofs (disch:=first|omega|(simp only [go_sem,seval];first|done|omega)) only [go_sem,seval]
 refine Qo (α:=Nat) 0 (fun k => k ≤ l.length) (fun k => N k) (fun k => [(0,.yl i),(5,.fs (l.map Qa)),(6,.I l.length),(7,.I k)]) (fun k => l.length - k) (Nat.zero_le _) rfl rfl ?_
 intro k hk
 have hk0:=hN k (by omega)
 by_cases hlt:k < l.length
 ·obtain ⟨x,h1⟩:∃ x,l[k]? = some x:=⟨_,List.getElem?_eq_getElem hlt⟩
  have hp:(l.map Qa)[k]? = some (Qa x):=by simp [h1]
  have hk1:=hN (k + 1) (by omega)
  simp -implicitDefEqProofs (disch:=first|omega|(simp only [go_sem,seval,hlt,h1,Qh];first|done|omega)) only [go_sem,seval,hlt,h1,Qh]
  refine Q6 (hy k _ _ hp) ?_
  simp -implicitDefEqProofs (disch:=first|omega|(simp only [go_sem,seval];first|done|omega)) only [go_sem,seval]
  refine Qy hk1.2 (by omega) 0 (by simp) Z1 (QA ?_) ?_
  ·have:i < (N (k + 1)).length:=by omega
   simp only [go_sem,seval,this,Nat.add_zero,Qg]
  ·simp -implicitDefEqProofs (disch:=first|omega|(simp only [go_sem,seval];first|done|omega)) only [go_sem,seval]
   exact again' (k + 1) (by omega) (by omega) rfl rfl
 ·simp -implicitDefEqProofs (disch:=first|omega|(simp only [go_sem,seval,hlt];first|done|omega)) only [go_sem,seval,hlt]
  have e:l.length = k:=by omega
  rw [e]
  refine Yr QaQ hk0.2 hk0.1.symm ?_ ?_
  ·simp -implicitDefEqProofs (disch:=first|omega|(simp only [go_sem,seval];first|done|omega)) only [go_sem,seval]
   rfl
  ·(simp only [go_sem,seval]<;>omega)
theorem QfY {l:List Spn} {g:FuncId} {cap:List PV} (hl:l.length ≤ 1048576) (hg:Yields X g cap (l.map Qa)) (M:List Blk) :
  ACall F X (.fn 103) [PV.nilS,.fn (.func g) [] cap] M (.os M.length l.length 0 l.length) (M ++ [.row true 2 l.length (l.map Qa)]):=by
 refine QaD (cf:=c103) rfl rfl fun hM hA => ?_
 simp only [c103,zO,zF,zT,zM,CX.i]
 rw [mk2 _ (by decide)]
 have hcap:lowL M.length cap:=by simp only [lowL,PV.low] at hA;exact hA.2.1.2
 simp -implicitDefEqProofs (disch:=first|omega|(simp only [go_sem,seval];first|done|omega)) only [go_sem,seval]
 have htl:∀ k,k ≤ l.length → (l.take k).length = k:=fun k hk => by simp;omega
 refine Qhc hg (fun k => [.row true 1 0 [.os (M.length + 2) (l.take k).length 0 (l.take k).length],.row true 2 0 [],.row true 2 (l.take k).length ((l.take k).map Qa)]) hM (by simp -implicitDefEqProofs (disch:=first|omega|(simp only [go_sem,seval];first|done|omega)) only [go_sem,seval]) (fun k => rfl) ?_ ?_ ?_ ?_
 ·intro k _
  simp only [go_sem,seval,Qg]
  try simp
 ·refine (?_:lowL (M.length + (0 + 1 + 1 + 1)) _)
  simp only [go_sem,seval,QK (Nat.le_add_right M.length 3) cap hcap]
 ·intro k x E L LB hx hE
  obtain ⟨y,h1,rfl⟩:∃ y,l[k]? = some y ∧ Qa y = x:=by simpa using hx
  have hk:k < l.length:=(List.getElem?_eq_some_iff.1 h1).1
  have hs:(l.take (k + 1)) = l.take k ++ [y]:=by
   obtain ⟨h3,h4⟩:=List.getElem?_eq_some_iff.1 h1
   rw [List.take_succ_eq_append_getElem h3,h4]
  have ho:=htl k (by omega)
  simp only [hs]
  generalize l.take k = o at ho ⊢
  clear hs hx
  simp -implicitDefEqProofs (disch:=first|omega|(simp only [go_sem,seval,Qh];first|done|omega)) only [go_sem,seval,Qh]
  refine Qqp (by rw [getMj];rfl) ?_
  have ho2:o.length ≤ 1048575:=by omega
  simp -implicitDefEqProofs (disch:=first|omega|(simp only [go_sem,seval,Qh];first|done|omega)) only [go_sem,seval,Qh]
  refine Qp4 [.row true 2 0 [.agg [.I y.fr,.I y.to_]]] ?_
  simp [Qa]
 ·simp -implicitDefEqProofs (disch:=first|omega|(simp only [go_sem,seval];first|done|omega)) only [go_sem,seval]
  refine Qc7 JD hM (j:=2) (xs:=l.map Qa) (k:=2) (v:=l.length) (by simp -implicitDefEqProofs (disch:=first|omega|(simp only [go_sem,seval,Nat.min_self];first|done|omega)) only [go_sem,seval,Nat.min_self]) (by simp) ?_
  ·(simp only [go_sem,seval,Qg]<;>omega)
theorem Qji {l:List Spn} {g:FuncId} {cap:List PV} (hl:l.length ≤ 1048576) (hg:Yields X g cap (l.map Qa)) (M:List Blk) :
  ACall F X (.fn 90) [.fn (.func g) [] cap] M (.os M.length l.length 0 l.length) (M ++ [.row true 2 l.length (l.map Qa)]):=by
 refine QaD (cf:=c90) rfl rfl fun hM hA => ?_
 simp only [c90,zO,zF,zT,zM,CX.i]
 rw [mk1 _ (by decide)]
 simp -implicitDefEqProofs (disch:=first|omega|(simp only [go_sem,seval];first|done|omega)) only [go_sem,seval]
 refine Q6 (QfY hl hg _) ?_
 simp -implicitDefEqProofs (disch:=first|omega|(simp only [go_sem,seval];first|done|omega)) only [go_sem,seval]
 refine Qc7 JD hM (j:=1) (xs:=l.map Qa) (k:=2) (v:=l.length) (by simp -implicitDefEqProofs (disch:=first|omega|(simp only [go_sem,seval];first|done|omega)) only [go_sem,seval]) (by simp) ?_
 ·(simp only [go_sem,seval,Qg]<;>omega)
def SortX (X:XRel):Prop:=∀ (M:List Blk) (i ver:Nat) (d:List Spn),d.length ≤ 1048576 → M[i]? = some (.row true 2 ver (d.map Qa)) →
 X 91 [.os i ver 0 d.length,.fn (.func 72) [] []] M (.tup []) (M.set i (.row true 2 ver ((srtL Q0 d).map Qa)))
theorem Qaj (hS:SortX X) {l:List Spn} {g:FuncId} {cap:List PV} (hl:l.length ≤ 1048576) (hg:Yields X g cap (l.map Qa)) :
  Q X 70 [.fn (.func g) [] cap,.fn (.func 72) [] []] (.fs ((srtL Q0 l).map Qa)):=by
 intro M
 (refine Qe (cf:=L6.c70) rfl rfl fun hM hA => ?_;simp only [L6.c70,zO,zF,zT,zM,CX.i];rw [mk2 _ (by decide)];simp -implicitDefEqProofs (disch:=first|omega|(simp only [go_sem,seval];first|done|omega)) only [go_sem,seval])
 refine Q6 (Qji hl hg _) ?_
 simp -implicitDefEqProofs (disch:=first|omega|(simp only [go_sem,seval];first|done|omega)) only [go_sem,seval]
 refine Q6 (VI (hS _ _ _ l hl (by simp))) ?_
 have hsl:=QcU l
 simp -implicitDefEqProofs (disch:=first|omega|(simp only [go_sem,seval,hsl];first|done|omega)) only [go_sem,seval,hsl]
 (first|refine pfN hM ?_ ?_|refine pf0 hM ?_ ?_)
 ·simp -implicitDefEqProofs (disch:=first|omega|(simp only [go_sem,seval,hsl];first|done|omega)) only [go_sem,seval,hsl]
 ·(simp only [go_sem,seval,Qg]<;>omega)
theorem Qal (hS:SortX X) (l:List Spn) (hl:l.length ≤ 1000000):Q X 46 [.fs (l.map Qa)] (.fs ((Zr l).map Qa)):=by
 intro M
 (refine Qe (cf:=L6.c46) rfl rfl fun hM hA => ?_;simp only [L6.c46,zO,zF,zT,zM,CX.i];rw [mk1 _ (by decide)];simp -implicitDefEqProofs (disch:=first|omega|(simp only [go_sem,seval];first|done|omega)) only [go_sem,seval])
 refine Qb (Qcd l _) ?_
 simp -implicitDefEqProofs (disch:=first|omega|(simp only [go_sem,seval];first|done|omega)) only [go_sem,seval]
 refine Qb (Qaj hS (by omega) (QcH l (by omega)) _) ?_
 have hsl:=QcU l
 unfold Zr
 generalize srtL Q0 l = d at hsl ⊢
 simp -implicitDefEqProofs (disch:=first|omega|(simp only [go_sem,seval,hsl];first|done|omega)) only [go_sem,seval,hsl]
 have hml:∀ k,k ≤ d.length → (QN (d.take k)).length ≤ k:=fun k hk => by have:=Qap (d.take k);simp at this;omega
 refine Qo (α:=Nat) 0 (fun k => k ≤ d.length) (fun k => M ++ [.row true 2 0 [],.row true 2 (QN (d.take k)).length ((QN (d.take k)).map Qa)])
  (fun k => [(4,.os (M.length + 1) (QN (d.take k)).length 0 (QN (d.take k)).length),(11,.fs (d.map Qa)),(12,.I l.length),(13,.I k)]) (fun k => d.length - k) (Nat.zero_le _) rfl rfl ?_
 intro k hk
 by_cases hlt:k < d.length
 ·obtain ⟨x,h1⟩:∃ x,d[k]? = some x:=⟨_,List.getElem?_eq_getElem hlt⟩
  have hs:=Qd4 h1
  have ho:=hml k hk
  have again:∀ o:List Spn,QN (d.take (k + 1)) = o → Again 52 (fun k => k ≤ d.length) (fun k => M ++ [.row true 2 0 [],.row true 2 (QN (d.take k)).length ((QN (d.take k)).map Qa)])
   (fun k => [(4,.os (M.length + 1) (QN (d.take k)).length 0 (QN (d.take k)).length),(11,.fs (d.map Qa)),(12,.I l.length),(13,.I k)]) (fun k => d.length - k) k
   (M ++ [.row true 2 0 [],.row true 2 o.length (o.map Qa)]) (mk 52 [(4,.os (M.length + 1) o.length 0 o.length),(11,.fs (d.map Qa)),(12,.I l.length),(13,.I (k + 1))]):=by
   rintro o rfl
   exact again' (k + 1) (by omega) (by omega) rfl rfl
  rw [hs] at again
  clear hs
  generalize QN (d.take k) = o at ho again ⊢
  have f0:((k:Int) < l.length) = True:=eq_true (by omega)
  simp -implicitDefEqProofs (disch:=first|omega|(simp only [go_sem,seval,hlt,f0,h1,Qh];first|done|omega)) only [go_sem,seval,hlt,f0,h1,Qh]
  rcases (by omega:o.length = 0 ∨ 1 ≤ o.length) with h0|h0
  ·have f1:((0:Int) < o.length) = False:=eq_false (by omega)
   simp -implicitDefEqProofs (disch:=first|omega|(simp only [go_sem,seval,f1,Qh];first|done|omega)) only [go_sem,seval,f1,Qh]
   refine Qy hM rfl 2 (by simp) (by first|done|(simp only [go_sem,seval,Qg] <;> first|done|(refine ⟨?_,?_⟩ <;> omega)|omega)) (QA (by first|done|(simp only [go_sem,seval,Qg] <;> first|done|(refine ⟨?_,?_⟩ <;> omega)|omega))) ?_
   simp -implicitDefEqProofs (disch:=first|omega|(simp only [go_sem,seval];first|done|omega)) only [go_sem,seval]
   have:=again _ (Qdd h0)
   have ho:o = []:=List.eq_nil_of_length_eq_zero h0
   subst ho
   exact this
  ·have f1:((0:Int) < o.length) = True:=eq_true (by omega)
   obtain ⟨p,g1⟩:∃ p,o[o.length - 1]? = some p:=⟨_,List.getElem?_eq_getElem (by omega)⟩
   have e1:(o.length:Int) - 1 = ((o.length - 1:Nat):Int):=by omega
   have l1:o.length - 1 < o.length:=by omega
   simp -implicitDefEqProofs (disch:=first|omega|(simp only [go_sem,seval,f1,e1,g1,l1,Qh];first|done|omega)) only [go_sem,seval,f1,e1,g1,l1,Qh]
   have eset:(o.map Qa).set (o.length - 1) (.agg [.I p.fr,.I (max p.to_ x.to_)]) = (o.set (o.length - 1) ⟨p.fr,max p.to_ x.to_⟩).map Qa:=by rw [List.map_set];rfl
   refine QF ?_ ?_ <;> intro hc <;> (try simp only [decide_eq_true_eq,decide_eq_false_iff_not,Classical.not_not,Bool.not_eq_true,Bool.not_eq_true',Bool.not_eq_false',Bool.false_or,Bool.or_false,Bool.true_or,Bool.or_true,Bool.false_and,Bool.and_false,Bool.true_and,Bool.and_true] at hc) <;> simp -implicitDefEqProofs (disch:=first|omega|(simp only [go_sem,seval,f1,e1,g1,l1,Qh,Qd,eset,hc];first|done|omega)) only [go_sem,seval,f1,e1,g1,l1,Qh,Qd,eset,hc]
   ·refine Qy hM rfl 2 (by simp) (by first|done|(simp only [go_sem,seval,Qg] <;> first|done|(refine ⟨?_,?_⟩ <;> omega)|omega)) (QA (by first|done|(simp only [go_sem,seval,Qg] <;> first|done|(refine ⟨?_,?_⟩ <;> omega)|omega))) ?_
    simp -implicitDefEqProofs (disch:=first|omega|(simp only [go_sem,seval];first|done|omega)) only [go_sem,seval]
    have:=again _ (QhT g1 hc)
    rw [List.length_set] at this
    exact this
   ·refine Qy hM rfl 2 (by simp) (by first|done|(simp only [go_sem,seval,Qg] <;> first|done|(refine ⟨?_,?_⟩ <;> omega)|omega)) (QA (by first|done|(simp only [go_sem,seval,Qg] <;> first|done|(refine ⟨?_,?_⟩ <;> omega)|omega))) ?_
    simp -implicitDefEqProofs (disch:=first|omega|(simp only [go_sem,seval];first|done|omega)) only [go_sem,seval]
    have:=again _ (Qf2 g1 (by omega))
    simpa [Qa] using this
 ·have f0:((k:Int) < l.length) = False:=eq_false (by omega)
  simp -implicitDefEqProofs (disch:=first|omega|(simp only [go_sem,seval,hlt,f0];first|done|omega)) only [go_sem,seval,hlt,f0]
  have e:d.take k = d:=List.take_of_length_le (by omega)
  (first|refine pfN hM ?_ ?_|refine pf0 hM ?_ ?_)
  ·simp -implicitDefEqProofs (disch:=first|omega|(simp only [go_sem,seval,e];first|done|omega)) only [go_sem,seval,e]
   rw [List.take_of_length_le (by simp)]
  ·(simp only [go_sem,seval,Qg]<;>omega)
def QqY (l:List Spn):List Spn:=Qcm (QbX [1] l [])
def joinR (a b:List Spn):List Spn:=Qcm (QbX [1,2,3] a b)
def meetR (a b:List Spn):List Spn:=Qcm (QbX [3] a b)
def QqX (a b:List Spn):List Spn:=Qcm (QbX [1] a b)
theorem Yy (a b:List Spn) (hl:a.length ≤ 1048576):Q X 17 [.fs (a.map Qa),.fs (b.map Qa)] (.B (decide (a = b))):=by
 intro M
 (refine Qe (cf:=L6.c17) rfl rfl fun hM hA => ?_;simp only [L6.c17,zO,zF,zT,zM,CX.i];rw [mk2 _ (by decide)];simp -implicitDefEqProofs (disch:=first|omega|(simp only [go_sem,seval];first|done|omega)) only [go_sem,seval])
 refine QF ?_ ?_ <;> intro hc <;> simp only [decide_eq_true_eq,decide_eq_false_iff_not,Classical.not_not] at hc
 ·simp -implicitDefEqProofs (disch:=first|omega|(simp only [go_sem,seval];first|done|omega)) only [go_sem,seval]
  (first|refine pfN hM ?_ ?_|refine pf0 hM ?_ ?_)
  ·simp -implicitDefEqProofs (disch:=first|omega|(simp only [go_sem,seval];first|done|omega)) only [go_sem,seval]
   congr 2;symm;rw [decide_eq_false_iff_not];rintro rfl;exact hc rfl
  ·(simp only [go_sem,seval]<;>omega)
 ·simp -implicitDefEqProofs (disch:=first|omega|(simp only [go_sem,seval];first|done|omega)) only [go_sem,seval]
  have hc:b.length = a.length:=by omega
  refine Qo (α:=Nat) 0 (fun k => k ≤ a.length ∧ a.take k = b.take k) (fun k => M) (fun k => [(0,.fs (a.map Qa)),(1,.fs (b.map Qa)),(5,.I k)]) (fun k => a.length - k) ⟨Nat.zero_le _,rfl⟩ rfl rfl ?_
  rintro k ⟨hk,hs⟩
  by_cases hlt:k < a.length
  ·obtain ⟨x,h1⟩:∃ x,a[k]? = some x:=⟨_,List.getElem?_eq_getElem hlt⟩
   obtain ⟨y,h2⟩:∃ y,b[k]? = some y:=⟨_,List.getElem?_eq_getElem (by omega)⟩
   simp -implicitDefEqProofs (disch:=first|omega|(simp only [go_sem,seval,hlt,h1,h2,Qh];first|done|omega)) only [go_sem,seval,hlt,h1,h2,Qh]
   refine QF ?_ ?_ <;> intro he
   ·simp -implicitDefEqProofs (disch:=first|omega|(simp only [go_sem,seval];first|done|omega)) only [go_sem,seval]
    (first|refine pfN hM ?_ ?_|refine pf0 hM ?_ ?_)
    ·simp -implicitDefEqProofs (disch:=first|omega|(simp only [go_sem,seval];first|done|omega)) only [go_sem,seval]
     congr 2;symm;rw [decide_eq_false_iff_not];rintro rfl
     rw [h1] at h2;cases h2;simp at he
    ·(simp only [go_sem,seval]<;>omega)
   ·simp -implicitDefEqProofs (disch:=first|omega|(simp only [go_sem,seval];first|done|omega)) only [go_sem,seval]
    have hxy:x = y:=by cases x;cases y;simp at he;simp [he]
    refine again' (k + 1) ⟨by omega,?_⟩ (by omega) rfl rfl
    have g1:=Zc (f:=id) h1;have g2:=Zc (f:=id) h2
    simp only [List.map_id] at g1 g2
    rw [g1,g2,hs,hxy]
  ·simp -implicitDefEqProofs (disch:=first|omega|(simp only [go_sem,seval,hlt];first|done|omega)) only [go_sem,seval,hlt]
   (first|refine pfN hM ?_ ?_|refine pf0 hM ?_ ?_)
   ·simp -implicitDefEqProofs (disch:=first|omega|(simp only [go_sem,seval];first|done|omega)) only [go_sem,seval]
    congr 2;symm;rw [decide_eq_true_eq]
    rw [List.take_of_length_le (by omega),List.take_of_length_le (by omega)] at hs;exact hs
   ·(simp only [go_sem,seval]<;>omega)
def zSpn:PV:=.agg [.I 0,.I 0]
theorem Qa8 (M:List Blk):ACall F X (.fn 76) [PV.nilS,.I 0] M PV.nilS M:=by
 (refine Qe (cf:=L6.c76) rfl rfl fun hM hA => ?_;simp only [L6.c76,zO,zF,zT,zM,CX.i];rw [mk2 _ (by decide)];simp -implicitDefEqProofs (disch:=first|omega|(simp only [go_sem,seval,-List.reduceReplicate,QbW,Y1,Qb2,Yz,Jz,Z8,ZI];first|done|omega)) only [go_sem,seval,-List.reduceReplicate,QbW,Y1,Qb2,Yz,Jz,Z8,ZI])
 have hres:∀ N:List Blk,Vl M.length [(4,none)] PV.nilS M .ret (M ++ N) (mk 27 [(4,PV.nilS)]):=fun N => QmD JD hM rfl (by simp -implicitDefEqProofs (disch:=first|omega|(simp only [go_sem,seval,-List.reduceReplicate];first|done|omega)) only [go_sem,seval,-List.reduceReplicate])
 exact hres _
theorem QdW (n:Nat) (h:1 ≤ n) (hn:n ≤ 1048576) (M:List Blk):ACall F X (.fn 76) [PV.nilS,.I n] M (.os M.length 0 0 0) (M ++ [.row true 2 0 (List.replicate n zSpn)]):=by
 refine QaD (cf:=c76) rfl rfl fun hM hA => ?_
 simp only [c76,zO,zF,zT,zM,CX.i]
 rw [mk2 _ (by decide)]
 have h1:¬ (n:Int) < 0:=by omega
 have h2:(0:Int) < n:=by omega
 have h3:((0:Int) ≤ 0) = True:=eq_true (by omega)
 have e1:(n:Int) - 0 = n:=by omega
 have e2:(0:Int) - 0 = 0:=by omega
 simp -implicitDefEqProofs (disch:=first|omega|(simp only [go_sem,seval,-List.reduceReplicate,QbW,Y1,Qb2,Yz,Jz,Z8,ZI,h1,h2,h3,e1,e2,natZ];first|done|omega)) only [go_sem,seval,-List.reduceReplicate,QbW,Y1,Qb2,Yz,Jz,Z8,ZI,h1,h2,h3,e1,e2,natZ]
 refine Qc7 JD hM (j:=1) rfl rfl ?_
 ·rw [QL]
  intro x hx
  rw [List.eq_of_mem_replicate hx]
  unfold zSpn
  (simp only [go_sem,seval,-List.reduceReplicate]<;>omega)
theorem QcJ (a b:List Spn) (hl:a.length + b.length ≤ 1000000):Q X 53 [.fs [.fs (a.map Qa),.fs (b.map Qa)]] (.fs ((a ++ b).map Qa)):=by
 intro M
 (refine Qe (cf:=L6.c53) rfl rfl fun hM hA => ?_;simp only [L6.c53,zO,zF,zT,zM,CX.i];rw [mk1 _ (by decide)];simp -implicitDefEqProofs (disch:=first|omega|(simp only [go_sem,seval,-List.reduceReplicate];first|done|omega)) only [go_sem,seval,-List.reduceReplicate])
 refine Qo (α:=Nat) 0 (fun k => k ≤ 2) (fun _ => M) (fun k => [(0,.fs [.fs (a.map Qa),.fs (b.map Qa)]),(3,.I (if k = 0 then 0 else if k = 1 then a.length else a.length + b.length)),(9,.fs [.fs (a.map Qa),.fs (b.map Qa)]),(10,.I 2),(11,.I k)]) (fun k => 2 - k) (by omega) rfl rfl ?_
 intro k hk
 rcases (by omega:k = 0 ∨ k = 1 ∨ k = 2) with rfl|rfl|rfl
 ·have f1:¬ (a.length:Int) < 0:=by omega
  simp -implicitDefEqProofs (disch:=first|omega|(simp only [go_sem,seval,-List.reduceReplicate,f1];first|done|omega)) only [go_sem,seval,-List.reduceReplicate,f1]
  exact again' (α:=Nat) 1 (by decide) (by decide) rfl rfl
 ·have f1:¬ (a.length:Int) + (b.length:Int) < 0:=by omega
  simp -implicitDefEqProofs (disch:=first|omega|(simp only [go_sem,seval,-List.reduceReplicate,f1];first|done|omega)) only [go_sem,seval,-List.reduceReplicate,f1]
  exact again' (α:=Nat) 2 (by decide) (by decide) rfl rfl
 ·simp -implicitDefEqProofs (disch:=first|omega|(simp only [go_sem,seval,-List.reduceReplicate,Int.lt_irrefl];first|done|omega)) only [go_sem,seval,-List.reduceReplicate,Int.lt_irrefl]
  rcases (by omega:a.length + b.length = 0 ∨ 1 ≤ a.length + b.length) with h0|h0
  ·have ha:a = []:=List.eq_nil_of_length_eq_zero (by omega)
   have hb:b = []:=List.eq_nil_of_length_eq_zero (by omega)
   subst ha;subst hb
   simp -implicitDefEqProofs (disch:=first|omega|(simp only [go_sem,seval,-List.reduceReplicate];first|done|omega)) only [go_sem,seval,-List.reduceReplicate]
   refine Qb (Qa8 M) ?_
   simp -implicitDefEqProofs (disch:=first|omega|(simp only [go_sem,seval,-List.reduceReplicate];first|done|omega)) only [go_sem,seval,-List.reduceReplicate]
   refine Qo (α:=Nat) 0 (fun k => k ≤ 2) (fun k => if k = 0 then M else M ++ [.row true 2 (k - 1) []]) (fun k => [(6,if k = 0 then PV.nilS else .os M.length (k - 1) 0 0),(25,.fs [.fs [],.fs []]),(26,.I 2),(27,.I k)]) (fun k => 2 - k) (by omega) rfl rfl ?_
   intro k hk
   rcases (by omega:k = 0 ∨ k = 1 ∨ k = 2) with rfl|rfl|rfl
   ·simp -implicitDefEqProofs (disch:=first|omega|(simp only [go_sem,seval,-List.reduceReplicate,Qdh];first|done|omega)) only [go_sem,seval,-List.reduceReplicate,Qdh]
    exact again' (α:=Nat) 1 (by decide) (by decide) rfl rfl
   ·simp -implicitDefEqProofs (disch:=first|omega|(simp only [go_sem,seval,-List.reduceReplicate,Qdk];first|done|omega)) only [go_sem,seval,-List.reduceReplicate,Qdk]
    exact again' (α:=Nat) 2 (by decide) (by decide) rfl rfl
   ·simp -implicitDefEqProofs (disch:=first|omega|(simp only [go_sem,seval,-List.reduceReplicate];first|done|omega)) only [go_sem,seval,-List.reduceReplicate]
    (first|refine pfN hM ?_ ?_|refine pf0 hM ?_ ?_)
    ·simp -implicitDefEqProofs (disch:=first|omega|(simp only [go_sem,seval,-List.reduceReplicate];first|done|omega)) only [go_sem,seval,-List.reduceReplicate]
    ·(simp only [go_sem,seval,-List.reduceReplicate]<;>omega)
  ·have e1:(a.length:Int) + (b.length:Int) = ((a.length + b.length:Nat):Int):=by omega
   rw [e1]
   refine Q6 (QdW _ h0 (by omega) M) ?_
   have oka:=Zj a
   have okb:=Zj b
   simp -implicitDefEqProofs (disch:=first|omega|(simp only [go_sem,seval,-List.reduceReplicate];first|done|omega)) only [go_sem,seval,-List.reduceReplicate]
   refine Qo (α:=Nat) 0 (fun k => k ≤ 2) (fun k => M ++ [.row true 2 k (if k = 0 then List.replicate (a.length + b.length) zSpn else if k = 1 then a.map Qa else a.map Qa ++ b.map Qa)]) (fun k => [(6,.os M.length k 0 (if k = 0 then 0 else if k = 1 then a.length else a.length + b.length)),(25,.fs [.fs (a.map Qa),.fs (b.map Qa)]),(26,.I 2),(27,.I k)]) (fun k => 2 - k) (by omega) rfl rfl ?_
   intro k hk
   rcases (by omega:k = 0 ∨ k = 1 ∨ k = 2) with rfl|rfl|rfl
   ·have hc:=Qlq (M:=M ++ [.row true 2 0 (List.replicate (a.length + b.length) zSpn)]) (k:=2) (bytes:=16) (i:=M.length) (ver:=0) (len:=0) (xs:=List.replicate (a.length + b.length) zSpn) (ys:=a.map Qa) (by omega) oka (by omega) (by omega) (by simp;omega)
    simp only [List.take_zero,List.nil_append,List.length_map,Nat.zero_add] at hc
    simp -implicitDefEqProofs (disch:=first|omega|(simp only [go_sem,seval,-List.reduceReplicate,hc];first|done|omega)) only [go_sem,seval,-List.reduceReplicate,hc]
    refine again' (α:=Nat) 1 ?_ ?_ ?_ ?_
    ·decide
    ·decide
    ·rfl
    ·rfl
   ·simp -implicitDefEqProofs (disch:=first|omega|(simp only [go_sem,seval,-List.reduceReplicate,oka,okb];first|done|omega)) only [go_sem,seval,-List.reduceReplicate,oka,okb]
    refine again' (α:=Nat) 2 ?_ ?_ ?_ ?_
    ·decide
    ·decide
    ·rfl
    ·rfl
   ·simp -implicitDefEqProofs (disch:=first|omega|(simp only [go_sem,seval,-List.reduceReplicate,oka,okb];first|done|omega)) only [go_sem,seval,-List.reduceReplicate,oka,okb]
    (first|refine pfN hM ?_ ?_|refine pf0 hM ?_ ?_)
    ·simp -implicitDefEqProofs (disch:=first|omega|(simp only [go_sem,seval,-List.reduceReplicate];first|done|omega)) only [go_sem,seval,-List.reduceReplicate]
     simp
    ·(simp only [go_sem,seval,-List.reduceReplicate,Qg]<;>omega)
def Qq7 (l:List Spn):Int:=if 1024 < l.length then 5 else fst0 (l.map Vn)
theorem Qgn {g:FuncId} {f:List Spn → List Spn → List Spn} (a b:List Spn) (ha:a.length ≤ 1048576) (hb:b.length ≤ 1048576)
  (hg:fst0 [Qm a,Qm b] = 0 → Q X g [.fs (a.map Qa),.fs (b.map Qa)] (.fs ((f a b).map Qa)) ∧ (f a b).length ≤ 1000000) :
  Q X 51 [.fs (a.map Qa),.fs (b.map Qa),.fn (.func g) [] []] (.tup [.fs ((YR f a b).1.map Qa),.I (YR f a b).2]):=by
 intro M
 (refine Qe (cf:=L6.c51) rfl rfl fun hM hA => ?_;simp only [L6.c51,zO,zF,zT,zM,CX.i];rw [mk3 _ (by decide)];simp -implicitDefEqProofs (disch:=first|omega|(simp only [go_sem,seval];first|done|omega)) only [go_sem,seval])
 refine Qb (Zt a ha _) ?_
 simp -implicitDefEqProofs (disch:=first|omega|(simp only [go_sem,seval];first|done|omega)) only [go_sem,seval]
 refine Qb (Zt b hb _) ?_
 simp -implicitDefEqProofs (disch:=first|omega|(simp only [go_sem,seval];first|done|omega)) only [go_sem,seval]
 have hq:=QW (X:=X) [Qm a,Qm b] (by simp) M
 refine Qb hq ?_
 unfold YR
 generalize fst0 [Qm a,Qm b] = e at hg
 by_cases hc:e = 0
 ·obtain ⟨h1,h2⟩:=hg hc
  subst hc
  rw [if_pos rfl]
  simp -implicitDefEqProofs (disch:=first|omega|(simp only [go_sem,seval];first|done|omega)) only [go_sem,seval]
  refine Qb (h1 _) ?_
  simp -implicitDefEqProofs (disch:=first|omega|(simp only [go_sem,seval];first|done|omega)) only [go_sem,seval]
  by_cases h3:1024 < (f a b).length
  ·have f1:((1024:Int) < (f a b).length) = True:=eq_true (by omega)
   rw [if_pos h3]
   simp -implicitDefEqProofs (disch:=first|omega|(simp only [go_sem,seval,f1];first|done|omega)) only [go_sem,seval,f1]
   (all_goals (first|refine pfN hM ?_ ?_|refine pf0 hM ?_ ?_);all_goals first|(simp only [go_sem,seval]<;>omega)|skip;all_goals (try simp -implicitDefEqProofs (disch:=first|omega|(simp only [go_sem,seval];first|done|omega)) only [go_sem,seval]))
  ·have f1:((1024:Int) < (f a b).length) = False:=eq_false (by omega)
   rw [if_neg h3]
   simp -implicitDefEqProofs (disch:=first|omega|(simp only [go_sem,seval,f1];first|done|omega)) only [go_sem,seval,f1]
   (all_goals (first|refine pfN hM ?_ ?_|refine pf0 hM ?_ ?_);all_goals first|(simp only [go_sem,seval,Qg]<;>omega)|skip;all_goals (try simp -implicitDefEqProofs (disch:=first|omega|(simp only [go_sem,seval];first|done|omega)) only [go_sem,seval]))
 ·rw [if_neg hc]
  simp -implicitDefEqProofs (disch:=first|omega|(simp only [go_sem,seval,hc];first|done|omega)) only [go_sem,seval,hc]
  (all_goals (first|refine pfN hM ?_ ?_|refine pf0 hM ?_ ?_);all_goals first|(simp only [go_sem,seval]<;>omega)|skip;all_goals (try simp -implicitDefEqProofs (disch:=first|omega|(simp only [go_sem,seval];first|done|omega)) only [go_sem,seval]))
theorem QbQ {x y:Int} (h:fst0 [x,y] = 0):x = 0 ∧ y = 0:=by
 simp only [fst0] at h
 split at h
 ·rename_i h1
  split at h
  ·rename_i h2;exact ⟨h1,h2⟩
  ·rename_i h2;exact absurd h h2
 ·rename_i h1;exact absurd h h1
theorem QdK (hS:SortX X) (a b:List Spn) (hl:a.length + b.length ≤ 1000000):Q X 52 [.fs (a.map Qa),.fs (b.map Qa)] (.fs ((VH a b).map Qa)):=by
 intro M
 (refine Qe (cf:=L6.c52) rfl rfl fun hM hA => ?_;simp only [L6.c52,zO,zF,zT,zM,CX.i];rw [mk2 _ (by decide)];simp -implicitDefEqProofs (disch:=first|omega|(simp only [go_sem,seval];first|done|omega)) only [go_sem,seval])
 refine Qb (QcJ a b hl _) ?_
 simp -implicitDefEqProofs (disch:=first|omega|(simp only [go_sem,seval];first|done|omega)) only [go_sem,seval]
 have hq:=Qal hS (a ++ b) (by rw [List.length_append];omega) M
 have e:VH a b = Zr (a ++ b):=rfl
 rw [e]
 refine Qb hq ?_
 simp -implicitDefEqProofs (disch:=first|omega|(simp only [go_sem,seval];first|done|omega)) only [go_sem,seval]
 (all_goals (first|refine pfN hM ?_ ?_|refine pf0 hM ?_ ?_);all_goals first|(simp only [go_sem,seval,Qg]<;>omega)|skip;all_goals (try simp -implicitDefEqProofs (disch:=first|omega|(simp only [go_sem,seval];first|done|omega)) only [go_sem,seval]))
theorem Qga (hS:SortX X) (a b:List Spn) (ha:a.length ≤ 1048576) (hb:b.length ≤ 1048576) :
  Q X 16 [.fs (a.map Qa),.fs (b.map Qa)] (.tup [.fs ((YR VH a b).1.map Qa),.I (YR VH a b).2]):=by
 intro M
 (refine Qe (cf:=L6.c16) rfl rfl fun hM hA => ?_;simp only [L6.c16,zO,zF,zT,zM,CX.i];rw [mk2 _ (by decide)];simp -implicitDefEqProofs (disch:=first|omega|(simp only [go_sem,seval];first|done|omega)) only [go_sem,seval])
 refine Qb (Qgn (f:=VH) a b ha hb (fun h => ?_) _) ?_
 ·obtain ⟨h1,h2⟩:=QbQ h
  have l1:=(YB h1).2
  have l2:=(YB h2).2
  refine ⟨QdK hS a b (by omega),?_⟩
  have:=Qgd (a ++ b)
  rw [List.length_append] at this
  unfold VH
  omega
 ·simp -implicitDefEqProofs (disch:=first|omega|(simp only [go_sem,seval];first|done|omega)) only [go_sem,seval]
  (all_goals (first|refine pfN hM ?_ ?_|refine pf0 hM ?_ ?_);all_goals first|(simp only [go_sem,seval,Qg]<;>omega)|skip;all_goals (try simp -implicitDefEqProofs (disch:=first|omega|(simp only [go_sem,seval];first|done|omega)) only [go_sem,seval]))
theorem Qfd (a b:Pt) (ha:ptW a) (hb:ptW b):Q X 78 [encPt a,encPt b] (.I (VY a b)):=by
 intro M
 obtain ⟨⟨h1,h2⟩,h3,h4⟩:=QjL ha hb
 unfold ptW at ha hb
 (refine Qe (cf:=L6.c78) rfl rfl fun hM hA => ?_;simp only [L6.c78,zO,zF,zT,zM,CX.i];rw [mk2 _ (by decide)];simp -implicitDefEqProofs (disch:=first|omega|(simp only [go_sem,seval,QM];first|done|omega)) only [go_sem,seval,QM])
 (all_goals (first|refine pfN hM ?_ ?_|refine pf0 hM ?_ ?_);all_goals first|(simp only [go_sem,seval]<;>omega)|skip;all_goals (try simp -implicitDefEqProofs (disch:=first|omega|(simp only [go_sem,seval];first|done|omega)) only [go_sem,seval]))
 all_goals rfl
theorem Qa5 (p:Pt):Q X 77 [encPt p] (.I (ptE p)):=by
 intro M
 (refine Qe (cf:=L6.c77) rfl rfl fun hM hA => ?_;simp only [L6.c77,zO,zF,zT,zM,CX.i];rw [mk1 _ (by decide)];simp -implicitDefEqProofs (disch:=first|omega|(simp only [go_sem,seval,QM];first|done|omega)) only [go_sem,seval,QM])
 refine Qb (Vr _ _ _ _) ?_
 simp -implicitDefEqProofs (disch:=first|omega|(simp only [go_sem,seval,QM];first|done|omega)) only [go_sem,seval,QM]
 refine Qb (Vr _ _ _ _) ?_
 simp -implicitDefEqProofs (disch:=first|omega|(simp only [go_sem,seval,QM];first|done|omega)) only [go_sem,seval,QM]
 refine Qb (QW [rng p.x (-1000) 1000,rng p.y (-1000) 1000] (by simp) _) ?_
 have e:ptE p = fst0 [rng p.x (-1000) 1000,rng p.y (-1000) 1000]:=rfl
 rw [e]
 simp -implicitDefEqProofs (disch:=first|omega|(simp only [go_sem,seval];first|done|omega)) only [go_sem,seval]
 (all_goals (first|refine pfN hM ?_ ?_|refine pf0 hM ?_ ?_);all_goals first|(simp only [go_sem,seval]<;>omega)|skip;all_goals (try simp -implicitDefEqProofs (disch:=first|omega|(simp only [go_sem,seval];first|done|omega)) only [go_sem,seval]))
theorem Qa4 (n:Int):Q X 55 [.I n] (.I (rng n 0 3)):=by
 intro M
 (refine Qe (cf:=L6.c55) rfl rfl fun hM hA => ?_;simp only [L6.c55,zO,zF,zT,zM,CX.i];rw [mk1 _ (by decide)];simp -implicitDefEqProofs (disch:=first|omega|(simp only [go_sem,seval];first|done|omega)) only [go_sem,seval])
 refine Qb (Vr _ _ _ _) ?_
 simp -implicitDefEqProofs (disch:=first|omega|(simp only [go_sem,seval];first|done|omega)) only [go_sem,seval]
 (all_goals (first|refine pfN hM ?_ ?_|refine pf0 hM ?_ ?_);all_goals first|(simp only [go_sem,seval]<;>omega)|skip;all_goals (try simp -implicitDefEqProofs (disch:=first|omega|(simp only [go_sem,seval];first|done|omega)) only [go_sem,seval]))
theorem YO (s:Ste) (hl:s.tbs.length ≤ 1048576):Q X 54 [Q1 s] (.I (QZ s)):=by
 obtain ⟨nm,least,l⟩:=s
 have e:QZ ⟨nm,least,l⟩ = if Qn nm = false then 8 else if ¬ rng least 1 1000 = 0 then 3 else if 64 < l.length then 5 else fst0 (tbL least l):=rfl
 rw [e]
 clear e
 simp only at hl
 have e:Q1 ⟨nm,least,l⟩ = .agg [.s (.string nm),.I least,.fs (l.map encTb)]:=rfl
 rw [e]
 clear e
 intro M
 (refine Qe (cf:=L6.c54) rfl rfl fun hM hA => ?_;simp only [L6.c54,zO,zF,zT,zM,CX.i];rw [mk1 _ (by decide)];simp -implicitDefEqProofs (disch:=first|omega|(simp only [go_sem,seval];first|done|omega)) only [go_sem,seval])
 refine Qb (ZB nm _) ?_
 simp -implicitDefEqProofs (disch:=first|omega|(simp only [go_sem,seval];first|done|omega)) only [go_sem,seval]
 refine Qb (Vr _ _ _ _) ?_
 simp -implicitDefEqProofs (disch:=first|omega|(simp only [go_sem,seval];first|done|omega)) only [go_sem,seval]
 refine Qb (Qu _ _ _) ?_
 simp -implicitDefEqProofs (disch:=first|omega|(simp only [go_sem,seval];first|done|omega)) only [go_sem,seval]
 refine Qb (QW [if Qn nm = false then 8 else 0,rng least 1 1000,if (64:Int) < l.length then 5 else 0] (by simp) _) ?_
 have hv:∀ n a b:Int,rng n a b = 0 ∨ rng n a b = 3:=by intro n a b;unfold rng;split <;> simp
 by_cases h1:Qn nm = false
 ·have e:fst0 [if Qn nm = false then 8 else 0,rng least 1 1000,if (64:Int) < l.length then 5 else 0] = 8:=by simp [fst0,h1]
  have f8:((8:Int) = 0) = False:=by decide
  rw [if_pos h1,e]
  simp -implicitDefEqProofs (disch:=first|omega|(simp only [go_sem,seval,f8];first|done|omega)) only [go_sem,seval,f8]
  (all_goals (first|refine pfN hM ?_ ?_|refine pf0 hM ?_ ?_);all_goals first|(simp only [go_sem,seval]<;>omega)|skip;all_goals (try simp -implicitDefEqProofs (disch:=first|omega|(simp only [go_sem,seval];first|done|omega)) only [go_sem,seval]))
 by_cases h2:rng least 1 1000 = 0
 case neg =>
  have h3:=(hv least 1 1000).resolve_left h2
  have e:fst0 [if Qn nm = false then 8 else 0,rng least 1 1000,if (64:Int) < l.length then 5 else 0] = 3:=by simp [fst0,h1,h3]
  have f8:((3:Int) = 0) = False:=by decide
  rw [if_neg h1,if_pos h2,e]
  simp -implicitDefEqProofs (disch:=first|omega|(simp only [go_sem,seval,f8];first|done|omega)) only [go_sem,seval,f8]
  (all_goals (first|refine pfN hM ?_ ?_|refine pf0 hM ?_ ?_);all_goals first|(simp only [go_sem,seval]<;>omega)|skip;all_goals (try simp -implicitDefEqProofs (disch:=first|omega|(simp only [go_sem,seval];first|done|omega)) only [go_sem,seval]))
 by_cases h3:64 < l.length
 ·have f3:(64:Int) < l.length:=by omega
  have e:fst0 [if Qn nm = false then 8 else 0,rng least 1 1000,if (64:Int) < l.length then 5 else 0] = 5:=by simp [fst0,h1,h2,f3]
  have f8:((5:Int) = 0) = False:=by decide
  rw [if_neg h1,if_neg (fun h => h h2),if_pos h3,e]
  simp -implicitDefEqProofs (disch:=first|omega|(simp only [go_sem,seval,f8];first|done|omega)) only [go_sem,seval,f8]
  (all_goals (first|refine pfN hM ?_ ?_|refine pf0 hM ?_ ?_);all_goals first|(simp only [go_sem,seval]<;>omega)|skip;all_goals (try simp -implicitDefEqProofs (disch:=first|omega|(simp only [go_sem,seval];first|done|omega)) only [go_sem,seval]))
 have f3:¬ (64:Int) < l.length:=by omega
 have e:fst0 [if Qn nm = false then 8 else 0,rng least 1 1000,if (64:Int) < l.length then 5 else 0] = 0:=by simp [fst0,h1,h2,f3]
 rw [if_neg h1,if_neg (fun h => h h2),if_neg h3,e]
 rw [Z0] at h2
 clear e
 simp -implicitDefEqProofs (disch:=first|omega|(simp only [go_sem,seval];first|done|omega)) only [go_sem,seval]
 have hsq:=sqBd (d:=least) (n:=1000) (by omega) (by omega) (by omega)
 refine Qo (α:=Nat) 0 (fun k => k ≤ l.length ∧ fst0 (tbL least l) = fst0 ((tbL least l).drop k) ∧ tbsIn least l k) (fun k => M ++ [.map (ZX (l.take k))])
  (fun k => [(1,.fp [.s (.string nm),.I least,.fs (l.map encTb)]),(4,.om M.length),(5,.I 0),(28,.fs (l.map encTb)),(29,.I l.length),(30,.I k)]) (fun k => l.length - k) ⟨Nat.zero_le _,rfl,Qhg⟩ rfl rfl ?_
 rintro k ⟨hk,hs,hin⟩
 by_cases hlt:k < l.length
 case neg =>
  simp -implicitDefEqProofs (disch:=first|omega|(simp only [go_sem,seval,hlt];first|done|omega)) only [go_sem,seval,hlt]
  (first|refine pfN hM ?_ ?_|refine pf0 hM ?_ ?_)
  ·simp -implicitDefEqProofs (disch:=first|omega|(simp only [go_sem,seval];first|done|omega)) only [go_sem,seval]
   rw [hs,List.drop_of_length_le (by rw [QnQ];omega)];rfl
  ·(simp only [go_sem,seval]<;>omega)
 obtain ⟨x,hx⟩:∃ x,l[k]? = some x:=⟨_,List.getElem?_eq_getElem hlt⟩
 have hd:=ZC (tbL least l) k _ (QgV hx)
 have hpt:=fun (i:Nat) (t:Tb) (hi:i < k) (ht:l[i]? = some t) => QeW hin hi ht
 have hin1:=Qhs hin hx
 have hkn:=QfX x.name (l.take k)
 have hfk:=Qg4 x.name (l.take k)
 simp -implicitDefEqProofs (disch:=first|omega|(simp only [go_sem,seval,hlt,hx,Qv,QB];first|done|omega)) only [go_sem,seval,hlt,hx,Qv,QB]
 refine Qb (ZB _ _) ?_
 simp -implicitDefEqProofs (disch:=first|omega|(simp only [go_sem,seval,QB];first|done|omega)) only [go_sem,seval,QB]
 refine Qb (Qa5 x.at_ _) ?_
 simp -implicitDefEqProofs (disch:=first|omega|(simp only [go_sem,seval,QB,Qe6,Qfu,Jb,hkn,hfk];first|done|omega)) only [go_sem,seval,QB,Qe6,Qfu,Jb,hkn,hfk]
 refine Qb (Qu _ _ _) ?_
 simp -implicitDefEqProofs (disch:=first|omega|(simp only [go_sem,seval,QB];first|done|omega)) only [go_sem,seval,QB]
 refine Qb (QW [if Qn x.name = false then 8 else 0,ptE x.at_,if (l.take k).any (fun o => decide (o.name = x.name)) = true then 9 else 0] (by simp) _) ?_
 have bad:∀ (e:Int),e ≠ 0 → tbE least (l.take k) x = e → fst0 (tbL least l) = e:=by
  intro e h0 h1
  rw [hs,hd,h1,if_neg h0]
 by_cases g1:Qn x.name = false
 ·have e:fst0 [if Qn x.name = false then 8 else 0,ptE x.at_,if (l.take k).any (fun o => decide (o.name = x.name)) = true then 9 else 0] = 8:=by simp [fst0,g1]
  have f8:((8:Int) = 0) = False:=by decide
  rw [e]
  simp -implicitDefEqProofs (disch:=first|omega|(simp only [go_sem,seval,f8];first|done|omega)) only [go_sem,seval,f8]
  (first|refine pfN hM ?_ ?_|refine pf0 hM ?_ ?_)
  ·simp -implicitDefEqProofs (disch:=first|omega|(simp only [go_sem,seval];first|done|omega)) only [go_sem,seval]
   rw [bad 8 (by decide) (Qli g1)]
  ·(simp only [go_sem,seval]<;>omega)
 have g1':Qn x.name = true:=by simpa using g1
 by_cases g2:ptE x.at_ = 0
 case neg =>
  have g3:=(ptE_v x.at_).resolve_left g2
  have e:fst0 [if Qn x.name = false then 8 else 0,ptE x.at_,if (l.take k).any (fun o => decide (o.name = x.name)) = true then 9 else 0] = 3:=by simp [fst0,g1,g3]
  have f8:((3:Int) = 0) = False:=by decide
  rw [e]
  simp -implicitDefEqProofs (disch:=first|omega|(simp only [go_sem,seval,f8];first|done|omega)) only [go_sem,seval,f8]
  (first|refine pfN hM ?_ ?_|refine pf0 hM ?_ ?_)
  ·simp -implicitDefEqProofs (disch:=first|omega|(simp only [go_sem,seval];first|done|omega)) only [go_sem,seval]
   rw [bad 3 (by decide) (QpB g1' g2)]
  ·(simp only [go_sem,seval]<;>omega)
 by_cases g3:(l.take k).any (fun o => decide (o.name = x.name)) = true
 ·have e:fst0 [if Qn x.name = false then 8 else 0,ptE x.at_,if (l.take k).any (fun o => decide (o.name = x.name)) = true then 9 else 0] = 9:=by rw [g3];simp [fst0,g1,g2]
  have f8:((9:Int) = 0) = False:=by decide
  rw [e]
  simp -implicitDefEqProofs (disch:=first|omega|(simp only [go_sem,seval,f8];first|done|omega)) only [go_sem,seval,f8]
  (first|refine pfN hM ?_ ?_|refine pf0 hM ?_ ?_)
  ·simp -implicitDefEqProofs (disch:=first|omega|(simp only [go_sem,seval];first|done|omega)) only [go_sem,seval]
   rw [bad 9 (by decide) (QjT g1' g2 g3)]
  ·(simp only [go_sem,seval]<;>omega)
 have g3':(l.take k).any (fun o => decide (o.name = x.name)) = false:=by simpa using g3
 have e:fst0 [if Qn x.name = false then 8 else 0,ptE x.at_,if (l.take k).any (fun o => decide (o.name = x.name)) = true then 9 else 0] = 0:=by rw [g3'];simp [fst0,g1,g2]
 rw [e]
 clear e
 have gx:=Qjp g2
 have hup:=Qj0 x (l.take k) g3'
 have hsz:=Yc l
 have hkl:(k ≤ l.length) = True:=eq_true hk
 have htk:List.take k (List.map encTb l) = (l.take k).map encTb:=by rw [List.map_take]
 have hlk:(l.take k).length = k:=by rw [List.length_take];omega
 have hsk:=Yc (l.take k)
 simp -implicitDefEqProofs (disch:=first|omega|(simp only [go_sem,seval,Qv,QB,Qeb,QdE,Jb,hkn,hup,hsz,hkl,htk,hlk,List.drop_zero,Nat.sub_zero];first|done|omega)) only [go_sem,seval,Qv,QB,Qeb,QdE,Jb,hkn,hup,hsz,hkl,htk,hlk,List.drop_zero,Nat.sub_zero]
 refine Qo (α:=Nat) 0 (fun i => i ≤ k ∧ (l.take i).any (fun o => decide (VY x.at_ o.at_ < least * least)) = false) (fun _ => M ++ [.map (ZX (l.take k ++ [x])),.row true 3 0 [encTb x]])
  (fun i => [(1,.fp [.s (.string nm),.I least,.fs (l.map encTb)]),(4,.om M.length),(5,.I 0),(7,.op (M.length + 1) 0 0 0),(28,.fs (l.map encTb)),(29,.I l.length),(30,.I k),(56,.fs ((l.take k).map encTb)),(57,.I k),(58,.I i)])
  (fun i => k - i) ⟨Nat.zero_le _,rfl⟩ rfl rfl ?_
 rintro i ⟨hi,hnear⟩
 by_cases hij:i < k
 ·obtain ⟨y,hy⟩:∃ y,l[i]? = some y:=⟨_,List.getElem?_eq_getElem (by omega)⟩
  have hy':(l.take k)[i]? = some y:=by rw [List.getElem?_take_of_lt hij];exact hy
  have f1:i < (l.take k).length:=by omega
  have hsn:=QlA (fun o => decide (VY x.at_ o.at_ < least * least)) hy
  have gy:=hpt i y hij hy
  simp -implicitDefEqProofs (disch:=first|omega|(simp only [go_sem,seval,hij,f1,hy',hlk,Qv,QB];first|done|omega)) only [go_sem,seval,hij,f1,hy',hlk,Qv,QB]
  refine Qb (Qfd x.at_ y.at_ (QjC gx) (QjC gy) _) ?_
  simp -implicitDefEqProofs (disch:=first|omega|(simp only [go_sem,seval,Qv,QB];first|done|omega)) only [go_sem,seval,Qv,QB]
  by_cases hn:VY x.at_ y.at_ < least * least
  ·have hit:=QnA (k:=k) (fun o => decide (VY x.at_ o.at_ < least * least)) hy hij (by simpa using hn)
   simp -implicitDefEqProofs (disch:=first|omega|(simp only [go_sem,seval,hn];first|done|omega)) only [go_sem,seval,hn]
   (first|refine pfN hM ?_ ?_|refine pf0 hM ?_ ?_)
   ·simp -implicitDefEqProofs (disch:=first|omega|(simp only [go_sem,seval];first|done|omega)) only [go_sem,seval]
    rw [bad 15 (by decide) (QkT g1' g2 g3' hit)]
   ·(simp only [go_sem,seval]<;>omega)
  ·simp -implicitDefEqProofs (disch:=first|omega|(simp only [go_sem,seval,hn,Qv,QB];first|done|omega)) only [go_sem,seval,hn,Qv,QB]
   refine Qy hM rfl 2 (by simp) (by first|done|(simp only [go_sem,seval,Vk] <;> first|done|(refine ⟨?_,?_⟩ <;> omega)|omega)) (QA (by first|done|(simp only [go_sem,seval,Vk] <;> first|done|(refine ⟨?_,?_⟩ <;> omega)|omega))) ?_
   simp -implicitDefEqProofs (disch:=first|omega|(simp only [go_sem,seval];first|done|omega)) only [go_sem,seval]
   exact again' (i + 1) ⟨by omega,by rw [hsn,hnear];simp [hn]⟩ (by omega) rfl rfl
 have hij':i = k:=by omega
 subst hij'
 have h0:=QpX g1' g2 g3' hnear
 rw [if_pos h0] at hd
 simp -implicitDefEqProofs (disch:=first|omega|(simp only [go_sem,seval,hij,Qv,QB];first|done|omega)) only [go_sem,seval,hij,Qv,QB]
 refine Qy hM rfl 1 (by simp) (by first|done|(simp only [go_sem,seval,Vk] <;> first|done|(refine ⟨?_,?_⟩ <;> omega)|omega)) (QA (by first|done|(simp only [go_sem,seval,Vk] <;> first|done|(refine ⟨?_,?_⟩ <;> omega)|omega))) ?_
 simp -implicitDefEqProofs (disch:=first|omega|(simp only [go_sem,seval];first|done|omega)) only [go_sem,seval]
 have hts:l.take (i + 1) = l.take i ++ [x]:=by
  obtain ⟨q1,q2⟩:=List.getElem?_eq_some_iff.1 hx
  rw [List.take_succ_eq_append_getElem q1,q2]
 exact again' (i + 1) ⟨by omega,by rw [hs,hd],hin1 h0⟩ (by omega) (by rw [hts]) rfl
theorem Qa6 (p:Pt) (n:Nat) (hp:ptIn p) (hn:n ≤ 1000) (M:List Blk):ACall F X (.fn 57) [encPt p,.fp [.I n]] M (encPt (trnN n p)) M:=by
 (refine Qe (cf:=L6.c57) rfl rfl fun hM hA => ?_;simp only [L6.c57,zO,zF,zT,zM,CX.i];rw [mk2 _ (by decide)];simp -implicitDefEqProofs (disch:=first|omega|(simp only [go_sem,seval,QM];first|done|omega)) only [go_sem,seval,QM])
 refine Qo (α:=Nat) 0 (fun k => k ≤ n) (fun k => M ++ [.row true 2 0 [encPt (trnN k p)],.row true 2 0 [encPt ⟨0,0⟩]]) (fun k => [(2,.op M.length 0 0 0),(3,.op (M.length + 1) 0 0 0),(4,.I n),(5,.I k)]) (fun k => n - k) (Nat.zero_le _) rfl rfl ?_
 intro k hk
 have hw:=Qp7 hp k
 unfold ptIn at hw
 by_cases hlt:k < n
 ·simp -implicitDefEqProofs (disch:=first|omega|(simp only [go_sem,seval,hlt,QM];first|done|omega)) only [go_sem,seval,hlt,QM]
  exact again' (k + 1) (by omega) (by omega) rfl rfl
 have hkk:k = n:=by omega
 subst hkk
 simp -implicitDefEqProofs (disch:=first|omega|(simp only [go_sem,seval,hlt,QM];first|done|omega)) only [go_sem,seval,hlt,QM]
 (all_goals (first|refine pfN hM ?_ ?_|refine pf0 hM ?_ ?_);all_goals first|(simp only [go_sem,seval]<;>omega)|skip;all_goals (try simp -implicitDefEqProofs (disch:=first|omega|(simp only [go_sem,seval,QM];first|done|omega)) only [go_sem,seval,QM]))
theorem Qen {g:FuncId} {cap:List PV} {f:Pt → Pt} (s:Ste) (hl:s.tbs.length ≤ 1048576) (hg:∀ t ∈ s.tbs,∀ M:List Blk,ACall F X (.fn g) (encPt t.at_ :: cap) M (encPt (f t.at_)) M) :
  Q X 56 [Q1 s,.fn (.func g) [] cap] (Q1 ⟨s.name,s.least,s.tbs.map (mvT f)⟩):=by
 obtain ⟨nm,least,l⟩:=s
 simp only at hl hg ⊢
 have e:Q1 ⟨nm,least,l⟩ = .agg [.s (.string nm),.I least,.fs (l.map encTb)]:=rfl
 rw [e]
 clear e
 intro M
 (refine Qe (cf:=L6.c56) rfl rfl fun hM hA => ?_;simp only [L6.c56,zO,zF,zT,zM,CX.i];rw [mk2 _ (by decide)];simp -implicitDefEqProofs (disch:=first|omega|(simp only [go_sem,seval];first|done|omega)) only [go_sem,seval])
 have okl:=Ql0 l
 simp -implicitDefEqProofs (disch:=first|omega|(simp only [go_sem,seval,Jz,Z8,ZI,okl,List.length_map,List.length_replicate];first|done|omega)) only [go_sem,seval,Jz,Z8,ZI,okl,List.length_map,List.length_replicate]
 refine Qo (α:=Nat) 0 (fun k => k ≤ l.length) (fun k => M ++ [.row true 3 0 [Q1 ⟨nm,least,l⟩],.row true 3 0 [zSte],.row true 3 0 ((mvK f l k).map encTb)])
  (fun k => [(1,.fn (.func g) [] cap),(2,.op M.length 0 0 0),(4,.op (M.length + 1) 0 0 0),(5,.os (M.length + 2) 0 0 l.length),(16,.I l.length),(17,.I k)]) (fun k => l.length - k) (Nat.zero_le _) ?_ rfl ?_
 ·rw [Ql2];rfl
 intro k hk
 by_cases hlt:k < l.length
 ·obtain ⟨x,hx⟩:∃ x,l[k]? = some x:=⟨_,List.getElem?_eq_getElem hlt⟩
  have hgx:=hg x (List.mem_of_getElem? hx)
  have hmx:=QnK (f:=f) hx
  have hml:=QoG f l k
  have hms:=QnL (f:=f) hx
  simp -implicitDefEqProofs (disch:=first|omega|(simp only [go_sem,seval,hlt,hmx,hml,Qv,QB];first|done|omega)) only [go_sem,seval,hlt,hmx,hml,Qv,QB]
  refine Qb (hgx _) ?_
  have hms':((mvK f l k).map encTb).set k (PV.agg [.s (.string x.name),.I (f x.at_).x,.I (f x.at_).y]) = (mvK f l (k + 1)).map encTb:=by
   rw [← hms,List.map_set];rfl
  simp -implicitDefEqProofs (disch:=first|omega|(simp only [go_sem,seval,hlt,hmx,hml,Qv,QB,QM,hms'];first|done|omega)) only [go_sem,seval,hlt,hmx,hml,Qv,QB,QM,hms']
  have hca:lowL (M.length + 3) cap = True:=eq_true (QK (by omega) _ hA.2.1.2)
  refine Qy hM rfl 3 (by simp) (by first|done|(simp only [go_sem,seval,Vk,Yb,Qeh,hca] <;> first|done|(refine ⟨?_,?_⟩ <;> omega)|omega)) (QA (by first|done|(simp only [go_sem,seval,Vk,Yb,Qeh,hca] <;> first|done|(refine ⟨?_,?_⟩ <;> omega)|omega))) ?_
  simp -implicitDefEqProofs (disch:=first|omega|(simp only [go_sem,seval];first|done|omega)) only [go_sem,seval]
  exact again' (k + 1) (by omega) (by omega) rfl rfl
 have hkk:k = l.length:=by omega
 subst hkk
 rw [QoJ f l (Nat.le_refl _)]
 have hz:zSte = .agg [.s (.string ⟨#[]⟩),.I 0,.s (.slice none 0 0)]:=rfl
 have hlw:∀ n:Nat,lowL n (List.map (fun x => encTb (mvT f x)) l) = True:=fun n => eq_true (VB _ _ fun r => by simp [encTb,mvT,PV.low,lowL])
 simp -implicitDefEqProofs (disch:=first|omega|(simp only [go_sem,seval,hlt,List.length_map,Vv,hz,Yc];first|done|omega)) only [go_sem,seval,hlt,List.length_map,Vv,hz,Yc]
 (all_goals (first|refine pfN hM ?_ ?_|refine pf0 hM ?_ ?_);all_goals first|(simp only [go_sem,seval,hlw]<;>omega)|skip;all_goals (try simp -implicitDefEqProofs (disch:=first|omega|(simp only [go_sem,seval];first|done|omega)) only [go_sem,seval]))
def turnE (s:Ste) (q:Int):Int:=fst0 [QZ s,rng q 0 3]
def s0:Ste:=⟨⟨#[]⟩,0,[]⟩
theorem encS0:Q1 s0 = .agg [.s (.string ⟨#[]⟩),.I 0,.fs []]:=rfl
def mvS (f:Pt → Pt) (s:Ste):Ste:=⟨s.name,s.least,s.tbs.map (mvT f)⟩
theorem Qjj {s:Ste} (h:QZ s = 0):∀ t ∈ s.tbs,ptIn t.at_:=by
 intro t ht
 obtain ⟨i,hi,h2⟩:=List.mem_iff_getElem.1 ht
 exact QeW (Qdt h).2.2.2 hi (List.getElem?_eq_some_iff.2 ⟨hi,h2⟩)
theorem Qb7 (s:Ste) (q:Int) (hl:s.tbs.length ≤ 1048576):Q X 21 [Q1 s,.I q] (.tup [Q1 (if turnE s q = 0 then mvS (trnN q.toNat) s else s0),.I (turnE s q)]):=by
 have hC:=YO (X:=X) s hl
 have hq:=QW (X:=X) [QZ s,rng q 0 3] (by simp)
 have hz:turnE s q = 0 → QZ s = 0 ∧ rng q 0 3 = 0:=QbQ
 have hm:QZ s = 0 ∧ rng q 0 3 = 0 → Q X 56 [Q1 s,.fn (.func 57) [] [.fp [.I q]]] (Q1 (mvS (trnN q.toNat) s)):=by
  rintro ⟨h1,h2⟩
  rw [Z0] at h2
  obtain ⟨n,rfl⟩:∃ n:Nat,q = n:=⟨q.toNat,by omega⟩
  exact Qen s hl (fun t ht M => Qa6 t.at_ n (Qjj h1 t ht) (by omega) M)
 have e:turnE s q = fst0 [QZ s,rng q 0 3]:=rfl
 rw [← e] at hq
 clear e
 generalize turnE s q = e at hq hz ⊢
 have es:=Vv s
 have ls:=Yb (n:=0) s
 have lt:=fun n => Yb (n:=n) (mvS (trnN q.toNat) s)
 have et:=Vv (mvS (trnN q.toNat) s)
 intro M
 (refine Qe (cf:=L6.c21) rfl rfl fun hM hA => ?_;simp only [L6.c21,zO,zF,zT,zM,CX.i];rw [mk2 _ (by decide)];simp -implicitDefEqProofs (disch:=first|omega|(simp only [go_sem,seval,es];first|done|omega)) only [go_sem,seval,es])
 refine Qb (hC _) ?_
 simp -implicitDefEqProofs (disch:=first|omega|(simp only [go_sem,seval,es];first|done|omega)) only [go_sem,seval,es]
 refine Qb (Qa4 q _) ?_
 simp -implicitDefEqProofs (disch:=first|omega|(simp only [go_sem,seval];first|done|omega)) only [go_sem,seval]
 refine Qb (hq _) ?_
 by_cases h0:e = 0
 case neg =>
  rw [if_neg h0]
  simp -implicitDefEqProofs (disch:=first|omega|(simp only [go_sem,seval,h0,encS0];first|done|omega)) only [go_sem,seval,h0,encS0]
  (all_goals (first|refine pfN hM ?_ ?_|refine pf0 hM ?_ ?_);all_goals first|(simp only [go_sem,seval]<;>omega)|skip;all_goals (try simp -implicitDefEqProofs (disch:=first|omega|(simp only [go_sem,seval];first|done|omega)) only [go_sem,seval]))
 subst h0
 rw [if_pos rfl]
 have hm:=hm (hz rfl)
 generalize mvS (trnN q.toNat) s = s' at lt et hm ⊢
 simp -implicitDefEqProofs (disch:=first|omega|(simp only [go_sem,seval,es];first|done|omega)) only [go_sem,seval,es]
 refine Qb (hm _) ?_
 simp -implicitDefEqProofs (disch:=first|omega|(simp only [go_sem,seval,Vv];first|done|omega)) only [go_sem,seval,Vv]
 (all_goals (first|refine pfN hM ?_ ?_|refine pf0 hM ?_ ?_);all_goals first|(simp only [go_sem,seval,Vk]<;>omega)|skip;all_goals (try simp -implicitDefEqProofs (disch:=first|omega|(simp only [go_sem,seval,Vv];first|done|omega)) only [go_sem,seval,Vv]))
def stepL:List Pt:=[⟨0,-1⟩,⟨-1,-1⟩,⟨-1,0⟩,⟨-1,1⟩,⟨0,1⟩,⟨1,1⟩,⟨1,0⟩,⟨1,-1⟩]
def QH (n:Int):Pt:=if rng n 0 7 = 0 then stepL.getD n.toNat ⟨0,0⟩ else ⟨0,0⟩
def stepC:List PV:=[.I 0,.I (-1),.I (-1),.I (-1),.I (-1),.I 0,.I (-1),.I 1,.I 0,.I 1,.I 1,.I 1,.I 1,.I 0,.I 1,.I (-1)]
def trnE (r:Rse) (q:Int):Int:=fst0 [Qo8 r,rng q 0 3]
abbrev QoC (X:XRel):=Qd9 F X
def serIn (s:Ser):Prop:=s.samples.length ≤ 40000 ∧ s.gaps.length ≤ 1048576 ∧ ∀ x:Spn,x ∈ s.gaps → 0 ≤ x.fr ∧ x.fr < x.to_ ∧ x.to_ ≤ s.samples.length
theorem Qb5 (s:Ser):Q X 49 [Qj s] (.fn (.func 75) [] [.fp (Qj s).cells]):=by
 intro M
 (refine Qe (cf:=L6.c49) rfl rfl fun hM hA => ?_;simp only [L6.c49,zO,zF,zT,zM,CX.i];rw [mk1 _ (by decide)];simp -implicitDefEqProofs (disch:=first|omega|(simp only [go_sem,seval,Qf];first|done|omega)) only [go_sem,seval,Qf])
 (all_goals (first|refine pfN hM ?_ ?_|refine pf0 hM ?_ ?_);all_goals first|(simp only [go_sem,seval,QG,Qg]<;>omega)|skip;all_goals (try simp -implicitDefEqProofs (disch:=first|omega|(simp only [go_sem,seval];first|done|omega)) only [go_sem,seval]))
theorem Qgw (s:Ser) (hs:serIn s) {i:Nat} {N:Nat → List Blk} {m:Nat} (hm:m ≤ (recP s.samples s.gaps).length) (hN:∀ k,k ≤ m → (N k).length = (N 0).length ∧ lowM (N k).length (N k))
  (hy:∀ k x E,k < m → (recP s.samples s.gaps)[k]? = some x → ACall F X (.yl i) [x.1,x.2] (N k ++ E) (.B true) (N (k + 1) ++ E)) {Ne:List Blk}
  (he:(m = (recP s.samples s.gaps).length ∧ Ne = N m) ∨ ∃ x,(recP s.samples s.gaps)[m]? = some x ∧ (Ne.length = (N 0).length ∧ lowM Ne.length Ne) ∧ ∀ E,ACall F X (.yl i) [x.1,x.2] (N m ++ E) (.B false) (Ne ++ E)) :
  ACall F X (.fn 75) (.yl i :: [.fp (Qj s).cells]) (N 0) (.tup []) Ne:=by
 have hmi:=Jv (X:=X) s hs.1 hs.2.1 hs.2.2
 obtain ⟨nm,st,l,g⟩:=s
 simp only at hm hy he hmi
 have hs1:l.length ≤ 40000:=hs.1
 clear hs
 refine Qe (cf:=c75) rfl rfl fun hM hA => ?_
 have hi:i < (N 0).length:=by simp only [lowL,PV.low] at hA;exact hA.1
 simp only [c75,zO,zF,zT,zM,CX.i]
 rw [mk2 _ (by decide)]
 simp -implicitDefEqProofs (disch:=first|omega|(simp only [go_sem,seval,Vo];first|done|omega)) only [go_sem,seval,Vo]
 refine Qb (hmi _) ?_
 have hgl:(QP l.length g g.length).length = l.length:=by simp [QP]
 simp -implicitDefEqProofs (disch:=first|omega|(simp only [go_sem,seval,Vo];first|done|omega)) only [go_sem,seval,Vo]
 have hbase:recK l g 0 = []:=by simp [recK]
 have hall:(recP l g).length = (recK l g l.length).length:=Qe4 l g
 have hNl:∀ k,k ≤ m → lowM (N 0).length (N k):=fun k hk => by have:=hN k hk;rw [← this.1];exact this.2
 refine Qo (α:=Nat) 0 (fun k => k ≤ l.length ∧ (recK l g k).length ≤ m) (fun k => N (recK l g k).length)
  (fun k => [(0,.yl i),(3,.fs (QP l.length g g.length)),(9,.fs (l.map encF)),(10,.I l.length),(11,.I k)]) (fun k => l.length - k) ⟨Nat.zero_le _,by rw [hbase];exact Nat.zero_le _⟩ (by rw [hbase];rfl) rfl ?_
 rintro k ⟨hk,hkm⟩
 have hgw:=Vy (m:=(N 0).length) l.length g g.length
 by_cases hlt:k < l.length
 case neg =>
  have hkk:k = l.length:=by omega
  subst hkk
  have e:Ne = N m:=by
   rcases he with ⟨_,h⟩|⟨x,h,_⟩
   ·exact h
   ·have:=(List.getElem?_eq_some_iff.1 h).1;omega
  have e2:(recK l g l.length).length = m:=by
   rcases he with ⟨h,_⟩|⟨x,h,_⟩
   ·omega
   ·have:=(List.getElem?_eq_some_iff.1 h).1;omega
  rw [e2,e]
  have hk0:=hN m (Nat.le_refl _)
  simp -implicitDefEqProofs (disch:=first|omega|(simp only [go_sem,seval,hlt];first|done|omega)) only [go_sem,seval,hlt]
  refine Yr QaQ hk0.2 hk0.1.symm ?_ ?_
  ·simp -implicitDefEqProofs (disch:=first|omega|(simp only [go_sem,seval];first|done|omega)) only [go_sem,seval]
   rfl
  ·(simp only [go_sem,seval]<;>omega)
 obtain ⟨x,hx⟩:∃ x,l[k]? = some x:=⟨_,List.getElem?_eq_getElem hlt⟩
 have hgg:(QP l.length g g.length)[k]? = some (.B (gapAt g k)):=by rw [QbC hlt,List.take_length]
 have hsn:=YY (g:=g) hx
 have hk0:=hN _ hkm
 by_cases hg:gapAt g k = true
 ·rw [hg] at hgg
  rw [if_pos hg,List.append_nil] at hsn
  simp -implicitDefEqProofs (disch:=first|omega|(simp only [go_sem,seval,hlt,hx,hgg,hgl];first|done|omega)) only [go_sem,seval,hlt,hx,hgg,hgl]
  refine QgE hk0.2 hk0.1.symm (QA ?_) ?_
  ·have:i < (N (recK l g k).length).length:=by omega
   simp only [go_sem,seval,this,Nat.add_zero,QG,Vy]
  ·simp -implicitDefEqProofs (disch:=first|omega|(simp only [go_sem,seval];first|done|omega)) only [go_sem,seval]
   exact again' (k + 1) ⟨by omega,by rw [hsn];exact hkm⟩ (by omega) (by rw [hsn]) rfl
 have hg':gapAt g k = false:=by simpa using hg
 rw [hg'] at hgg
 rw [if_neg hg] at hsn
 have hp:=QkR hx hg'
 have hsl:(recK l g (k + 1)).length = (recK l g k).length + 1:=by rw [hsn,List.length_append];rfl
 by_cases hcm:(recK l g k).length < m
 ·have hk1:=hN ((recK l g k).length + 1) (by omega)
  have hy':=hy _ _ [] hcm hp
  rw [List.append_nil,List.append_nil] at hy'
  simp -implicitDefEqProofs (disch:=first|omega|(simp only [go_sem,seval,hlt,hx,hgg,hgl];first|done|omega)) only [go_sem,seval,hlt,hx,hgg,hgl]
  refine Q6 hy' ?_
  simp -implicitDefEqProofs (disch:=first|omega|(simp only [go_sem,seval];first|done|omega)) only [go_sem,seval]
  refine QgE hk1.2 hk1.1.symm (QA ?_) ?_
  ·have:i < (N ((recK l g k).length + 1)).length:=by omega
   simp only [go_sem,seval,this,Nat.add_zero,QG,Vy]
  ·simp -implicitDefEqProofs (disch:=first|omega|(simp only [go_sem,seval];first|done|omega)) only [go_sem,seval]
   exact again' (k + 1) ⟨by omega,by omega⟩ (by omega) (by rw [hsl]) rfl
 have hcm':(recK l g k).length = m:=by omega
 rcases he with ⟨h1,_⟩|⟨y,h1,h2,h3⟩
 ·have:=(List.getElem?_eq_some_iff.1 hp).1;omega
 rw [hcm'] at hp
 rw [hp] at h1
 cases h1
 have h3':=h3 []
 rw [List.append_nil,List.append_nil] at h3'
 rw [hcm']
 simp -implicitDefEqProofs (disch:=first|omega|(simp only [go_sem,seval,hlt,hx,hgg,hgl];first|done|omega)) only [go_sem,seval,hlt,hx,hgg,hgl]
 refine Q6 h3' ?_
 simp -implicitDefEqProofs (disch:=first|omega|(simp only [go_sem,seval];first|done|omega)) only [go_sem,seval]
 refine Yr JD h2.2 h2.1.symm ?_ ?_
 ·simp -implicitDefEqProofs (disch:=first|omega|(simp only [go_sem,seval];first|done|omega)) only [go_sem,seval]
  rfl
 ·(simp only [go_sem,seval]<;>omega)
theorem QhS (s:Ser) (hs:serIn s):QoC X 75 [.fp (Qj s).cells] (recP s.samples s.gaps):=by
 intro i N m hm hN hy
 exact ⟨fun h => Qgw s hs hm hN hy (.inl ⟨h,rfl⟩),fun x N' hx hN' hf => Qgw s hs hm hN hy (.inr ⟨x,hx,hN',hf⟩)⟩
theorem Z6 {s:Ser} (h:Qk s = 0):serIn s ∧ (∀ x ∈ s.samples,smpE x = 0):=by
 obtain ⟨nm,st,l,g⟩:=s
 unfold Qk at h
 simp only at h
 split at h
 ·cases h
 ·split at h
  ·cases h
  ·split at h
   ·cases h
   ·rename_i h3
    split at h
    ·rename_i h4;exact absurd h h4
    ·rename_i h4
     split at h
     ·rename_i h5;exact absurd h h5
     ·rename_i h5
      split at h
      ·cases h
      ·rename_i h6
       have h5:Qm g = 0:=Decidable.of_not_not h5
       have h6:QU l g = 0:=Decidable.of_not_not h6
       have h4:fst0 (l.map smpE) = 0:=Decidable.of_not_not h4
       refine ⟨⟨by simp only;omega,?_,QcX h5 h6⟩,?_⟩
       ·have:=(YB h5).2;simp only;omega
       ·intro x hx
        exact JQ h4 _ (List.mem_map.2 ⟨x,hx,rfl⟩)
theorem QgP {l:List Nat} {g:List Spn} {p:Nat × Nat} (h:p ∈ recOf l g):p.2 ∈ l ∧ p.1 < l.length:=by
 unfold recOf recK at h
 obtain ⟨q,hq,rfl⟩:=List.mem_map.1 h
 have hq:=(List.mem_filter.1 hq).1
 rw [List.take_length] at hq
 obtain ⟨i,hi,h2⟩:=List.mem_iff_getElem.1 hq
 rw [List.getElem_zipIdx] at h2
 rw [← h2]
 simp only [Nat.zero_add]
 rw [List.length_zipIdx] at hi
 exact ⟨List.getElem_mem _,hi⟩
def sumE (s:Ser):Int:=if Qk s = 0 then (if (sttTo (recOf s.samples s.gaps)).count = 0 then 12 else 0) else Qk s
def sumOf (s:Ser):Stt:=if Qk s = 0 then sttTo (recOf s.samples s.gaps) else st0
def Yo (s:Ser) (lv:Nat) (n:Int):Int:=fst0 [Qk s,smpE lv,rng n 1 40000]
def QaC (s:Ser) (lv:Nat) (n:Int):List Spn:=longK n (spTo lv (recOf s.samples s.gaps))
def Jq (s:Ser) (lv:Nat) (n:Int):List Spn × Int :=
 if Yo s lv n = 0 then (if 1024 < (QaC s lv n).length then ([],5) else (QaC s lv n,0)) else ([],Yo s lv n)
theorem Qac (s:Ser) (lv:Nat) (n:Int) (hl:s.samples.length ≤ 1048576) (hgl:s.gaps.length ≤ 1048576):Q X 14 [Qj s,encF lv,.I n] (.tup [.fs ((Jq s lv n).1.map Qa),.I (Jq s lv n).2]):=by
 intro M
 have e:=Qf s
 (refine Qe (cf:=L6.c14) rfl rfl fun hM hA => ?_;simp only [L6.c14,zO,zF,zT,zM,CX.i];rw [mk3 _ (by decide)];simp -implicitDefEqProofs (disch:=first|omega|(simp only [go_sem,seval,e];first|done|omega)) only [go_sem,seval,e])
 refine Qb (Vg s hl hgl _) ?_
 simp -implicitDefEqProofs (disch:=first|omega|(simp only [go_sem,seval];first|done|omega)) only [go_sem,seval]
 refine Qb (Yp lv _) ?_
 simp -implicitDefEqProofs (disch:=first|omega|(simp only [go_sem,seval];first|done|omega)) only [go_sem,seval]
 refine Qb (Vr _ _ _ _) ?_
 simp -implicitDefEqProofs (disch:=first|omega|(simp only [go_sem,seval];first|done|omega)) only [go_sem,seval]
 have hq:=QW (X:=X) [Qk s,smpE lv,rng n 1 40000] (by simp) M
 have e1:Yo s lv n = fst0 [Qk s,smpE lv,rng n 1 40000]:=rfl
 rw [← e1] at hq
 refine Qb hq ?_
 unfold Jq
 by_cases h0:Yo s lv n = 0
 case neg =>
  rw [if_neg h0]
  generalize Yo s lv n = ee at h0
  simp -implicitDefEqProofs (disch:=first|omega|(simp only [go_sem,seval,h0];first|done|omega)) only [go_sem,seval,h0]
  (all_goals (first|refine pfN hM ?_ ?_|refine pf0 hM ?_ ?_);all_goals first|(simp only [go_sem,seval]<;>omega)|skip;all_goals (try simp -implicitDefEqProofs (disch:=first|omega|(simp only [go_sem,seval];first|done|omega)) only [go_sem,seval]))
 rw [if_pos h0,h0]
 rw [e1] at h0
 have g0:=JQ h0
 have g1:=g0 (Qk s) (by simp)
 have g2:=g0 (smpE lv) (by simp)
 have g3:=g0 (rng n 1 40000) (by simp)
 obtain ⟨hin,hsm⟩:=Z6 g1
 rw [Z0] at g3
 simp -implicitDefEqProofs (disch:=first|omega|(simp only [go_sem,seval,e];first|done|omega)) only [go_sem,seval,e]
 refine Qb (Qb5 s _) ?_
 have hrec:∀ p ∈ recOf s.samples s.gaps,smpE p.2 = 0:=fun p hp => hsm _ (QgP hp).1
 have hrl:(recOf s.samples s.gaps).length ≤ 40000:=Nat.le_trans (QcK _ _ _) hin.1
 have hidx:∀ p ∈ recOf s.samples s.gaps,p.1 < 40000:=fun p hp => Nat.lt_of_lt_of_le (QgP hp).2 hin.1
 have hlen:=Qe4 s.samples s.gaps
 have hy:=QhS (X:=X) s hin
 have hsn:=fun (k:Nat) (p:Nat × Nat) (hp:(recOf s.samples s.gaps)[k]? = some p) => QjH (lv:=lv) hp
 have hspl:=fun k:Nat => JS lv ((recOf s.samples s.gaps).take k)
 simp -implicitDefEqProofs (disch:=first|omega|(simp only [go_sem,seval];first|done|omega)) only [go_sem,seval]
 refine QfO hy (fun k => [.row true 1 0 [.os (M.length + 2) (spTo lv ((recOf s.samples s.gaps).take k)).length 0 (spTo lv ((recOf s.samples s.gaps).take k)).length],.row true 2 0 [],.row true 2 (spTo lv ((recOf s.samples s.gaps).take k)).length ((spTo lv ((recOf s.samples s.gaps).take k)).map Qa)]) (recP s.samples s.gaps).length (Nat.le_refl _) hM (by simp -implicitDefEqProofs (disch:=first|omega|(simp only [go_sem,seval];first|done|omega)) only [go_sem,seval]) (fun k => rfl) ?_ ?_ ?_ ?_
 ·intro k _
  simp only [go_sem,seval,Qg]
  try simp
 ·refine (?_:lowL (M.length + (0 + 1 + 1 + 1)) _)
  simp only [go_sem,seval,Qf,QG,Qg]
  try simp
 ·intro k x E L LB hk hx hE
  obtain ⟨p,hp,rfl⟩:∃ p,(recOf s.samples s.gaps)[k]? = some p ∧ (PV.I p.1,encF p.2) = x:=by
   unfold recP at hx;rw [List.getElem?_map] at hx;exact Option.map_eq_some_iff.1 hx
  have hk':k < (recOf s.samples s.gaps).length:=by omega
  have hxs:=hrec p (List.mem_of_getElem? hp)
  have hxi:=hidx p (List.mem_of_getElem? hp)
  have hss:=hsn k p hp
  have hol:=hspl k
  have htl:((recOf s.samples s.gaps).take k).length = k:=by rw [List.length_take];omega
  simp only [hss]
  generalize spTo lv ((recOf s.samples s.gaps).take k) = o at hol ⊢
  obtain ⟨j,y⟩:=p
  simp only at hxs hxi ⊢
  clear hss hx hsn
  have hgt:=QjZ hxs g2
  simp -implicitDefEqProofs (disch:=first|omega|(simp only [go_sem,seval,Qd];first|done|omega)) only [go_sem,seval,Qd]
  refine Qpw (by rw [getMj];rfl) ?_
  by_cases hab:Zm y lv = true
  ·rw [Qae hab]
   rw [hab] at hgt
   simp -implicitDefEqProofs (disch:=first|omega|(simp only [go_sem,seval,hgt,Qd];first|done|omega)) only [go_sem,seval,hgt,Qd]
   exact QcC [] (by simp)
  have hab':Zm y lv = false:=by simpa using hab
  rw [hab'] at hgt
  simp -implicitDefEqProofs (disch:=first|omega|(simp only [go_sem,seval,hgt,Qd];first|done|omega)) only [go_sem,seval,hgt,Qd]
  have hol1:o.length ≤ 40000:=by omega
  clear hspl hy hidx hrec hE
  rcases (by omega:o.length = 0 ∨ 1 ≤ o.length) with h0|h0
  ·have ho:o = []:=List.eq_nil_of_length_eq_zero h0
   subst ho
   rw [Qbg hab']
   simp -implicitDefEqProofs (disch:=first|omega|(simp only [go_sem,seval,List.length_nil,Int.lt_irrefl];first|done|omega)) only [go_sem,seval,List.length_nil,Int.lt_irrefl]
   refine QcC [] ?_
   simp [Qa]
  ·have f1:((0:Int) < o.length) = True:=eq_true (by omega)
   obtain ⟨z,g1⟩:∃ z,o[o.length - 1]? = some z:=⟨_,List.getElem?_eq_getElem (by omega)⟩
   have e1:(o.length:Int) - 1 = ((o.length - 1:Nat):Int):=by omega
   have l1:o.length - 1 < o.length:=by omega
   have eset:(o.map Qa).set (o.length - 1) (.agg [.I z.fr,.I ((j:Int) + 1)]) = (o.set (o.length - 1) ⟨z.fr,(j:Int) + 1⟩).map Qa:=by rw [List.map_set];rfl
   by_cases hc:z.to_ = j
   ·have hst:=Qbu hab' g1 hc
    rw [hst]
    simp -implicitDefEqProofs (disch:=first|omega|(simp only [go_sem,seval,f1,e1,g1,l1,hc,Qh,Qd,eset];first|done|omega)) only [go_sem,seval,f1,e1,g1,l1,hc,Qh,Qd,eset]
    refine QcC [] ?_
    simp
   ·have hst:=Qbr hab' g1 hc
    rw [hst]
    simp -implicitDefEqProofs (disch:=first|omega|(simp only [go_sem,seval,f1,e1,g1,l1,hc,Qh,Qd,eset];first|done|omega)) only [go_sem,seval,f1,e1,g1,l1,hc,Qh,Qd,eset]
    refine QcC [] ?_
    simp [Qa]
 ·refine .inl ⟨rfl,?_⟩
  have hall:(recOf s.samples s.gaps).take (recP s.samples s.gaps).length = recOf s.samples s.gaps:=List.take_of_length_le (by omega)
  rw [hall]
  have hL:QaC s lv n = longK n (spTo lv (recOf s.samples s.gaps)):=rfl
  rw [hL]
  have hin2:spIn 40000 (spTo lv (recOf s.samples s.gaps)):=Qon hidx
  have hsl:=JS lv (recOf s.samples s.gaps)
  generalize spTo lv (recOf s.samples s.gaps) = all at hin2 hsl ⊢
  have hlk:=fun k:Nat => Qam n (all.take k)
  simp -implicitDefEqProofs (disch:=first|omega|(simp only [go_sem,seval];first|done|omega)) only [go_sem,seval]
  refine Qo (α:=Nat) 0 (fun k => k ≤ all.length) (fun k => M ++ [.row true 1 0 [.os (M.length + 2) all.length 0 all.length],.row true 2 (longK n (all.take k)).length ((longK n (all.take k)).map Qa),.row true 2 all.length (all.map Qa)])
   (fun k => [(2,.I n),(10,.os (M.length + 1) (longK n (all.take k)).length 0 (longK n (all.take k)).length),(62,.os (M.length + 2) all.length 0 all.length),(63,.I all.length),(64,.I k)]) (fun k => all.length - k) (Nat.zero_le _) rfl rfl ?_
  intro k hk
  have hkk:=hlk k
  have htl:(all.take k).length = k:=by rw [List.length_take];omega
  by_cases hlt:k < all.length
  ·obtain ⟨z,hz⟩:∃ z,all[k]? = some z:=⟨_,List.getElem?_eq_getElem hlt⟩
   have hzi:=hin2 z (List.mem_of_getElem? hz)
   have hsn2:=Qho (least:=n) hz
   have again:∀ o:List Spn,longK n (all.take (k + 1)) = o → Again 84 (fun k => k ≤ all.length) (fun k => M ++ [.row true 1 0 [.os (M.length + 2) all.length 0 all.length],.row true 2 (longK n (all.take k)).length ((longK n (all.take k)).map Qa),.row true 2 all.length (all.map Qa)])
    (fun k => [(2,.I n),(10,.os (M.length + 1) (longK n (all.take k)).length 0 (longK n (all.take k)).length),(62,.os (M.length + 2) all.length 0 all.length),(63,.I all.length),(64,.I k)]) (fun k => all.length - k) k
    (M ++ [.row true 1 0 [.os (M.length + 2) all.length 0 all.length],.row true 2 o.length (o.map Qa),.row true 2 all.length (all.map Qa)]) (mk 84 [(2,.I n),(10,.os (M.length + 1) o.length 0 o.length),(62,.os (M.length + 2) all.length 0 all.length),(63,.I all.length),(64,.I (k + 1))]):=by
    rintro o rfl
    exact again' (k + 1) (by omega) (by omega) rfl rfl
   rw [hsn2] at again
   generalize longK n (all.take k) = o at hkk again ⊢
   simp -implicitDefEqProofs (disch:=first|omega|(simp only [go_sem,seval,hlt,hz,Qh,Qd];first|done|omega)) only [go_sem,seval,hlt,hz,Qh,Qd]
   by_cases hc:n ≤ z.to_ - z.fr
   ·rw [if_pos hc] at again
    simp -implicitDefEqProofs (disch:=first|omega|(simp only [go_sem,seval,hc,Qh,Qd];first|done|omega)) only [go_sem,seval,hc,Qh,Qd]
    refine Qy hM rfl 3 (by simp) (by first|done|(simp only [go_sem,seval,Qg] <;> first|done|(refine ⟨?_,?_⟩ <;> omega)|omega)) (QA (by first|done|(simp only [go_sem,seval,Qg] <;> first|done|(refine ⟨?_,?_⟩ <;> omega)|omega))) ?_
    simp -implicitDefEqProofs (disch:=first|omega|(simp only [go_sem,seval];first|done|omega)) only [go_sem,seval]
    have:=again _ rfl
    simpa [Qa] using this
   ·rw [if_neg hc,List.append_nil] at again
    simp -implicitDefEqProofs (disch:=first|omega|(simp only [go_sem,seval,hc,Qh,Qd];first|done|omega)) only [go_sem,seval,hc,Qh,Qd]
    refine Qy hM rfl 3 (by simp) (by first|done|(simp only [go_sem,seval,Qg] <;> first|done|(refine ⟨?_,?_⟩ <;> omega)|omega)) (QA (by first|done|(simp only [go_sem,seval,Qg] <;> first|done|(refine ⟨?_,?_⟩ <;> omega)|omega))) ?_
    simp -implicitDefEqProofs (disch:=first|omega|(simp only [go_sem,seval];first|done|omega)) only [go_sem,seval]
    exact again _ rfl
  have hkk2:k = all.length:=by omega
  subst hkk2
  rw [List.take_length]
  have hll:=Qam n all
  generalize longK n all = out at hll
  by_cases hbig:1024 < out.length
  ·have f1:((1024:Int) < out.length) = True:=eq_true (by omega)
   rw [if_pos hbig]
   simp -implicitDefEqProofs (disch:=first|omega|(simp only [go_sem,seval,hlt,f1];first|done|omega)) only [go_sem,seval,hlt,f1]
   (all_goals (first|refine pfN hM ?_ ?_|refine pf0 hM ?_ ?_);all_goals first|(simp only [go_sem,seval]<;>omega)|skip;all_goals (try simp -implicitDefEqProofs (disch:=first|omega|(simp only [go_sem,seval];first|done|omega)) only [go_sem,seval]))
  ·have f1:((1024:Int) < out.length) = False:=eq_false (by omega)
   rw [if_neg hbig]
   simp -implicitDefEqProofs (disch:=first|omega|(simp only [go_sem,seval,hlt,f1];first|done|omega)) only [go_sem,seval,hlt,f1]
   (all_goals (first|refine pfN hM ?_ ?_|refine pf0 hM ?_ ?_);all_goals first|(simp only [go_sem,seval,Qg]<;>omega)|skip;all_goals (try simp -implicitDefEqProofs (disch:=first|omega|(simp only [go_sem,seval];first|done|omega)) only [go_sem,seval]))
def ItoaX (X:XRel):Prop:=∀ (n:Int) (M:List Blk),-9223372036854775808 ≤ n → n ≤ 9223372036854775807 → X 60 [.I n] M (.s (.string (itoaB n))) M
def encStr (s:ByteArray):PV:=.s (.string s)
def JoinX (X:XRel):Prop:=∀ (l:List ByteArray) (M:List Blk),l.length ≤ 64 → (∀ s ∈ l,s.size ≤ 200) → X 61 [.fs (l.map encStr),.s (.string ⟨#[]⟩)] M (.s (.string (joinB l))) M
theorem ZZ (n:Int) (h0:-9223372036854775808 ≤ n) (h1:n ≤ 9223372036854775807):(itoaB n).size ≤ 21:=by
 have:=Lib.itoa_length_le n h0 h1
 show (Lib.itoa n).toArray.size ≤ 21
 simpa using this
theorem Zu {s:ByteArray} (h:Qn s = true):s.size ≤ 24:=by
 unfold Qn at h
 simp only [Bool.and_eq_true,decide_eq_true_eq] at h
 exact h.1.2
theorem VU:(⟨#[116,117,114,98,105,110,101,32]⟩:ByteArray).size = 8:=rfl
theorem sz_sp:(⟨#[32]⟩:ByteArray).size = 1:=rfl
theorem sz_nl:(⟨#[10]⟩:ByteArray).size = 1:=rfl
theorem YL:(⟨#[115,105,116,101,32]⟩:ByteArray).size = 5:=rfl
theorem Qch {t:Tb} (h:Qn t.name = true) (hp:ptIn t.at_):(tbTxt t).size ≤ 200:=by
 have h1:=Zu h
 unfold ptIn at hp
 have hp1:-1000 ≤ t.x ∧ t.x ≤ 1000 ∧ -1000 ≤ t.y ∧ t.y ≤ 1000:=hp
 have h2:=ZZ t.x (by omega) (by omega)
 have h3:=ZZ t.y (by omega) (by omega)
 unfold tbTxt
 simp only [ByteArray.size_append,VU,sz_sp,sz_nl]
 omega
theorem QcW (hI:ItoaX X) (t:Tb) (h:Qn t.name = true) (hp:ptIn t.at_):Q X 59 [encTb t] (.s (.string (tbTxt t))):=by
 intro M
 have h1:=Zu h
 unfold ptIn at hp
 have hp1:-1000 ≤ t.x ∧ t.x ≤ 1000 ∧ -1000 ≤ t.y ∧ t.y ≤ 1000:=hp
 have h2:=ZZ t.x (by omega) (by omega)
 have h3:=ZZ t.y (by omega) (by omega)
 have e:tbTxt t = (((((⟨#[116,117,114,98,105,110,101,32]⟩:ByteArray) ++ t.name) ++ ⟨#[32]⟩) ++ itoaB t.x) ++ ⟨#[32]⟩) ++ itoaB t.y ++ ⟨#[10]⟩:=rfl
 rw [e]
 (refine Qe (cf:=L6.c59) rfl rfl fun hM hA => ?_;simp only [L6.c59,zO,zF,zT,zM,CX.i];rw [mk1 _ (by decide)];simp -implicitDefEqProofs (disch:=first|omega|(simp only [go_sem,seval,QB,Vj,ByteArray.size_append,VU,sz_sp,sz_nl];first|done|omega)) only [go_sem,seval,QB,Vj,ByteArray.size_append,VU,sz_sp,sz_nl])
 refine Qb (VI (hI t.x _ (by omega) (by omega))) ?_
 simp -implicitDefEqProofs (disch:=first|omega|(simp only [go_sem,seval,QB,Vj,ByteArray.size_append,VU,sz_sp,sz_nl];first|done|omega)) only [go_sem,seval,QB,Vj,ByteArray.size_append,VU,sz_sp,sz_nl]
 refine Qb (VI (hI t.y _ (by omega) (by omega))) ?_
 simp -implicitDefEqProofs (disch:=first|omega|(simp only [go_sem,seval,Vj,ByteArray.size_append,VU,sz_sp,sz_nl];first|done|omega)) only [go_sem,seval,Vj,ByteArray.size_append,VU,sz_sp,sz_nl]
 (all_goals (first|refine pfN hM ?_ ?_|refine pf0 hM ?_ ?_);all_goals first|(simp only [go_sem,seval]<;>omega)|skip;all_goals (try simp -implicitDefEqProofs (disch:=first|omega|(simp only [go_sem,seval];first|done|omega)) only [go_sem,seval]))
theorem Qa9 {g:FuncId} {f:Tb → ByteArray} (l:List Tb) (hl:l.length ≤ 1000000) (hg:∀ x ∈ l,Q X g [encTb x] (.s (.string (f x)))):Q X 58 [.fs (l.map encTb),.fn (.func g) [] []] (.fs ((l.map f).map encStr)):=by
 intro M
 (refine Qe (cf:=L6.c58) rfl rfl fun hM hA => ?_;simp only [L6.c58,zO,zF,zT,zM,CX.i];rw [mk2 _ (by decide)];simp -implicitDefEqProofs (disch:=first|omega|(simp only [go_sem,seval];first|done|omega)) only [go_sem,seval])
 refine Qo (α:=Nat) 0 (fun k => k ≤ l.length) (fun k => M ++ [.row true 1 k (((l.take k).map f).map encStr)])
  (fun k => [(1,.fn (.func g) [] []),(5,.os M.length k 0 k),(8,.fs (l.map encTb)),(9,.I l.length),(10,.I k)]) (fun k => l.length - k) (Nat.zero_le _) rfl rfl ?_
 have hlw:∀ (n:Nat) (L:List Tb),lowL n (List.map (fun x => encStr (f x)) L) = True:=fun n L => eq_true (VB _ _ fun r => by simp [encStr,PV.low])
 have hls:∀ (n:Nat) (x:Tb),(encStr (f x)).low n = True:=fun n x => eq_true (by simp [encStr,PV.low])
 intro k hk
 by_cases hlt:k < l.length
 ·obtain ⟨x,h1⟩:∃ x,l[k]? = some x:=⟨_,List.getElem?_eq_getElem hlt⟩
  have h2:k = ((l.take k).map f).length:=by simp;omega
  have h2':(l.take k).length = k:=by simp;omega
  simp -implicitDefEqProofs (disch:=first|omega|(simp only [go_sem,seval,hlt,h1,Qv];first|done|omega)) only [go_sem,seval,hlt,h1,Qv]
  refine Q6 (hg x (List.mem_of_getElem? h1) _) ?_
  simp -implicitDefEqProofs (disch:=first|omega|(simp only [go_sem,seval,Qv];first|done|omega)) only [go_sem,seval,Qv]
  refine Qy hM rfl 1 (by simp) (by first|done|(simp only [go_sem,seval,hlw,hls,Vk] <;> first|done|(refine ⟨?_,?_⟩ <;> omega)|omega)) (QA (by first|done|(simp only [go_sem,seval,hlw,hls,Vk] <;> first|done|(refine ⟨?_,?_⟩ <;> omega)|omega))) ?_
  simp -implicitDefEqProofs (disch:=first|omega|(simp only [go_sem,seval];first|done|omega)) only [go_sem,seval]
  refine again' (k + 1) (by omega) (by omega) ?_ rfl
  have h3:=Zc (f:=fun x => encStr (f x)) h1
  rw [h3];rfl
 ·simp -implicitDefEqProofs (disch:=first|omega|(simp only [go_sem,seval,hlt];first|done|omega)) only [go_sem,seval,hlt]
  (first|refine pfN hM ?_ ?_|refine pf0 hM ?_ ?_)
  ·simp -implicitDefEqProofs (disch:=first|omega|(simp only [go_sem,seval];first|done|omega)) only [go_sem,seval]
   rw [List.take_of_length_le (by omega)]
  ·(simp only [go_sem,seval,hlw]<;>omega)
theorem QeU (hI:ItoaX X) (hJ:JoinX X) (s:Ste) (hl:s.tbs.length ≤ 1048576):Q X 23 [Q1 s] (.tup [.s (.string (if QZ s = 0 then QcI s else ⟨#[]⟩)),.I (QZ s)]):=by
 intro M
 have es:=Vv s
 (refine Qe (cf:=L6.c23) rfl rfl fun hM hA => ?_;simp only [L6.c23,zO,zF,zT,zM,CX.i];rw [mk1 _ (by decide)];simp -implicitDefEqProofs (disch:=first|omega|(simp only [go_sem,seval,es];first|done|omega)) only [go_sem,seval,es])
 refine Qb (YO s hl _) ?_
 by_cases h0:QZ s = 0
 case neg =>
  rw [if_neg h0]
  generalize QZ s = ee at h0
  simp -implicitDefEqProofs (disch:=first|omega|(simp only [go_sem,seval,h0];first|done|omega)) only [go_sem,seval,h0]
  (all_goals (first|refine pfN hM ?_ ?_|refine pf0 hM ?_ ?_);all_goals first|(simp only [go_sem,seval]<;>omega)|skip;all_goals (try simp -implicitDefEqProofs (disch:=first|omega|(simp only [go_sem,seval];first|done|omega)) only [go_sem,seval]))
 rw [if_pos h0,h0]
 obtain ⟨hn,hle,hln,hin⟩:=Qdt h0
 have hpt:=Qjj h0
 have hnm:∀ t ∈ s.tbs,Qn t.name = true:=by
  intro t ht
  obtain ⟨i,hi,h2⟩:=List.mem_iff_getElem.1 ht
  exact (Qdv (hin i t hi (List.getElem?_eq_some_iff.2 ⟨hi,h2⟩))).1
 simp -implicitDefEqProofs (disch:=first|omega|(simp only [go_sem,seval,es];first|done|omega)) only [go_sem,seval,es]
 refine Qb (Qa9 s.tbs (by omega) (fun x hx => QcW hI x (hnm x hx) (hpt x hx)) _) ?_
 have h1:=Zu hn
 have h2:=ZZ s.least (by omega) (by omega)
 simp -implicitDefEqProofs (disch:=first|omega|(simp only [go_sem,seval,Vj,ByteArray.size_append,YL,sz_sp,sz_nl];first|done|omega)) only [go_sem,seval,Vj,ByteArray.size_append,YL,sz_sp,sz_nl]
 refine Qb (VI (hI s.least _ (by omega) (by omega))) ?_
 simp -implicitDefEqProofs (disch:=first|omega|(simp only [go_sem,seval,Vj,ByteArray.size_append,YL,sz_sp,sz_nl];first|done|omega)) only [go_sem,seval,Vj,ByteArray.size_append,YL,sz_sp,sz_nl]
 have hj:=hJ (s.tbs.map tbTxt) M (by rw [List.length_map];exact hln) (by
  intro u hu
  obtain ⟨t,ht,rfl⟩:=List.mem_map.1 hu
  exact Qch (hnm t ht) (hpt t ht))
 rw [List.map_map] at hj
 have hjs:(joinB (s.tbs.map tbTxt)).size ≤ 100000:=Qco (by rw [List.length_map];exact hln) (by
  intro u hu
  obtain ⟨t,ht,rfl⟩:=List.mem_map.1 hu
  exact Qch (hnm t ht) (hpt t ht))
 refine Qb (VI hj) ?_
 have e:QcI s = ((((⟨#[115,105,116,101,32]⟩:ByteArray) ++ s.name) ++ ⟨#[32]⟩) ++ itoaB s.least ++ ⟨#[10]⟩) ++ joinB (s.tbs.map tbTxt):=rfl
 rw [e]
 simp -implicitDefEqProofs (disch:=first|omega|(simp only [go_sem,seval,Vj,ByteArray.size_append,YL,sz_sp,sz_nl];first|done|omega)) only [go_sem,seval,Vj,ByteArray.size_append,YL,sz_sp,sz_nl]
 (all_goals (first|refine pfN hM ?_ ?_|refine pf0 hM ?_ ?_);all_goals first|(simp only [go_sem,seval]<;>omega)|skip;all_goals (try simp -implicitDefEqProofs (disch:=first|omega|(simp only [go_sem,seval];first|done|omega)) only [go_sem,seval]))
theorem QcT (ns:List Int) (hl:ns.length ≤ 40000) {M0 E:List Blk} {v:Nat} {bs:List PV} (hb:bs.length ≤ 400000) :
  ACall F X (.fn 38) [.fs (ns.map .I),.op (M0.length + 1) 0 0 0] (M0 ++ (.row true 1 v bs :: .row true 1 0 [.os M0.length v 0 bs.length] :: E)) (.tup [])
   (M0 ++ (.row true 1 (v + ns.length) (bs ++ putB ns) :: .row true 1 0 [.os M0.length (v + ns.length) 0 (bs ++ putB ns).length] :: E)):=by
 refine Qe (cf:=c38) rfl rfl fun hM hA => ?_
 simp only [c38,zO,zF,zT,zM,CX.i]
 rw [mk2 _ (by decide)]
 simp -implicitDefEqProofs (disch:=first|omega|(simp only [go_sem,seval];first|done|omega)) only [go_sem,seval]
 refine Qo (α:=Nat) 0 (fun k => k ≤ ns.length) (fun k => M0 ++ (.row true 1 (v + k) (bs ++ putB (ns.take k)) :: .row true 1 0 [.os M0.length (v + k) 0 (bs ++ putB (ns.take k)).length] :: E))
  (fun k => [(1,.op (M0.length + 1) 0 0 0),(5,.fs (ns.map .I)),(6,.I ns.length),(7,.I k)]) (fun k => ns.length - k) (Nat.zero_le _) (by simp [putB]) rfl ?_
 intro k hk
 by_cases hlt:k < ns.length
 ·obtain ⟨n,hn⟩:∃ n,ns[k]? = some n:=⟨_,List.getElem?_eq_getElem hlt⟩
  have hsn:=Qki hn
  have hpl:=Qem (ns.take k)
  have htl:(ns.take k).length = k:=by rw [List.length_take];omega
  have hbl:(bs ++ putB (ns.take k)).length ≤ 560000:=by rw [List.length_append,hpl];omega
  have again:∀ c:List PV,bs ++ putB (ns.take (k + 1)) = c → Again 26 (fun k => k ≤ ns.length) (fun k => M0 ++ (.row true 1 (v + k) (bs ++ putB (ns.take k)) :: .row true 1 0 [.os M0.length (v + k) 0 (bs ++ putB (ns.take k)).length] :: E))
   (fun k => [(1,.op (M0.length + 1) 0 0 0),(5,.fs (ns.map .I)),(6,.I ns.length),(7,.I k)]) (fun k => ns.length - k) k
   (M0 ++ (.row true 1 (v + (k + 1)) c :: .row true 1 0 [.os M0.length (v + (k + 1)) 0 c.length] :: E)) (mk 26 [(1,.op (M0.length + 1) 0 0 0),(5,.fs (ns.map .I)),(6,.I ns.length),(7,.I (k + 1))]):=by
   rintro c rfl
   exact again' (k + 1) (by omega) (by omega) rfl rfl
  rw [hsn,← List.append_assoc] at again
  generalize bs ++ putB (ns.take k) = c at hbl again ⊢
  have hsh:∀ (m:Nat),m ≤ 24 → bin .shr (.s (.int .i64 n)) (.s (.int .u64 m)) = some (.s (.int .i64 (n.fdiv (2 ^ m)))):=by
   intro m hm
   rw [Qo1 (by omega)]
   have:min (m:Int).toNat IntKind.i64.bits = m:=by
    have:IntKind.i64.bits = 64:=rfl
    omega
   rw [this]
  have s1:bin .shr (.s (.int .i64 n)) (.s (.int .u64 24)) = some (.s (.int .i64 (n.fdiv 16777216))):=hsh 24 (by decide)
  have s2:bin .shr (.s (.int .i64 n)) (.s (.int .u64 16)) = some (.s (.int .i64 (n.fdiv 65536))):=hsh 16 (by decide)
  have s3:bin .shr (.s (.int .i64 n)) (.s (.int .u64 8)) = some (.s (.int .i64 (n.fdiv 256))):=hsh 8 (by decide)
  simp -implicitDefEqProofs (disch:=first|omega|(simp only [go_sem,seval,hlt,hn,s1,s2,s3];first|done|omega)) only [go_sem,seval,hlt,hn,s1,s2,s3]
  have h:=again _ rfl
  simp only [List.length_append,Qff,List.length_cons,List.length_nil] at h
  exact h
 have hkk:k = ns.length:=by omega
 subst hkk
 rw [List.take_length]
 have hbl:lowL (M0 ++ Blk.row true 1 v bs :: Blk.row true 1 0 [PV.os M0.length v 0 bs.length] :: E).length bs:=hM (Blk.row true 1 v bs) (by simp)
 have hlow:lowM (M0 ++ (Blk.row true 1 (v + ns.length) (bs ++ putB ns) :: Blk.row true 1 0 [.os M0.length (v + ns.length) 0 (bs ++ putB ns).length] :: E)).length (M0 ++ (Blk.row true 1 (v + ns.length) (bs ++ putB ns) :: Blk.row true 1 0 [.os M0.length (v + ns.length) 0 (bs ++ putB ns).length] :: E)):=by
  intro b hb
  have hlen:(M0 ++ (Blk.row true 1 (v + ns.length) (bs ++ putB ns) :: Blk.row true 1 0 [.os M0.length (v + ns.length) 0 (bs ++ putB ns).length] :: E)).length = (M0 ++ Blk.row true 1 v bs :: Blk.row true 1 0 [PV.os M0.length v 0 bs.length] :: E).length:=by simp
  rw [hlen]
  rcases List.mem_append.1 hb with hb|hb
  ·exact hM b (by simp [hb])
  ·rcases List.mem_cons.1 hb with rfl|hb
   ·show lowL _ (bs ++ putB ns)
    rw [QL]
    intro x hx
    rcases List.mem_append.1 hx with hx|hx
    ·exact (QL _).1 hbl x hx
    ·exact (QL _).1 (of_eq_true (Ya ns)) x hx
   ·rcases List.mem_cons.1 hb with rfl|hb
    ·show lowL _ [_]
     simp [lowL,PV.low]
    ·exact hM b (by simp [hb])
 simp only [List.length_append] at hlow
 simp -implicitDefEqProofs (disch:=first|omega|(simp only [go_sem,seval,hlt];first|done|omega)) only [go_sem,seval,hlt]
 refine Yr QaQ (by simpa using hlow) (by simp) ?_ ?_
 ·simp -implicitDefEqProofs (disch:=first|omega|(simp only [go_sem,seval];first|done|omega)) only [go_sem,seval]
  rfl
 ·(simp only [go_sem,seval]<;>omega)
def FbitsX (X:XRel):Prop:=∀ (b:Nat) (M:List Blk),X 39 [.s (.float .f32 b)] M (.s (.int .u32 b)) M
theorem Qab (hF:FbitsX X) (s:Ser) (hl:s.samples.length ≤ 1048576) (hgl:s.gaps.length ≤ 1048576):Q X 8 [Qj s] (.tup [.fs (if Qk s = 0 then encB s else []),.I (Qk s)]):=by
 intro M
 have es:=Qf s
 (refine Qe (cf:=L6.c8) rfl rfl fun hM hA => ?_;simp only [L6.c8,zO,zF,zT,zM,CX.i];rw [mk1 _ (by decide)];simp -implicitDefEqProofs (disch:=first|omega|(simp only [go_sem,seval,es];first|done|omega)) only [go_sem,seval,es])
 refine Qb (Vg s hl hgl _) ?_
 by_cases h0:Qk s = 0
 case neg =>
  rw [if_neg h0]
  generalize Qk s = ee at h0
  simp -implicitDefEqProofs (disch:=first|omega|(simp only [go_sem,seval,h0];first|done|omega)) only [go_sem,seval,h0]
  (all_goals (first|refine pfN hM ?_ ?_|refine pf0 hM ?_ ?_);all_goals first|(simp only [go_sem,seval]<;>omega)|skip;all_goals (try simp -implicitDefEqProofs (disch:=first|omega|(simp only [go_sem,seval];first|done|omega)) only [go_sem,seval]))
 rw [if_pos h0,h0]
 obtain ⟨hin,hsm⟩:=Z6 h0
 have hnm:s.name.size ≤ 24:=by
  unfold Qk at h0
  split at h0
  ·cases h0
  ·rename_i hn;exact Zu (by simpa using hn)
 have hbo:=QhG s.name
 have hbl:=QfV s.name
 have hhs:∀ M:List Blk,held M (.s (.string s.name)) = some (Qz s.name):=fun _ => QeY
 simp -implicitDefEqProofs (disch:=first|omega|(simp only [go_sem,seval,es,hhs,hbo,hbl];first|done|omega)) only [go_sem,seval,es,hhs,hbo,hbl]
 have hh:(hdrB s).length = 5 + s.name.size:=by
  unfold hdrB
  rw [List.length_append,List.length_append,hbl];rfl
 have hls:=hin.1
 have hgs:s.gaps.length ≤ 1024:=by
  unfold Qk at h0
  split at h0
  ·cases h0
  ·split at h0
   ·cases h0
   ·split at h0
    ·cases h0
    ·split at h0
     ·rename_i h4;exact absurd h0 h4
     ·split at h0
      ·rename_i h5;exact absurd h0 h5
      ·rename_i h5;exact (YB (Decidable.of_not_not h5)).2
 have hP:=QcT (X:=X) [s.start,(s.samples.length:Int),(s.gaps.length:Int)] (by simp) (M0:=M) (E:=[]) (v:=2) (bs:=hdrB s) (by omega)
 have hlow:∀ n:Nat,lowL n (hdrB s) = True:=fun n => eq_true (by
  unfold hdrB
  rw [QL]
  intro x hx
  rcases List.mem_append.1 hx with hx|hx
  ·simp only [List.cons_append,List.nil_append,List.mem_cons,List.not_mem_nil,or_false] at hx
   rcases hx with rfl|rfl|rfl|rfl|rfl <;> simp [PV.low]
  ·exact (QL _).1 (of_eq_true (Qbq s.name)) x hx)
 rw [hh] at hP
 refine Q6 hP ?_
 have hcl:∀ (L:List Int) (m:Nat),lowL m (hdrB s ++ putB L) = True:=fun L m => eq_true (by
  rw [QL]
  intro x hx
  rcases List.mem_append.1 hx with hx|hx
  ·exact (QL _).1 (of_eq_true (hlow m)) x hx
  ·exact (QL _).1 (of_eq_true (Ya L)) x hx)
 have hC:∀ L:List Int,(hdrB s ++ putB L).length = 5 + s.name.size + 4 * L.length:=fun L => by rw [List.length_append,hh,Qem]
 have hstep:∀ L N:List Int,hdrB s ++ putB L ++ putB N = hdrB s ++ putB (L ++ N):=fun L N => by rw [List.append_assoc,Qly]
 have hE:encB s = hdrB s ++ putB ([s.start,(s.samples.length:Int),(s.gaps.length:Int)] ++ gapNs s.gaps ++ bitNs s.samples):=rfl
 generalize encB s = R at hE ⊢
 simp -implicitDefEqProofs (disch:=first|omega|(simp only [go_sem,seval];first|done|omega)) only [go_sem,seval]
 have hb3:([s.start,(s.samples.length:Int),(s.gaps.length:Int)]:List Int).length = 3:=rfl
 generalize [s.start,(s.samples.length:Int),(s.gaps.length:Int)] = base at hb3 hE ⊢
 refine Qo (α:=Nat) 0 (fun k => k ≤ s.gaps.length) (fun k => M ++ [.row true 1 (5 + 2 * k) (hdrB s ++ putB (base ++ gapNs (s.gaps.take k))),.row true 1 0 [.os M.length (5 + 2 * k) 0 (hdrB s ++ putB (base ++ gapNs (s.gaps.take k))).length]])
  (fun k => [(1,.fp (Qj s).cells),(5,.op (M.length + 1) 0 0 0),(6,.fn (.func 38) [] [.op (M.length + 1) 0 0 0]),(41,.fs (s.gaps.map Qa)),(42,.I s.gaps.length),(43,.I k)]) (fun k => s.gaps.length - k) (Nat.zero_le _) ?_ rfl ?_
 ·simp [gapNs]
 intro k hk
 by_cases hlt:k < s.gaps.length
 ·obtain ⟨g,hg⟩:∃ g,s.gaps[k]? = some g:=⟨_,List.getElem?_eq_getElem hlt⟩
  have hsn:=QhO hg
  have hgl2:=Qdb (s.gaps.take k)
  have htl:(s.gaps.take k).length = k:=by rw [List.length_take];omega
  have hcl2:(hdrB s ++ putB (base ++ gapNs (s.gaps.take k))).length = 5 + s.name.size + 4 * (3 + 2 * k):=by rw [hC,List.length_append,hb3,hgl2,htl]
  have hP2:=QcT (X:=X) [g.fr,g.to_] (by simp) (M0:=M) (E:=[.row true 2 0 [Qa g]]) (v:=5 + 2 * k) (bs:=hdrB s ++ putB (base ++ gapNs (s.gaps.take k))) (by omega)
  rw [hstep,List.append_assoc,← hsn] at hP2
  have hlw:=hcl (base ++ gapNs (s.gaps.take (k + 1)))
  generalize hdrB s ++ putB (base ++ gapNs (s.gaps.take k)) = c at hP2 hcl2 ⊢
  simp -implicitDefEqProofs (disch:=first|omega|(simp only [go_sem,seval,hlt,hg,Qh,Qd];first|done|omega)) only [go_sem,seval,hlt,hg,Qh,Qd]
  refine Q6 hP2 ?_
  simp -implicitDefEqProofs (disch:=first|omega|(simp only [go_sem,seval,hlt,hg,Qh,Qd];first|done|omega)) only [go_sem,seval,hlt,hg,Qh,Qd]
  have hes:lowL (M.length + 2) (Qj s).cells = True:=by rw [Vo];exact eq_true (by simp [lowL,PV.low,QG,Qg])
  refine Qy hM rfl 2 (by simp) (by first|done|(simp only [go_sem,seval,hlw,hlow,Ya,hes,Qg] <;> first|done|(refine ⟨?_,?_⟩ <;> omega)|omega)) (QA (by first|done|(simp only [go_sem,seval,hlw,hlow,Ya,hes,Qg] <;> first|done|(refine ⟨?_,?_⟩ <;> omega)|omega))) ?_
  simp -implicitDefEqProofs (disch:=first|omega|(simp only [go_sem,seval];first|done|omega)) only [go_sem,seval]
  exact again' (k + 1) (by omega) (by omega) rfl rfl
 have hkk:k = s.gaps.length:=by omega
 subst hkk
 rw [List.take_length]
 simp -implicitDefEqProofs (disch:=first|omega|(simp only [go_sem,seval,hlt,Vo];first|done|omega)) only [go_sem,seval,hlt,Vo]
 refine Qo (α:=Nat) 0 (fun j => j ≤ s.samples.length) (fun j => M ++ [.row true 1 (5 + (2 * s.gaps.length + j)) (hdrB s ++ putB (base ++ gapNs s.gaps ++ bitNs (s.samples.take j))),.row true 1 0 [.os M.length (5 + (2 * s.gaps.length + j)) 0 (hdrB s ++ putB (base ++ gapNs s.gaps ++ bitNs (s.samples.take j))).length]])
  (fun j => [(5,.op (M.length + 1) 0 0 0),(6,.fn (.func 38) [] [.op (M.length + 1) 0 0 0]),(56,.fs (s.samples.map encF)),(57,.I s.samples.length),(58,.I j)]) (fun j => s.samples.length - j) (Nat.zero_le _) ?_ rfl ?_
 ·simp [bitNs]
 intro j hj
 by_cases hlt2:j < s.samples.length
 ·obtain ⟨x,hx⟩:∃ x,s.samples[j]? = some x:=⟨_,List.getElem?_eq_getElem hlt2⟩
  have hxs:=hsm x (List.mem_of_getElem? hx)
  have hpl:=QmM hxs
  have hbs:bitNs (s.samples.take (j + 1)) = bitNs (s.samples.take j) ++ [IntKind.i64.wrap (plus0 x)]:=by
   unfold bitNs
   exact Zc (f:=fun x => IntKind.i64.wrap (plus0 x:Int)) hx
  have hbl2:(bitNs (s.samples.take j)).length = j:=by unfold bitNs;rw [List.length_map,List.length_take];omega
  have hcl2:(hdrB s ++ putB (base ++ gapNs s.gaps ++ bitNs (s.samples.take j))).length = 5 + s.name.size + 4 * (3 + 2 * s.gaps.length + j):=by rw [hC,List.length_append,List.length_append,hb3,Qdb,hbl2]
  have hP2:=QcT (X:=X) [IntKind.i64.wrap (plus0 x)] (by simp) (M0:=M) (E:=[]) (v:=5 + (2 * s.gaps.length + j)) (bs:=hdrB s ++ putB (base ++ gapNs s.gaps ++ bitNs (s.samples.take j))) (by omega)
  have hb':base ++ gapNs s.gaps ++ bitNs (s.samples.take j) ++ [IntKind.i64.wrap (plus0 x)] = base ++ gapNs s.gaps ++ bitNs (s.samples.take (j + 1)):=by rw [hbs,List.append_assoc (base ++ gapNs s.gaps)]
  rw [hstep,hb'] at hP2
  have hlw:=hcl (base ++ gapNs s.gaps ++ bitNs (s.samples.take (j + 1)))
  generalize hdrB s ++ putB (base ++ gapNs s.gaps ++ bitNs (s.samples.take j)) = c at hP2 hcl2 ⊢
  simp -implicitDefEqProofs (disch:=first|omega|(simp only [go_sem,seval,hlt2,hx,r_sop,hpl];first|done|omega)) only [go_sem,seval,hlt2,hx,r_sop,hpl]
  refine Qb (VI (hF (plus0 x) _)) ?_
  simp -implicitDefEqProofs (disch:=first|omega|(simp only [go_sem,seval];first|done|omega)) only [go_sem,seval]
  refine Q6 hP2 ?_
  simp -implicitDefEqProofs (disch:=first|omega|(simp only [go_sem,seval];first|done|omega)) only [go_sem,seval]
  refine Qy hM rfl 2 (by simp) (by first|done|(simp only [go_sem,seval,hlw,hlow,Ya,QG] <;> first|done|(refine ⟨?_,?_⟩ <;> omega)|omega)) (QA (by first|done|(simp only [go_sem,seval,hlw,hlow,Ya,QG] <;> first|done|(refine ⟨?_,?_⟩ <;> omega)|omega))) ?_
  simp -implicitDefEqProofs (disch:=first|omega|(simp only [go_sem,seval];first|done|omega)) only [go_sem,seval]
  exact again' (j + 1) (by omega) (by omega) rfl rfl
 have hjj:j = s.samples.length:=by omega
 subst hjj
 rw [List.take_length]
 have hlw:=hcl (base ++ gapNs s.gaps ++ bitNs s.samples)
 rw [← hE] at hlw ⊢
 have hRt:R.take R.length = R:=List.take_length
 simp -implicitDefEqProofs (disch:=first|omega|(simp only [go_sem,seval,hlt2];first|done|omega)) only [go_sem,seval,hlt2]
 (first|refine pfN hM ?_ ?_|refine pf0 hM ?_ ?_)
 ·simp -implicitDefEqProofs (disch:=first|omega|(simp only [go_sem,seval,hRt];first|done|omega)) only [go_sem,seval,hRt]
 ·(simp only [go_sem,seval,hlw,hRt]<;>omega)
def awRo:Rse:=incR (incR z408 7) (2 * 51 + 8)
theorem Y4 (l:List Spn) (h:l.length ≤ 1048576):Q X 17 [.fs (l.map Qa),.fs (l.map Qa)] (.B true):=by
 have:=Yy (X:=X) l l h
 simpa using this
def Fc:Prog
 | 72 => some c72
 | 73 => some c73
 | 93 => some c93
 | _ => none
abbrev Qc (f:FuncId) (args:List PV) (r:PV):Prop:=∀ M,ACall Fc (fun _ _ _ _ _ => False) (.fn f) args M r M
theorem QeQ (x:Int):Qc 93 [.I x] (.B false):=by
 intro M
 (refine Qe (cf:=L6.c93) rfl rfl fun hM hA => ?_;simp only [L6.c93,zO,zF,zT,zM,CX.i];rw [mk1 _ (by decide)];simp -implicitDefEqProofs (disch:=first|omega|(simp only [go_sem,seval];first|done|omega)) only [go_sem,seval])
 (all_goals (first|refine pfN hM ?_ ?_|refine pf0 hM ?_ ?_);all_goals first|(simp only [go_sem,seval]<;>omega)|skip;all_goals (try simp -implicitDefEqProofs (disch:=first|omega|(simp only [go_sem,seval];first|done|omega)) only [go_sem,seval]))
 all_goals simp
theorem Qhz (x y:Int):Qc 73 [.I x,.I y] (.I (if x < y then -1 else if y < x then 1 else 0)):=by
 intro M
 (refine Qe (cf:=L6.c73) rfl rfl fun hM hA => ?_;simp only [L6.c73,zO,zF,zT,zM,CX.i];rw [mk2 _ (by decide)];simp -implicitDefEqProofs (disch:=first|omega|(simp only [go_sem,seval];first|done|omega)) only [go_sem,seval])
 refine Qb (QeQ x _) ?_
 simp -implicitDefEqProofs (disch:=first|omega|(simp only [go_sem,seval];first|done|omega)) only [go_sem,seval]
 refine Qb (QeQ y _) ?_
 simp -implicitDefEqProofs (disch:=first|omega|(simp only [go_sem,seval];first|done|omega)) only [go_sem,seval]
 by_cases h1:x < y
 ·simp -implicitDefEqProofs (disch:=first|omega|(simp only [go_sem,seval,h1];first|done|omega)) only [go_sem,seval,h1]
  (all_goals (first|refine pfN hM ?_ ?_|refine pf0 hM ?_ ?_);all_goals first|(simp only [go_sem,seval]<;>omega)|skip;all_goals (try simp -implicitDefEqProofs (disch:=first|omega|(simp only [go_sem,seval];first|done|omega)) only [go_sem,seval]))
 ·by_cases h2:y < x
  ·simp -implicitDefEqProofs (disch:=first|omega|(simp only [go_sem,seval,h1,h2];first|done|omega)) only [go_sem,seval,h1,h2]
   (all_goals (first|refine pfN hM ?_ ?_|refine pf0 hM ?_ ?_);all_goals first|(simp only [go_sem,seval]<;>omega)|skip;all_goals (try simp -implicitDefEqProofs (disch:=first|omega|(simp only [go_sem,seval];first|done|omega)) only [go_sem,seval]))
  ·simp -implicitDefEqProofs (disch:=first|omega|(simp only [go_sem,seval,h1,h2];first|done|omega)) only [go_sem,seval,h1,h2]
   (all_goals (first|refine pfN hM ?_ ?_|refine pf0 hM ?_ ?_);all_goals first|(simp only [go_sem,seval]<;>omega)|skip;all_goals (try simp -implicitDefEqProofs (disch:=first|omega|(simp only [go_sem,seval];first|done|omega)) only [go_sem,seval]))
theorem qc_canon (x y:Spn):Qc 72 [Qa x,Qa y] (.I (Q0 x y)):=by
 intro M
 (refine Qe (cf:=L6.c72) rfl rfl fun hM hA => ?_;simp only [L6.c72,zO,zF,zT,zM,CX.i];rw [mk2 _ (by decide)];simp -implicitDefEqProofs (disch:=first|omega|(simp only [go_sem,seval,Qd];first|done|omega)) only [go_sem,seval,Qd])
 refine Qb (Qhz x.fr y.fr _) ?_
 have e:Q0 x y = if x.fr < y.fr then -1 else if y.fr < x.fr then 1 else 0:=rfl
 rw [e]
 simp -implicitDefEqProofs (disch:=first|omega|(simp only [go_sem,seval];first|done|omega)) only [go_sem,seval]
 (all_goals (first|refine pfN hM ?_ ?_|refine pf0 hM ?_ ?_);all_goals first|(simp only [go_sem,seval]<;>omega)|skip;all_goals (try simp -implicitDefEqProofs (disch:=first|omega|(simp only [go_sem,seval];first|done|omega)) only [go_sem,seval]))
def Qq6 (s:Ste):Bool:=decide (s.name.size ≤ 60) && (decide (s.tbs.length ≤ 10) || decide (s.tbs.length = 65)) && s.tbs.all fun t => decide (t.name.size ≤ 60)
end
end Go.Nac.L6
namespace Go.Nac.L6
attribute [local congr] VQ Vq VS Vd Vb Q2 VT VN
section
variable {X:XRel}
open Ieee
def recQ (l:List Nat) (g:List Spn) (k:Nat):List (Nat × Nat):=(recK l g k).map p0
def sumQ (s:Ser):Stt:=sttTo (recQ s.samples s.gaps s.samples.length)
end
end Go.Nac.L6
namespace Go.Nac.L6
attribute [local congr] VQ Vq VS Vd Vb Q2 VT VN
section
variable {X:XRel}
theorem Qah (a b:List Nat) (ha:∀ x ∈ a,smpE x = 0) (hb:∀ x ∈ b,smpE x = 0) (hl:a.length ≤ 1048576):Q X 45 [.fs (a.map encF),.fs (b.map encF)] (.B (decide (a.map fOf = b.map fOf))):=by
 intro M
 by_cases h1:a.length = b.length
 case neg =>
  have f1:((a.length:Int) = b.length) = False:=eq_false (by omega)
  have h2:¬ a.map fOf = b.map fOf:=fun h => h1 (by simpa using congrArg List.length h)
  (refine Qe (cf:=L6.c45) rfl rfl fun hM hA => ?_;simp only [L6.c45,zO,zF,zT,zM,CX.i];rw [mk2 _ (by decide)];simp -implicitDefEqProofs (disch:=first|omega|(simp only [go_sem,seval,f1];first|done|omega)) only [go_sem,seval,f1])
  (first|refine pfN hM ?_ ?_|refine pf0 hM ?_ ?_)
  ·simp -implicitDefEqProofs (disch:=first|omega|(simp only [go_sem,seval];first|done|omega)) only [go_sem,seval]
   rw [decide_eq_false h2]
  ·(simp only [go_sem,seval]<;>omega)
 have f1:((a.length:Int) = b.length) = True:=eq_true (by omega)
 (refine Qe (cf:=L6.c45) rfl rfl fun hM hA => ?_;simp only [L6.c45,zO,zF,zT,zM,CX.i];rw [mk2 _ (by decide)];simp -implicitDefEqProofs (disch:=first|omega|(simp only [go_sem,seval,f1];first|done|omega)) only [go_sem,seval,f1])
 refine Qo (α:=Nat) 0 (fun k => k ≤ a.length ∧ (a.take k).map fOf = (b.take k).map fOf) (fun k => M) (fun k => [(0,.fs (a.map encF)),(1,.fs (b.map encF)),(5,.I k)]) (fun k => a.length - k) ⟨Nat.zero_le _,rfl⟩ rfl rfl ?_
 rintro k ⟨hk,hs⟩
 by_cases hlt:k < a.length
 ·obtain ⟨x,hx⟩:∃ x,a[k]? = some x:=⟨_,List.getElem?_eq_getElem hlt⟩
  obtain ⟨y,hy⟩:∃ y,b[k]? = some y:=⟨_,List.getElem?_eq_getElem (by omega)⟩
  have hlt2:k < b.length:=by omega
  have hne:=f_neq (Qdp (ha x (List.mem_of_getElem? hx))) (Qdp (hb y (List.mem_of_getElem? hy)))
  by_cases hxy:fOf x = fOf y
  ·rw [decide_eq_false (by simp [hxy])] at hne
   simp -implicitDefEqProofs (disch:=first|omega|(simp only [go_sem,seval,hlt,hlt2,hx,hy,r_sop,hne];first|done|omega)) only [go_sem,seval,hlt,hlt2,hx,hy,r_sop,hne]
   refine again' (k + 1) ⟨by omega,?_⟩ (by omega) rfl rfl
   rw [Zc hx,Zc hy,hs,hxy]
  ·rw [decide_eq_true hxy] at hne
   simp -implicitDefEqProofs (disch:=first|omega|(simp only [go_sem,seval,hlt,hlt2,hx,hy,r_sop,hne];first|done|omega)) only [go_sem,seval,hlt,hlt2,hx,hy,r_sop,hne]
   (first|refine pfN hM ?_ ?_|refine pf0 hM ?_ ?_)
   ·simp -implicitDefEqProofs (disch:=first|omega|(simp only [go_sem,seval];first|done|omega)) only [go_sem,seval]
    rw [decide_eq_false]
    intro h
    have:=congrArg (·[k]?) h
    simp only [List.getElem?_map,hx,hy,Option.map_some,Option.some.injEq] at this
    exact hxy this
   ·(simp only [go_sem,seval]<;>omega)
 ·simp -implicitDefEqProofs (disch:=first|omega|(simp only [go_sem,seval,hlt];first|done|omega)) only [go_sem,seval,hlt]
  rw [List.take_of_length_le (by omega),List.take_of_length_le (by omega)] at hs
  (first|refine pfN hM ?_ ?_|refine pf0 hM ?_ ?_)
  ·simp -implicitDefEqProofs (disch:=first|omega|(simp only [go_sem,seval];first|done|omega)) only [go_sem,seval]
   rw [decide_eq_true hs]
  ·(simp only [go_sem,seval]<;>omega)
theorem Yk (a b:Ser) (ha:∀ x ∈ a.samples,smpE x = 0) (hb:∀ x ∈ b.samples,smpE x = 0) (hl:a.samples.length ≤ 1048576) (hg:a.gaps.length ≤ 1048576) :
  Q X 10 [Qj a,Qj b] (.B (decide (a.name = b.name) && (decide (a.start = b.start) && (decide (a.samples.map fOf = b.samples.map fOf) && decide (a.gaps = b.gaps))))):=by
 have h1:=Qah (X:=X) a.samples b.samples ha hb hl
 have h2:=Yy (X:=X) a.gaps b.gaps hg
 rw [Qf,Qf]
 generalize decide (a.samples.map fOf = b.samples.map fOf) = u at *
 generalize decide (a.gaps = b.gaps) = v at *
 intro M
 by_cases g1:a.name = b.name
 ·by_cases g2:a.start = b.start
  ·(refine Qe (cf:=L6.c10) rfl rfl fun hM hA => ?_;simp only [L6.c10,zO,zF,zT,zM,CX.i];rw [mk2 _ (by decide)];simp -implicitDefEqProofs (disch:=first|omega|(simp only [go_sem,seval,Vs,g1,g2];first|done|omega)) only [go_sem,seval,Vs,g1,g2])
   cases u
   ·repeat' (first|(refine Qb (h1 _) ?_;(try simp -implicitDefEqProofs (disch:=first|omega|(simp only [go_sem,seval];first|done|omega)) only [go_sem,seval]))|(refine Qb (h2 _) ?_;(try simp -implicitDefEqProofs (disch:=first|omega|(simp only [go_sem,seval];first|done|omega)) only [go_sem,seval]))|(refine QF ?_ ?_ <;> intro hc <;> (try simp only [decide_eq_true_eq,decide_eq_false_iff_not,Classical.not_not,Bool.not_eq_true,Bool.not_eq_true',Bool.not_eq_false',Bool.false_or,Bool.or_false,Bool.true_or,Bool.or_true,Bool.false_and,Bool.and_false,Bool.true_and,Bool.and_true] at hc) <;> (try simp -implicitDefEqProofs (disch:=first|omega|(simp only [go_sem,seval,hc];first|done|omega)) only [go_sem,seval,hc]))|(refine ZA ?_ ?_ <;> intro hc <;> (try simp only [decide_eq_true_eq,decide_eq_false_iff_not,Classical.not_not,Bool.not_eq_true,Bool.not_eq_true',Bool.not_eq_false',Bool.false_or,Bool.or_false,Bool.true_or,Bool.or_true,Bool.false_and,Bool.and_false,Bool.true_and,Bool.and_true] at hc) <;> (try simp -implicitDefEqProofs (disch:=first|omega|(simp only [go_sem,seval,hc];first|done|omega)) only [go_sem,seval,hc])))
    (all_goals (first|refine pfN hM ?_ ?_|refine pf0 hM ?_ ?_);all_goals first|(simp only [go_sem,seval]<;>omega)|skip;all_goals (try simp -implicitDefEqProofs (disch:=first|omega|(simp only [go_sem,seval];first|done|omega)) only [go_sem,seval]))
    all_goals simp
   ·repeat' (first|(refine Qb (h1 _) ?_;(try simp -implicitDefEqProofs (disch:=first|omega|(simp only [go_sem,seval];first|done|omega)) only [go_sem,seval]))|(refine Qb (h2 _) ?_;(try simp -implicitDefEqProofs (disch:=first|omega|(simp only [go_sem,seval];first|done|omega)) only [go_sem,seval]))|(refine QF ?_ ?_ <;> intro hc <;> (try simp only [decide_eq_true_eq,decide_eq_false_iff_not,Classical.not_not,Bool.not_eq_true,Bool.not_eq_true',Bool.not_eq_false',Bool.false_or,Bool.or_false,Bool.true_or,Bool.or_true,Bool.false_and,Bool.and_false,Bool.true_and,Bool.and_true] at hc) <;> (try simp -implicitDefEqProofs (disch:=first|omega|(simp only [go_sem,seval,hc];first|done|omega)) only [go_sem,seval,hc]))|(refine ZA ?_ ?_ <;> intro hc <;> (try simp only [decide_eq_true_eq,decide_eq_false_iff_not,Classical.not_not,Bool.not_eq_true,Bool.not_eq_true',Bool.not_eq_false',Bool.false_or,Bool.or_false,Bool.true_or,Bool.or_true,Bool.false_and,Bool.and_false,Bool.true_and,Bool.and_true] at hc) <;> (try simp -implicitDefEqProofs (disch:=first|omega|(simp only [go_sem,seval,hc];first|done|omega)) only [go_sem,seval,hc])))
    (all_goals (first|refine pfN hM ?_ ?_|refine pf0 hM ?_ ?_);all_goals first|(simp only [go_sem,seval]<;>omega)|skip;all_goals (try simp -implicitDefEqProofs (disch:=first|omega|(simp only [go_sem,seval];first|done|omega)) only [go_sem,seval]))
    all_goals simp
  ·(refine Qe (cf:=L6.c10) rfl rfl fun hM hA => ?_;simp only [L6.c10,zO,zF,zT,zM,CX.i];rw [mk2 _ (by decide)];simp -implicitDefEqProofs (disch:=first|omega|(simp only [go_sem,seval,Vs,g1,g2];first|done|omega)) only [go_sem,seval,Vs,g1,g2])
   (all_goals (first|refine pfN hM ?_ ?_|refine pf0 hM ?_ ?_);all_goals first|(simp only [go_sem,seval]<;>omega)|skip;all_goals (try simp -implicitDefEqProofs (disch:=first|omega|(simp only [go_sem,seval];first|done|omega)) only [go_sem,seval]))
   all_goals simp [g2]
 ·(refine Qe (cf:=L6.c10) rfl rfl fun hM hA => ?_;simp only [L6.c10,zO,zF,zT,zM,CX.i];rw [mk2 _ (by decide)];simp -implicitDefEqProofs (disch:=first|omega|(simp only [go_sem,seval,Vs,g1];first|done|omega)) only [go_sem,seval,Vs,g1])
  (all_goals (first|refine pfN hM ?_ ?_|refine pf0 hM ?_ ?_);all_goals first|(simp only [go_sem,seval]<;>omega)|skip;all_goals (try simp -implicitDefEqProofs (disch:=first|omega|(simp only [go_sem,seval];first|done|omega)) only [go_sem,seval]))
  all_goals simp [g1]
theorem Qou {a:Ser} (h:Qk a = 0):sumW a = a.start + a.samples.length ∧ (0 ≤ a.start ∧ a.start ≤ 999999999):=by
 have hs:0 ≤ a.start ∧ a.start ≤ 999999999:=by
  unfold Qk at h
  split at h
  ·cases h
  ·split at h
   ·cases h
   ·rename_i h2;exact Z0.1 (Decidable.of_not_not h2)
 have hl:=(Z6 h).1.1
 exact ⟨by unfold sumW;exact YH (by constructor <;> omega),hs⟩
theorem QcZ {a:Ser} (h:Qk a = 0):spOk a.gaps ∧ a.gaps.length ≤ 1024 ∧ Can a.gaps ∧ ∀ x ∈ a.gaps,0 ≤ x.fr ∧ x.fr < x.to_ ∧ x.to_ ≤ a.samples.length:=by
 have h0:=h
 obtain ⟨hin,_⟩:=Z6 h
 have hc:Qm a.gaps = 0:=by
  rw [QaL] at h
  split at h
  ·unfold serB at h
   split at h
   ·rename_i h1;exact absurd h h1
   ·split at h
    ·rename_i h1;exact absurd h h1
    ·rename_i h1;exact Decidable.of_not_not h1
  ·rename_i h1;exact absurd h h1
 obtain ⟨c1,c2⟩:=QJ.1 hc
 exact ⟨c2.ok,c1,c2,hin.2.2⟩
theorem Qaa (hS:SortX X) (a b:Ser) (ha:a.samples.length ≤ 400000) (hag:a.gaps.length ≤ 400000) (hb:b.samples.length ≤ 400000) (hbg:b.gaps.length ≤ 400000) :
  Q X 12 [Qj a,Qj b] (.tup [Qj (apdR a b).1,.I (apdR a b).2]):=by
 have c1:=Vg (X:=X) a (by omega) (by omega)
 have c2:=Vg (X:=X) b (by omega) (by omega)
 have hq:=QW (X:=X) [Qk a,Qk b,if a.name = b.name then 0 else 30,if b.start = sumW a then 0 else 11,if (40000:Int) < (a.samples.length:Int) + b.samples.length then 5 else 0] (by simp)
 have hE:apdE a b = fst0 [Qk a,Qk b,if a.name = b.name then 0 else 30,if b.start = sumW a then 0 else 11,if (40000:Int) < (a.samples.length:Int) + b.samples.length then 5 else 0]:=rfl
 rw [← hE] at hq
 have w30:=Qu (X:=X) (decide (¬ a.name = b.name)) 30
 have w11:=Qu (X:=X) (decide (¬ b.start = sumW a)) 11
 have w5:=Qu (X:=X) (decide ((40000:Int) < (a.samples.length:Int) + b.samples.length)) 5
 have x30:(if decide (¬ a.name = b.name) = true then 30 else 0:Int) = if a.name = b.name then 0 else 30:=by by_cases h:a.name = b.name <;> simp [h]
 have x11:(if decide (¬ b.start = sumW a) = true then 11 else 0:Int) = if b.start = sumW a then 0 else 11:=by by_cases h:b.start = sumW a <;> simp [h]
 have x5:(if decide ((40000:Int) < (a.samples.length:Int) + b.samples.length) = true then 5 else 0:Int) = if (40000:Int) < (a.samples.length:Int) + b.samples.length then 5 else 0:=by by_cases h:(40000:Int) < (a.samples.length:Int) + b.samples.length <;> simp [h]
 rw [x30] at w30
 rw [x11] at w11
 rw [x5] at w5
 have hsw:IntKind.i64.wrap (a.start + (a.samples.length:Int)) = sumW a:=rfl
 have es1:=Qf a
 have es2:=Qf b
 unfold apdR
 by_cases h0:apdE a b = 0
 case neg =>
  rw [if_pos h0,Qiu]
  rw [es1] at c1
  rw [es2] at c2
  rw [es1,es2]
  generalize apdE a b = e at h0 hq
  clear hE
  generalize Qk a = v1 at *
  generalize Qk b = v2 at *
  generalize (if a.name = b.name then 0 else 30:Int) = v3 at *
  generalize (if b.start = sumW a then 0 else 11:Int) = v4 at *
  generalize (if (40000:Int) < (a.samples.length:Int) + b.samples.length then 5 else 0:Int) = v5 at *
  intro M
  (refine Qe (cf:=L6.c12) rfl rfl fun hM hA => ?_;simp only [L6.c12,zO,zF,zT,zM,CX.i];rw [mk2 _ (by decide)];simp -implicitDefEqProofs (disch:=first|omega|(simp only [go_sem,seval];first|done|omega)) only [go_sem,seval])
  refine Qb (c1 _) ?_
  simp -implicitDefEqProofs (disch:=first|omega|(simp only [go_sem,seval];first|done|omega)) only [go_sem,seval]
  refine Qb (c2 _) ?_
  simp -implicitDefEqProofs (disch:=first|omega|(simp only [go_sem,seval,Jc];first|done|omega)) only [go_sem,seval,Jc]
  refine Qb (w30 _) ?_
  simp -implicitDefEqProofs (disch:=first|omega|(simp only [go_sem,seval,hsw];first|done|omega)) only [go_sem,seval,hsw]
  refine Qb (w11 _) ?_
  simp -implicitDefEqProofs (disch:=first|omega|(simp only [go_sem,seval];first|done|omega)) only [go_sem,seval]
  refine Qb (w5 _) ?_
  simp -implicitDefEqProofs (disch:=first|omega|(simp only [go_sem,seval];first|done|omega)) only [go_sem,seval]
  refine Qb (hq _) ?_
  simp -implicitDefEqProofs (disch:=first|omega|(simp only [go_sem,seval,h0];first|done|omega)) only [go_sem,seval,h0]
  (all_goals (first|refine pfN hM ?_ ?_|refine pf0 hM ?_ ?_);all_goals first|(simp only [go_sem,seval]<;>omega)|skip;all_goals (try simp -implicitDefEqProofs (disch:=first|omega|(simp only [go_sem,seval];first|done|omega)) only [go_sem,seval]))
 rw [if_neg (fun h => h h0)]
 rw [hE] at h0
 obtain ⟨z1,z2,z3,z4,z5⟩:=QjI h0
 have y5:¬ (40000:Int) < (a.samples.length:Int) + b.samples.length:=by
  intro h;rw [if_pos h] at z5;cases z5
 obtain ⟨g1,g2,_,g3⟩:=QcZ z1
 obtain ⟨k1,k2,_,k3⟩:=QcZ z2
 rw [hE,h0] at hq
 have hcan:=Qal (X:=X) hS (a.gaps ++ mvG a.samples.length b.gaps) (by rw [List.length_append,VZ];omega)
 have hG:Zr (a.gaps ++ mvG a.samples.length b.gaps) = apdG a b:=rfl
 rw [hG] at hcan
 have e:Qj (apdS a b) = .agg [.s (.string a.name),.I a.start,.fs (a.samples.map encF ++ b.samples.map encF),.fs ((apdG a b).map Qa)]:=by
  rw [← List.map_append];rfl
 have hse:(PV.tup [Qj (if 1024 < (apdG a b).length then (ser0,(5:Int)) else (apdS a b,0)).1,.I (if 1024 < (apdG a b).length then (ser0,(5:Int)) else (apdS a b,0)).2]) = if 1024 < (apdG a b).length then .tup [Qj ser0,.I 5] else .tup [Qj (apdS a b),.I 0]:=by split <;> rfl
 rw [hse,e,Qiu]
 clear hse e hE
 rw [z1,es1] at c1
 rw [z2,es2] at c2
 rw [z3] at w30
 rw [z4] at w11
 rw [z5] at w5
 rw [z1,z2,z3,z4,z5] at hq
 rw [es1,es2]
 have lG:=fun m => Qg (n:=m) (apdG a b)
 have nG:((apdG a b).map Qa).length = (apdG a b).length:=by simp
 have hgl:((1024:Int) < ((apdG a b).length:Int)) = (1024 < (apdG a b).length):=by rw [eq_iff_iff];omega
 generalize (apdG a b).length = wG at *
 generalize (apdG a b).map Qa = G at *
 have o1:=Js a.samples
 have o2:=Js b.samples
 have n1:(a.samples.map encF).length = a.samples.length:=by simp
 have n2:(b.samples.map encF).length = b.samples.length:=by simp
 have w1:=fun m => QG (n:=m) a.samples
 have w2:=fun m => QG (n:=m) b.samples
 have w3:∀ m,lowL m (a.samples.map encF ++ b.samples.map encF) = True:=fun m => by rw [← List.map_append];exact QG _
 generalize a.samples.map encF = sa at *
 generalize b.samples.map encF = sb at *
 have ok:=Zj a.gaps
 have lga:=fun m => Qg (n:=m) a.gaps
 have lgb:=fun m => Qg (n:=m) b.gaps
 intro M
 (refine Qe (cf:=L6.c12) rfl rfl fun hM hA => ?_;simp only [L6.c12,zO,zF,zT,zM,CX.i];rw [mk2 _ (by decide)];simp -implicitDefEqProofs (disch:=first|omega|(simp only [go_sem,seval];first|done|omega)) only [go_sem,seval])
 refine Qb (c1 _) ?_
 simp -implicitDefEqProofs (disch:=first|omega|(simp only [go_sem,seval];first|done|omega)) only [go_sem,seval]
 refine Qb (c2 _) ?_
 simp -implicitDefEqProofs (disch:=first|omega|(simp only [go_sem,seval,Jc];first|done|omega)) only [go_sem,seval,Jc]
 refine Qb (w30 _) ?_
 simp -implicitDefEqProofs (disch:=first|omega|(simp only [go_sem,seval,n1,n2,hsw];first|done|omega)) only [go_sem,seval,n1,n2,hsw]
 refine Qb (w11 _) ?_
 simp -implicitDefEqProofs (disch:=first|omega|(simp only [go_sem,seval,n1,n2];first|done|omega)) only [go_sem,seval,n1,n2]
 refine Qb (w5 _) ?_
 simp -implicitDefEqProofs (disch:=first|omega|(simp only [go_sem,seval,n1,n2];first|done|omega)) only [go_sem,seval,n1,n2]
 refine Qb (hq _) ?_
 simp -implicitDefEqProofs (disch:=first|omega|(simp only [go_sem,seval,Z2,n1,n2,o1,o2];first|done|omega)) only [go_sem,seval,Z2,n1,n2,o1,o2]
 refine ⟨by simp [V3,Za,Vw,refs,refs1],?_⟩
 have hsl:(sa ++ sb).length = a.samples.length + b.samples.length:=by rw [List.length_append,n1,n2]
 have hst3:(sa ++ sb).take (a.samples.length + b.samples.length) = sa ++ sb:=List.take_of_length_le (by omega)
 generalize sa ++ sb = sc at w3 hsl hst3 ⊢
 refine Qo (α:=Nat) 0 (fun k => k ≤ b.gaps.length) (fun k => M ++ [.row true 4 0 [.agg [.s (.string ⟨#[]⟩),.I 0,.s (.slice none 0 0),.s (.slice none 0 0)]],.row true 4 0 [.agg [.s (.string a.name),.I a.start,.os (M.length + 2) 2 0 (a.samples.length + b.samples.length),.os (M.length + 3) 0 0 0]],.row true 1 2 sc,.row true 2 0 [],.row true 2 (1 + k) ((a.gaps ++ mvG a.samples.length (b.gaps.take k)).map Qa)]) (fun k => [(2,.fp [.s (.string a.name),.I a.start,.fs sa,.fs (a.gaps.map Qa)]),(4,.op M.length 0 0 0),(7,.op (M.length + 1) 0 0 0),(8,.os (M.length + 4) (1 + k) 0 (a.gaps.length + k)),(65,.fs (b.gaps.map Qa)),(66,.I b.gaps.length),(67,.I k)]) (fun k => b.gaps.length - k) (Nat.zero_le _) (by simp [mvG]) rfl ?_
 intro k hk
 by_cases hlt:k < b.gaps.length
 ·obtain ⟨x,hx⟩:∃ x,b.gaps[k]? = some x:=⟨_,List.getElem?_eq_getElem hlt⟩
  have hb:=k3 x (List.mem_of_getElem? hx)
  have ho:((a.gaps ++ mvG a.samples.length (b.gaps.take k)).map Qa).length = a.gaps.length + k:=by rw [List.length_map,List.length_append,VZ,List.length_take];omega
  have hst:(a.gaps ++ mvG a.samples.length (b.gaps.take k)).map Qa ++ [.agg [.I (x.fr + a.samples.length),.I (x.to_ + a.samples.length)]] = (a.gaps ++ mvG a.samples.length (b.gaps.take (k + 1))).map Qa:=by
   unfold mvG
   rw [Zc hx,List.map_append,List.map_append,List.map_append,List.append_assoc];rfl
  have hlo:∀ m,lowL m ((a.gaps ++ mvG a.samples.length (b.gaps.take k)).map Qa) = True:=fun m => Qg _
  generalize (a.gaps ++ mvG a.samples.length (b.gaps.take k)).map Qa = o at ho hst hlo ⊢
  simp -implicitDefEqProofs (disch:=first|omega|(simp only [go_sem,seval,hlt,hx,ho,n1,Qh,Qd];first|done|omega)) only [go_sem,seval,hlt,hx,ho,n1,Qh,Qd]
  refine Qy hM rfl 5 (by simp) (by first|done|(simp only [go_sem,seval,w1,w2,w3,hlo,lga,lgb] <;> first|done|(refine ⟨?_,?_⟩ <;> omega)|omega)) (QA (by first|done|(simp only [go_sem,seval,w1,w2,w3,hlo,lga,lgb] <;> first|done|(refine ⟨?_,?_⟩ <;> omega)|omega))) ?_
  simp -implicitDefEqProofs (disch:=first|omega|(simp only [go_sem,seval];first|done|omega)) only [go_sem,seval]
  exact again' (k + 1) (by omega) (by omega) (by rw [← hst]) rfl
 ·have hkk:k = b.gaps.length:=by omega
  subst hkk
  rw [List.take_length]
  have ho:((a.gaps ++ mvG a.samples.length b.gaps).map Qa).length = a.gaps.length + b.gaps.length:=by rw [List.length_map,List.length_append,VZ]
  have hat:((a.gaps ++ mvG a.samples.length b.gaps).map Qa).take (a.gaps.length + b.gaps.length) = (a.gaps ++ mvG a.samples.length b.gaps).map Qa:=List.take_of_length_le (by omega)
  have hlo:∀ m,lowL m ((a.gaps ++ mvG a.samples.length b.gaps).map Qa) = True:=fun m => Qg _
  generalize (a.gaps ++ mvG a.samples.length b.gaps).map Qa = o at ho hat hlo hcan ⊢
  simp -implicitDefEqProofs (disch:=first|omega|(simp only [go_sem,seval,hlt,ho,hat];first|done|omega)) only [go_sem,seval,hlt,ho,hat]
  refine Qb (hcan _) ?_
  simp -implicitDefEqProofs (disch:=first|omega|(simp only [go_sem,seval,nG,hgl];first|done|omega)) only [go_sem,seval,nG,hgl]
  by_cases h5:1024 < wG
  ·rw [if_pos h5]
   simp -implicitDefEqProofs (disch:=first|omega|(simp only [go_sem,seval,h5];first|done|omega)) only [go_sem,seval,h5]
   (all_goals (first|refine pfN hM ?_ ?_|refine pf0 hM ?_ ?_);all_goals first|(simp only [go_sem,seval]<;>omega)|skip;all_goals (try simp -implicitDefEqProofs (disch:=first|omega|(simp only [go_sem,seval];first|done|omega)) only [go_sem,seval]))
  ·rw [if_neg h5]
   simp -implicitDefEqProofs (disch:=first|omega|(simp only [go_sem,seval,h5];first|done|omega)) only [go_sem,seval,h5]
   (first|refine pfN hM ?_ ?_|refine pf0 hM ?_ ?_)
   ·simp -implicitDefEqProofs (disch:=first|omega|(simp only [go_sem,seval,hsl,hst3];first|done|omega)) only [go_sem,seval,hsl,hst3]
   ·(simp only [go_sem,seval,w3,lG]<;>omega)
end
end Go.Nac.L6
