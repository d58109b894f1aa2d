/- Operation by operation. Part 4: indexes, slices, lengths, look-ups. -/
import Derived.Test.YtbmicihfhfcpkaaW00
import Derived.IntWalk
import Derived.Laws.CopyRow
import Derived.Laws.AppendOwn
import Derived.Laws.FloatArith
set_option linter.unusedVariables false
set_option linter.unusedSectionVars false
set_option linter.unusedSimpArgs false
namespace Go.Nac
variable [Env]
section
variable {R:CCode → Code → Prop} {P:Program} {M:List Blk} {L:Loc} {w:World} {ρ:CX → PV} {σ:Operand → Value}
theorem Zi {p:PV} {c:Value} {n:Nat} (h:asNat p = some n) (hr:VRel M L w p c):∃ k,c = .int k (n:Int):=by
 unfold asNat at h
 split at h
 ·rename_i k m
  split at h
  ·rename_i h0
   obtain rfl:=Option.some.inj h
   exact ⟨k,by rw [hr.s_inv,Int.toNat_of_nonneg h0]⟩
  ·cases h
 ·cases h
theorem Ql6 (S:Sim R M L w) (H:Fit M L w ρ σ) {o:Oper} {off f:Nat} {g:Option Nat} {s:TypeId} {x:CX} {x':Operand} (ho:o.op = .field s x' f) (hx:okX x x' = true)
  {fs:Array Field} {fd:Field} (hs:P.underlying s = some (.struct fs)) (hf:fs[f]? = some fd) (hoff:fd.offset = off) (hg:okG P fd.type g = true)
  {v:PV} {M':List Blk} (h:res M ρ (.field off g x) = some (v,M')):Good R P (execOp σ o) M L w v M':=by
 have k1:=H x x' hx
 obtain ⟨b,ha,hz,hb,hb1⟩:=Qbf hg
 simp only [res] at h
 split at h
 ·rename_i cs e1
  rw [e1] at k1
  generalize hc:σ x' = c at k1
  cases k1 with
  | agg _ vs hr =>
   cases hm:mkPV g ((cs.drop off).take (g.getD 1)) with
   | none => rw [hm] at h;cases h
   | some q =>
    rw [hm] at h
    simp only [Option.map_some,Option.some.injEq,Prod.mk.injEq] at h
    obtain ⟨rfl,rfl⟩:=h
    have hl:=Yh hm
    have hr':=(hr.drop off).take (g.getD 1)
    have hp:b = false → 0 < g.getD 1:=fun h => by rw [hb1 h];decide
    refine Qg S (cv:=valOf b ((vs.toList.drop off).take (g.getD 1))) ?_ (JG hm hb hr')
    by_cases h0:g.getD 1 = 0
    ·have hbt:b = true:=by cases b <;> simp_all
     subst hbt
     rw [h0] at hz
     simp [execOp,ho,hc,Instr.field,run_underlying hs,hf,hoff,asAgg,part,Ze ha,QB hz,h0,valOf]
     omega
    ·have hsz:off + g.getD 1 ≤ vs.size:=by
      have h1:=hr.length
      simp only [List.length_take,List.length_drop,Array.length_toList] at hl h1
      omega
     simp [execOp,ho,hc,Instr.field,run_underlying hs,hf,hoff,asAgg,ZG ha hz hp hsz]
 ·cases h
theorem QjN {k e:Nat} {xs:List PV} {y:PV} (hk:∀ x ∈ xs,x.cells.length = k) (h:xs[e]? = some y):((xs.flatMap PV.cells).drop (e * k)).take k = y.cells:=by
 obtain ⟨he,hy⟩:=List.getElem?_eq_some_iff.1 h
 rw [Vp hk,List.drop_eq_getElem_cons he,List.flatMap_cons,hy,← hk y (List.mem_of_getElem? h),List.take_left]
theorem Ql9 (S:Sim R M L w) (H:Fit M L w ρ σ) {o:Oper} {k:Nat} {t el:TypeId} {x i:CX} {x' i':Operand} (ho:o.op = .indexAddr t x' i') (hx:okX x x' = true) (hi:okX i i' = true)
  (ht:P.underlying t = some (.slice el)) (hz:Qu P el = some k)
  {v:PV} {M':List Blk} (h:res M ρ (.iaddr k x i) = some (v,M')):Good R P (execOp σ o) M L w v M':=by
 have k1:=H x x' hx;have k2:=H i i' hi
 have run:∀ {kk:IntKind} {n len cap B q:Nat},n < len → (Instr.indexAt t (.slice (some ⟨B,q,none⟩) len cap) (.int kk (n:Int))).run P w = .ok (.pointer (some ⟨B,q + n * k,none⟩)) w:=by
  intro kk n len cap B q hlt
  have h1:(0:Int) ≤ n ∧ (n:Int) < len:=⟨by omega,by omega⟩
  simp [Instr.indexAt,asIntOf,run_underlying ht,h1,QB hz,Vw,hlt]
 simp only [res] at h
 split at h
 ·rename_i xs n e1 e2
  rw [e1] at k1
  obtain ⟨kk,hc2⟩:=Zi e2 k2
  split at h
  ·rename_i y hy
   split at h
   ·rename_i hyk
    simp only [Option.some.injEq,Prod.mk.injEq] at h
    obtain ⟨rfl,rfl⟩:=h
    generalize hc:σ x' = c at k1
    cases k1 with
    | fs _ a n' cap k' vs hn hcap hk hr hm =>
     subst hn
     have hmem:=List.mem_of_getElem? hy
     have hkk:k' = k:=(hk y hmem).symm.trans hyk
     subst hkk
     have hne:xs ≠ []:=fun h => by subst h;simp at hy
     obtain ⟨B,q,rfl,hlt,hno,hcell⟩:=hm hne
     have hlen:n < xs.length:=(List.getElem?_eq_some_iff.1 hy).1
     refine Qg S (cv:=.pointer (some ⟨B,q + n * k',none⟩)) (by simp [execOp,ho,hc,hc2,run hlen]) ?_
     refine .fp _ B (q + n * k') ((vs.drop (n * k')).take k') ?_ hlt hno fun m u hu => ?_
     ·have:=(hr.drop (n * k')).take k'
      rw [QjN hk hy] at this
      exact this
     ·rw [List.getElem?_take] at hu
      split at hu
      ·rw [List.getElem?_drop] at hu
       rw [show q + n * k' + m = q + (n * k' + m) from by omega]
       exact hcell _ _ hu
      ·cases hu
   ·cases h
  ·cases h
 ·rename_i a ver off len n e1 e2
  rw [e1] at k1
  obtain ⟨kk,hc2⟩:=Zi e2 k2
  split at h
  ·rename_i hlt
   split at h
   ·rename_i wr k' v' xs hrow
    split at h
    ·rename_i hcond
     obtain ⟨rfl,rfl,hle⟩:=hcond
     simp only [Option.some.injEq,Prod.mk.injEq] at h
     obtain ⟨rfl,rfl⟩:=h
     obtain ⟨aa,cap,hc,hx',hcap,hm⟩:=k1.os_live hrow
     obtain ⟨B,q,cc,el',hL,rfl,hb,hsz⟩:=hm (by omega)
     refine Qg S (cv:=.pointer (some ⟨B,q + off * k' + n * k',none⟩)) (by simp [execOp,ho,hc,hc2,run hlt]) ?_
     have:q + off * k' + n * k' = q + (off + n) * k' + 0:=by rw [Nat.add_mul];omega
     rw [this]
     exact .op a v' (off + n) 0 wr k' xs B q hrow (by omega) hL
    ·cases h
   ·cases h
  ·cases h
 ·cases h
theorem Qj6 (S:Sim R M L w) (H:Fit M L w ρ σ) {o:Oper} {n k:Nat} {t el:TypeId} {x i:CX} {x' i':Operand} (ho:o.op = .indexAddr t x' i') (hx:okX x x' = true) (hi:okX i i' = true)
  (ht:P.underlying t = some (.array n el)) (hz:Qu P el = some k)
  {v:PV} {M':List Blk} (h:res M ρ (.iaddra n k x i) = some (v,M')):Good R P (execOp σ o) M L w v M':=by
 have k1:=H x x' hx;have k2:=H i i' hi
 have run:∀ {kk:IntKind} {m B q:Nat},m < n → (Instr.indexAt t (.pointer (some ⟨B,q,none⟩)) (.int kk (m:Int))).run P w = .ok (.pointer (some ⟨B,q + m * k,none⟩)) w:=by
  intro kk m B q hlt
  have h1:(0:Int) ≤ m ∧ (m:Int) < n:=⟨by omega,by omega⟩
  simp [Instr.indexAt,asIntOf,run_underlying ht,h1,QB hz,Vw,Instr.sureAddr,hlt]
 simp only [res] at h
 split at h
 ·rename_i cs m e1 e2
  rw [e1] at k1
  obtain ⟨kk,hc2⟩:=Zi e2 k2
  split at h
  ·rename_i hcond
   simp only [Option.some.injEq,Prod.mk.injEq] at h
   obtain ⟨rfl,rfl⟩:=h
   generalize hc:σ x' = c at k1
   cases k1 with
   | fp _ B q vs hr hlt hno hm =>
    refine Qg S (cv:=.pointer (some ⟨B,q + m * k,none⟩)) (by simp [execOp,ho,hc,hc2,run hcond.1]) ?_
    refine .fp _ B (q + m * k) ((vs.drop (m * k)).take k) ((hr.drop _).take _) hlt hno fun j u hu => ?_
    rw [List.getElem?_take] at hu
    split at hu
    ·rw [List.getElem?_drop] at hu
     rw [show q + m * k + j = q + (m * k + j) from by omega]
     exact hm _ _ hu
    ·cases hu
  ·cases h
 ·rename_i a ver e j m e1 e2
  rw [e1] at k1
  obtain ⟨kk,hc2⟩:=Zi e2 k2
  split at h
  ·rename_i hcond
   obtain ⟨hlt,hl⟩:=hcond
   obtain ⟨wr,k',xs,hrow⟩:=VO hl
   simp only [Option.some.injEq,Prod.mk.injEq] at h
   obtain ⟨rfl,rfl⟩:=h
   obtain ⟨B,q,hL,he,hc⟩:=k1.op_live hrow
   refine Qg S (cv:=.pointer (some ⟨B,q + e * k' + j + m * k,none⟩)) (by simp [execOp,ho,hc,hc2,run hlt]) ?_
   rw [Nat.add_assoc]
   exact .op a ver e (j + m * k) wr k' xs B q hrow he hL
  ·cases h
 ·cases h
theorem Qnu (S:Sim R M L w) (H:Fit M L w ρ σ) {o:Oper} {t:TypeId} {x i:CX} {x' i':Operand} (ho:o.op = .index t x' i') (hx:okX x x' = true) (hi:okX i i' = true)
  (ht:P.underlying t = some .string) {v:PV} {M':List Blk} (h:res M ρ (.idxs x i) = some (v,M')):Good R P (execOp σ o) M L w v M':=by
 have k1:=H x x' hx;have k2:=H i i' hi
 simp only [res] at h
 split at h
 ·rename_i b n e1 e2
  rw [e1] at k1
  have hc:=k1.s_inv
  obtain ⟨kk,hc2⟩:=Zi e2 k2
  cases hb:b[n]? with
  | none => rw [hb] at h;cases h
  | some u =>
   rw [hb] at h
   simp only [Option.map_some,Option.some.injEq,Prod.mk.injEq] at h
   obtain ⟨rfl,rfl⟩:=h
   have h1:(0:Int) ≤ n:=by omega
   exact Qg S (cv:=.int .u8 u.toNat) (by simp [execOp,ho,hc,hc2,Instr.index,asIntOf,run_underlying ht,h1,hb]) (.s _ rfl)
 ·cases h
theorem Qob (S:Sim R M L w) (H:Fit M L w ρ σ) {o:Oper} {n k:Nat} {g:Option Nat} {t el:TypeId} {x i:CX} {x' i':Operand} (ho:o.op = .index t x' i') (hx:okX x x' = true) (hi:okX i i' = true)
  (ht:P.underlying t = some (.array n el)) (hz:Qu P el = some k) (hg:okG P el g = true) {v:PV} {M':List Blk} (h:res M ρ (.idxa n k g x i) = some (v,M')):Good R P (execOp σ o) M L w v M':=by
 have k1:=H x x' hx;have k2:=H i i' hi
 obtain ⟨b,ha,hz',hb,hb1⟩:=Qbf hg
 have hkg:k = g.getD 1:=by rw [hz] at hz';exact Option.some.inj hz'
 subst hkg
 simp only [res] at h
 split at h
 ·rename_i cs m e1 e2
  rw [e1] at k1
  obtain ⟨kk,hc2⟩:=Zi e2 k2
  split at h
  ·rename_i hlt
   generalize hc:σ x' = c at k1
   cases k1 with
   | agg _ vs hr =>
    cases hm:mkPV g ((cs.drop (m * g.getD 1)).take (g.getD 1)) with
    | none => rw [hm] at h;cases h
    | some q =>
     rw [hm] at h
     simp only [Option.map_some,Option.some.injEq,Prod.mk.injEq] at h
     obtain ⟨rfl,rfl⟩:=h
     have hl:=Yh hm
     have hr':=(hr.drop (m * g.getD 1)).take (g.getD 1)
     have hp:b = false → 0 < g.getD 1:=fun h => by rw [hb1 h];decide
     have h1:(0:Int) ≤ m ∧ (m:Int) < n:=⟨by omega,by omega⟩
     refine Qg S (cv:=valOf b ((vs.toList.drop (m * g.getD 1)).take (g.getD 1))) ?_ (JG hm hb hr')
     by_cases h0:g.getD 1 = 0
     ·have hbt:b = true:=by cases b <;> simp_all
      subst hbt
      rw [h0] at hz
      simp [execOp,ho,hc,hc2,Instr.index,asIntOf,run_underlying ht,h1,hlt,part,Ze ha,QB hz,h0,valOf]
     ·have hsz:m * g.getD 1 + g.getD 1 ≤ vs.size:=by
       have h1:=hr.length
       simp only [List.length_take,List.length_drop,Array.length_toList] at hl h1
       omega
      simp [execOp,ho,hc,hc2,Instr.index,asIntOf,run_underlying ht,h1,hlt,QB hz,ZG ha hz hp hsz]
  ·cases h
 ·cases h
theorem g_len (S:Sim R M L w) (H:Fit M L w ρ σ) {o:Oper} {t el:TypeId} {x:CX} {x':Operand} {ts:Array TypeId} (ho:o.op = .call { callee:=.builtin .len,args:=#[x'],argTypes:=ts }) (hx:okX x x' = true)
  (hts:ts[0]? = some t) (ht:P.underlying t = some (.slice el)) {v:PV} {M':List Blk} (h:res M ρ (.len x) = some (v,M')):Good R P (execOp σ o) M L w v M':=by
 have k1:=H x x' hx
 simp only [res] at h
 cases hl:lenOf (ρ x) with
 | none => rw [hl] at h;cases h
 | some n =>
  rw [hl] at h
  simp only [Option.map_some,Option.some.injEq,Prod.mk.injEq] at h
  obtain ⟨rfl,rfl⟩:=h
  obtain ⟨a,c,hc⟩:=Qhb k1 hl
  exact Qg S (cv:=.int .i64 n) (by simp [execOp,ho,hc,resolve,invoke,builtin,Builtin.len_,hts,run_underlying ht,goInt]) (.s _ rfl)
theorem QnA (S:Sim R M L w) (H:Fit M L w ρ σ) {o:Oper} {t:TypeId} {x:CX} {x':Operand} {ts:Array TypeId} (ho:o.op = .call { callee:=.builtin .len,args:=#[x'],argTypes:=ts }) (hx:okX x x' = true)
  (hts:ts[0]? = some t) (ht:P.underlying t = some .string) {v:PV} {M':List Blk} (h:res M ρ (.lens x) = some (v,M')):Good R P (execOp σ o) M L w v M':=by
 have k1:=H x x' hx
 simp only [res] at h
 split at h
 ·rename_i b e1
  rw [e1] at k1
  have hc:=k1.s_inv
  simp only [Option.some.injEq,Prod.mk.injEq] at h
  obtain ⟨rfl,rfl⟩:=h
  exact Qg S (cv:=.int .i64 b.size) (by simp [execOp,ho,hc,resolve,invoke,builtin,Builtin.len_,hts,run_underlying ht,goInt]) (.s _ rfl)
 ·cases h
def ORel (M:List Blk) (L:Loc) (w:World):Option PV → Option Value → Prop
 | none,none => True
 | some p,some c => VRel M L w p c
 | _,_ => False
theorem YC {n l h:Nat} {lo hi:Option PV} {clo chi:Option Value} (hb:bounds n lo hi = some (l,h))
  (hlo:ORel M L w lo clo) (hhi:ORel M L w hi chi) (isS:Bool) (cap:Nat) (hcap:n ≤ cap) :
  (Instr.sliceBounds isS n cap clo chi none).run P w = .ok (l,h,cap) w ∧ l ≤ h ∧ h ≤ n:=by
 have key:∀ {p:PV} {c:Value} {m y:Nat} {code:BoundsCode},VRel M L w p c → asNat p = some m → m ≤ y → (Instr.sliceBound c y code).run P w = .ok m w:=by
  intro p c m y code hr hm hle
  obtain ⟨k,rfl⟩:=Zi hm hr
  have h1:(0:Int) ≤ m ∧ (m:Int) ≤ y:=⟨by omega,by omega⟩
  simp only [Instr.sliceBound,asIntOf,Sem.run_bind,Sem.run_pure,Result.andThen_ok,if_pos h1,Int.toNat_natCast]
 unfold bounds at hb
 cases hh':hiN n hi with
 | none => rw [hh'] at hb;cases hb
 | some h' =>
  rw [hh'] at hb
  cases hl':loN lo with
  | none => rw [hl'] at hb;cases hb
  | some l' =>
   rw [hl'] at hb
   simp only [Option.bind_some] at hb
   split at hb
   ·rename_i hc
    simp only [Option.some.injEq,Prod.mk.injEq] at hb
    obtain ⟨rfl,rfl⟩:=hb
    refine ⟨?_,hc⟩
    unfold Instr.sliceBounds
    cases hi with
    | none =>
     cases chi with
     | some _ => exact hhi.elim
     | none =>
      simp only [hiN,Option.some.injEq] at hh'
      subst hh'
      cases lo with
      | none =>
       cases clo with
       | some _ => exact hlo.elim
       | none => simp only [loN,Option.some.injEq] at hl';subst hl';simp
      | some p =>
       cases clo with
       | none => exact hlo.elim
       | some c => simp [key hlo hl' hc.1]
    | some q =>
     cases chi with
     | none => exact hhi.elim
     | some d =>
      cases lo with
      | none =>
       cases clo with
       | some _ => exact hlo.elim
       | none => simp only [loN,Option.some.injEq] at hl';subst hl';simp [key hhi hh' (Nat.le_trans hc.2 hcap)]
      | some p =>
       cases clo with
       | none => exact hlo.elim
       | some c => simp [key hlo hl' hc.1,key hhi hh' (Nat.le_trans hc.2 hcap)]
   ·cases hb
theorem Qav (H:Fit M L w ρ σ) {x:Option CX} {y:Option Operand} (h:okXo x y = true):ORel M L w (x.map ρ) (y.map σ):=by
 cases x with
 | none => cases y with | none => trivial | some _ => simp [okXo] at h
 | some x => cases y with | none => simp [okXo] at h | some y => exact H x y h
theorem Qgk {k:Nat} {xs:List PV} (h:sized k xs = true):∀ x ∈ xs,x.cells.length = k:=by
 simpa [sized] using h
theorem QlR (S:Sim R M L w) (H:Fit M L w ρ σ) {o:Oper} {k:Nat} {t el:TypeId} {x:CX} {x':Operand} {lo hi:Option CX} {lo' hi':Option Operand} (ho:o.op = .slice t x' lo' hi' none) (hx:okX x x' = true)
  (hlo:okXo lo lo' = true) (hhi:okXo hi hi' = true) (ht:P.underlying t = some (.slice el)) (hz:Qu P el = some k)
  {v:PV} {M':List Blk} (h:res M ρ (.slice k x lo hi) = some (v,M')):Good R P (execOp σ o) M L w v M':=by
 have k1:=H x x' hx
 have run:∀ {a:Option Addr} {len cap l h:Nat},(Instr.sliceBounds true len cap (lo'.map σ) (hi'.map σ) none).run P w = .ok (l,h,cap) w →
   (Instr.sliceAt t (.slice a len cap) (lo'.map σ) (hi'.map σ) none).run P w = .ok (.slice (if cap = l then a else a.map (·.add (l * k))) (h - l) (cap - l)) w:=by
  intro a len cap l h hr
  simp [Instr.sliceAt,Instr.slice,run_underlying ht,hr,QB hz]
 have flo:=Qav H hlo;have fhi:=Qav H hhi
 simp only [res] at h
 split at h
 ·rename_i xs e1
  rw [e1] at k1
  split at h
  case isFalse => cases h
  rename_i hsized
  cases hb:bounds xs.length (lo.map ρ) (hi.map ρ) with
  | none => rw [hb] at h;cases h
  | some p =>
   obtain ⟨l,hh⟩:=p
   rw [hb] at h
   simp only [Option.map_some,Option.some.injEq,Prod.mk.injEq] at h
   obtain ⟨rfl,rfl⟩:=h
   generalize hc:σ x' = c at k1
   cases k1 with
   | fs _ a n cap k' vs hn hcap hk hr hm =>
    subst hn
    obtain ⟨hr',h1,h2⟩:=YC (P:=P) hb flo fhi true cap hcap
    have hrun:=run (a:=a) hr'
    refine Qg S (by simp [execOp,ho,hc,hrun];rfl) ?_
    have hlen:((xs.drop l).take (hh - l)).length = hh - l:=by simp;omega
    by_cases hkk:xs = []
    ·subst hkk
     have:hh - l = 0:=by simp at h2;omega
     rw [this]
     refine .fs [] _ 0 _ 0 [] rfl (Nat.zero_le _) (by simp) .nil (by simp)
    ·obtain ⟨B,q,rfl,hlt,hno,hcell⟩:=hm hkk
     have hrr:=(hr.drop (l * k')).take ((hh - l) * k')
     rw [Vp hk,Vq (fun x hx => hk x (List.mem_of_mem_drop hx))] at hrr
     refine .fs _ _ _ _ k' _ hlen.symm (by rw [hlen];omega) (fun x hx => hk x (List.mem_of_mem_drop (List.mem_of_mem_take hx))) hrr fun hne => ?_
     have hpos:0 < hh - l:=by
      rcases Nat.eq_zero_or_pos (hh - l) with h0|h0
      ·rw [h0] at hne;simp at hne
      ·exact h0
     have hk'':k' = k:=by
      cases xs with
      | nil => exact absurd rfl hkk
      | cons x xs => exact (hk x (by simp)).symm.trans (Qgk hsized x (by simp))
     subst hk''
     refine ⟨B,q + l * k',?_,hlt,hno,fun m u hu => ?_⟩
     ·rw [if_neg (by omega)];simp [Vw]
     ·rw [List.getElem?_take] at hu
      split at hu
      ·rw [List.getElem?_drop] at hu
       rw [show q + l * k' + m = q + (l * k' + m) from by omega]
       exact hcell _ _ hu
      ·cases hu
 ·rename_i e1
  rw [e1] at k1
  have hc:=k1.s_inv
  cases hb:bounds 0 (lo.map ρ) (hi.map ρ) with
  | none => rw [hb] at h;cases h
  | some p =>
   obtain ⟨l,hh⟩:=p
   rw [hb] at h
   simp only [Option.map_some,Option.some.injEq,Prod.mk.injEq] at h
   obtain ⟨rfl,rfl⟩:=h
   obtain ⟨hr',h1,h2⟩:=YC (P:=P) hb flo fhi true 0 (Nat.le_refl _)
   have h3:hh = 0:=by omega
   have h4:l = 0:=by omega
   subst h3;subst h4
   have hrun:=run (a:=none) hr'
   exact Qg S (cv:=.slice none 0 0) (by simp [execOp,ho,hc,hrun]) (.s _ rfl)
 ·rename_i i ver off len e1
  rw [e1] at k1
  split at h
  ·rename_i hl
   obtain ⟨hl,hrk⟩:=hl
   obtain ⟨wr,k',xs,hrow⟩:=VO hl
   cases hb:bounds len (lo.map ρ) (hi.map ρ) with
   | none => rw [hb] at h;cases h
   | some p =>
    obtain ⟨l,hh⟩:=p
    rw [hb] at h
    simp only [Option.map_some,Option.some.injEq,Prod.mk.injEq] at h
    obtain ⟨rfl,rfl⟩:=h
    obtain ⟨a,cap,hc,hx',hcap,hm⟩:=k1.os_live hrow
    obtain ⟨hr',h1,h2⟩:=YC (P:=P) hb flo fhi true cap hcap
    have hrun:=run (a:=a) hr'
    refine Qg S (by simp [execOp,ho,hc,hrun];rfl) ?_
    refine .os i ver (off + l) (hh - l) wr k' xs _ (cap - l) hrow (by omega) (by omega) fun hne => ?_
    obtain ⟨B,q,cc,el',hL,rfl,hbk,hsz⟩:=hm (by omega)
    have hk'':k' = k:=by rw [← hrk];simp [rowK,hrow]
    subst hk''
    refine ⟨B,q,cc,el',hL,?_,hbk,?_⟩
    ·rw [if_neg (by omega)]
     simp only [Option.map_some,Vw,Option.some.injEq,Addr.mk.injEq,true_and,and_true]
     rw [Nat.add_mul];omega
    ·have:off + l + (cap - l) = off + cap:=by omega
     rw [this];exact hsz
  ·cases h
 ·cases h
theorem Qmx (S:Sim R M L w) (H:Fit M L w ρ σ) {o:Oper} {t:TypeId} {x:CX} {x':Operand} {lo hi:Option CX} {lo' hi':Option Operand} (ho:o.op = .slice t x' lo' hi' none) (hx:okX x x' = true)
  (hlo:okXo lo lo' = true) (hhi:okXo hi hi' = true) (ht:P.underlying t = some .string)
  {v:PV} {M':List Blk} (h:res M ρ (.slstr x lo hi) = some (v,M')):Good R P (execOp σ o) M L w v M':=by
 have k1:=H x x' hx
 have flo:=Qav H hlo;have fhi:=Qav H hhi
 simp only [res] at h
 split at h
 ·rename_i b e1
  rw [e1] at k1
  have hc:=k1.s_inv
  cases hb:bounds b.size (lo.map ρ) (hi.map ρ) with
  | none => rw [hb] at h;cases h
  | some p =>
   obtain ⟨l,hh⟩:=p
   rw [hb] at h
   simp only [Option.map_some,Option.some.injEq,Prod.mk.injEq] at h
   obtain ⟨rfl,rfl⟩:=h
   obtain ⟨hr',h1,h2⟩:=YC (P:=P) hb flo fhi false b.size (Nat.le_refl _)
   exact Qg S (cv:=.string (b.extract l hh)) (by simp [execOp,ho,hc,Instr.sliceAt,Instr.slice,run_underlying ht,hr']) (.s _ rfl)
 ·cases h
end
end Go.Nac
namespace Go.Nac
variable [Env]
section
variable {R:CCode → Code → Prop} {P:Program} {M:List Blk} {L:Loc} {w w':World} {ρ:CX → PV} {σ:Operand → Value}
theorem grow (S:Sim R M L w) (o:Obj) (hw:Same w w') (hh:w'.heap = w.heap.push o):Evo M L w M L w' ∧ Sim R M L w':=by
 have old:∀ b,b < w.heap.size → w'.heap[b]? = w.heap[b]?:=by
  intro b hlt
  rw [hh,Array.getElem?_push_lt hlt];exact (Array.getElem?_eq_getElem hlt).symm
 have E:Evo M L w M L w':=⟨hw.os,hw.tape,hw.output,fun _ => hw.drawn,by rw [hh];simp,fun b hlt hno => ⟨old b hlt,hno⟩,fun i b hi => ⟨b,hi,by
  cases b with
  | row => exact ⟨Nat.le_refl _,fun _ => ⟨rfl,rfl,rfl,fun bb oo c el g1 g2 => ⟨c,g2.congr (old bb g2.lt),rfl⟩⟩⟩
  | map => exact rfl
  | loop => exact ⟨rfl,rfl,rfl,rfl,rfl⟩
  | siter => exact rfl⟩⟩
 exact ⟨E,fun i b hi => (S.mem i b hi).evo E rfl fun p hp => old _ ((S.mem i b hi).lt hp),S.inj,S.envE E⟩
theorem Qcn {c:Array Value} {el:TypeId} {m:Nat} {v:Value} (hh:w'.heap = w.heap.push (.cells c el)) (h:c[m]? = some v):w'.cell? ⟨w.heap.size,m,none⟩ = some v:=by
 simp [World.cell?,hh,h]
theorem ZV (S:Sim R M L w):¬ Owned M L w.heap.size:=fun h => by have:=h.lt S;omega
theorem Yu (S:Sim R M L w) {p:PV} {c:Value} (h:VRel M L w p c):VRel M L w (view1 M p) c:=by
 unfold view1
 split
 ·rename_i i ver off len
  split
  ·rename_i k v xs hi
   split
   ·rename_i hc
    obtain ⟨rfl,hle⟩:=hc
    obtain ⟨a,cap,rfl,_,hcap,hm⟩:=h.os_live hi
    obtain ⟨hk,h2,h3⟩:=S.mem i _ hi
    have hlen:((xs.drop off).take len).length = len:=by simp;omega
    by_cases hcap0:cap = 0
    ·have:len = 0:=by omega
     subst this
     exact .fs _ _ _ _ k [] (by simp) (by simp) (by simp) (by simp;exact .nil) (by simp)
    ·obtain ⟨B,q,cc,el',hL,rfl,hb,hsz⟩:=hm hcap0
     obtain ⟨cc',el'',vs,g1,g2,g3⟩:=h2 B q hL
     obtain ⟨rfl,rfl⟩:=hb.uniq g1
     have hr:=(g2.drop (off * k)).take (len * k)
     rw [Vp hk,Vq (fun x hx => hk x (List.mem_of_mem_drop hx))] at hr
     refine .fs _ _ _ _ k _ hlen.symm (by rw [hlen];exact hcap) (fun x hx => hk x (List.mem_of_mem_drop (List.mem_of_mem_take hx))) hr fun hne => ?_
     refine ⟨B,q + off * k,rfl,hb.lt,?_,fun m u hu => ?_⟩
     ·rintro ⟨j,bl,p,h1,h4,h5,h6⟩
      by_cases e:j = i
      ·subst e;rw [hi] at h1;cases h1;simp [Blk.live] at h4
      ·exact S.inj j i bl _ p (B,q) h1 hi h4 e h5 hL h6
     ·rw [List.getElem?_take] at hu
      split at hu
      ·rw [List.getElem?_drop] at hu
       have:=g3 _ _ hu
       rw [show q + off * k + m = q + (off * k + m) from by omega]
       exact (hb.cell _).trans this
      ·cases hu
   ·exact h
  ·exact h
 ·have:=h.s_inv;subst this
  exact .fs [] none 0 0 0 [] rfl (Nat.le_refl _) (by simp) .nil (by simp)
 ·exact h
theorem LRel.map_view (S:Sim R M L w) {xs:List PV} {vs:List Value} (h:LRel M L w xs vs):LRel M L w (xs.map (view1 M)) vs:=by
 induction xs generalizing vs with
 | nil => cases h;exact .nil
 | cons x xs ih => cases h with | cons _ v _ vs h hs => exact .cons _ _ _ _ (Yu S h) (ih hs)
theorem Vv (S:Sim R M L w) {p:PV} {c:Value} (h:VRel M L w p c):VRel M L w (view M p) c:=by
 cases p with
 | agg cs =>
  cases h with
  | agg _ vs h => exact .agg _ _ (LRel.map_view S h)
 | _ => exact Yu S h
theorem QeM {p:PV} (h:∀ cs,p ≠ .agg cs):(view1 M p).cells.length = p.cells.length:=by
 unfold view1
 split
 ·split
  ·split <;> rfl
  ·rfl
 ·rfl
 ·rfl
theorem Qfu {p:PV} (h:∀ cs,p ≠ .agg cs):view M p = view1 M p:=by
 cases p <;> first|rfl|exact absurd rfl (h _)
theorem QbQ {p:PV}:(view M p).cells.length = p.cells.length:=by
 by_cases h:∃ cs,p = .agg cs
 ·obtain ⟨cs,rfl⟩:=h;simp [view,PV.cells]
 ·have h':∀ cs,p ≠ .agg cs:=fun cs e => h ⟨cs,e⟩
  rw [Qfu h',QeM h']
theorem VY {t:TypeId} {v:Value} (h:(P.info? t).bind (·.zero) = some v):(zeroValue t).run P w = .ok v w:=by
 cases hi:P.info? t with
 | none => rw [hi] at h;cases h
 | some i => rw [hi] at h;simp only [Option.bind_some] at h;simp [zeroValue,typeInfo,hi,h]
theorem Vy {t:TypeId} {g:Option Nat} {z:List Value} (h:okZ P t g z = true):∃ v,(P.info? t).bind (·.zero) = some v ∧ v.cells.toList = z ∧ (∀ u ∈ z,aggV u = false) ∧
    (∀ k,g = some k → z.length = k) ∧ (g = none → z.length = 1):=by
  unfold okZ at h
  cases hz:(P.info? t).bind (·.zero) with
  | none => rw [hz] at h;cases h
  | some v =>
    rw [hz] at h
    cases g with
    | none =>
      obtain ⟨h1,h2⟩:=YL h
      subst h1
      refine ⟨v,rfl,?_,h2,(fun k' hk' => by cases hk'),fun _ => rfl⟩
      have:=h2 v (by simp)
      cases v <;> first|rfl|(simp [aggV] at this)
    | some k =>
      cases v <;> first
        | (cases h;done)
        | (simp only [Bool.and_eq_true,beq_iff_eq] at h
           obtain ⟨h1,h2⟩:=YL h.1
           exact ⟨_,rfl,h1.symm,h2,(fun k' hk' => by cases hk';exact h.2),(fun hk' => by cases hk')⟩)
theorem YE {g:Option Nat} {cs:List PV} {p:PV} (h:mkPV g cs = some p) (hs:∀ c ∈ cs,∃ v,c = .s v):p.cells = cs:=by
 cases g with
 | none =>
  match cs,h with
  | [c],h =>
   obtain rfl:=Option.some.inj h
   obtain ⟨v,hv⟩:=hs c (by simp)
   subst hv;rfl
 | some k =>
  simp only [mkPV] at h
  split at h
  ·obtain rfl:=Option.some.inj h;rfl
  ·cases h
theorem QmE (S:Sim R M L w) {o:Oper} {g:Option Nat} {z:List Value} {t:TypeId} (ho:o.op = .alloc t) (hz:okZ P t g z = true)
  {v:PV} {M':List Blk} (h:res M ρ (.alloc g z) = some (v,M')):Good R P (execOp σ o) M L w v M':=by
 obtain ⟨zv,h1,h2,h3,h4,h5⟩:=Vy hz
 simp only [res] at h
 cases hm:mkPV g (z.map .s) with
 | none => rw [hm] at h;cases h
 | some e =>
  rw [hm] at h
  simp only [Option.map_some,Option.some.injEq,Prod.mk.injEq] at h
  obtain ⟨rfl,rfl⟩:=h
  have hc:e.cells = z.map .s:=YE hm (by simp)
  have hrun:(execOp σ o).run P w = .ok (.value (.pointer (some ⟨w.heap.size,0,none⟩))) { w with heap:=w.heap.push (.cells zv.cells t) }:=by
   simp [execOp,ho,Instr.alloc,VY h1,newVar,newRow]
   try rfl
  obtain ⟨E,S'⟩:=push S (.row true z.length 0 [e]) (some (.cells zv.cells t)) (w':={ w with heap:=w.heap.push (.cells zv.cells t) }) ⟨rfl,rfl,rfl,(by first|exact Nat.le_refl _|exact Nat.le_succ _|simp)⟩ rfl (by
   rintro _ _ rfl rfl E
   refine ⟨by simp [hc],fun b q hL => ?_,fun hL => by simp [Loc.upd_self] at hL⟩
   simp only [Loc.upd_self,Option.map_some,Option.some.injEq,Prod.mk.injEq] at hL
   obtain ⟨rfl,rfl⟩:=hL
   refine ⟨zv.cells,t,z,.mk0 (by simp),?_,fun m u hu => by rw [Nat.zero_add];rw [← h2] at hu;simpa using hu⟩
   simp only [List.flatMap_cons,List.flatMap_nil,List.append_nil,hc]
   exact LRel.map_s z h3)
  refine ⟨_,_,_,.inl hrun,E,S',?_⟩
  have:=VRel.op (M:=M ++ [.row true z.length 0 [e]]) (L:=L.upd M.length (some (w.heap.size,0))) (w:={ w with heap:=w.heap.push (.cells zv.cells t) }) M.length 0 0 0 true z.length [e] w.heap.size 0 (by simp) (by simp) (by simp [Loc.upd_self])
  simpa using this
theorem Qhg (S:Sim R M L w) {o:Oper} {k:Nat} {y:Operand} (ho:o.op = .move y ∨ o.op = .assign y) (hy:y = .const (.slice none 0 0)) (hσ:∀ v,σ (.const v) = v)
  {v:PV} {M':List Blk} (h:res M ρ (.onil k) = some (v,M')):Good R P (execOp σ o) M L w v M':=by
 simp only [res,Option.some.injEq,Prod.mk.injEq] at h
 obtain ⟨rfl,rfl⟩:=h
 obtain ⟨E,S'⟩:=push S (.row true k 0 []) none (w':=w) ⟨rfl,rfl,rfl,(by first|exact Nat.le_refl _|exact Nat.le_succ _|simp)⟩ rfl (by
  rintro _ _ rfl rfl E
  exact ⟨by simp,fun b q hL => by simp [Loc.upd_self] at hL,fun _ => rfl⟩)
 subst hy
 refine ⟨.slice none 0 0,w,_,.inl ?_,E,S',?_⟩
 ·rcases ho with ho|ho <;> simp [execOp,ho,hσ]
 ·exact .os M.length 0 0 0 true k [] none 0 (by simp) (by simp) (Nat.le_refl _) (by simp)
theorem Qcr (off:Nat):∀ (l:List Value) (n:Nat) (cells:Array Value),off + n + l.length ≤ cells.size →
  ((l.zipIdx n).foldl (fun cs (x:Value × Nat) => cs.setIfInBounds (off + x.2) x.1) cells).toList = cells.toList.take (off + n) ++ l ++ cells.toList.drop (off + n + l.length)
 | [],n,cells,_ => by simp
 | v :: l,n,cells,h => by
  simp only [List.length_cons] at h
  rw [List.zipIdx_cons,List.foldl_cons,Qcr off l (n + 1) _ (by simp;omega)]
  simp only [Array.toList_setIfInBounds,List.length_cons]
  have hlt:off + n < cells.toList.length:=by simp;omega
  generalize cells.toList = C at hlt
  have h1:(C.set (off + n) v).take (off + (n + 1)) = C.take (off + n) ++ [v]:=by
   rw [show off + (n + 1) = off + n + 1 from by omega,List.take_succ_eq_append_getElem (by simpa using hlt),List.take_set,List.set_eq_of_length_le (by simp;omega)]
   simp
  have h2:(C.set (off + n) v).drop (off + (n + 1) + l.length) = C.drop (off + n + (l.length + 1)):=by
   rw [List.drop_set_of_lt (by omega)]
   congr 1;omega
  rw [h1,h2]
  simp
def Q4 (cs:List Value) (off:Nat) (vs:List Value):List Value:=cs.take off ++ vs ++ cs.drop (off + vs.length)
theorem LRel.setRange {cs vs:List PV} {C V:List Value} (h:LRel M L w cs C) (k:LRel M L w vs V) (off:Nat):LRel M L w (setRange cs off vs) (Q4 C off V):=by
 unfold Nac.setRange Q4
 rw [k.length]
 exact ((h.take off).append k).append (h.drop _)
theorem JB {place:Nat → Option (Nat × Nat)}:∀ {ap:List (Nat × Nat × PV)} {cp:List (Nat × Value)} {cs cs':List PV} {C:Array Value},Q5 cs ap = some cs' → LRel M L w cs C.toList →
  ap.length = cp.length → (∀ (j:Nat) a c,ap[j]? = some a → cp[j]? = some c → place c.1 = some (a.1,a.2.1) ∧ VRel M L w a.2.2 c.2) → ∃ C',Instr.fill place C cp = some C' ∧ LRel M L w cs' C'.toList
 | [],[],cs,cs',C,h,hr,_,_ => by
  simp only [Q5,Option.some.injEq] at h
  subst h
  exact ⟨C,rfl,hr⟩
 | (off,size,p) :: ap,(i,v) :: cp,cs,cs',C,h,hr,hl,hp => by
  simp only [Q5] at h
  split at h
  ·rename_i hc
   obtain ⟨h1,h2,h3⟩:=hc
   obtain ⟨g1,g2⟩:=hp 0 _ _ rfl rfl
   have hv:=g2.cells (by intro e;rw [e] at h1;simp at h1;omega)
   have hvs:v.cells.size = size:=by have:=hv.length;simp at this;omega
   have hcl:cs.length = C.size:=by have:=hr.length;simpa using this
   have hset:=Qcr off v.cells.toList 0 C (by simp;omega)
   have hC:LRel M L w (setRange cs off p.cells) ((v.cells.toList.zipIdx 0).foldl (fun cs (x:Value × Nat) => cs.setIfInBounds (off + x.2) x.1) C).toList:=by
    rw [hset]
    exact hr.setRange hv off
   obtain ⟨C',k1,k2⟩:=JB h hC (by simpa using hl) fun j a c ha hc => hp (j + 1) a c (by simpa using ha) (by simpa using hc)
   refine ⟨C',?_,k2⟩
   simp only [Instr.fill]
   simp only at g1
   rw [g1]
   simp only []
   rw [if_neg (by simp [hvs];omega),← k1]
   congr 1
   rw [← Array.foldl_toList,Array.toList_zipIdx]
  ·cases h
 | [],_ :: _,_,_,_,_,_,hl,_ => by simp at hl
 | _ :: _,[],_,_,_,_,_,hl,_ => by simp at hl
end
end Go.Nac
namespace Go.Nac
variable [Env]
section
variable {R:CCode → Code → Prop} {P:Program} {M:List Blk} {L:Loc} {w w':World} {ρ:CX → PV} {σ:Operand → Value}
def Zp (place:Nat → Option (Nat × Nat)):List (Nat × Nat × CX) → List (Nat × Operand) → Bool
 | [],[] => true
 | (off,size,x) :: a,(i,y) :: b => place i == some (off,size) && okX x y && Zp place a b
 | _,_ => false
theorem YX (H:Fit M L w ρ σ) {place:Nat → Option (Nat × Nat)}:∀ {a:List (Nat × Nat × CX)} {b:List (Nat × Operand)},Zp place a b = true →
  (a.map fun p => (p.1,p.2.1,ρ p.2.2)).length = (b.map fun p => (p.1,σ p.2)).length ∧
  ∀ (j:Nat) x c,(a.map fun p => (p.1,p.2.1,ρ p.2.2))[j]? = some x → (b.map fun p => (p.1,σ p.2))[j]? = some c → place c.1 = some (x.1,x.2.1) ∧ VRel M L w x.2.2 c.2
 | [],[],_ => ⟨rfl,fun j x c h => by simp at h⟩
 | (off,size,x) :: a,(i,y) :: b,h => by
  simp only [Zp,Bool.and_eq_true,beq_iff_eq] at h
  obtain ⟨h1,h2⟩:=YX H h.2
  refine ⟨by simpa using h1,fun j x' c hx hc => ?_⟩
  cases j with
  | zero =>
   simp only [List.map_cons,List.getElem?_cons_zero,Option.some.injEq] at hx hc
   subst hx;subst hc
   exact ⟨h.1.1,H x y h.1.2⟩
  | succ j => exact h2 j x' c (by simpa using hx) (by simpa using hc)
 | [],_ :: _,h => by simp [Zp] at h
 | _ :: _,[],h => by simp [Zp] at h
def V6 (P:Program) (fs:List Field):Option (List (Nat × Nat)):=fs.mapM fun f => (Qu P f.type).map fun n => (f.offset,n)
theorem Qby:∀ {fs:List Field} {ps:List (Nat × Nat)},V6 P fs = some ps →
  (fs.mapM (m:=Sem) fun f => do pure (f.offset,← sizeOf f.type)).run P w = .ok ps w
 | [],ps,h => by simp [V6] at h;subst h;rfl
 | f :: fs,ps,h => by
  simp only [V6,List.mapM_cons] at h
  cases hs:Qu P f.type with
  | none => rw [hs] at h;cases h
  | some n =>
   rw [hs] at h
   simp only [Option.map_some,Option.bind_eq_bind,Option.bind_some] at h
   cases hr:V6 P fs with
   | none =>
    have:(List.mapM (fun f => Option.map (fun n => (f.offset,n)) (Qu P f.type)) fs) = none:=hr
    rw [this] at h;cases h
   | some qs =>
    have:(List.mapM (fun f => Option.map (fun n => (f.offset,n)) (Qu P f.type)) fs) = some qs:=hr
    rw [this] at h
    simp only [Option.bind_some,Option.pure_def,Option.some.injEq] at h
    subst h
    rw [List.mapM_cons]
    simp only [Sem.run_bind,QB hs,Result.andThen_ok,Sem.run_pure]
    rw [Qby hr]
    rfl
theorem Qcf (S:Sim R M L w) (H:Fit M L w ρ σ) {o:Oper} {t:TypeId} {z:List Value} {fs:Array Field} {places:List (Nat × Nat)} {parts:List (Nat × Nat × CX)} {parts':Array (Nat × Operand)} (ho:o.op = .build t parts')
  (hu:P.underlying t = some (.struct fs)) (hz:okZ P t (some z.length) z = true) (hpl:V6 P fs.toList = some places) (hp:Zp (fun (i:Nat) => places[i]?) parts parts'.toList = true)
  {v:PV} {M':List Blk} (h:res M ρ (.build z parts) = some (v,M')):Good R P (execOp σ o) M L w v M':=by
 obtain ⟨zv,h1,h2,h3,h4,h5⟩:=Vy hz
 simp only [res] at h
 cases hf:Q5 (z.map .s) (parts.map fun p => (p.1,p.2.1,ρ p.2.2)) with
 | none => rw [hf] at h;cases h
 | some cs =>
  rw [hf] at h
  simp only [Option.map_some,Option.some.injEq,Prod.mk.injEq] at h
  obtain ⟨rfl,rfl⟩:=h
  obtain ⟨hl,hall⟩:=YX H hp
  obtain ⟨C',k1,k2⟩:=JB (w:=w) (place:=fun (i:Nat) => places[i]?) hf (C:=zv.cells) (by rw [h2];exact LRel.map_s z h3) hl hall
  refine Qg S (cv:=.agg C') ?_ (.agg _ _ k2)
  have hm:(parts'.map fun x => (x.1,σ x.2)).toList = parts'.toList.map fun x => (x.1,σ x.2):=by simp
  have hpl':((fs.mapM (m:=Sem) fun f => do pure (f.offset,← sizeOf f.type)).run P w) = .ok places.toArray w:=by
   rw [Array.mapM_eq_mapM_toList]
   show ((List.toArray <$> _:Sem _)).run P w = _
   rw [map_eq_pure_bind]
   simp only [Sem.run_bind,Qby hpl,Result.andThen_ok,Sem.run_pure]
  have hfun:(fun (i:Nat) => places.toArray[i]?) = fun (i:Nat) => places[i]?:=by funext i;simp
  simp only [execOp,ho,Sem.run_bind,Instr.build,VY h1,Result.andThen_ok,run_underlying hu,hpl',hm,hfun]
  rw [k1]
  rfl
theorem QcZ (S:Sim R M L w) (H:Fit M L w ρ σ) {o:Oper} {t el:TypeId} {n k:Nat} {z:List Value} {parts:List (Nat × Nat × CX)} {parts':Array (Nat × Operand)} (ho:o.op = .build t parts')
  (hu:P.underlying t = some (.array n el)) (hk:Qu P el = some k) (hz:okZ P t (some z.length) z = true) (hp:Zp (fun i => some (i * k,k)) parts parts'.toList = true)
  {v:PV} {M':List Blk} (h:res M ρ (.build z parts) = some (v,M')):Good R P (execOp σ o) M L w v M':=by
 obtain ⟨zv,h1,h2,h3,h4,h5⟩:=Vy hz
 simp only [res] at h
 cases hf:Q5 (z.map .s) (parts.map fun p => (p.1,p.2.1,ρ p.2.2)) with
 | none => rw [hf] at h;cases h
 | some cs =>
  rw [hf] at h
  simp only [Option.map_some,Option.some.injEq,Prod.mk.injEq] at h
  obtain ⟨rfl,rfl⟩:=h
  obtain ⟨hl,hall⟩:=YX H hp
  obtain ⟨C',k1,k2⟩:=JB (w:=w) (place:=fun i => some (i * k,k)) hf (C:=zv.cells) (by rw [h2];exact LRel.map_s z h3) hl hall
  refine Qg S (cv:=.agg C') ?_ (.agg _ _ k2)
  have hm:(parts'.map fun x => (x.1,σ x.2)).toList = parts'.toList.map fun x => (x.1,σ x.2):=by simp
  simp only [execOp,ho,Sem.run_bind,Instr.build,VY h1,Result.andThen_ok,run_underlying hu,QB hk,hm]
  rw [k1]
  rfl
theorem Qff {k:Nat} (hk0:k ≠ 0):∀ (xs:List PV) (i:Nat) (A:List PV),A.length = i * k → (∀ x ∈ xs,x.cells.length = k) →
  Q5 (A ++ List.replicate (xs.length * k) .top) ((xs.zipIdx i).map fun p => (p.2 * k,k,p.1)) = some (A ++ xs.flatMap PV.cells)
 | [],i,A,_,_ => by simp [Q5]
 | x :: xs,i,A,hA,hx => by
  have h1:x.cells.length = k:=hx x (by simp)
  simp only [List.zipIdx_cons,List.map_cons,Q5]
  rw [if_pos ⟨h1,hk0,by simp [hA,Nat.add_mul]⟩]
  have hs:setRange (A ++ List.replicate ((x :: xs).length * k) .top) (i * k) x.cells = (A ++ x.cells) ++ List.replicate (xs.length * k) .top:=by
   unfold Nac.setRange
   rw [← hA,List.take_left,List.length_cons,Nat.add_mul,Nat.one_mul,Nat.add_comm (xs.length * k) k,← List.replicate_append_replicate,← List.append_assoc A,h1]
   have:A.length + k = (A ++ List.replicate k PV.top).length:=by simp
   rw [this,List.drop_left]
  rw [hs,Qff hk0 xs (i + 1) (A ++ x.cells) (by simp [hA,h1,Nat.add_mul]) fun y hy => hx y (by simp [hy])]
  simp
def okSeq:Nat → List CX → List (Nat × Operand) → Bool
 | _,[],[] => true
 | i,x :: xs,(j,y) :: ys => i == j && okX x y && okSeq (i + 1) xs ys
 | _,_,_ => false
theorem QbL (H:Fit M L w ρ σ) {k:Nat}:∀ {i:Nat} {a:List CX} {b:List (Nat × Operand)},okSeq i a b = true →
  (((a.map ρ).zipIdx i).map fun p => (p.2 * k,k,p.1)).length = (b.map fun p => (p.1,σ p.2)).length ∧
  ∀ (j:Nat) x c,(((a.map ρ).zipIdx i).map fun p => (p.2 * k,k,p.1))[j]? = some x → (b.map fun p => (p.1,σ p.2))[j]? = some c → some (c.1 * k,k) = some (x.1,x.2.1) ∧ VRel M L w x.2.2 c.2
 | _,[],[],_ => ⟨rfl,fun j x c h => by simp at h⟩
 | i,x :: a,(j',y) :: b,h => by
  simp only [okSeq,Bool.and_eq_true,beq_iff_eq] at h
  obtain ⟨⟨h0,hxy⟩,h⟩:=h
  subst h0
  obtain ⟨h1,h2⟩:=QbL H h
  refine ⟨by simpa using h1,fun j x' c hx hc => ?_⟩
  cases j with
  | zero =>
   simp only [List.map_cons,List.zipIdx_cons,List.getElem?_cons_zero,Option.some.injEq] at hx hc
   subst hx;subst hc
   exact ⟨rfl,H x y hxy⟩
  | succ j => exact h2 j x' c (by simpa using hx) (by simpa using hc)
 | _,[],_ :: _,h => by simp [okSeq] at h
 | _,_ :: _,[],h => by simp [okSeq] at h
theorem QdJ {z:Nat × Nat} (S:Sim R M L w) {xs:List PV} {C:Array Value} {k:Nat} {el:TypeId} (hk:∀ x ∈ xs,x.cells.length = k) (hr:LRel M L w (xs.flatMap PV.cells) (C.toList.take (xs.length * k)))
  (hw:Same w w') (hh:w'.heap = w.heap.push (.cells C el z)) (hz:Unf C.size z) (cap:Nat) (hcap:xs.length ≤ cap) (hsz:cap * k ≤ C.size) (ver:Nat) :
  Evo M L w (M ++ [.row true k ver xs]) (L.upd M.length (some (w.heap.size,0))) w' ∧ Sim R (M ++ [.row true k ver xs]) (L.upd M.length (some (w.heap.size,0))) w' ∧
   VRel (M ++ [.row true k ver xs]) (L.upd M.length (some (w.heap.size,0))) w' (.os M.length ver 0 xs.length) (.slice (some ⟨w.heap.size,0,none⟩) xs.length cap):=by
 obtain ⟨E,S'⟩:=push S (.row true k ver xs) (some (.cells C el z)) hw hh (by
  rintro _ _ rfl rfl E
  refine ⟨hk,fun b q hL => ?_,fun hL => by simp [Loc.upd_self] at hL⟩
  simp only [Loc.upd_self,Option.map_some,Option.some.injEq,Prod.mk.injEq] at hL
  obtain ⟨rfl,rfl⟩:=hL
  refine ⟨C,el,C.toList.take (xs.length * k),⟨z,by rw [hh];simp,hz⟩,LRel.evo E hr,fun m u hu => ?_⟩
  rw [List.getElem?_take] at hu
  split at hu
  ·rw [Nat.zero_add];simpa using hu
  ·cases hu)
 refine ⟨E,S',?_⟩
 refine .os M.length ver 0 xs.length true k xs _ cap (by simp) (by omega) hcap fun _ => ?_
 exact ⟨w.heap.size,0,C,el,by simp [Loc.upd_self],by simp,⟨z,by rw [hh];simp,hz⟩,by simpa using hsz⟩
theorem YM (S:Sim R M L w) {xs:List PV} {C:Array Value} {k:Nat} {el:TypeId} (hk:∀ x ∈ xs,x.cells.length = k) (hr:LRel M L w (xs.flatMap PV.cells) (C.toList.take (xs.length * k)))
  (hw:Same w w') (hh:w'.heap = w.heap.push (.cells C el)) (cap:Nat) (hcap:xs.length ≤ cap) (hsz:cap * k ≤ C.size) (ver:Nat) :
  Evo M L w (M ++ [.row true k ver xs]) (L.upd M.length (some (w.heap.size,0))) w' ∧ Sim R (M ++ [.row true k ver xs]) (L.upd M.length (some (w.heap.size,0))) w' ∧
   VRel (M ++ [.row true k ver xs]) (L.upd M.length (some (w.heap.size,0))) w' (.os M.length ver 0 xs.length) (.slice (some ⟨w.heap.size,0,none⟩) xs.length cap):=QdJ S hk hr hw hh (unf0 _) cap hcap hsz ver
theorem QgF (S:Sim R M L w) {xs:List PV} {C:Array Value} {k:Nat} {el:TypeId} (hk:∀ x ∈ xs,x.cells.length = k) (hr:LRel M L w (xs.flatMap PV.cells) (C.toList.take (xs.length * k)))
  (hw:Same w w') (hh:w'.heap = w.heap.push (.cells C el)) (cap:Nat) (hcap:xs.length ≤ cap) :
  Evo M L w M L w' ∧ Sim R M L w' ∧ VRel M L w' (.fs xs) (.slice (some ⟨w.heap.size,0,none⟩) xs.length cap):=by
 obtain ⟨E,S'⟩:=grow S (.cells C el) hw hh
 refine ⟨E,S',.fs xs _ _ cap k _ rfl hcap hk (LRel.evo E hr) fun _ => ⟨w.heap.size,0,rfl,by rw [hh];simp,ZV S,fun m u hu => ?_⟩⟩
 rw [List.getElem?_take] at hu
 split at hu
 ·rw [Nat.zero_add];exact Qcn hh (by simpa using hu)
 ·cases hu
theorem Qb9 {xs:List PV} {k:Nat} (h:∀ x ∈ xs,x.cells.length = k):∀ x ∈ xs.map (view M),x.cells.length = k:=by
 intro x hx
 obtain ⟨y,hy,rfl⟩:=List.mem_map.1 hx
 rw [QbQ];exact h y hy
theorem Qcq {p:PV} (h:p.cells = [p]):(view1 M p).cells = [view1 M p]:=by
 unfold view1
 split
 ·split
  ·split <;> rfl
  ·rfl
 ·rfl
 ·exact h
theorem QhH (S:Sim R M L w) {xs:List PV}:∀ {vs:List Value},LRel M L w (xs.flatMap PV.cells) vs → LRel M L w ((xs.map (view M)).flatMap PV.cells) vs:=by
 induction xs with
 | nil => exact fun h => h
 | cons x xs ih =>
  intro vs h
  rw [List.flatMap_cons] at h
  obtain ⟨v1,v2,rfl,h1,h2⟩:=h.split
  rw [List.map_cons,List.flatMap_cons]
  refine LRel.append ?_ (ih h2)
  by_cases hx:∃ cs,x = .agg cs
  ·obtain ⟨cs,rfl⟩:=hx
   exact LRel.map_view S h1
  ·have hx':∀ cs,x ≠ .agg cs:=fun cs e => hx ⟨cs,e⟩
   rw [Qfu hx']
   cases x with
   | top => cases h1;exact .nil
   | agg cs => exact absurd rfl (hx' cs)
   | os i ver off len =>
    cases h1 with
    | cons _ c _ _ hv hs =>
     cases hs
     have:=Yu S hv
     have hc:=Qcq (M:=M) (p:=.os i ver off len) rfl
     rw [hc];exact .cons _ _ _ _ this .nil
   | s v =>
    cases h1 with
    | cons _ c _ _ hv hs =>
     cases hs
     have:=Yu S hv
     have hc:=Qcq (M:=M) (p:=.s v) rfl
     rw [hc];exact .cons _ _ _ _ this .nil
   | _ => exact h1
theorem g_bsl (S:Sim R M L w) (H:Fit M L w ρ σ) {o:Oper} {own:Bool} {t el:TypeId} {k n:Nat} {xs:List CX} {parts:Array (Nat × Operand)} (ho:o.op = .buildSlice t n parts)
  (hu:P.underlying t = some (.slice el)) (hk:Qu P el = some k) (hn:n = xs.length) (hsm:n * k ≤ 2 ^ 24) (hz:((P.info? el).bind (·.zero)).isSome = true) (hp:okSeq 0 xs parts.toList = true)
  {v:PV} {M':List Blk} (h:res M ρ (.bsl own k xs) = some (v,M')):Good R P (execOp σ o) M L w v M':=by
 simp only [res] at h
 split at h
 case isFalse => cases h
 rename_i hc
 obtain ⟨hall,hk0⟩:=hc
 have hall':∀ x ∈ xs.map ρ,x.cells.length = k:=by simpa using hall
 obtain ⟨zv,hzv⟩:=Option.isSome_iff_exists.1 hz
 obtain ⟨hl,hps⟩:=QbL H (k:=k) hp
 -- the cells
 have hfill:∀ C:Array Value,C.size = n * k → ∃ C',Instr.fill (fun i => some (i * k,k)) C (parts.toList.map fun p => (p.1,σ p.2)) = some C' ∧ LRel M L w ((xs.map ρ).flatMap PV.cells) C'.toList:=by
  intro C hC
  have hseq:=Qff hk0 (xs.map ρ) 0 [] (by simp) hall'
  simp only [List.nil_append] at hseq
  refine JB hseq ?_ hl hps
  have:=LRel.tops (M:=M) (L:=L) (w:=w) C.toList
  rw [Array.length_toList,hC,hn] at this
  simpa using this
 have hm:(parts.map fun x => (x.1,σ x.2)).toList = parts.toList.map fun x => (x.1,σ x.2):=by simp
 have hrun:∃ C',LRel M L w ((xs.map ρ).flatMap PV.cells) C'.toList ∧ (execOp σ o).run P w = .ok (.value (.slice (some ⟨w.heap.size,0,none⟩) n n)) { w with heap:=w.heap.push (.cells C' el) }:=by
  by_cases h0:n * k = 0
  ·obtain ⟨C',k1,k2⟩:=hfill ((Array.range (n * k)).map (#[][· % 0]!)) (by simp)
   refine ⟨C',k2,?_⟩
   have hnot:¬ (n * k > 2 ^ 24):=by omega
   simp only [execOp,ho,Sem.run_bind,Instr.buildSlice,run_underlying hu,Result.andThen_ok,QB hk,Sem.run_ite,if_neg hnot,if_pos h0,Sem.run_pure,hm]
   simp only [List.size_toArray,List.length_nil] at k1 ⊢
   rw [k1]
   simp [newRow]
   try rfl
  ·obtain ⟨C',k1,k2⟩:=hfill ((Array.range (n * k)).map (zv.cells[· % zv.cells.size]!)) (by simp)
   refine ⟨C',k2,?_⟩
   have hnot:¬ (n * k > 2 ^ 24):=by omega
   simp only [execOp,ho,Sem.run_bind,Instr.buildSlice,run_underlying hu,Result.andThen_ok,QB hk,Sem.run_ite,if_neg hnot,if_neg h0,Sem.run_pure,hm,VY hzv]
   rw [k1]
   simp [newRow]
   try rfl
 obtain ⟨C',hr,hrun⟩:=hrun
 have hlen:(xs.map ρ).length = n:=by simp [hn]
 have hsz:C'.size = n * k:=by
  have h1:=hr.length
  rw [QM hall',hlen] at h1
  simpa using h1.symm
 have hr':LRel M L w ((xs.map ρ).flatMap PV.cells) (C'.toList.take ((xs.map ρ).length * k)):=by
  rw [List.take_of_length_le (by simp [hsz,hn])];exact hr
 cases own with
 | true =>
  simp only [if_true,Option.some.injEq,Prod.mk.injEq] at h
  obtain ⟨rfl,rfl⟩:=h
  obtain ⟨E,S',hv⟩:=YM S hall' hr' (w':={ w with heap:=w.heap.push (.cells C' el) }) ⟨rfl,rfl,rfl,(by first|exact Nat.le_refl _|exact Nat.le_succ _|simp)⟩ rfl n (by omega) (by omega) 0
  rw [hlen] at hv
  rw [← hn]
  exact ⟨_,_,_,.inl hrun,E,S',hv⟩
 | false =>
  simp only [Bool.false_eq_true,if_false,Option.some.injEq,Prod.mk.injEq] at h
  obtain ⟨rfl,rfl⟩:=h
  have e:(xs.map fun x => view M (ρ x)) = (xs.map ρ).map (view M):=by simp
  rw [e]
  have hlen':((xs.map ρ).map (view M)).length = n:=by simp [hn]
  obtain ⟨E,S',hv⟩:=QgF S (Qb9 (M:=M) hall') (by
   have:=QhH S hr'
   rw [List.length_map];exact this) (w':={ w with heap:=w.heap.push (.cells C' el) }) ⟨rfl,rfl,rfl,(by first|exact Nat.le_refl _|exact Nat.le_succ _|simp)⟩ rfl n (by omega)
  rw [hlen'] at hv
  exact ⟨_,_,_,.inl hrun,E,S',hv⟩
theorem g_box (S:Sim R M L w) (H:Fit M L w ρ σ) {o:Oper} {own:Bool} {t:TypeId} {k:Nat} {x:CX} {x':Operand} (ho:o.op = .box t x') (hx:okX x x' = true)
  {v:PV} {M':List Blk} (h:res M ρ (.box own k x) = some (v,M')):Good R P (execOp σ o) M L w v M':=by
 have k1:=H x x' hx
 simp only [res] at h
 split at h
 case isFalse => cases h
 rename_i hc
 obtain ⟨hk,hk0⟩:=hc
 have hcs:=k1.cells (by intro e;rw [e] at hk;simp at hk;omega)
 have hrun:(execOp σ o).run P w = .ok (.value (.pointer (some ⟨w.heap.size,0,none⟩))) { w with heap:=w.heap.push (.cells (σ x').cells t) }:=by
  simp [execOp,ho,Instr.box,newVar,newRow]
  try rfl
 have hall:∀ y ∈ [ρ x],y.cells.length = k:=by simpa using hk
 cases own with
 | true =>
  simp only [if_true,Option.some.injEq,Prod.mk.injEq] at h
  obtain ⟨rfl,rfl⟩:=h
  have hsz:(σ x').cells.size = k:=by have:=hcs.length;rw [hk] at this;simpa using this.symm
  obtain ⟨E,S',hv⟩:=YM S hall (C:=(σ x').cells) (by simp;rw [List.take_of_length_le (by simp [hsz])];exact hcs) (w':={ w with heap:=w.heap.push (.cells (σ x').cells t) }) ⟨rfl,rfl,rfl,(by first|exact Nat.le_refl _|exact Nat.le_succ _|simp)⟩ rfl 1 (by simp) (by omega) 0
  refine ⟨_,_,_,.inl hrun,E,S',?_⟩
  have:=VRel.op (M:=M ++ [.row true k 0 [ρ x]]) (L:=L.upd M.length (some (w.heap.size,0))) (w:={ w with heap:=w.heap.push (.cells (σ x').cells t) }) M.length 0 0 0 true k [ρ x] w.heap.size 0 (by simp) (by simp) (by simp [Loc.upd_self])
  simpa using this
 | false =>
  simp only [Bool.false_eq_true,if_false,Option.some.injEq,Prod.mk.injEq] at h
  obtain ⟨rfl,rfl⟩:=h
  obtain ⟨E,S'⟩:=grow S (.cells (σ x').cells t) (w':={ w with heap:=w.heap.push (.cells (σ x').cells t) }) ⟨rfl,rfl,rfl,(by first|exact Nat.le_refl _|exact Nat.le_succ _|simp)⟩ rfl
  refine ⟨_,_,_,.inl hrun,E,S',?_⟩
  have hvc:=(Vv S k1).cells (M:=M) (by intro e;have:=QbQ (M:=M) (p:=ρ x);rw [e,hk] at this;simp at this;omega)
  exact .fp _ w.heap.size 0 (σ x').cells.toList (LRel.evo E hvc) (by simp) (ZV S) fun m u hu => by rw [Nat.zero_add];exact Qcn rfl (by simpa using hu)
theorem QkX (S:Sim R M L w) {o:Oper} {t:TypeId} (ho:o.op = .makeMap t none)
  {v:PV} {M':List Blk} (h:res M ρ .mkmap = some (v,M')):Good R P (execOp σ o) M L w v M':=by
 simp only [res,Option.some.injEq,Prod.mk.injEq] at h
 obtain ⟨rfl,rfl⟩:=h
 have hrun:(execOp σ o).run P w = .ok (.value (.map (some w.heap.size))) { w with heap:=w.heap.push (.map #[] 0) }:=by
  simp [execOp,ho,Instr.makeMap]
  try rfl
 obtain ⟨E,S'⟩:=push S (.map []) (some (.map #[] 0)) (w':={ w with heap:=w.heap.push (.map #[] 0) }) ⟨rfl,rfl,rfl,(by first|exact Nat.le_refl _|exact Nat.le_succ _|simp)⟩ rfl (by
  rintro _ _ rfl rfl E
  exact ⟨w.heap.size,0,#[],0,by simp [Loc.upd_self],by simp,rfl,by simp⟩)
 exact ⟨_,_,_,.inl hrun,E,S',.om M.length [] w.heap.size 0 (by simp) (by simp [Loc.upd_self])⟩
end
end Go.Nac
namespace Go.Nac
variable [Env]
section
variable {R:CCode → Code → Prop} {P:Program} {M:List Blk} {L:Loc} {w w':World} {ρ:CX → PV} {σ:Operand → Value}
theorem Zy {k:Nat} {e:PV} (he:e.cells.length = k) (hk:0 < k):∀ (l i:Nat),i < l * k → ((List.replicate l e).flatMap PV.cells)[i]? = e.cells[i % k]?
 | 0,i,h => by omega
 | l + 1,i,h => by
  rw [List.replicate_succ,List.flatMap_cons]
  rw [Nat.add_mul,Nat.one_mul] at h
  rcases Nat.lt_or_ge i k with hi|hi
  ·rw [List.getElem?_append_left (by omega),Nat.mod_eq_of_lt hi]
  ·rw [List.getElem?_append_right (by omega),he,Zy he hk l (i - k) (by omega)]
   congr 1
   rw [Nat.mod_eq_sub_mod hi]
theorem Qop (S:Sim R M L w) (H:Fit M L w ρ σ) {o:Oper} {k bytes:Nat} {g:Option Nat} {z:List Value} {t el:TypeId} {len cap:CX} {len' cap':Operand} (ho:o.op = .makeSlice t len' cap') (h1:okX len len' = true) (h2:okX cap cap' = true)
  (hu:P.underlying t = some (.slice el)) (hk:Qu P el = some k) (hby:(P.info? el).map (·.bytes) = some bytes) (hz:okZ P el g z = true)
  {v:PV} {M':List Blk} (h:res M ρ (.mksl k g z bytes len cap) = some (v,M')):Good R P (execOp σ o) M L w v M':=by
 have k1:=H len len' h1;have k2:=H cap cap' h2
 obtain ⟨zv,hzv,hz2,hz3,hz4,hz5⟩:=Vy hz
 simp only [res] at h
 split at h
 ·rename_i l c e1 e2
  rw [e1] at k1;rw [e2] at k2
  have c1:=k1.s_inv;have c2:=k2.s_inv
  split at h
  case isFalse => cases h
  rename_i hc
  obtain ⟨h0,rfl,hle,hbl,hzl,hk0⟩:=hc
  cases hm:mkPV g (z.map .s) with
  | none => rw [hm] at h;cases h
  | some e =>
   rw [hm] at h
   simp only [Option.map_some,Option.some.injEq,Prod.mk.injEq] at h
   obtain ⟨rfl,rfl⟩:=h
   have hec:e.cells = z.map .s:=YE hm (by simp)
   have hel:e.cells.length = k:=by rw [hec];simpa using hzl
   have hw:IntKind.i64.wrap l = l:=IntWalk.i64_in l ⟨by omega,by omega⟩
   have hzs:zv.cells.size = k:=by have:=congrArg List.length hz2;simpa [hzl] using this
   have hinfo:∃ i,P.info? el = some i ∧ i.bytes = bytes:=by
    cases hi:P.info? el with
    | none => rw [hi] at hby;cases hby
    | some i => rw [hi] at hby;exact ⟨i,rfl,by simpa using hby⟩
   obtain ⟨i,hi,hib⟩:=hinfo
   obtain ⟨n,rfl⟩:=Int.eq_ofNat_of_zero_le h0
   have hmul:(bytes:Int) * (n:Int) ≤ 2 ^ 48:=by
    have:bytes * n ≤ 2 ^ 20 * 2 ^ 20:=Nat.mul_le_mul hbl (by omega)
    have h3:((bytes * n:Nat):Int) ≤ ((2 ^ 20 * 2 ^ 20:Nat):Int):=by exact_mod_cast this
    simp only [Int.natCast_mul] at h3
    omega
   have hrun:∃ C:Array Value,C.size = n * k ∧ (∀ j,j < n * k → C[j]? = z[j % k]?) ∧ (execOp σ o).run P w = .ok (.value (.slice (some ⟨w.heap.size,0,none⟩) n n)) { w with heap:=w.heap.push (.cells C el) }:=by
    have hnot:¬ ((n:Int) < 0):=by omega
    have hnot3:¬ (281474976710656 < (bytes:Int) * n):=by omega
    by_cases hn0:n * k = 0
    ·refine ⟨#[],by simp [hn0],fun j hj => by omega,?_⟩
     simp [execOp,ho,c1,c2,Instr.makeSlice,run_underlying hu,asInt,asIntOf,typeInfo,hi,hib,hw,hnot,hnot3,QB hk,hn0,newRow]
     rw [show (Array.map (fun _ => (default:Value)) (Array.range 0)) = #[] from by apply Array.ext';simp]
     try rfl
    ·have hz':=VY (P:=P) (w:=w) hzv
     refine ⟨(Array.range (n * k)).map fun i => zv.cells[i % zv.cells.size]!,by simp,fun j hj => ?_,?_⟩
     ·have hjm:j % k < zv.cells.size:=by rw [hzs];exact Nat.mod_lt _ hk0
      have hjs:j % zv.cells.size < zv.cells.size:=by rw [hzs];rw [hzs] at hjm;exact hjm
      have hr:(Array.range (n * k))[j]? = some j:=by simp [hj]
      rw [Array.getElem?_map,hr,Option.map_some,getElem!_pos zv.cells (j % zv.cells.size) hjs]
      rw [← hz2,Array.getElem?_toList,Array.getElem?_eq_getElem hjm]
      congr 2
      rw [hzs]
     ·simp [execOp,ho,c1,c2,Instr.makeSlice,run_underlying hu,asInt,asIntOf,typeInfo,hi,hib,hw,hnot,hnot3,QB hk,hn0,newRow,hz']
      try rfl
   obtain ⟨C,hCs,hC,hrun⟩:=hrun
   have hr:LRel M L w ((List.replicate n e).flatMap PV.cells) (C.toList.take ((List.replicate n e).length * k)):=by
    rw [List.take_of_length_le (by simp [hCs])]
    refine LRel.all ?_ fun j x u hx hu => ?_
    ·rw [QM (k:=k) (by intro x hx;rw [List.eq_of_mem_replicate hx];exact hel)];simp [hCs]
    ·have hj:j < n * k:=by
      have:=(List.getElem?_eq_some_iff.1 hu).1
      simpa [hCs] using this
     rw [Zy hel hk0 n j hj,hec] at hx
     rw [Array.getElem?_toList,hC j hj] at hu
     rw [List.getElem?_map,hu] at hx
     simp only [Option.map_some,Option.some.injEq] at hx
     subst hx
     exact .s u (hz3 u (List.mem_of_getElem? hu))
   obtain ⟨E,S',hv⟩:=YM S (k:=k) (xs:=List.replicate n e) (by intro x hx;rw [List.eq_of_mem_replicate hx];exact hel) hr (w':={ w with heap:=w.heap.push (.cells C el) }) ⟨rfl,rfl,rfl,(by first|exact Nat.le_refl _|exact Nat.le_succ _|simp)⟩ rfl n (by simp) (by simp [hCs]) 0
   refine ⟨_,_,_,.inl hrun,E,S',?_⟩
   simpa using hv
 ·cases h
def QgN (sk:SK) (d:TypeDesc):Prop:=match sk with|.int => ∃ k,d = .int k|.str => d = .string|.bool => d = .bool|.flt => False
theorem Qa4 {d:TypeDesc} {sk:SK} {q:Value} (hd:QgN sk d) (hq:keyOk sk q = true) :
  ∀ (l:List MapEntry) (i:Nat),Q7 q (l.map fun e => (e.key,e.val)) = true →
  ∃ r,Instr.findNow d q l i = some r ∧ r.map (·.2) = find q (l.map fun e => (e.key,e.val)) ∧
   (∀ j v,r = some (j,v) → i ≤ j ∧ ∃ e,l[j - i]? = some e ∧ Ve q e.key = true ∧ ∀ u,upd q u (l.map fun e => (e.key,e.val)) = (l.map fun e => (e.key,e.val)).set (j - i) (q,u)) ∧
   (r = none → ∀ u,upd q u (l.map fun e => (e.key,e.val)) = (l.map fun e => (e.key,e.val)) ++ [(q,u)])
 | [],i,_ => ⟨none,rfl,rfl,by simp,fun _ u => rfl⟩
 | e :: l,i,h => by
  simp only [List.map_cons,Q7,List.all_cons,Bool.and_eq_true] at h
  obtain ⟨h1,h2⟩:=h
  obtain ⟨b,hb⟩:=Option.isSome_iff_exists.1 h1
  have hs:Instr.sameNow d q e.key = some b:=by
   cases sk with
   | flt => exact hd.elim
   | int =>
    obtain ⟨k,rfl⟩:=hd
    cases q <;> simp [keyOk] at hq
    cases hk:e.key <;> rw [hk] at hb <;> simp [VK] at hb
    simp [Instr.sameNow,hb]
   | str =>
    cases hd
    cases q <;> simp [keyOk] at hq
    cases hk:e.key <;> rw [hk] at hb <;> simp [VK] at hb
    simp [Instr.sameNow,hb]
   | bool =>
    cases hd
    cases q <;> simp [keyOk] at hq
    cases hk:e.key <;> rw [hk] at hb <;> simp [VK] at hb
    simp [Instr.sameNow,hb]
  have hsk:Ve q e.key = b:=by simp [Ve,hb]
  cases b with
  | true =>
   refine ⟨some (i,e.val),by simp [Instr.findNow,hs],by simp [find,hsk],?_,by simp⟩
   intro j v hj
   simp only [Option.some.injEq,Prod.mk.injEq] at hj
   obtain ⟨rfl,rfl⟩:=hj
   exact ⟨Nat.le_refl _,e,by simp,hsk,fun u => by simp [upd,hsk]⟩
  | false =>
   obtain ⟨r,g1,g2,g3,g4⟩:=Qa4 hd hq l (i + 1) h2
   refine ⟨r,by simp [Instr.findNow,hs,g1],by simp [find,hsk,g2],?_,?_⟩
   ·intro j v hj
    obtain ⟨hle,e',h3,h4,h5⟩:=g3 j v hj
    have hji:j - i = (j - (i + 1)) + 1:=by omega
    refine ⟨by omega,e',by rw [hji];simpa using h3,h4,fun u => ?_⟩
    simp [upd,hsk,hji,h5 u]
   ·intro hr u
    simp [upd,hsk,g4 hr u]
def okKey (P:Program) (t:TypeId) (sk:SK):Bool :=
 match sk,P.underlying t with
 | .int,some (.int _) => true
 | .str,some .string => true
 | .bool,some .bool => true
 | _,_ => false
theorem JF {t:TypeId} {sk:SK} (h:okKey P t sk = true):∃ d,P.underlying t = some d ∧ QgN sk d:=by
 unfold okKey at h
 cases hu:P.underlying t with
 | none => rw [hu] at h;cases sk <;> cases h
 | some d =>
  rw [hu] at h
  cases sk <;> cases d <;> first|(cases h;done)|exact ⟨_,rfl,rfl⟩|exact ⟨_,rfl,_,rfl⟩
theorem QcR {t:TypeId} {sk:SK} {q:Value} {b:Bool} (n:Nat) (h:okKey P t sk = true):(Instr.checkKey b (n + 1) t q).run P w = .ok () w:=by
 obtain ⟨d,hu,hd⟩:=JF h
 cases sk with
 | flt => exact hd.elim
 | int => obtain ⟨k,rfl⟩:=hd;simp [Instr.checkKey,run_underlying hu]
 | str => cases hd;simp [Instr.checkKey,run_underlying hu]
 | bool => cases hd;simp [Instr.checkKey,run_underlying hu]
theorem Z3 {t:TypeId} {sk:SK} {q:Value} {b:Bool} (h:okKey P t sk = true):(Instr.checkKey b 10000 t q).run P w = .ok () w:=QcR 9999 h
theorem QnB (S:Sim R M L w) (H:Fit M L w ρ σ) {o:Oper} {sk:SK} {z:Value} {ok:Bool} {t kt et:TypeId} {m key:CX} {m' key':Operand} (ho:o.op = .lookup t m' key' ok) (h1:okX m m' = true) (h2:okX key key' = true)
  (hu:P.underlying t = some (.map kt et)) (hk:okKey P kt sk = true) (hz:okZ P et none [z] = true)
  {v:PV} {M':List Blk} (h:res M ρ (.look sk z ok m key) = some (v,M')):Good R P (execOp σ o) M L w v M':=by
 have k1:=H m m' h1;have k2:=H key key' h2
 obtain ⟨zv,hzv,hz2,hz3,_,_⟩:=Vy hz
 have hzz:zv = z ∧ aggV z = false:=by
  have:=hz3 z (by simp)
  unfold okZ at hz
  rw [hzv] at hz
  simp only at hz
  obtain ⟨h,_⟩:=YL hz
  simp at h
  exact ⟨h.symm,this⟩
 obtain ⟨rfl,hzagg⟩:=hzz
 simp only [res] at h
 split at h
 ·rename_i i q e1 e2
  rw [e1] at k1;rw [e2] at k2
  have c2:=k2.s_inv
  split at h
  ·rename_i es hi
   split at h
   case isFalse => cases h
   rename_i hc
   obtain ⟨hq,hkl⟩:=hc
   generalize hcm:σ m' = c at k1
   cases k1 with
   | om' _ it' c' hi' => rw [hi] at hi';cases hi'
   | om _ es' b off hi' hL =>
    rw [hi] at hi';cases hi'
    obtain ⟨b',o',ents,clock,g1,g2,g3,g4⟩:=S.mem i _ hi
    rw [hL] at g1;cases g1
    obtain ⟨d,hd,hdk⟩:=JF hk
    obtain ⟨r,f1,f2,_,_⟩:=Qa4 hdk hq ents.toList 0 (by rw [g3];exact hkl)
    rw [g3] at f2
    have hfk:(Instr.findKey kt q ents.toList).run P w = .ok r w:=by
     simp [Instr.findKey,run_underlying hd,f1]
    have hlook:(Instr.lookup t (.map (some b)) q ok).run P w = .ok (if ok then .tuple #[((find q es).getD zv),.bool (find q es).isSome] else (find q es).getD zv) w:=by
     cases r with
     | none =>
      have hf:find q es = none:=by simpa using f2.symm
      simp [Instr.lookup,run_underlying hu,getObj,Sem.run,g2,Z3 hk,hfk,VY hzv,hf]
      try (cases ok <;> rfl)
     | some p =>
      have hf:find q es = some p.2:=by simpa using f2.symm
      simp [Instr.lookup,run_underlying hu,getObj,Sem.run,g2,Z3 hk,hfk,hf]
      try (cases ok <;> rfl)
    have hagg:aggV ((find q es).getD zv) = false:=by
     have:∀ (l:List (Value × Value)),(∀ e ∈ l,aggV e.2 = false) → aggV ((find q l).getD zv) = false:=by
      intro l hl
      induction l with
      | nil => exact hzagg
      | cons e l ih =>
       unfold find
       split
       ·exact hl e (by simp)
       ·exact ih fun x hx => hl x (by simp [hx])
     exact this es g4.1
    have hvv:v = (if ok then .tup [.s ((find q es).getD zv),.B (find q es).isSome] else .s ((find q es).getD zv)) ∧ M' = M:=by
     cases hf:find q es with
     | none => rw [hf] at h;simp only [Option.some.injEq,Prod.mk.injEq] at h;exact ⟨h.1.symm.trans (by cases ok <;> rfl),h.2.symm⟩
     | some u => rw [hf] at h;simp only [Option.some.injEq,Prod.mk.injEq] at h;exact ⟨h.1.symm.trans (by cases ok <;> rfl),h.2.symm⟩
    obtain ⟨rfl,rfl⟩:=hvv
    refine Qg S (by simp only [execOp,ho,hcm,c2,Sem.run_bind,hlook];rfl) ?_
    cases ok
    ·exact .s _ hagg
    ·exact .tup _ _ (.cons _ _ _ _ (.s _ hagg) (.cons _ _ _ _ (.s _ rfl) .nil))
  ·cases h
 ·cases h
end
end Go.Nac
namespace Go.Nac
variable [Env]
section
variable {R:CCode → Code → Prop} {P:Program} {M:List Blk} {L:Loc} {w w':World} {ρ:CX → PV} {σ:Operand → Value}
theorem Y7 (S:Sim R M L w) {i k ver ver' b o o':Nat} {xs xs':List PV} {c c':Array Value} {el:TypeId} (hi:M[i]? = some (.row true k ver xs)) (hL:L i = some (b,o)) (hb:RowAt w b c el)
  (hw:Same w w') (hnew:RowAt w' b c' el) (hoth:∀ b',b' ≠ b → w'.heap[b']? = w.heap[b']?) (hsz:w'.heap.size = w.heap.size) (hcs:c'.size = c.size) (hver:ver < ver' ∨ ver = ver' ∧ o' = o ∧ xs'.length = xs.length)
  (hk:∀ x ∈ xs',x.cells.length = k) {vs:List Value} (hr:LRel M L w (xs'.flatMap PV.cells) vs) (hc:∀ m v,vs[m]? = some v → c'[o' + m]? = some v) :
  Evo M L w (M.set i (.row true k ver' xs')) (L.upd i (some (b,o'))) w' ∧ Sim R (M.set i (.row true k ver' xs')) (L.upd i (some (b,o'))) w':=by
 have hbl:b < w.heap.size:=hb.lt
 refine change S hi _ (fun j hj => Loc.upd_ne _ _ hj) hw (.inl rfl) (by omega) (fun b' hb' hne => ?_) (fun p hp => ?_) ?_ fun E => ?_
 ·exact hoth b' fun e => hne (b,o) rfl hL e.symm
 ·rw [Loc.upd_self] at hp
  cases hp
  exact .inl ⟨(b,o),hL,rfl⟩
 ·refine ⟨by omega,fun e => ?_⟩
  rcases hver with h|⟨_,ho,hl⟩
  ·omega
  ·refine ⟨rfl,hl,by rw [Loc.upd_self,ho,hL],fun bb oo cc ell h1 h2 => ?_⟩
   rw [hL] at h1;cases h1
   obtain ⟨rfl,rfl⟩:=hb.uniq h2
   exact ⟨c',hnew,hcs⟩
 ·refine ⟨hk,fun bb oo h1 => ?_,fun h1 => by rw [Loc.upd_self] at h1;cases h1⟩
  rw [Loc.upd_self] at h1;cases h1
  exact ⟨c',el,vs,hnew,LRel.evo E hr,hc⟩
theorem Zx (cs:List Value) (off:Nat) (vs:List Value) (hle:off + vs.length ≤ cs.length) (m:Nat) :
  (Q4 cs off vs)[m]? = if m < off then cs[m]? else if m < off + vs.length then vs[m - off]? else cs[m]?:=by
 unfold Q4
 have h1:(cs.take off).length = off:=by simp;omega
 rw [List.append_assoc,List.getElem?_append]
 rw [h1]
 split
 ·rw [List.getElem?_take,if_pos ‹_›]
 ·rw [List.getElem?_append]
  split
  ·rw [if_pos (by omega)]
  ·rw [if_neg (by omega),List.getElem?_drop]
   congr 1;omega
theorem V9 {cs:List PV} {off:Nat} {vs:List PV} (h:off + vs.length ≤ cs.length):(setRange cs off vs).length = cs.length:=by
 unfold Nac.setRange;simp;omega
theorem Yg (P:Program) (g o:Nat) (t:TypeId) (z:Nat × Nat):∀ (vs:List Value) (i:Nat) (cur:Array Value) (w:World),w.heap[g]? = some (.cells cur t z) → Unf cur.size z → o + i + vs.length ≤ cur.size → (∀ v ∈ vs,v.oneCell' = true) →
  (storeCells ⟨g,o,none⟩ vs i).run P w = .ok () (w.setRow g (cur.toList.take (o + i) ++ vs ++ cur.toList.drop (o + i + vs.length)).toArray)
 | [],i,cur,w,hg,_,_,_ => by
  simp only [storeCells,List.append_nil,List.length_nil,Nat.add_zero,List.take_append_drop,Array.toArray_toList]
  rw [setRow_self w g cur t z hg]
  rfl
 | v :: rest,i,cur,w,hg,hz,hl,h1 => by
  have hi:o + i < cur.size:=by simp at hl;omega
  have hadd:(⟨g,o,none⟩:Addr).add i = ⟨g,o + i,none⟩:=by unfold Addr.add;split <;> simp_all
  have hcell:w.cell? ⟨g,o + i,none⟩ = some cur[o + i]:=by simp [World.cell?,hg,hi]
  have hfro:w.frozen? ⟨g,o + i,none⟩ = false:=RowAt.unfrozen ⟨z,hg,hz⟩ hi
  have hst:(store ((⟨g,o,none⟩:Addr).add i) v).run P w = .ok () (w.setRow g (cur.setIfInBounds (o + i) v)):=by
   rw [hadd,run_store P w _ v _ (h1 v (by simp)),hcell]
   simp [hfro,setCell_eq_setRow w g (o + i) cur t z v hg]
  have ih:=Yg P g o t z rest (i + 1) (cur.setIfInBounds (o + i) v) (w.setRow g (cur.setIfInBounds (o + i) v)) (setRow_heap w g cur _ t _ hg) (by simpa using hz) (by simp at hl ⊢;omega) (fun x hx => h1 x (by simp [hx]))
  simp only [storeCells,Sem.run_bind,hst,Result.andThen_ok,ih,setRow_setRow]
  congr 3
  have e:=list_seg_step cur.toList (o + i) v rest (by simp at hl ⊢;omega)
  simpa [Array.toList_setIfInBounds,Nat.add_assoc] using e
theorem Qai (S:Sim R M L w) {i k ver b o p:Nat} {xs xs':List PV} {us:List Value} (hi:M[i]? = some (.row true k ver xs)) (hL:L i = some (b,o))
  (hlen:xs'.length = xs.length) (hk:∀ x ∈ xs',x.cells.length = k) (hone:∀ u ∈ us,u.oneCell' = true) (hne:us ≠ []) (hp:p + us.length ≤ xs.length * k)
  {ys:List PV} (hy:LRel M L w ys us) (hf:xs'.flatMap PV.cells = setRange (xs.flatMap PV.cells) p ys) :
  ∃ w',(storeCells ⟨b,o + p,none⟩ us).run P w = .ok () w' ∧ Evo M L w (M.set i (.row true k ver xs')) (L.upd i (some (b,o))) w' ∧ Sim R (M.set i (.row true k ver xs')) (L.upd i (some (b,o))) w':=by
 obtain ⟨hk0,c,el,vs,g1,g2,g3,g4⟩:=Vo S hi hL
 have hvl:vs.length = xs.length * k:=by rw [← g2.length];exact QM hk0
 have hpos:0 < us.length:=List.length_pos_iff.2 hne
 have hsz:o + xs.length * k ≤ c.size:=by
  have h1:vs.length - 1 < vs.length:=by omega
  have:=g3 (vs.length - 1) _ (List.getElem?_eq_getElem h1)
  have:=(Array.getElem?_eq_some_iff.1 this).1
  omega
 obtain ⟨z,gz,hz⟩:=g1
 have g1:RowAt w b c el:=⟨z,gz,hz⟩
 have hst:=Yg P b (o + p) el z us 0 c w gz hz (by omega) hone
 simp only [Nat.add_zero] at hst
 refine ⟨_,hst,?_⟩
 refine Y7 S hi hL g1 (c':=(c.toList.take (o + p) ++ us ++ c.toList.drop (o + p + us.length)).toArray) ⟨rfl,rfl,rfl,(by first|exact Nat.le_refl _|exact Nat.le_succ _|simp)⟩ ⟨z,setRow_heap _ _ _ _ _ _ gz,hz.size (by simp;omega)⟩ (fun b' hb' => setRow_other _ _ _ _ hb') (setRow_size _ _ _) ?_ (.inr ⟨rfl,rfl,hlen⟩) hk (vs:=Q4 vs p us) ?_ ?_
 ·simp;omega
 ·rw [hf];exact g2.setRange hy p
 ·intro m v hm
  rw [Zx vs p us (by omega)] at hm
  have e:((c.toList.take (o + p) ++ us ++ c.toList.drop (o + p + us.length)).toArray)[o + m]? = (Q4 c.toList (o + p) us)[o + m]?:=by simp [Q4]
  rw [e,Zx _ _ _ (by simp;omega)]
  split at hm
  ·rw [if_pos (by omega)];simpa using g3 m v hm
  ·split at hm
   ·rw [if_neg (by omega),if_pos (by omega)]
    rw [show o + m - (o + p) = m - p from by omega];exact hm
   ·rw [if_neg (by omega),if_neg (by omega)];simpa using g3 m v hm
theorem Qdr {k e j:Nat} {xs:List PV} {x y:PV} {vs:List PV} (hk:∀ x ∈ xs,x.cells.length = k) (hx:xs[e]? = some x) (hle:j + vs.length ≤ k) (hy:y.cells = setRange x.cells j vs) :
  (xs.set e y).flatMap PV.cells = setRange (xs.flatMap PV.cells) (e * k + j) vs:=by
 induction xs generalizing e with
 | nil => simp at hx
 | cons z xs ih =>
  have hz:z.cells.length = k:=hk z (by simp)
  cases e with
  | zero =>
   simp only [List.getElem?_cons_zero,Option.some.injEq] at hx
   subst hx
   simp only [List.set_cons_zero,List.flatMap_cons,hy,Nac.setRange,Nat.zero_mul,Nat.zero_add]
   rw [List.take_append_of_le_length (by omega),List.drop_append_of_le_length (by omega)]
   simp
  | succ e =>
   simp only [List.getElem?_cons_succ] at hx
   simp only [List.set_cons_succ,List.flatMap_cons]
   rw [ih (fun x hx => hk x (by simp [hx])) hx]
   unfold Nac.setRange
   have e1:(e + 1) * k + j = z.cells.length + (e * k + j):=by rw [Nat.add_mul,hz];omega
   rw [e1,List.take_length_add_append,Nat.add_assoc z.cells.length,List.drop_length_add_append]
   simp
theorem Qan {i ver e j:Nat} {vs:List PV} {M':List Blk} (h:Vd M i ver e j vs = some M'):∃ k xs x y,M[i]? = some (.row true k ver xs) ∧ xs[e]? = some x ∧ j + vs.length ≤ x.cells.length ∧
  vs.all oneB = true ∧ M' = M.set i (.row true k ver (xs.set e y)) ∧ (vs ≠ [] → y.cells = setRange x.cells j vs):=by
 unfold Vd at h
 split at h
 ·rename_i k v xs hi
  split at h
  ·rename_i hv;subst hv
   split at h
   ·rename_i x hx
    split at h
    ·rename_i hc
     obtain ⟨hle,hone⟩:=hc
     split at h
     ·rename_i cs
      obtain rfl:=Option.some.inj h
      exact ⟨k,xs,_,_,hi,hx,hle,hone,rfl,fun _ => rfl⟩
     ·split at h
      ·rename_i y
       split at h
       ·cases h
       ·rename_i hya
        obtain rfl:=Option.some.inj h
        refine ⟨k,xs,_,_,hi,hx,hle,hone,rfl,fun _ => ?_⟩
        have hy1:y.cells = [y]:=by
         simp only [List.all_cons,List.all_nil,Bool.and_true] at hone
         cases y <;> first|rfl|(simp [oneB] at hone)
        rename_i hxa
        have hx1:x.cells.length ≤ 1:=by cases x <;> first|(simp [PV.cells];done)|(rename_i cs0;exact (cs0 _ rfl).elim)
        simp only [List.length_cons,List.length_nil] at hle
        have hj:j = 0:=by omega
        subst hj
        rw [hy1]
        unfold Nac.setRange
        rw [List.drop_eq_nil_of_le (by simpa using hx1)];simp
      ·cases h
    ·cases h
   ·cases h
  ·cases h
 ·cases h
theorem Qlu (S:Sim R M L w) (H:Fit M L w ρ σ) {o:Oper} {k:Nat} {t:TypeId} {a x:CX} {a' x':Operand} (ho:o.op = .store t a' x') (ha:okX a a' = true) (hx:okX x x' = true) (hk:Qu P t = some k)
  {v:PV} {M':List Blk} (h:res M ρ (.store k a x) = some (v,M')):Good R P (execOp σ o) M L w v M':=by
 have k1:=H a a' ha;have k2:=H x x' hx
 simp only [res] at h
 split at h
 ·rename_i i ver e j e1
  rw [e1] at k1
  split at h
  case isFalse => cases h
  rename_i hc
  obtain ⟨hlen,hk0⟩:=hc
  cases hp:Vd M i ver e j (ρ x).cells with
  | none => rw [hp] at h;cases h
  | some M2 =>
   rw [hp] at h
   simp only [Option.map_some,Option.some.injEq,Prod.mk.injEq] at h
   obtain ⟨rfl,rfl⟩:=h
   obtain ⟨k',xs,y0,y,hi,hy0,hle,hone,rfl,hyc⟩:=Qan hp
   obtain ⟨b,q,hL,he,hca⟩:=k1.op_live hi
   have hcs:=k2.cells (by intro h;rw [h] at hlen;simp at hlen;omega)
   have hne:(ρ x).cells ≠ []:=by intro h;rw [h] at hlen;simp at hlen;omega
   have hyc:=hyc hne
   obtain ⟨hk0',c,el,vs,g1,g2,g3,g4⟩:=Vo S hi hL
   have hy0k:=hk0' y0 (List.mem_of_getElem? hy0)
   have hcl:=hcs.length
   have hf:=Qdr (y:=y) hk0' hy0 (by omega) hyc
   have hsize:(σ x').cells.size = k:=by rw [← hlen,hcl];simp
   obtain ⟨w',h1,E,S'⟩:=Qai S hi hL (xs':=xs.set e y) (by simp) (fun z hz => by
     rcases List.mem_or_eq_of_mem_set hz with hz|rfl
     ·exact hk0' z hz
     ·rw [hyc,V9 hle];exact hy0k) (us:=(σ x').cells.toList) (hcs.one hone) (fun h => by have:=congrArg List.length h;simp [hsize] at this;omega) (p:=e * k' + j) (by
     have h2:(e + 1) * k' ≤ xs.length * k':=Nat.mul_le_mul_right _ he
     rw [Nat.add_mul] at h2
     simp only [Array.length_toList,hsize]
     omega) (P:=P) hcs hf
   refine ⟨undef,w',_,.inr ⟨?_,rfl⟩,E,S',.s _ rfl⟩
   have hnot:¬ ((σ x').cells.size ≠ k):=by simp [hsize]
   rw [show q + e * k' + j = q + (e * k' + j) from by omega] at hca
   simp only [execOp,ho,hca,Instr.storeAt,Instr.sureAddr,storeVar,Sem.run_bind,Sem.run_pure,Result.andThen_ok,QB hk,Sem.run_ite,if_neg hnot,h1]
 ·cases h
theorem Qcm {a b:ByteArray}:(a == b) = true ↔ a = b:=by
 obtain ⟨x⟩:=a
 obtain ⟨y⟩:=b
 show (x == y) = true ↔ _
 simp
theorem Qf1 {sk:SK} {q k:Value} (hq:keyOk sk q = true) (h:Ve q k = true):k = q:=by
 unfold Ve at h
 cases q <;> cases k <;> simp [VK] at h <;> first
  | (subst h;rfl)
  | (obtain ⟨rfl,rfl⟩:=h;rfl)
  | (cases sk <;> simp [keyOk] at hq;done)
  | (rw [Qcm.1 h])
  | (split at h <;> simp at h;rename_i e;subst e;subst h;rfl)
theorem QcQ {sk:SK} {q:Value} (hq:keyOk sk q = true) (n:Nat):Instr.sameBits n q q = true:=by
 cases sk <;> cases q <;> simp [keyOk] at hq <;> simp [Instr.sameBits] <;> exact Qcm.2 rfl
theorem Qft {q u:Value} (hu:aggV u = false):∀ {es:List (Value × Value)},(∀ e ∈ es,aggV e.2 = false) → ∀ e ∈ upd q u es,aggV e.2 = false
 | [],_,e,he => by simp [upd] at he;subst he;exact hu
 | (a,v) :: r,h,e,he => by
  unfold upd at he
  split at he
  ·rcases List.mem_cons.1 he with rfl|he
   ·exact hu
   ·exact h e (by simp [he])
  ·rcases List.mem_cons.1 he with rfl|he
   ·exact h (a,v) (by simp)
   ·exact Qft hu (fun x hx => h x (by simp [hx])) e he
theorem Qb2 {l:List MapEntry} {j:Nat} {e:MapEntry} (he:l[j]? = some e) (f:MapEntry → MapEntry) (g:MapEntry → Value × Value):(l.modify j f).map g = (l.map g).set j (g (f e)):=by
 apply List.ext_getElem?
 intro i
 rw [List.getElem?_map,List.getElem?_modify,List.getElem?_set]
 by_cases hij:j = i
 ·subst hij
  have:j < l.length:=(List.getElem?_eq_some_iff.1 he).1
  have h2:=(List.getElem?_eq_some_iff.1 he).2
  simp [this,h2]
 ·simp [hij]
theorem Qin (S:Sim R M L w) (H:Fit M L w ρ σ) {o:Oper} {sk:SK} {t kt et:TypeId} {m key x:CX} {m' key' x':Operand} (ho:o.op = .mapUpdate t m' key' x' ∨ o.op = .insert t m' key' x') (h1:okX m m' = true) (h2:okX key key' = true) (h3:okX x x' = true)
  (hu:P.underlying t = some (.map kt et)) (hk:okKey P kt sk = true)
  {v:PV} {M':List Blk} (h:res M ρ (.mupd sk m key x) = some (v,M')):Good R P (execOp σ o) M L w v M':=by
 have k1:=H m m' h1;have k2:=H key key' h2;have k3:=H x x' h3
 simp only [res] at h
 split at h
 ·rename_i i q u e1 e2 e3
  rw [e1] at k1;rw [e2] at k2;rw [e3] at k3
  have c2:=k2.s_inv;have c3:=k3.s_inv
  have hua:aggV u = false:=by cases k3;assumption
  split at h
  ·rename_i es hi
   split at h
   case isFalse => cases h
   rename_i hc
   obtain ⟨hq,hkl⟩:=hc
   simp only [Option.some.injEq,Prod.mk.injEq] at h
   obtain ⟨rfl,rfl⟩:=h
   generalize hcm:σ m' = c at k1
   cases k1 with
   | om' _ it' c' hi' => rw [hi] at hi';cases hi'
   | om _ es' b off hi' hL =>
    rw [hi] at hi';cases hi'
    obtain ⟨b',o',ents,clock,g1,g2,g3,g4⟩:=S.mem i _ hi
    rw [hL] at g1;cases g1
    obtain ⟨d,hd,hdk⟩:=JF hk
    obtain ⟨r,f1,f2,f3,f4⟩:=Qa4 hdk hq ents.toList 0 (by rw [g3];exact hkl)
    rw [g3] at f3 f4
    have hfk:(Instr.findKey kt q ents.toList).run P w = .ok r w:=by
     simp [Instr.findKey,run_underlying hd,f1]
    have hbl:b < w.heap.size:=(Array.getElem?_eq_some_iff.1 g2).1
    have hupd:∃ ents' clock',(Instr.mapUpdate t (.map (some b)) q u).run P w = .ok () { w with heap:=w.heap.setIfInBounds b (.map ents' clock') } ∧ ents'.toList.map (fun e => (e.key,e.val)) = upd q u es ∧ V0 ents' clock':=by
     cases r with
     | none =>
      refine ⟨ents.push { key:=q,val:=u,born:=clock },clock + 1,?_,?_,V0.push g4.2 _ _⟩
      ·simp [Instr.mapUpdate,run_underlying hu,getObj,setObj,Sem.run,g2,Z3 hk,hfk]
      ·rw [f4 rfl u];simp [g3]
     | some p =>
      obtain ⟨j,pv⟩:=p
      obtain ⟨_,e,he,hs,hup⟩:=f3 j pv rfl
      simp only [Nat.sub_zero] at he hup
      have hej:ents[j]? = some e:=by simpa using he
      have hek:=Qf1 hq hs
      have hsb:Instr.sameBits 10000 e.key q = true:=by rw [hek];exact QcQ hq _
      have hkeep:(Instr.keyThatStays e.key q).run P w = .ok q w:=by simp [Instr.keyThatStays,hsb]
      refine ⟨ents.modify j fun e => { e with key:=q,val:=u },clock,?_,?_,V0.modify g4.2 _ _ fun _ => rfl⟩
      ·simp [Instr.mapUpdate,run_underlying hu,getObj,setObj,Sem.run,g2,Z3 hk,hfk,hej,hkeep]
      ·rw [hup u,Array.toList_modify,Qb2 he,g3]
    obtain ⟨ents',clock',hrun,hents,hborn⟩:=hupd
    obtain ⟨E,S'⟩:=change S hi (blk':=.map (upd q u es)) L (fun _ _ => rfl) (w':={ w with heap:=w.heap.setIfInBounds b (.map ents' clock') }) ⟨rfl,rfl,rfl,(by first|exact Nat.le_refl _|exact Nat.le_succ _|simp)⟩ (.inl rfl) (by simp) (fun b' hb' hne => by
      have:b ≠ b':=hne (b,off) rfl hL
      simp [Array.getElem?_setIfInBounds_ne this]) (fun p hp => .inl ⟨p,hp,rfl⟩) rfl (fun E => by
      refine ⟨b,off,ents',clock',hL,by simp [hbl],hents,Qft hua g4.1,hborn⟩)
    refine ⟨undef,_,L,.inr ⟨?_,rfl⟩,E,S',.s _ rfl⟩
    rcases ho with ho|ho <;> simp only [execOp,ho,hcm,c2,c3,Sem.run_bind,hrun,Result.andThen_ok,Sem.run_pure]
  ·cases h
 ·cases h
end
end Go.Nac
namespace Go.Nac
variable [Env]
section
variable {R:CCode → Code → Prop} {P:Program} {M:List Blk} {L:Loc} {w w':World} {ρ:CX → PV} {σ:Operand → Value}
theorem YP (S:Sim R M L w) {k:Nat} {p:PV} {c:Value} {ys:List PV} (hp:VRel M L w p c) (h:held M p = some ys) (hk:∀ y ∈ ys,y.cells.length = k) (hk0:k ≠ 0) :
  ∃ us,LRel M L w (ys.flatMap PV.cells) us ∧ (Builtin.lenOf c).run P w = .ok ys.length w ∧
   ∀ n w',n ≤ ys.length → w'.heap = w.heap → (Builtin.firstCells k n c).run P w' = .ok (us.take (n * k)).toArray w':=by
 have fin:∀ {B q n:Nat} {us:List Value} {cap len:Nat} {w':World},n * k ≤ us.length → w'.heap = w.heap → (∀ m v,us[m]? = some v → w.cell? ⟨B,q + m,none⟩ = some v) →
   (Builtin.firstCells k n (.slice (some ⟨B,q,none⟩) len cap)).run P w' = .ok (us.take (n * k)).toArray w':=by
  intro B q n us cap len w' hle hh hc
  refine run_firstCells_some (P:=P) w' k n ⟨B,q,none⟩ len cap (us.take (n * k)) (by simp;omega) fun j v hv => ?_
  rw [List.getElem?_take] at hv
  split at hv
  ·rw [Vw]
   have:=hc j v hv
   unfold World.cell? at *
   rw [hh];exact this
  ·cases hv
 unfold held at h
 split at h
 ·obtain rfl:=Option.some.inj h
  rename_i xs
  cases hp with
  | fs _ a n cap k' vs hn hcap hk' hr hm =>
   subst hn
   refine ⟨vs,hr,by simp [Builtin.lenOf],fun n w' hle hh => ?_⟩
   by_cases hne:xs = []
   ·subst hne
    have hn0:n = 0:=by simpa using hle
    subst hn0
    cases a with
    | none => simp [Builtin.firstCells]
    | some ad => simp [Builtin.firstCells,loadCells,loadCellsFrom]
   ·obtain ⟨B,q,rfl,hlt,hno,hcell⟩:=hm hne
    have hvl:vs.length = xs.length * k:=by rw [← hr.length];exact QM hk
    exact fin (by rw [hvl];exact Nat.mul_le_mul_right _ hle) hh hcell
 ·obtain rfl:=Option.some.inj h
  have:=hp.s_inv
  subst this
  refine ⟨[],.nil,by simp [Builtin.lenOf],fun n w' hle hh => ?_⟩
  have hn0:n = 0:=by simpa using hle
  subst hn0
  simp [Builtin.firstCells]
 ·rename_i b
  obtain rfl:=Option.some.inj h
  have:=hp.s_inv
  subst this
  have hk1:b.data.toList ≠ [] → k = 1:=by
   intro hne
   obtain ⟨u,hu⟩:=List.exists_mem_of_ne_nil _ hne
   exact (hk (.s (.int .u8 u.toNat)) (List.mem_map.2 ⟨u,hu,rfl⟩)).symm
  have hfl:∀ l:List UInt8,(l.map fun u => PV.s (.int .u8 u.toNat)).flatMap PV.cells = (l.map fun u => Value.int .u8 u.toNat).map .s:=by
   intro l
   induction l with
   | nil => rfl
   | cons u l ih => simp only [List.map_cons,List.flatMap_cons,ih];rfl
  have hrel:∀ l:List UInt8,LRel M L w ((l.map fun u => Value.int .u8 u.toNat).map .s) (l.map fun u => Value.int .u8 u.toNat):=by
   intro l
   induction l with
   | nil => exact .nil
   | cons u l ih => exact .cons _ _ _ _ (.s _ rfl) ih
  refine ⟨b.data.toList.map fun u => .int .u8 u.toNat,by unfold QH;rw [hfl];exact hrel _,by simp [Builtin.lenOf,QH],fun n w' hle hh => ?_⟩
  have hnk:n * k = n:=by
   by_cases hne:b.data.toList = []
   ·simp [QH,hne] at hle;simp [hle]
   ·rw [hk1 hne,Nat.mul_one]
  rw [hnk]
  simp only [Builtin.firstCells,Sem.run_pure]
  congr 1
  apply Array.ext'
  simp [ByteArray.data_extract]
 ·rename_i i ver off len
  split at h
  ·rename_i wr k' v xs hi
   split at h
   ·rename_i hc
    obtain ⟨rfl,hle⟩:=hc
    obtain rfl:=Option.some.inj h
    obtain ⟨a,cap,rfl,hx',hcap,hm⟩:=hp.os_live hi
    have hlen:((xs.drop off).take len).length = len:=by simp;omega
    by_cases h0:len = 0
    ·subst h0
     refine ⟨[],by simp;exact .nil,by simp [Builtin.lenOf],fun n w' hle hh => ?_⟩
     have hn0:n = 0:=by simpa using hle
     subst hn0
     cases a with
     | none => simp [Builtin.firstCells]
     | some ad => simp [Builtin.firstCells,loadCells,loadCellsFrom]
    ·obtain ⟨B,q,cc,el,hL,rfl,hb,hsz⟩:=hm (by omega)
     obtain ⟨hk1,c',el',vs,g1,g2,g3,g4⟩:=Vo S hi hL
     have hkk:k' = k:=by
      have hy:(xs.drop off).take len ≠ []:=by intro h;rw [h] at hlen;simp at hlen;omega
      obtain ⟨y,hy⟩:=List.exists_mem_of_ne_nil _ hy
      exact (hk1 y (List.mem_of_mem_drop (List.mem_of_mem_take hy))).symm.trans (hk y hy)
     subst hkk
     have hr:=(g2.drop (off * k')).take (len * k')
     rw [Vp hk1,Vq (fun x hx => hk1 x (List.mem_of_mem_drop hx))] at hr
     have hvl:=hr.length
     rw [QM (fun x hx => hk1 x (List.mem_of_mem_drop (List.mem_of_mem_take hx))),hlen] at hvl
     refine ⟨_,hr,by simp [Builtin.lenOf];omega,fun n w' hle hh => ?_⟩
     rw [hlen] at hle
     refine fin (by rw [← hvl];exact Nat.mul_le_mul_right _ hle) hh fun m v hv => ?_
     rw [List.getElem?_take] at hv
     split at hv
     ·rw [List.getElem?_drop] at hv
      rw [show q + off * k' + m = q + (off * k' + m) from by omega]
      exact g4 _ _ hv
     ·cases hv
   ·cases h
  ·cases h
 ·cases h
theorem Jg {k:Nat} {ys:List PV} (h:ys.all (QX k) = true):(∀ y ∈ ys,y.cells.length = k) ∧ (ys.flatMap PV.cells).all oneB = true:=by
 induction ys with
 | nil => simp
 | cons y ys ih =>
  simp only [List.all_cons,Bool.and_eq_true,QX,beq_iff_eq] at h
  obtain ⟨h1,h2⟩:=ih (by simpa [QX] using h.2)
  refine ⟨?_,by simp [h.1.2,h2]⟩
  intro z hz
  rcases List.mem_cons.1 hz with rfl|hz
  ·exact h.1.1
  ·exact h1 z hz
theorem Yi {t el:TypeId} {i:TypeInfo} {z:Value} {ts:Array TypeId} {ty:TypeId} {base:Option Addr} {sLen sCap n k:Nat} {x:Value} {olds news:List Value} (ht:P.underlying t = some (.slice el)) (hi:P.info? el = some i) (hz:i.zero = some z) (hk:i.size = k)
  (hts:ts[0]? = some t) (hts1:∃ t1,ts[1]? = some t1 ∧ ∃ d,P.underlying t1 = some d ∧ ∀ kk,d ≠ .int kk)
  (hn:(Builtin.lenOf x).run P w = .ok n w) (hnew:∀ w',w'.heap = w.heap → (Builtin.firstCells k n x).run P w' = .ok news.toArray w')
  (hold:∀ w',w'.heap = w.heap → (Builtin.firstCells k sLen (.slice base sLen sCap)).run P w' = .ok olds.toArray w')
  (hsmall:sLen + n ≤ 2 ^ 20) (hb:i.bytes ≤ 2 ^ 20) :
  (sLen + n ≤ sCap → ∀ w2,(match base with|some a => (storeCells (a.add (sLen * k)) news).run P w = .ok () w2|none => w2 = w) →
   (Builtin.append_ ts ty #[.slice base sLen sCap,x]).run P w = .ok (.slice base (sLen + n) sCap) w2) ∧
  (¬ sLen + n ≤ sCap → ∃ w2 cap C,Same w w2 ∧ sLen + n ≤ cap ∧ C.size = sLen * 0 + (olds ++ news).length + (cap - (sLen + n)) * z.cells.size ∧ C.toList.take (olds ++ news).length = olds ++ news ∧
   w2.heap = w.heap.push (.cells C el) ∧ (Builtin.append_ ts ty #[.slice base sLen sCap,x]).run P w = .ok (.slice (some ⟨w.heap.size,0,none⟩) (sLen + n) cap) w2):=by
 obtain ⟨t1,hts1,d,hd,hdi⟩:=hts1
 have hzeros:(match d with|.int _ => true|_ => false) = false:=by cases d <;> first|rfl|exact absurd rfl (hdi _)
 constructor
 ·intro hroom w2 hst
  have hnew':=hnew w rfl
  cases base with
  | none =>
   simp only at hst
   subst hst
   simp [Builtin.append_,hts,hts1,run_underlying ht,run_underlying hd,hzeros,sizeOf,typeInfo,hi,hk,hn,hroom,hnew']
  | some a =>
   simp only at hst
   simp [Builtin.append_,hts,hts1,run_underlying ht,run_underlying hd,hzeros,sizeOf,typeInfo,hi,hk,hn,hroom,hnew',hst]
 ·intro hroom
  have hfit:¬ (Builtin.nextslicecap (sLen + n) sCap * i.bytes > 2 ^ 48):=by
   have h1:(sLen + n) * i.bytes ≤ 2 ^ 20 * 2 ^ 20:=Nat.mul_le_mul hsmall hb
   have:=growslice_fits (need:=sLen + n) (old:=sCap) (bytes:=i.bytes) (by omega) (by omega)
   omega
  have h63:¬ (((sLen + n:Nat):Int) > 9223372036854775807):=by omega
  have h63':¬ (9223372036854775807 < (sLen:Int) + (n:Int)):=by omega
  have hfit':¬ (281474976710656 < Builtin.nextslicecap (sLen + n) sCap * i.bytes):=by omega
  have hnew':=hnew w.drew rfl
  have hold':=hold w.drew rfl
  refine ⟨w.drew.alloc (.cells (olds.toArray ++ news.toArray ++ Builtin.zeroCells z.cells (grownCap w (sLen + n) sCap el - (sLen + n))) el),grownCap w (sLen + n) sCap el,
   olds.toArray ++ news.toArray ++ Builtin.zeroCells z.cells (grownCap w (sLen + n) sCap el - (sLen + n)),⟨rfl,rfl,rfl,(by first|exact Nat.le_refl _|exact Nat.le_succ _|simp)⟩,grownCap_ge w _ _ _,?_,?_,rfl,?_⟩
  ·simp [size_zeroCells]
  ·simp only [Array.toList_append]
   rw [List.take_left' (by simp)]
  ·simp [Builtin.append_,hts,hts1,run_underlying ht,run_underlying hd,hzeros,sizeOf,typeInfo,zeroValue,hi,hk,hz,hn,hroom,h63',hfit',Question.forced,hnew',hold',newRow,grownCap]
   congr 2
   apply Array.ext'
   simp
theorem Qdn (S:Sim R M L w) (H:Fit M L w ρ σ) {o:Oper} {k bytes:Nat} {t t1 el:TypeId} {x y:CX} {x' y':Operand} {ts:Array TypeId} {d:TypeDesc} (ho:o.op = .call { callee:=.builtin .append,args:=#[x',y'],argTypes:=ts })
  (hx:okX x x' = true) (hy:okX y y' = true) (hts:ts[0]? = some t) (hts1:ts[1]? = some t1) (ht:P.underlying t = some (.slice el)) (hd:P.underlying t1 = some d) (hdi:∀ kk,d ≠ .int kk)
  (hk:Qu P el = some k) (hby:(P.info? el).map (·.bytes) = some bytes) {g:Option Nat} {zz:List Value} (hz:okZ P el g zz = true) (hzk:zz.length = k)
  {v:PV} {M':List Blk} (h:res M ρ (.append k bytes x y) = some (v,M')):Good R P (execOp σ o) M L w v M':=by
 have k1:=H x x' hx;have k2:=H y y' hy
 obtain ⟨zv,hzv,hz2,hz3,_,_⟩:=Vy hz
 have hinfo:∃ i,P.info? el = some i ∧ i.bytes = bytes ∧ i.size = k ∧ i.zero = some zv:=by
  cases hi:P.info? el with
  | none => rw [hi] at hby;cases hby
  | some i =>
   rw [hi] at hby hzv
   unfold Qu at hk
   rw [hi] at hk
   exact ⟨i,rfl,by simpa using hby,by simpa using hk,by simpa using hzv⟩
 obtain ⟨i,hi,hib,hik,hiz⟩:=hinfo
 have hzs:zv.cells.size = k:=by have:=congrArg List.length hz2;simpa [hzk] using this
 have htt:∃ t1,ts[1]? = some t1 ∧ ∃ d,P.underlying t1 = some d ∧ ∀ kk,d ≠ .int kk:=⟨t1,hts1,d,hd,hdi⟩
 simp only [res] at h
 cases hh:held M (ρ y) with
 | none => rw [hh] at h;cases h
 | some ys =>
  rw [hh] at h
  simp only at h
  split at h
  case isFalse => cases h
  rename_i hc
  obtain ⟨hall,hk0,hb20⟩:=hc
  obtain ⟨hyk,hyone⟩:=Jg hall
  obtain ⟨us,hyr,hyn,hyf⟩:=YP (P:=P) S k2 hh hyk hk0
  have husl:us.length = ys.length * k:=by rw [← hyr.length];exact QM hyk
  have hnew:∀ w',w'.heap = w.heap → (Builtin.firstCells k ys.length (σ y')).run P w' = .ok us.toArray w':=fun w' hw' => by
   rw [hyf ys.length w' (Nat.le_refl _) hw',List.take_of_length_le (by omega)]
  have hex:∀ r w2,(Builtin.append_ ts o.type #[σ x',σ y']).run P w = .ok r w2 → (execOp σ o).run P w = .ok (.value r) w2:=fun r w2 h => by
   simp [execOp,ho,resolve,invoke,builtin,h]
  split at h
  ·rename_i e1
   rw [e1] at k1
   have c1:=k1.s_inv
   split at h
   case isFalse => cases h
   rename_i hsm
   simp only [Option.some.injEq,Prod.mk.injEq] at h
   obtain ⟨rfl,rfl⟩:=h
   obtain ⟨r1,r2⟩:=Yi (P:=P) (w:=w) (t:=t) (el:=el) (i:=i) (z:=zv) (ts:=ts) (ty:=o.type) (base:=none) (sLen:=0) (sCap:=0) (n:=ys.length) (k:=k) (x:=σ y') (olds:=[]) (news:=us) ht hi hiz hik hts htt hyn hnew
    (fun w' _ => by simp [Builtin.firstCells]) (by omega) (by omega)
   by_cases h0:ys.length = 0
   ·have hys:ys = []:=List.eq_nil_of_length_eq_zero h0
    subst hys
    have:=r1 (by simp) w rfl
    obtain ⟨E,S'⟩:=push S (.row true k 0 []) none (w':=w) ⟨rfl,rfl,rfl,(by first|exact Nat.le_refl _|exact Nat.le_succ _|simp)⟩ rfl (by
     rintro _ _ rfl rfl E
     exact ⟨by simp,fun b q hL => by simp [Loc.upd_self] at hL,fun _ => rfl⟩)
    refine ⟨.slice none 0 0,w,_,.inl (hex _ _ (by rw [c1];simpa using this)),E,S',?_⟩
    exact .os M.length 0 0 0 true k [] none 0 (by simp) (by simp) (Nat.le_refl _) (by simp)
   ·obtain ⟨w2,cap,C,hw2,hcap,hCs,hCt,hheap,hrun⟩:=r2 (by omega)
    simp only [Nat.zero_add,List.nil_append,Nat.zero_mul] at hcap hCs hCt hrun
    obtain ⟨E,S',hv⟩:=YM S (w':=w2) (k:=k) (xs:=ys) (C:=C) hyk (by rw [← husl,hCt];exact hyr) hw2 hheap cap hcap (by
     rw [hCs,husl,hzs,← Nat.add_mul]
     exact Nat.mul_le_mul_right _ (by omega)) 0
    exact ⟨_,_,_,.inl (hex _ _ (by rw [c1];exact hrun)),E,S',hv⟩
  ·rename_i a ver off len e1
   rw [e1] at k1
   split at h
   ·rename_i k' vv xs hrow
    split at h
    case isFalse => cases h
    rename_i hcond
    obtain ⟨rfl,rfl,hle,hsm⟩:=hcond
    simp only [Option.some.injEq,Prod.mk.injEq] at h
    obtain ⟨rfl,rfl⟩:=h
    obtain ⟨base,cap,c1,hx',hcap,hm⟩:=k1.os_live hrow
    have hold0:held M (.os a vv off len) = some ((xs.drop off).take len):=by
     simp [held,hrow,hle]
    have hxk:=(S.mem a _ hrow).1
    have hxk':∀ y ∈ (xs.drop off).take len,y.cells.length = k':=fun y hy => hxk y (List.mem_of_mem_drop (List.mem_of_mem_take hy))
    have hlen:((xs.drop off).take len).length = len:=by simp;omega
    have k1':=k1
    rw [c1] at k1'
    obtain ⟨os_,hor,hon,hof⟩:=YP (P:=P) S k1' hold0 hxk' hk0
    have hosl:os_.length = len * k':=by rw [← hor.length,QM hxk',hlen]
    obtain ⟨r1,r2⟩:=Yi (P:=P) (w:=w) (t:=t) (el:=el) (i:=i) (z:=zv) (ts:=ts) (ty:=o.type) (base:=base) (sLen:=len) (sCap:=cap) (n:=ys.length) (k:=k') (x:=σ y') (olds:=os_) (news:=us) ht hi hiz hik hts htt hyn hnew
     (fun w' hw' => by rw [hof len w' (by omega) hw',List.take_of_length_le (by omega)]) hsm (by omega)
    have hnk:∀ x ∈ (xs.drop off).take len ++ ys,x.cells.length = k':=fun x hx => (List.mem_append.1 hx).elim (hxk' x) (hyk x)
    have hnr:LRel M L w (((xs.drop off).take len ++ ys).flatMap PV.cells) (os_ ++ us):=by rw [List.flatMap_append];exact hor.append hyr
    have hnl:((xs.drop off).take len ++ ys).length = len + ys.length:=by rw [List.length_append,hlen]
    have hai:a < M.length:=(List.getElem?_eq_some_iff.1 hrow).1
    by_cases hroom:len + ys.length ≤ cap
    ·by_cases hcap0:cap = 0
     ·-- nothing at all
      have hl0:len = 0:=by omega
      have hy0:ys = []:=List.eq_nil_of_length_eq_zero (by omega)
      subst hl0;subst hy0;subst hcap0
      have hus0:us = []:=List.eq_nil_of_length_eq_zero (by simpa using husl)
      subst hus0
      have hrun:=r1 hroom w (by cases base <;> rfl)
      obtain ⟨E,S'⟩:=change S hrow (blk':=.row true k' (vv + 1) []) (L.upd a none) (fun j hj => Loc.upd_ne _ _ hj) (w':=w) ⟨rfl,rfl,rfl,(by first|exact Nat.le_refl _|exact Nat.le_succ _|simp)⟩ (.inl rfl) (Nat.le_refl _) (fun _ _ _ => rfl)
       (fun p hp => by rw [Loc.upd_self] at hp;cases hp) ⟨by omega,fun e => by omega⟩ (fun E => ⟨by simp,(fun b q hL => by rw [Loc.upd_self] at hL;cases hL),fun _ => rfl⟩)
      have hxs0:(xs.drop off).take 0 ++ ([]:List PV) = []:=by simp
      rw [hxs0]
      refine ⟨.slice base 0 0,w,L.upd a none,.inl (hex _ _ (by rw [c1];simpa using hrun)),E,S',?_⟩
      ·refine .os a (vv + 1) 0 0 true k' [] base 0 (by simp [hai]) (by simp) (Nat.le_refl _) (by simp)
     ·obtain ⟨b,q,cc,el',hL,rfl,hb,hsz⟩:=hm hcap0
      have hone:=hyr.one hyone
      have hroomk:(len + ys.length) * k' ≤ cap * k':=Nat.mul_le_mul_right _ hroom
      rw [Nat.add_mul] at hroomk
      have hszk:q + off * k' + cap * k' ≤ cc.size:=by rw [Nat.add_assoc,← Nat.add_mul];exact hsz
      obtain ⟨z,hbz,hz⟩:=hb
      have hb:RowAt w b cc el':=⟨z,hbz,hz⟩
      have hst:=Yg P b (q + off * k' + len * k') el' z us 0 cc w hbz hz (by omega) hone
      simp only [Nat.add_zero] at hst
      have hrun:=r1 hroom _ (by simp only [Vw];exact hst)
      obtain ⟨hk1,c',el'',vs,g1,g2,g3,g4⟩:=Vo S hrow hL
      obtain ⟨rfl,rfl⟩:=hb.uniq g1
      have hvl:vs.length = xs.length * k':=by rw [← g2.length];exact QM hk1
      have hoffk:(off + len) * k' ≤ xs.length * k':=Nat.mul_le_mul_right _ hle
      rw [Nat.add_mul] at hoffk
      obtain ⟨E,S'⟩:=Y7 S (ver':=vv + 1) (o':=q + off * k') (xs':=(xs.drop off).take len ++ ys) hrow hL hb (w':=w.setRow b (cc.toList.take (q + off * k' + len * k') ++ us ++ cc.toList.drop (q + off * k' + len * k' + us.length)).toArray)
       ⟨rfl,rfl,rfl,(by first|exact Nat.le_refl _|exact Nat.le_succ _|simp)⟩ ⟨z,setRow_heap _ _ _ _ _ _ hbz,hz.size (by simp;omega)⟩ (fun b' hb' => setRow_other _ _ _ _ hb') (setRow_size _ _ _) (by simp;omega) (.inl (by omega)) hnk
       (vs:=(vs.drop (off * k')).take (len * k') ++ us) (by
        rw [List.flatMap_append]
        refine LRel.append ?_ hyr
        have:=(g2.drop (off * k')).take (len * k')
        rw [Vp hk1,Vq (fun x hx => hk1 x (List.mem_of_mem_drop hx))] at this
        exact this) (fun m u hu => by
        have e:((cc.toList.take (q + off * k' + len * k') ++ us ++ cc.toList.drop (q + off * k' + len * k' + us.length)).toArray)[q + off * k' + m]? = (Q4 cc.toList (q + off * k' + len * k') us)[q + off * k' + m]?:=by simp [Q4]
        rw [e,Zx _ _ _ (by simp;omega)]
        have hl1:((vs.drop (off * k')).take (len * k')).length = len * k':=by simp;omega
        rw [List.getElem?_append,hl1] at hu
        split at hu
        ·rename_i hlt
         rw [if_pos (by omega)]
         rw [List.getElem?_take,if_pos hlt,List.getElem?_drop] at hu
         have:=g3 _ _ hu
         rw [show q + off * k' + m = q + (off * k' + m) from by omega]
         simpa using this
        ·rename_i hge
         have hm2:m - len * k' < us.length:=(List.getElem?_eq_some_iff.1 hu).1
         rw [if_neg (by omega),if_pos (by omega),show q + off * k' + m - (q + off * k' + len * k') = m - len * k' from by omega]
         exact hu)
      refine ⟨_,_,_,.inl (hex _ _ (by rw [c1];exact hrun)),E,S',?_⟩
      refine .os a (vv + 1) 0 (len + ys.length) true k' _ _ cap (by simp [hai];rfl) (by rw [hnl];omega) hroom fun _ => ?_
      refine ⟨b,q + off * k',_,el',by simp [Loc.upd_self],by simp,⟨z,setRow_heap _ _ _ _ _ _ hbz,hz.size (by simp;omega)⟩,?_⟩
      simp only [Nat.zero_add,List.size_toArray,List.length_append,List.length_take,List.length_drop,Array.length_toList]
      omega
    ·obtain ⟨w2,cap',C,hw2,hcap',hCs,hCt,hheap,hrun⟩:=r2 hroom
     have hnew2:RowAt w2 w.heap.size C el:=.mk0 (by rw [hheap];simp)
     have old:∀ b,b < w.heap.size → w2.heap[b]? = w.heap[b]?:=by
      intro b hlt
      rw [hheap,Array.getElem?_push_lt hlt];exact (Array.getElem?_eq_getElem hlt).symm
     obtain ⟨E,S'⟩:=change S hrow (blk':=.row true k' (vv + 1) ((xs.drop off).take len ++ ys)) (L.upd a (some (w.heap.size,0))) (fun j hj => Loc.upd_ne _ _ hj) (w':=w2) hw2 (.inl rfl) (by rw [hheap];simp) (fun b hb _ => old b hb)
      (fun p hp => by rw [Loc.upd_self] at hp;cases hp;exact .inr (Nat.le_refl _)) ⟨by omega,fun e => by omega⟩ (fun E => by
       refine ⟨hnk,fun b q hL => ?_,fun hL => by rw [Loc.upd_self] at hL;cases hL⟩
       rw [Loc.upd_self] at hL;cases hL
       refine ⟨C,el,os_ ++ us,hnew2,LRel.evo E hnr,fun m u hu => ?_⟩
       rw [Nat.zero_add,← Array.getElem?_toList]
       have hm':m < (os_ ++ us).length:=(List.getElem?_eq_some_iff.1 hu).1
       rw [← hCt,List.getElem?_take,if_pos hm'] at hu
       exact hu)
     refine ⟨_,_,_,.inl (hex _ _ (by rw [c1];exact hrun)),E,S',?_⟩
     refine .os a (vv + 1) 0 (len + ys.length) true k' _ _ cap' (by simp [hai];rfl) (by rw [hnl];omega) hcap' fun _ => ?_
     refine ⟨w.heap.size,0,C,el,by simp [Loc.upd_self],by simp,hnew2,?_⟩
     rw [hCs,List.length_append,hosl,husl,hzs,← Nat.add_mul,Nat.zero_add,Nat.zero_add,Nat.mul_zero,Nat.zero_add,← Nat.add_mul]
     exact Nat.mul_le_mul_right _ (by omega)
   ·cases h
  ·cases h
theorem JT {k:Nat} {xs ys:List PV} {off:Nat} (hx:∀ x ∈ xs,x.cells.length = k) (hy:∀ y ∈ ys,y.cells.length = k) :
  (setRange xs off ys).flatMap PV.cells = setRange (xs.flatMap PV.cells) (off * k) (ys.flatMap PV.cells):=by
 unfold Nac.setRange
 rw [List.flatMap_append,List.flatMap_append,Vq hx,QM hy,← Nat.add_mul,Vp hx]
theorem Qol (S:Sim R M L w) (H:Fit M L w ρ σ) {o:Oper} {k:Nat} {t el:TypeId} {x y:CX} {x' y':Operand} {ts:Array TypeId} (ho:o.op = .call { callee:=.builtin .copy,args:=#[x',y'],argTypes:=ts })
  (hx:okX x x' = true) (hy:okX y y' = true) (hts:ts[0]? = some t) (ht:P.underlying t = some (.slice el)) (hk:Qu P el = some k)
  {v:PV} {M':List Blk} (h:res M ρ (.copy k x y) = some (v,M')):Good R P (execOp σ o) M L w v M':=by
 have k1:=H x x' hx;have k2:=H y y' hy
 simp only [res] at h
 split at h
 ·rename_i i ver off len ys e1 e2
  rw [e1] at k1
  split at h
  ·rename_i k' vv xs hrow
   split at h
   case isFalse => cases h
   rename_i hcond
   obtain ⟨rfl,rfl,hle,hall,hk0⟩:=hcond
   simp only [Option.some.injEq,Prod.mk.injEq] at h
   obtain ⟨rfl,rfl⟩:=h
   obtain ⟨hyk,hyone⟩:=Jg hall
   obtain ⟨us,hyr,hyn,hyf⟩:=YP (P:=P) S k2 e2 hyk hk0
   obtain ⟨base,cap,c1,hx',hcap,hm⟩:=k1.os_live hrow
   have hfc:=hyf (Nat.min ys.length len) w (Nat.min_le_left _ _) rfl
   have husl:us.length = ys.length * k':=by rw [← hyr.length];exact QM hyk
   have hyk':∀ y ∈ ys.take len,y.cells.length = k':=fun y hy => hyk y (List.mem_of_mem_take hy)
   have hex:∀ w2,(match base with|some a => (storeCells a (us.take (Nat.min ys.length len * k'))).run P w = .ok () w2|none => w2 = w) → (execOp σ o).run P w = .ok (.value (.int .i64 ((Nat.min ys.length len:Nat):Int))) w2:=fun w2 h => by
    cases base with
    | none => subst h;simp [execOp,ho,resolve,invoke,builtin,Builtin.copy_,hts,run_underlying ht,QB hk,c1,hyn,hfc,goInt]
    | some a => simp only at h;simp [execOp,ho,resolve,invoke,builtin,Builtin.copy_,hts,run_underlying ht,QB hk,c1,hyn,hfc,goInt,h]
   by_cases h0:Nat.min ys.length len = 0
   ·-- nothing
    have hempty:ys.take len = []:=by
     apply List.eq_nil_of_length_eq_zero
     rw [List.length_take]
     have h0':min ys.length len = 0:=h0
     omega
    have hM:M.set i (.row true k' vv (setRange xs off (ys.take len))) = M:=by
     rw [hempty]
     have:setRange xs off [] = xs:=by unfold Nac.setRange;simp
     rw [this]
     obtain ⟨hlt,hget⟩:=List.getElem?_eq_some_iff.1 hrow
     rw [← hget];exact List.set_getElem_self hlt
    rw [hM]
    refine Qg S (hex w ?_) (.s _ rfl)
    rw [h0]
    cases base <;> simp [storeCells]
   ·have hcap0:cap ≠ 0:=by
     have:Nat.min ys.length len ≤ len:=Nat.min_le_right _ _
     omega
    obtain ⟨b,q,cc,el',hL,rfl,hb,hsz⟩:=hm hcap0
    obtain ⟨hk1,c',el'',vs,g1,g2,g3,g4⟩:=Vo S hrow hL
    have hmin:us.take (Nat.min ys.length len * k') = us.take (len * k'):=by
     rcases Nat.le_total ys.length len with h1|h1
     ·rw [show Nat.min ys.length len = ys.length from Nat.min_eq_left h1,List.take_of_length_le (by omega),List.take_of_length_le (by rw [husl];exact Nat.mul_le_mul_right _ h1)]
     ·rw [show Nat.min ys.length len = len from Nat.min_eq_right h1]
    have hyr':LRel M L w ((ys.take len).flatMap PV.cells) (us.take (len * k')):=by rw [← Vq hyk];exact hyr.take _
    have hone:∀ u ∈ us.take (len * k'),u.oneCell' = true:=fun u hu => hyr.one hyone u (List.mem_of_mem_take hu)
    have hut:(us.take (len * k')).length ≤ len * k':=by simp;omega
    have hoffk:(off + len) * k' ≤ xs.length * k':=Nat.mul_le_mul_right _ hle
    rw [Nat.add_mul] at hoffk
    have hne:us.take (len * k') ≠ []:=fun h => by
     rw [← hmin] at h
     have:=congrArg List.length h
     simp only [List.length_take,List.length_nil,husl] at this
     have h2:0 < Nat.min ys.length len * k':=Nat.mul_pos (Nat.pos_of_ne_zero h0) (Nat.pos_of_ne_zero hk0)
     have h3:Nat.min ys.length len * k' ≤ ys.length * k':=Nat.mul_le_mul_right _ (Nat.min_le_left _ _)
     clear hm
     omega
    have hple:off * k' + (us.take (len * k')).length ≤ xs.length * k':=by clear hm;omega
    have hsl:(setRange xs off (ys.take len)).length = xs.length:=V9 (by clear hm;have:=List.length_take_le len ys;omega)
    obtain ⟨w',h1,E,S'⟩:=Qai S hrow hL (P:=P) (xs':=setRange xs off (ys.take len)) hsl (fun z hz => by
      unfold Nac.setRange at hz
      rcases List.mem_append.1 hz with hz|hz
      ·rcases List.mem_append.1 hz with hz|hz
       ·exact hk1 z (List.mem_of_mem_take hz)
       ·exact hyk' z hz
      ·exact hk1 z (List.mem_of_mem_drop hz)) hone hne (p:=off * k') hple hyr' (JT hk1 hyk')
    exact ⟨_,w',_,.inl (hex w' (by simp only;rw [hmin];exact h1)),E,S',.s _ rfl⟩
  ·cases h
 ·cases h
theorem Qa5 {n:Nat}:∀ {ys:List PV} {cs:List Value} {p q:PV} {c:Value},foldO maxI p ys = some q → VRel M L w p c → LRel M L w ys cs → ∃ d,(cs.foldlM Builtin.max2 c).run P w = .ok d w ∧ VRel M L w q d
 | [],[],p,q,c,h,hp,_ => by
  simp only [foldO,Option.some.injEq] at h
  subst h
  exact ⟨c,rfl,hp⟩
 | y :: ys,d :: cs,p,q,c,h,hp,hr => by
  cases hr with
  | cons _ _ _ _ hy hys =>
   simp only [foldO] at h
   cases hm:maxI p y with
   | none => rw [hm] at h;cases h
   | some z =>
    rw [hm] at h
    simp only [Option.bind_some] at h
    unfold maxI at hm
    split at hm
    ·split at hm
     ·rename_i e;subst e
      obtain rfl:=Option.some.inj hm
      obtain rfl:=hp.s_inv
      obtain rfl:=hy.s_inv
      obtain ⟨d',h1,h2⟩:=Qa5 (n:=n) h (.s _ rfl) hys
      refine ⟨d',?_,h2⟩
      rw [List.foldlM_cons]
      simp only [Sem.run_bind,Builtin.max2,Sem.run_pure,Result.andThen_ok]
      exact h1
     ·cases hm
    ·rename_i fk fa fk' fb
     obtain ⟨c',hc',rfl⟩:=Option.map_eq_some_iff.1 hm
     obtain rfl:=hp.s_inv
     obtain rfl:=hy.s_inv
     obtain ⟨d',h1,h2⟩:=Qa5 (n:=n) h (.s _ rfl) hys
     refine ⟨d',?_,h2⟩
     rw [List.foldlM_cons]
     have hv:(Builtin.max2 (.float fk fa) (.float fk' fb)).run P w = .ok (.float fk c') w:=by
      unfold fMaxB at hc'
      unfold Builtin.max2
      split at hc'
      ·cases hc'
      ·rename_i ho;cases hc';simp only [ho];rfl
      ·rename_i ho;cases hc';simp only [ho];rfl
      ·rename_i ho;cases hc';simp only [ho];rfl
     simp only [Sem.run_bind,hv,Result.andThen_ok]
     exact h1
    ·cases hm
 | [],_ :: _,_,_,_,_,_,hr => by cases hr
 | _ :: _,[],_,_,_,_,_,hr => by cases hr
theorem Qbb {n:Nat}:∀ {ys:List PV} {cs:List Value} {p q:PV} {c:Value},foldO minI p ys = some q → VRel M L w p c → LRel M L w ys cs → ∃ d,(cs.foldlM Builtin.min2 c).run P w = .ok d w ∧ VRel M L w q d
 | [],[],p,q,c,h,hp,_ => by
  simp only [foldO,Option.some.injEq] at h
  subst h
  exact ⟨c,rfl,hp⟩
 | y :: ys,d :: cs,p,q,c,h,hp,hr => by
  cases hr with
  | cons _ _ _ _ hy hys =>
   simp only [foldO] at h
   cases hm:minI p y with
   | none => rw [hm] at h;cases h
   | some z =>
    rw [hm] at h
    simp only [Option.bind_some] at h
    unfold minI at hm
    split at hm
    ·split at hm
     ·rename_i e;subst e
      obtain rfl:=Option.some.inj hm
      obtain rfl:=hp.s_inv
      obtain rfl:=hy.s_inv
      obtain ⟨d',h1,h2⟩:=Qbb (n:=n) h (.s _ rfl) hys
      refine ⟨d',?_,h2⟩
      rw [List.foldlM_cons]
      simp only [Sem.run_bind,Builtin.min2,Sem.run_pure,Result.andThen_ok]
      exact h1
     ·cases hm
    ·rename_i fk fa fk' fb
     obtain ⟨c',hc',rfl⟩:=Option.map_eq_some_iff.1 hm
     obtain rfl:=hp.s_inv
     obtain rfl:=hy.s_inv
     obtain ⟨d',h1,h2⟩:=Qbb (n:=n) h (.s _ rfl) hys
     refine ⟨d',?_,h2⟩
     rw [List.foldlM_cons]
     have hv:(Builtin.min2 (.float fk fa) (.float fk' fb)).run P w = .ok (.float fk c') w:=by
      unfold fMinB at hc'
      unfold Builtin.min2
      split at hc'
      ·cases hc'
      ·rename_i ho;cases hc';simp only [ho];rfl
      ·rename_i ho;cases hc';simp only [ho];rfl
      ·rename_i ho;cases hc';simp only [ho];rfl
     simp only [Sem.run_bind,hv,Result.andThen_ok]
     exact h1
    ·cases hm
 | [],_ :: _,_,_,_,_,_,hr => by cases hr
 | _ :: _,[],_,_,_,_,_,hr => by cases hr
theorem g_max (S:Sim R M L w) (H:Fit M L w ρ σ) {o:Oper} {x:CX} {xs:List CX} {args:Array Operand} {ts:Array TypeId} (ho:o.op = .call { callee:=.builtin .max,args:=args,argTypes:=ts }) (hx:okXs (x :: xs) args.toList = true)
  {v:PV} {M':List Blk} (h:res M ρ (.max x xs) = some (v,M')):Good R P (execOp σ o) M L w v M':=by
 have k:=H.list hx
 simp only [res] at h
 cases hf:foldO maxI (ρ x) (xs.map ρ) with
 | none => rw [hf] at h;cases h
 | some q =>
  rw [hf] at h
  simp only [Option.map_some,Option.some.injEq,Prod.mk.injEq] at h
  obtain ⟨rfl,rfl⟩:=h
  have ha:(args.map σ).toList = args.toList.map σ:=by simp
  generalize hl:args.toList.map σ = cs at k ha
  cases k with
  | cons _ c _ ds hc hds =>
   obtain ⟨d,h1,h2⟩:=Qa5 (P:=P) (n:=0) hf hc hds
   refine Qg S ?_ h2
   simp [execOp,ho,resolve,invoke,builtin,Builtin.max_,hl,h1]
theorem g_min (S:Sim R M L w) (H:Fit M L w ρ σ) {o:Oper} {x:CX} {xs:List CX} {args:Array Operand} {ts:Array TypeId} (ho:o.op = .call { callee:=.builtin .min,args:=args,argTypes:=ts }) (hx:okXs (x :: xs) args.toList = true)
  {v:PV} {M':List Blk} (h:res M ρ (.min x xs) = some (v,M')):Good R P (execOp σ o) M L w v M':=by
 have k:=H.list hx
 simp only [res] at h
 cases hf:foldO minI (ρ x) (xs.map ρ) with
 | none => rw [hf] at h;cases h
 | some q =>
  rw [hf] at h
  simp only [Option.map_some,Option.some.injEq,Prod.mk.injEq] at h
  obtain ⟨rfl,rfl⟩:=h
  have ha:(args.map σ).toList = args.toList.map σ:=by simp
  generalize hl:args.toList.map σ = cs at k ha
  cases k with
  | cons _ c _ ds hc hds =>
   obtain ⟨d,h1,h2⟩:=Qbb (P:=P) (n:=0) hf hc hds
   refine Qg S ?_ h2
   simp [execOp,ho,resolve,invoke,builtin,Builtin.min_,hl,h1]
theorem Qoc (S:Sim R M L w) (H:Fit M L w ρ σ) {o:Oper} {n:Nat} {t el:TypeId} {x:CX} {x':Operand} (ho:o.op = .sliceToArrayPointer t x') (hx:okX x x' = true) (ht:P.underlying t = some (.array n el))
  {v:PV} {M':List Blk} (h:res M ρ (.arrp n x) = some (v,M')):Good R P (execOp σ o) M L w v M':=by
 have k1:=H x x' hx
 have run:∀ {a:Option Addr} {len cap:Nat},n ≤ len → (Instr.arrayAt t (.slice a len cap)).run P w = .ok (.pointer a) w:=by
  intro a len cap hle
  have:¬ (len < n):=by omega
  simp [Instr.arrayAt,run_underlying ht,this]
 simp only [res] at h
 split at h
 ·rename_i xs e1
  rw [e1] at k1
  split at h
  case isFalse => cases h
  rename_i hc
  obtain ⟨hle,hn0⟩:=hc
  simp only [Option.some.injEq,Prod.mk.injEq] at h
  obtain ⟨rfl,rfl⟩:=h
  generalize hcx:σ x' = c at k1
  cases k1 with
  | fs _ a m cap k' vs hm' hcap hk hr hm =>
   subst hm'
   obtain ⟨B,q,rfl,hlt,hno,hcell⟩:=hm (fun h => by rw [h] at hle;simp at hle;omega)
   refine Qg S (cv:=.pointer (some ⟨B,q,none⟩)) (by simp [execOp,ho,hcx,run hle]) ?_
   refine .fp _ B q (vs.take (n * k')) ?_ hlt hno fun m u hu => ?_
   ·rw [← Vq hk];exact hr.take _
   ·rw [List.getElem?_take] at hu
    split at hu
    ·exact hcell _ _ hu
    ·cases hu
 ·rename_i i ver off len e1
  rw [e1] at k1
  split at h
  case isFalse => cases h
  rename_i hc
  obtain ⟨hle,hn0⟩:=hc
  cases hh:held M (.os i ver off len) with
  | none => rw [hh] at h;cases h
  | some ys =>
   rw [hh] at h
   simp only [Option.map_some,Option.some.injEq,Prod.mk.injEq] at h
   obtain ⟨rfl,rfl⟩:=h
   simp only [held] at hh
   split at hh
   ·rename_i wr k' vv xs hrow
    split at hh
    ·rename_i hcc
     obtain ⟨rfl,hl⟩:=hcc
     obtain ⟨base,cap,c1,hx',hcap,hm⟩:=k1.os_live hrow
     obtain ⟨b,q,cc,el',hL,rfl,hb,hsz⟩:=hm (by omega)
     exact Qg S (cv:=.pointer (some ⟨b,q + off * k',none⟩)) (by simp [execOp,ho,c1,run hle]) (.op i vv off 0 wr k' xs b q hrow (by omega) hL)
    ·cases hh
   ·cases hh
 ·cases h
end
end Go.Nac
namespace Go.Nac
variable [Env]
section
variable {R:CCode → Code → Prop} {P:Program} {M:List Blk} {L:Loc} {w w':World} {ρ:CX → PV} {σ:Operand → Value}
theorem Qoi (S:Sim R M L w) (H:Fit M L w ρ σ) {o:Oper} {t el:TypeId} {x:CX} {x':Operand} {ts:Array TypeId} (ho:o.op = .call { callee:=.builtin .cap,args:=#[x'],argTypes:=ts })
  (hx:okX x x' = true) (hts:ts[0]? = some t) (ht:P.underlying t = some (.slice el))
  {v:PV} {M':List Blk} (h:res M ρ (.capn x) = some (v,M')):Good R P (execOp σ o) M L w v M':=by
 have k1:=H x x' hx
 simp only [res] at h
 split at h
 ·rename_i e1
  rw [e1] at k1
  have c1:=k1.s_inv
  cases h
  refine Qg S (cv:=.int .i64 0) ?_ (.s _ rfl)
  simp [execOp,ho,resolve,invoke,builtin,Builtin.cap_,hts,c1,run_underlying ht,goInt]
 ·cases h
theorem JS {z:Array Value} {n j:Nat} (h:j < n * z.size):(Builtin.zeroCells z n)[j]? = z[j % z.size]?:=by
 have hz:0 < z.size:=by rcases Nat.eq_zero_or_pos z.size with e|e;(rw [e] at h;simp at h);exact e
 have hjs:j % z.size < z.size:=Nat.mod_lt _ hz
 have hr:(Array.range (n * z.size))[j]? = some j:=by simp [h]
 unfold Builtin.zeroCells
 rw [Array.getElem?_map,hr,Option.map_some,getElem!_pos z (j % z.size) hjs,Array.getElem?_eq_getElem hjs]
theorem QnR (S:Sim R M L w) (H:Fit M L w ρ σ) {o:Oper} {k bytes:Nat} {g:Option Nat} {z:List Value} {t t1 el:TypeId} {kk:IntKind} {x n:CX} {x' n':Operand} {ts:Array TypeId} (ho:o.op = .call { callee:=.builtin .append,args:=#[x',n'],argTypes:=ts })
  (hx:okX x x' = true) (hn:okX n n' = true) (hts:ts[0]? = some t) (hts1:ts[1]? = some t1) (ht:P.underlying t = some (.slice el)) (hd:P.underlying t1 = some (.int kk))
  (hk:Qu P el = some k) (hby:(P.info? el).map (·.bytes) = some bytes) (hz:okZ P el g z = true)
  {v:PV} {M':List Blk} (h:res M ρ (.appz k g z bytes x n) = some (v,M')):Good R P (execOp σ o) M L w v M':=by
 have k1:=H x x' hx;have k2:=H n n' hn
 obtain ⟨zv,hzv,hz2,hz3,hz4,hz5⟩:=Vy hz
 simp only [res] at h
 split at h
 case h_2 => cases h
 rename_i l e1 e2
 rw [e1] at k1;rw [e2] at k2
 have c1:=k1.s_inv;have c2:=k2.s_inv
 split at h
 case isFalse => cases h
 rename_i hc
 obtain ⟨h0,hle,hbl,hzl,hk0⟩:=hc
 cases hm:mkPV g (z.map .s) with
 | none => rw [hm] at h;cases h
 | some e =>
  rw [hm] at h
  simp only [Option.map_some,Option.some.injEq,Prod.mk.injEq] at h
  obtain ⟨rfl,rfl⟩:=h
  have hec:e.cells = z.map .s:=YE hm (by simp)
  have hel:e.cells.length = k:=by rw [hec];simpa using hzl
  have hw:IntKind.i64.wrap l = l:=IntWalk.i64_in l ⟨by omega,by omega⟩
  have hzs:zv.cells.size = k:=by have:=congrArg List.length hz2;simpa [hzl] using this
  have hinfo:∃ i,P.info? el = some i ∧ i.bytes = bytes ∧ i.size = k ∧ i.zero = some zv:=by
   cases hi:P.info? el with
   | none => rw [hi] at hby;cases hby
   | some i =>
    rw [hi] at hby hzv
    unfold Qu at hk
    rw [hi] at hk
    exact ⟨i,rfl,by simpa using hby,by simpa using hk,by simpa using hzv⟩
  obtain ⟨i,hi,hib,hik,hiz⟩:=hinfo
  obtain ⟨n,rfl⟩:=Int.eq_ofNat_of_zero_le (Int.le_of_lt h0)
  have hn0:0 < n:=by omega
  have hmul:(n:Int) * (bytes:Int) ≤ 2 ^ 40:=by
   have:n * bytes ≤ 2 ^ 20 * 2 ^ 20:=Nat.mul_le_mul (by omega) hbl
   have h3:((n * bytes:Nat):Int) ≤ ((2 ^ 20 * 2 ^ 20:Nat):Int):=by exact_mod_cast this
   simp only [Int.natCast_mul] at h3
   omega
  have hnot:¬ ((n:Int) < 0):=by omega
  have hnot2:¬ (281474976710656 < (n:Int) * (bytes:Int)):=by omega
  have hfit:¬ (Builtin.nextslicecap n 0 * bytes > 2 ^ 48):=by
   have h1:n * bytes ≤ 2 ^ 20 * 2 ^ 20:=Nat.mul_le_mul (by omega) hbl
   have:=growslice_fits (need:=n) (old:=0) (bytes:=bytes) (by omega) (by omega)
   omega
  have hfit':¬ (281474976710656 < Builtin.nextslicecap n 0 * bytes):=by omega
  have hnk:¬ (n * k = 0):=by have:=Nat.mul_pos hn0 hk0;omega
  have hroom:¬ (n ≤ 0):=by omega
  have hroom':¬ (n = 0):=by omega
  have h63:¬ (9223372036854775807 < (n:Int)):=by omega
  have hcap:=grownCap_ge w n 0 el
  have hrun:(execOp σ o).run P w = .ok (.value (.slice (some ⟨w.heap.size,0,none⟩) n (grownCap w n 0 el)))
    (w.drew.alloc (.cells (Builtin.zeroCells zv.cells n ++ Builtin.zeroCells zv.cells (grownCap w n 0 el - n)) el)):=by
   simp [execOp,ho,resolve,invoke,builtin,Builtin.append_,hts,hts1,run_underlying ht,run_underlying hd,asInt,asIntOf,sizeOf,typeInfo,zeroValue,hi,hik,hib,hiz,c1,c2,hw,hnot,hnot2,hnk,hk0,hroom,hroom',h63,hfit',Question.forced,newRow,grownCap,Builtin.firstCells]
  have hr:LRel M L w ((List.replicate n e).flatMap PV.cells) ((Builtin.zeroCells zv.cells n ++ Builtin.zeroCells zv.cells (grownCap w n 0 el - n)).toList.take ((List.replicate n e).length * k)):=by
   have hsz:(Builtin.zeroCells zv.cells n).size = n * k:=by rw [size_zeroCells,hzs]
   rw [Array.toList_append,List.length_replicate,List.take_left' (by simp [hsz])]
   refine LRel.all ?_ fun j x u hx hu => ?_
   ·rw [QM (k:=k) (by intro x hx;rw [List.eq_of_mem_replicate hx];exact hel)];simp [hsz]
   ·have hj:j < n * k:=by
     have:=(List.getElem?_eq_some_iff.1 hu).1
     simpa [hsz] using this
    rw [Zy hel hk0 n j hj,hec] at hx
    rw [Array.getElem?_toList,JS (by rw [hzs];exact hj),hzs,← Array.getElem?_toList,hz2] at hu
    rw [List.getElem?_map,hu] at hx
    simp only [Option.map_some,Option.some.injEq] at hx
    subst hx
    exact .s u (hz3 u (List.mem_of_getElem? hu))
  obtain ⟨E,S',hv⟩:=YM S (k:=k) (xs:=List.replicate n e) (by intro x hx;rw [List.eq_of_mem_replicate hx];exact hel) hr (w':=w.drew.alloc (.cells (Builtin.zeroCells zv.cells n ++ Builtin.zeroCells zv.cells (grownCap w n 0 el - n)) el)) ⟨rfl,rfl,rfl,(by first|exact Nat.le_refl _|exact Nat.le_succ _|simp)⟩ rfl (grownCap w n 0 el) (by simpa using hcap)
   (by rw [Array.size_append,size_zeroCells,size_zeroCells,hzs,← Nat.add_mul];exact Nat.mul_le_mul_right _ (by omega)) 0
  refine ⟨_,_,_,.inl hrun,E,S',?_⟩
  simpa using hv
end
end Go.Nac
namespace Go.Nac
variable [Env]
theorem Qfa (r s:Nat) (hs:s < 2) (hr:r < 8388607):(FloatKind.decode .f32 (s * 2 ^ 31 + 0x7f800000 + 1 + r)).isNaN = true:=by
 have h1:(s * 2 ^ 31 + 0x7f800000 + 1 + r) % 2147483648 = 0x7f800000 + 1 + r:=by omega
 have e1:Ieee.single.signWeight = 2147483648:=rfl
 have e2:Ieee.single.binade = 8388608:=rfl
 have e3:Ieee.single.infRung = 2139095040:=rfl
 unfold FloatKind.decode FloatKind.format Ieee.Format.read
 simp only [e1,e2,e3,h1]
 rw [if_neg (by omega),if_neg (by omega),if_neg (by omega)]
 rfl
theorem Qfw (r s:Nat) (hs:s < 2) (hr:r < 4503599627370495):(FloatKind.decode .f64 (s * 2 ^ 63 + 0x7ff0000000000000 + 1 + r)).isNaN = true:=by
 have h1:(s * 2 ^ 63 + 0x7ff0000000000000 + 1 + r) % 9223372036854775808 = 0x7ff0000000000000 + 1 + r:=by omega
 have e1:Ieee.double.signWeight = 9223372036854775808:=rfl
 have e2:Ieee.double.binade = 4503599627370496:=rfl
 have e3:Ieee.double.infRung = 9218868437227405312:=rfl
 unfold FloatKind.decode FloatKind.format Ieee.Format.read
 simp only [e1,e2,e3,h1]
 rw [if_neg (by omega),if_neg (by omega),if_neg (by omega)]
 rfl
theorem QmK (k:FloatKind) (q:Question) (hq:(∃ x y,q = .nanBits k x y) ∨ ∃ x,q = .nanConv k x) (t:Nat):(k.decode (q.cut t)).isNaN = true:=by
 rcases hq with ⟨x,y,rfl⟩|⟨x,rfl⟩ <;> cases k
 ·exact Qfa _ _ (Nat.mod_lt _ (by decide)) (Nat.mod_lt _ (by decide))
 ·exact Qfw _ _ (Nat.mod_lt _ (by decide)) (Nat.mod_lt _ (by decide))
 ·exact Qfa _ _ (Nat.mod_lt _ (by decide)) (Nat.mod_lt _ (by decide))
 ·exact Qfw _ _ (Nat.mod_lt _ (by decide)) (Nat.mod_lt _ (by decide))
section
variable {R:CCode → Code → Prop} {P:Program} {M:List Blk} {L:Loc} {w w':World} {ρ:CX → PV} {σ:Operand → Value}
theorem JI {s:Sem Next} (S:Sim R M L w) (k:FloatKind) (q:Question) (hq:(∃ x y,q = .nanBits k x y) ∨ ∃ x,q = .nanConv k x)
  (hr:s.run P w = .ok (.value (.float k (q.cut (w.tape w.drawn q)))) { w with drawn:=w.drawn + 1 }):Good R P s M L w (.nan k) M :=
 ⟨_,_,L,.inl hr,Evo.heap ⟨rfl,rfl,rfl,(by first|exact Nat.le_refl _|exact Nat.le_succ _|simp)⟩ rfl,S.heap ⟨rfl,rfl,rfl,(by first|exact Nat.le_refl _|exact Nat.le_succ _|simp)⟩ rfl,.nan k _ (QmK k q hq _)⟩
theorem Qmk {f:Ieee.Format} {x y:Nat} (h:(f.read x).isNaN = true ∨ (f.read y).isNaN = true):f.add x y = none ∧ f.sub x y = none ∧ f.mul x y = none ∧ f.div x y = none ∧ f.order x y = none:=by
 unfold Ieee.Format.add Ieee.Format.sub Ieee.Format.mul Ieee.Format.div Ieee.Format.order
 generalize f.read x = a at h
 generalize f.read y = b at h
 cases a <;> cases b <;> simp [Ieee.Datum.isNaN,Ieee.Datum.sum,Ieee.Datum.opposite,Ieee.Datum.product,Ieee.Datum.quotient,Ieee.Datum.order] at h ⊢
theorem Qcz {x:PV} {c:Value} {k:FloatKind} (h:VRel M L w x c) (hx:fKind x = some k):∃ b,c = .float k b ∧ (x = .s (.float k b) ∨ x = .nan k ∧ (k.decode b).isNaN = true):=by
 unfold fKind at hx
 split at hx
 ·rename_i k' b
  cases hx
  have:=h.s_inv
  exact ⟨b,this,.inl rfl⟩
 ·rename_i k'
  cases hx
  cases h with|nan _ b hb => exact ⟨b,rfl,.inr ⟨rfl,hb⟩⟩
 ·cases hx
theorem Qng (S:Sim R M L w) (H:Fit M L w ρ σ) {o:Oper} {op:BinOp} {t ty:TypeId} {x y:CX} {x' y':Operand} (ho:o.op = .binOp op t x' y' ty) (hx:okX x x' = true) (hy:okX y y' = true)
  {v:PV} (h:sopV (.fbin op) [ρ x,ρ y] = some v):Good R P (execOp σ o) M L w v M:=by
 have k1:=H x x' hx
 have k2:=H y y' hy
 have key:∀ (k:FloatKind) (a b:Nat),σ x' = .float k a → σ y' = .float k b →
   (∀ r,Zv op k a b = some (some r) → Good R P (execOp σ o) M L w (.s (.float k r)) M) ∧ (Zv op k a b = some none → Good R P (execOp σ o) M L w (.nan k) M) ∧
   (∀ z,Zv op k a b = none → fCmp op (k.format.order a b) = some z → Good R P (execOp σ o) M L w (.B z) M):=by
  intro k a b e1 e2
  have hrun:(execOp σ o).run P w = (do let v ← binOp op t (.float k a) (.float k b);pure (Next.value v):Sem Next).run P w:=by
   simp only [execOp,ho,e1,e2]
   have hg:(eqGuard op t x' y' (.float k a) (.float k b)).run P w = .ok () w:=by
    unfold eqGuard;cases op <;> simp
   simp only [Sem.run_bind,hg,Result.andThen_ok]
  refine ⟨fun r hr => ?_,fun hr => ?_,fun z h0 hz => ?_⟩
  ·refine Qg S ?_ (.s _ rfl)
   rw [hrun]
   cases op <;> simp only [Zv] at hr <;> first|(cases hr;done)|(simp [binOp,Op.floatArith,Option.some.inj hr])
  ·refine JI S k (.nanBits k a b) (.inl ⟨a,b,rfl⟩) ?_
   rw [hrun]
   cases op <;> simp only [Zv] at hr <;> first|(cases hr;done)|(simp [binOp,Op.floatArith,Option.some.inj hr,Question.forced])
  ·refine Qg S ?_ (.s _ rfl)
   rw [hrun]
   cases op <;> simp only [Zv] at h0 <;> first|(cases h0;done)|(simp only [fCmp] at hz;first|(cases hz;done)|(cases hz;simp [binOp,Op.floatCmp]))
 simp only [sopV] at h
 split at h
 ·rename_i k a k' b e1 e2
  rw [e1] at k1;rw [e2] at k2
  split at h
  ·rename_i e;subst e
   obtain ⟨r1,r2,r3⟩:=key k a b k1.s_inv k2.s_inv
   split at h
   ·rename_i r hr;cases h;exact r1 r hr
   ·rename_i hr;cases h;exact r2 hr
   ·rename_i hr
    cases hc:fCmp op (k.format.order a b) with
    | none => rw [hc] at h;cases h
    | some z => rw [hc] at h;cases h;exact r3 z hr hc
  ·cases h
 ·rename_i hne
  split at h
  ·rename_i k k' f1 f2
   split at h
   ·rename_i e;subst e
    obtain ⟨a,c1,d1⟩:=Qcz k1 f1
    obtain ⟨b,c2,d2⟩:=Qcz k2 f2
    have hn:(k.format.read a).isNaN = true ∨ (k.format.read b).isNaN = true:=by
     rcases d1 with d1|⟨_,d1⟩
     ·rcases d2 with d2|⟨_,d2⟩
      ·exact absurd d2 (hne k a k b d1)
      ·exact .inr d2
     ·exact .inl d1
    obtain ⟨n1,n2,n3,n4,n5⟩:=Qmk hn
    obtain ⟨r1,r2,r3⟩:=key k a b c1 c2
    split at h
    ·rename_i ha
     cases h
     refine r2 ?_
     cases op <;> simp only [Zv] at ha ⊢ <;> first|(cases ha;done)|simp [n1,n2,n3,n4]
    ·rename_i ha
     cases hc:fCmp op none with
     | none => rw [hc] at h;cases h
     | some z =>
      rw [hc] at h;cases h
      refine r3 z ?_ (by rw [n5];exact hc)
      cases op <;> simp only [Zv] at ha ⊢ <;> first|rfl|(exact absurd rfl ha)
   ·cases h
  ·cases h
def ffV (d:FloatKind):PV → Option PV
 | .s (.float k b) =>
  if k = d then some (.s (.float d b)) else
  match k.decode b with
  | .nan _ _ => some (.nan d)
  | .infinity s => some (.s (.float d (d.encode (.infinity s))))
  | .number s m e => if (d.decode (d.encode (.number s m e))).isInfinity then none else some (.s (.float d (d.encode (.number s m e))))
 | .nan _ => some (.nan d)
 | _ => none
def fiV (d:IntKind):PV → Option PV
 | .s (.float k b) =>
  match (k.decode b).toInt .zero with
  | some n => if d.min ≤ n ∧ n ≤ d.max then some (.s (.int d n)) else none
  | none => none
 | _ => none
def itfV (d:FloatKind):PV → Option PV
 | .s (.int _ n) => some (.s (.float d (d.nearest n)))
 | _ => none
theorem V4 {w:World} {s t:TypeId} {k d:FloatKind} {b:Nat} (hs:(P.underlying s).isSome = true) (ht:P.underlying t = some (.float d)) :
  (convert s t (.float k b)).run P w = (Conv.floatToFloat k b d).run P w:=by
 obtain ⟨u,hu⟩:=Option.isSome_iff_exists.1 hs
 cases u <;> simp [convert,run_underlying hu,run_underlying ht]
theorem Qej {w:World} {s t:TypeId} {k:IntKind} {d:FloatKind} {n:Int} (hs:(P.underlying s).isSome = true) (ht:P.underlying t = some (.float d)) :
  (convert s t (.int k n)).run P w = .ok (.float d (d.nearest n)) w:=by
 obtain ⟨u,hu⟩:=Option.isSome_iff_exists.1 hs
 cases u <;> simp [convert,run_underlying hu,run_underlying ht,Conv.intToFloat]
theorem g_ff (S:Sim R M L w) (H:Fit M L w ρ σ) {o:Oper} {d:FloatKind} {s t:TypeId} {x:CX} {x':Operand} (ho:o.op = .convert s t x') (hx:okX x x' = true)
  (hs:(P.underlying s).isSome = true) (ht:P.underlying t = some (.float d)) {v:PV} (h:sopV (.ff d) [ρ x] = some v):Good R P (execOp σ o) M L w v M:=by
 have k1:=H x x' hx
 obtain ⟨u,hu⟩:=Option.isSome_iff_exists.1 hs
 have hc:sopV (.ff d) [ρ x] = ffV d (ρ x):=by
  simp only [sopV,ffV]
  cases ρ x <;> try rfl
  rename_i v;cases v <;> rfl
 rw [hc] at h
 unfold ffV at h
 split at h
 ·rename_i k b e1
  rw [e1] at k1
  have c1:=k1.s_inv
  split at h
  ·rename_i e;subst e;cases h
   exact Qg S (by simp only [execOp,ho,c1,Sem.run_bind,V4 hs ht];simp [Conv.floatToFloat]) (.s _ rfl)
  ·rename_i ne
   split at h
   ·rename_i sg fr he;cases h
    refine JI S d (.nanConv d b) (.inr ⟨b,rfl⟩) ?_
    simp only [execOp,ho,c1,Sem.run_bind,V4 hs ht];simp [Conv.floatToFloat,ne,he,Question.forced]
   ·rename_i sg he;cases h
    exact Qg S (by simp only [execOp,ho,c1,Sem.run_bind,V4 hs ht];simp [Conv.floatToFloat,ne,he]) (.s _ rfl)
   ·rename_i sg m e he
    split at h
    ·cases h
    ·rename_i hi;cases h
     exact Qg S (by simp only [execOp,ho,c1,Sem.run_bind,V4 hs ht];simp [Conv.floatToFloat,ne,he,hi]) (.s _ rfl)
 ·rename_i k e1
  cases h
  rw [e1] at k1
  generalize hcc:σ x' = c at k1
  cases k1 with
  | nan _ b hb =>
   by_cases e:k = d
   ·subst e
    exact ⟨_,w,L,.inl (by simp only [execOp,ho,hcc,Sem.run_bind,V4 hs ht];simp [Conv.floatToFloat]),Evo.refl M L w,S,.nan k b hb⟩
   ·have hd:∃ sg fr,k.decode b = .nan sg fr:=by
     generalize k.decode b = z at hb
     cases z <;> simp [Ieee.Datum.isNaN] at hb
     exact ⟨_,_,rfl⟩
    obtain ⟨sg,fr,he⟩:=hd
    refine JI S d (.nanConv d b) (.inr ⟨b,rfl⟩) ?_
    simp only [execOp,ho,hcc,Sem.run_bind,V4 hs ht];simp [Conv.floatToFloat,e,he,Question.forced]
 ·cases h
theorem g_fi (S:Sim R M L w) (H:Fit M L w ρ σ) {o:Oper} {d:IntKind} {s t:TypeId} {x:CX} {x':Operand} (ho:o.op = .convert s t x') (hx:okX x x' = true)
  (hs:(P.underlying s).isSome = true) (ht:P.underlying t = some (.int d)) {v:PV} (h:sopV (.fi d) [ρ x] = some v):Good R P (execOp σ o) M L w v M:=by
 have k1:=H x x' hx
 have hc:sopV (.fi d) [ρ x] = fiV d (ρ x):=by
  simp only [sopV,fiV]
  cases ρ x <;> try rfl
  rename_i v;cases v <;> rfl
 rw [hc] at h
 unfold fiV at h
 split at h
 ·rename_i k b e1
  rw [e1] at k1
  have c1:=k1.s_inv
  split at h
  ·rename_i n hn
   split at h
   ·rename_i hb
    cases h
    refine Qg S ?_ (.s _ rfl)
    have:=run_convert_float_int (P:=P) w s t k d b n hs ht (by unfold floatToIntVal;rw [hn];simp only [];rw [if_pos hb])
    simp only [execOp,ho,c1,Sem.run_bind,this,Result.andThen_ok,Sem.run_pure]
   ·cases h
  ·cases h
 ·cases h
theorem g_itf (S:Sim R M L w) (H:Fit M L w ρ σ) {o:Oper} {d:FloatKind} {s t:TypeId} {x:CX} {x':Operand} (ho:o.op = .convert s t x') (hx:okX x x' = true)
  (hs:(P.underlying s).isSome = true) (ht:P.underlying t = some (.float d)) {v:PV} (h:sopV (.itf d) [ρ x] = some v):Good R P (execOp σ o) M L w v M:=by
 have k1:=H x x' hx
 obtain ⟨u,hu⟩:=Option.isSome_iff_exists.1 hs
 have hc:sopV (.itf d) [ρ x] = itfV d (ρ x):=by
  simp only [sopV,itfV]
  cases ρ x <;> try rfl
  rename_i v;cases v <;> rfl
 rw [hc] at h
 unfold itfV at h
 split at h
 ·rename_i k n e1
  rw [e1] at k1
  have c1:=k1.s_inv
  cases h
  exact Qg S (by simp only [execOp,ho,c1,Sem.run_bind,Qej hs ht];simp) (.s _ rfl)
 ·cases h
theorem Qon (S:Sim R M L w) (H:Fit M L w ρ σ) {o:Oper} {t:TypeId} {x:CX} {x':Operand} (ho:o.op = .range t x') (hx:okX x x' = true) (ht:P.underlying t = some .string)
  {v:PV} {M':List Blk} (h:res M ρ (.srng x) = some (v,M')):Good R P (execOp σ o) M L w v M':=by
 have k1:=H x x' hx
 simp only [res] at h
 split at h
 ·rename_i b e1
  rw [e1] at k1
  have c1:=k1.s_inv
  simp only [Option.some.injEq,Prod.mk.injEq] at h
  obtain ⟨rfl,rfl⟩:=h
  have hrun:(execOp σ o).run P w = .ok (.value (.pointer (some ⟨w.heap.size,0,none⟩))) { w with heap:=w.heap.push (.stringIter b 0) }:=by
   simp [execOp,ho,c1,Instr.range,run_underlying ht]
   try rfl
  obtain ⟨E,S'⟩:=push S (.siter (.str b 0)) (some (.stringIter b 0)) (w':={ w with heap:=w.heap.push (.stringIter b 0) }) ⟨rfl,rfl,rfl,(by first|exact Nat.le_refl _|exact Nat.le_succ _|simp)⟩ rfl (by
   rintro _ _ rfl rfl E
   exact ⟨w.heap.size,0,by simp [Loc.upd_self],by simp⟩)
  exact ⟨_,_,_,.inl hrun,E,S',.oi M.length (.str b 0) w.heap.size 0 (by simp) (by simp [Loc.upd_self])⟩
 ·cases h
theorem Qoq (S:Sim R M L w) (H:Fit M L w ρ σ) {o:Oper} {x:CX} {x':Operand} (ho:o.op = .next x' true) (hx:okX x x' = true)
  {v:PV} {M':List Blk} (h:res M ρ (.snxt x) = some (v,M')):Good R P (execOp σ o) M L w v M':=by
 have k1:=H x x' hx
 simp only [res] at h
 split at h
 ·rename_i i e1
  rw [e1] at k1
  split at h
  ·rename_i s pos hi
   generalize hcm:σ x' = c at k1
   cases k1 with
   | oi _ it' b off hi' hL =>
    rw [hi] at hi';cases hi'
    obtain ⟨b',o',g1,g2⟩:=S.mem i _ hi
    rw [hL] at g1;cases g1
    have hbl:b < w.heap.size:=(Array.getElem?_eq_some_iff.1 g2).1
    split at h
    ·rename_i hlt
     simp only [Option.some.injEq,Prod.mk.injEq] at h
     obtain ⟨rfl,rfl⟩:=h
     have hrun:(execOp σ o).run P w = .ok (.value (.tuple #[.bool true,.int .i64 pos,.int .i32 (Utf8.decode s pos).1])) { w with heap:=w.heap.setIfInBounds b (.stringIter s (pos + (Utf8.decode s pos).2)) }:=by
      simp [execOp,ho,hcm,Instr.next,getObj,setObj,Sem.run,g2,hlt,goInt]
      try rfl
     obtain ⟨E,S'⟩:=change S hi (blk':=.siter (.str s (pos + (Utf8.decode s pos).2))) L (fun _ _ => rfl) (w':={ w with heap:=w.heap.setIfInBounds b (.stringIter s (pos + (Utf8.decode s pos).2)) }) ⟨rfl,rfl,rfl,(by first|exact Nat.le_refl _|exact Nat.le_succ _|simp)⟩ (.inl rfl) (by simp) (fun b' hb' hne => by
      have:b ≠ b':=hne (b,off) rfl hL
      simp [Array.getElem?_setIfInBounds_ne this]) (fun p hp => .inl ⟨p,hp,rfl⟩) rfl (fun E => ⟨b,off,hL,by simp [hbl]⟩)
     exact ⟨_,_,L,.inl hrun,E,S',.tup _ _ (.cons _ _ _ _ (.s _ rfl) (.cons _ _ _ _ (.s _ rfl) (.cons _ _ _ _ (.s _ rfl) .nil)))⟩
    ·rename_i hlt
     simp only [Option.some.injEq,Prod.mk.injEq] at h
     obtain ⟨rfl,rfl⟩:=h
     have hrun:(execOp σ o).run P w = .ok (.value (.tuple #[.bool false])) w:=by
      simp [execOp,ho,hcm,Instr.next,getObj,Sem.run,g2,hlt]
      try rfl
     exact ⟨_,_,L,.inl hrun,Evo.refl M L w,S,.tup _ _ (.cons _ _ _ _ (.s _ rfl) .nil)⟩
  ·cases h
 ·cases h
end
end Go.Nac
namespace Go.Nac
variable [Env]
section
variable {R:CCode → Code → Prop} {P:Program} {M:List Blk} {L:Loc} {w:World} {ρ:CX → PV} {σ:Operand → Value}
theorem Qbd:∀ {cs:List PV},cs.all oneB = true → cs.flatMap PV.cells = cs
 | [],_ => rfl
 | c :: cs,h => by
  simp only [List.all_cons,Bool.and_eq_true] at h
  rw [List.flatMap_cons,Qbd h.2]
  have h1:=h.1
  cases c <;> first|rfl|(simp [oneB] at h1)
theorem QbP {c:PV} (h:oneB c = true):c.cells.length = 1:=by cases c <;> first|rfl|(simp [oneB] at h)
theorem Qk9 (S:Sim R M L w) (H:Fit M L w ρ σ) {o:Oper} {n:Nat} {t el:TypeId} {x:CX} {x':Operand} (ho:o.op = .slice t x' none none none) (hx:okX x x' = true)
  (ht:P.underlying t = some (.array n el)) (hz:Qu P el = some 1) {v:PV} {M':List Blk} (h:res M ρ (.arrsl n x) = some (v,M')):Good R P (execOp σ o) M L w v M':=by
 have k1:=H x x' hx
 simp only [res,Option.map_eq_some_iff,Prod.mk.injEq] at h
 obtain ⟨v',h,rfl,rfl⟩:=h
 unfold QbN at h
 split at h
 ·rename_i cs e1
  rw [e1] at k1
  split at h
  ·rename_i hc
   obtain ⟨hn,h0,hone⟩:=hc
   cases h
   generalize hc:σ x' = c at k1
   cases k1 with
   | fp _ b o' vs hr hlt hb hm =>
    have hrun:(Instr.sliceAt t (.pointer (some ⟨b,o',none⟩)) none none none).run P w = .ok (.slice (some ⟨b,o',none⟩) n n) w:=by
     by_cases hn0:n = 0
     ·omega
     ·simp [Instr.sliceAt,Instr.sureAddr,Instr.sliceBounds,Instr.sliceBound,run_underlying ht,QB hz,Addr.add,hn0]
    refine Qg S (by simp [execOp,ho,hc,hrun];rfl) ?_
    have hlen:(cs.take n).length = n:=by simp;omega
    refine .fs _ _ _ _ 1 (vs.take n) hlen.symm (by omega) (fun y hy => ?_) ?_ (fun _ => ⟨b,o',rfl,hlt,hb,fun m u hu => hm m u ?_⟩)
    ·rw [List.all_eq_true] at hone
     exact QbP (hone y hy)
    ·rw [Qbd hone];exact hr.take n
    ·rw [List.getElem?_take] at hu
     split at hu
     ·exact hu
     ·cases hu
  ·cases h
 ·cases h
end
end Go.Nac
