/- Operations that keep out of one another's way: what they read and write. -/
import Derived.Test.YtbmicihfhfcpkaaW02
import Derived.RangeFuncRecord
import Derived.RangeFuncNested
import Derived.RangeFuncLeaves
import Derived.Conc.MuLone
import Derived.Scope
set_option linter.unusedVariables false
set_option linter.unusedSectionVars false
set_option linter.unusedSimpArgs false
namespace Go.Nac
variable [Env]
section
variable {M M2:List Blk}
theorem Z2 {p:PV} (h:∀ i ∈ refs p,M2[i]? = M[i]?):held M2 p = held M p:=by
 cases p
 case os i ver off len => have:=h i (by simp [refs,refs1]);simp only [held,this]
 case s v => unfold held;split <;> first|rfl|(rename_i e;cases e)
 all_goals rfl
theorem QaI {p:PV} (h:∀ i ∈ refs1 p,M2[i]? = M[i]?):view1 M2 p = view1 M p:=by
 cases p
 case os i ver off len => have:=h i (by simp [refs1]);simp only [view1,this]
 case s v => unfold view1;split <;> first|rfl|(rename_i e;cases e)
 all_goals rfl
theorem JP {p:PV} (h:∀ i ∈ refs p,M2[i]? = M[i]?):view M2 p = view M p:=by
 cases p
 case agg cs =>
  simp only [view]
  congr 1
  refine List.map_congr_left fun c hc => QaI fun i hi => h i ?_
  simp only [refs,List.mem_flatMap];exact ⟨c,hc,hi⟩
 all_goals exact QaI (M:=M) (M2:=M2) (by simpa only [refs] using h)
theorem QcV {i ver e j n:Nat} (h:M2[i]? = M[i]?):Zt M2 i ver e j n = Zt M i ver e j n:=by simp only [Zt,h]
theorem Qc8 {g:Option Nat} {p:PV} (h:∀ i ∈ refs p,M2[i]? = M[i]?):Vh M2 g p = Vh M g p:=by
 cases p
 case op i ver e j => have:=h i (by simp [refs,refs1]);simp only [Vh,QcV this]
 all_goals rfl
theorem Zw {i ver:Nat} (h:M2[i]? = M[i]?):QT M2 i ver = QT M i ver:=by simp only [QT,h]
theorem Qf9 {i:Nat} (h:M2[i]? = M[i]?):rowK M2 i = rowK M i:=by simp only [rowK,h]
end
theorem Qgt {M M2 M':List Blk} {ρ:CX → PV} {v:PV} {c:COp} {R:List Nat} (hf:fpOp ρ c = some (R,[])) (hc:c.cls ≤ 1) (h:res M ρ c = some (v,M')) (ha:∀ i ∈ R,M2[i]? = M[i]?):res M2 ρ c = some (v,M2):=by
 have hM:=Qa8 hc h
 subst hM
 have hz:∀ c0,c ≠ .fz c0:=fun c0 e => by rw [e] at hc;simp [COp.cls] at hc
 cases c <;> first|exact absurd rfl (hz _)|simp only [fpOp,Option.some.injEq,Prod.mk.injEq,reduceCtorEq] at hf
 case load g x =>
  obtain ⟨rfl,_⟩:=hf
  simp only [res,Qc8 ha] at h ⊢
  rw [(Vz h).1];rfl
 case nilc x =>
  obtain ⟨rfl,_⟩:=hf
  simp only [res] at h ⊢
  generalize ρ x = p at h ha
  cases p
  case fp cs => simp at h ⊢;exact h
  case op i ver e j =>
   have:=ha i (by simp [refs,refs1])
   simp only [Zw this] at h ⊢
   split at h
   ·rename_i hl;rw [if_pos hl];simp at h ⊢;exact h
   ·cases h
  case fn f _ _ => cases f <;> first|(cases h;done)|(simp at h ⊢;exact h)
  all_goals cases h
 case arrp n x =>
  obtain ⟨rfl,_⟩:=hf
  simp only [res] at h ⊢
  generalize ρ x = p at h ha
  cases p
  case fs xs =>
   simp only at h ⊢
   split at h
   ·rename_i hl;rw [if_pos hl];simp at h ⊢;exact h
   ·cases h
  case os i ver off len =>
   simp only [Z2 ha] at h ⊢
   split at h
   ·rename_i hl;rw [if_pos hl]
    simp only [Option.map_eq_some_iff] at h ⊢
    obtain ⟨a,h1,h2⟩:=h
    exact ⟨a,h1,by simp at h2 ⊢;exact h2⟩
   ·cases h
  all_goals cases h
 case slice k x lo hi =>
  obtain ⟨rfl,_⟩:=hf
  simp only [res] at h ⊢
  generalize ρ x = p at h ha
  cases p
  case fs xs =>
   simp only at h ⊢
   split at h
   ·rename_i hl;rw [if_pos hl]
    simp only [Option.map_eq_some_iff] at h ⊢
    obtain ⟨a,h1,h2⟩:=h
    exact ⟨a,h1,by simp at h2 ⊢;exact h2⟩
   ·cases h
  case s u =>
   by_cases e:u = .slice none 0 0
   ·subst e
    simp only [Option.map_eq_some_iff] at h ⊢
    obtain ⟨a,h1,h2⟩:=h
    exact ⟨a,h1,by simp at h2 ⊢;exact h2⟩
   ·exfalso
    split at h
    ·rename_i e1;cases e1
    ·rename_i e1;cases e1;exact e rfl
    ·rename_i e1;cases e1
    ·cases h
  case os i ver off len =>
   have:=ha i (by simp [refs,refs1])
   simp only [Zw this,Qf9 this] at h ⊢
   split at h
   ·rename_i hl;rw [if_pos hl]
    simp only [Option.map_eq_some_iff] at h ⊢
    obtain ⟨a,h1,h2⟩:=h
    exact ⟨a,h1,by simp at h2 ⊢;exact h2⟩
   ·cases h
  all_goals cases h
 case faddr off x =>
  obtain ⟨rfl,_⟩:=hf
  simp only [res] at h ⊢
  generalize ρ x = p at h ha
  cases p
  case fp cs =>
   simp only at h ⊢
   split at h
   ·rename_i hl;rw [if_pos hl];simp at h ⊢;exact h
   ·cases h
  case op i ver e j =>
   have:=ha i (by simp [refs,refs1])
   simp only [Zw this] at h ⊢
   split at h
   ·rename_i hl;rw [if_pos hl];simp at h ⊢;exact h
   ·cases h
  all_goals cases h
 case iaddr k x i =>
  obtain ⟨rfl,_⟩:=hf
  simp only [res] at h ⊢
  generalize ρ x = p at h ha
  generalize asNat (ρ i) = m at h
  cases p <;> cases m <;> first|(cases h;done)|skip
  ·rename_i xs m
   simp only at h ⊢
   split at h
   ·split at h
    ·rename_i hl;rw [if_pos hl];simp at h ⊢;exact h
    ·cases h
   ·cases h
  ·rename_i a ver off len m
   have:=ha a (by simp [refs,refs1])
   simp only [this] at h ⊢
   split at h
   ·rename_i hl;rw [if_pos hl]
    split at h
    ·split at h
     ·rename_i hl;rw [if_pos hl];simp at h ⊢;exact h
     ·cases h
    ·cases h
   ·cases h
 case iaddra n k x i =>
  obtain ⟨rfl,_⟩:=hf
  simp only [res] at h ⊢
  generalize ρ x = p at h ha
  generalize asNat (ρ i) = m at h
  cases p <;> cases m <;> first|(cases h;done)|skip
  ·simp only at h ⊢
   split at h
   ·rename_i hl;rw [if_pos hl];simp at h ⊢;exact h
   ·cases h
  ·rename_i a ver e j m
   have:=ha a (by simp [refs,refs1])
   simp only [Zw this] at h ⊢
   split at h
   ·rename_i hl;rw [if_pos hl];simp at h ⊢;exact h
   ·cases h
 case b2s x =>
  obtain ⟨rfl,_⟩:=hf
  simp only [res] at h ⊢
  split at h
  ·cases h
  ·rename_i p hno
   rw [Z2 ha]
   simp only [Option.map_eq_some_iff,Prod.mk.injEq] at h ⊢
   obtain ⟨s,h1,h2,_⟩:=h
   exact ⟨s,h1,h2,trivial⟩
 case look sk z ok m key =>
  obtain ⟨rfl,_⟩:=hf
  simp only [res] at h ⊢
  generalize ρ m = p at h ha
  generalize ρ key = q at h
  cases p <;> first|(cases h;done)|skip
  rename_i a
  cases q <;> first|(cases h;done)|skip
  have:=ha a (by simp [refs,refs1])
  simp only [this] at h ⊢
  split at h
  ·split at h
   ·rename_i hl;rw [if_pos hl]
    split at h
    ·simp at h ⊢;exact h
    ·simp at h ⊢;exact h
   ·cases h
  ·cases h
 case box own k x =>
  cases own
  ·simp at hf;subst hf
   simp only [res,Bool.false_eq_true,if_false] at h ⊢
   rw [JP ha]
   split at h
   ·rename_i hl;rw [if_pos hl];simp at h ⊢;exact h
   ·cases h
  ·simp at hf
 case bsl own k xs =>
  cases own
  ·simp at hf;subst hf
   simp only [res,Bool.false_eq_true,if_false] at h ⊢
   have:xs.map (fun x => view M2 (ρ x)) = xs.map (fun x => view M' (ρ x)):=List.map_congr_left fun x hx => JP fun i hi => ha i (by simp only [List.mem_flatMap];exact ⟨x,hx,hi⟩)
   rw [this]
   split at h
   ·rename_i hl;rw [if_pos hl];simp at h ⊢;exact h
   ·cases h
  ·simp at hf
 all_goals (simp only [COp.cls] at hc;omega)
end Go.Nac
namespace Go.Nac
variable [Env]
def Upd (W:List Nat) (u:List Blk → List Blk):Prop:=(W = [] ∧ u = id) ∨ ∃ i b,W = [i] ∧ u = fun M => M.set i b
theorem QcG {M M':List Blk} {i ver e j:Nat} {vs:List PV} (h:Vd M i ver e j vs = some M'):∃ b,M' = M.set i b ∧ ∀ M2:List Blk,M2[i]? = M[i]? → Vd M2 i ver e j vs = some (M2.set i b):=by
 unfold Vd at h
 split at h
 ·rename_i k v xs hi
  split at h
  ·rename_i hv
   split at h
   ·rename_i x hx
    split at h
    ·rename_i hc
     split at h
     ·rename_i cs
      cases h
      refine ⟨_,rfl,fun M2 h2 => ?_⟩
      simp only [Vd,h2,hi,if_pos hv,hx,if_pos hc]
     ·rename_i hno
      split at h
      ·rename_i y
       split at h
       ·cases h
       ·rename_i hny
        cases h
        refine ⟨_,rfl,fun M2 h2 => ?_⟩
        simp only [Vd,h2,hi,if_pos hv,hx,if_pos hc]
      ·cases h
    ·cases h
   ·cases h
  ·cases h
 ·cases h
theorem Qem {M M':List Blk} {ρ:CX → PV} {v:PV} {c:COp} {R W:List Nat} (hf:fpOp ρ c = some (R,W)) (hc:¬ c.cls ≤ 1) (h:res M ρ c = some (v,M')) (hl:M'.length = M.length) :
  ∃ i b,W = [i] ∧ M' = M.set i b ∧ ∀ M2:List Blk,M2.length = M.length → (∀ k ∈ R ++ W,M2[k]? = M[k]?) → res M2 ρ c = some (v,M2.set i b):=by
 have hz:∀ c0,c ≠ .fz c0:=fun c0 e => by rw [e] at h;simp [res] at h
 cases c <;> first|exact absurd rfl (hz _)|simp only [fpOp,Option.some.injEq,Prod.mk.injEq,reduceCtorEq] at hf
 case store k a x =>
  obtain ⟨rfl,rfl⟩:=hf
  simp only [res] at h ⊢
  generalize ρ a = p at h
  cases p
  case op i ver e j =>
   simp only at h
   split at h
   ·rename_i hk
    cases hp:Vd M i ver e j (ρ x).cells with
    | none => rw [hp] at h;cases h
    | some M1 =>
     rw [hp] at h
     obtain ⟨b,rfl,h2⟩:=QcG hp
     simp only [Option.map_some,Option.some.injEq,Prod.mk.injEq] at h
     obtain ⟨rfl,rfl⟩:=h
     refine ⟨i,b,by simp [refs,refs1],rfl,fun M2 _ ha => ?_⟩
     simp only
     rw [if_pos hk,h2 M2 (ha i (by simp [refs,refs1]))];rfl
   ·cases h
  all_goals cases h
 case append k bytes x y =>
  obtain ⟨rfl,rfl⟩:=hf
  simp only [res] at h ⊢
  cases hy:held M (ρ y) with
  | none => rw [hy] at h;cases h
  | some ys =>
   rw [hy] at h
   simp only at h
   split at h
   case isFalse => cases h
   rename_i hys
   generalize hpx:ρ x = p at h
   cases p
   case s u =>
    exfalso
    split at h
    ·split at h
     ·cases h;simp at hl
     ·cases h
    ·rename_i e;cases e
    ·cases h
   case os i ver off len =>
    simp only at h
    split at h
    case h_2 => cases h
    rename_i k' vv xs hi
    split at h
    case isFalse => cases h
    rename_i hc1
    cases h
    refine ⟨i,_,by simp [refs,refs1],rfl,fun M2 _ ha => ?_⟩
    have h1:held M2 (ρ y) = some ys:=by rw [← hy];exact Z2 fun z hz => ha z (by simp [hz])
    have h2:M2[i]? = M[i]?:=ha i (by simp [hpx,refs,refs1])
    simp only [h1,if_pos hys,h2,hi,if_pos hc1]
   all_goals cases h
 case fcall f xs => simp [res] at h
 case copy k x y =>
  obtain ⟨rfl,rfl⟩:=hf
  simp only [res] at h ⊢
  generalize hpx:ρ x = p at h
  cases hy:held M (ρ y) with
  | none => rw [hy] at h;cases p <;> cases h
  | some ys =>
   rw [hy] at h
   cases p
   case os i ver off len =>
    simp only at h
    split at h
    case h_2 => cases h
    rename_i k' vv xs hi
    split at h
    case isFalse => cases h
    rename_i hc1
    cases h
    refine ⟨i,_,by simp [refs,refs1],rfl,fun M2 _ ha => ?_⟩
    have h1:held M2 (ρ y) = some ys:=by rw [← hy];exact Z2 fun z hz => ha z (by simp [hz])
    have h2:M2[i]? = M[i]?:=ha i (by simp [hpx,refs,refs1])
    simp only [h1,h2,hi,if_pos hc1]
   all_goals cases h
 case mupd sk m key x =>
  obtain ⟨rfl,rfl⟩:=hf
  simp only [res] at h ⊢
  generalize ρ m = p at h
  generalize ρ key = q at h
  generalize ρ x = u at h
  cases p <;> first|(cases h;done)|skip
  rename_i a
  cases q <;> first|(cases h;done)|skip
  cases u <;> first|(cases h;done)|skip
  simp only at h ⊢
  split at h
  case h_2 => cases h
  rename_i es hi
  split at h
  case isFalse => cases h
  rename_i hc1
  cases h
  refine ⟨a,_,by simp [refs,refs1],rfl,fun M2 _ ha => ?_⟩
  have h2:M2[a]? = M[a]?:=ha a (by simp [refs,refs1])
  simp only [h2,hi,if_pos hc1]
 case box own k x =>
  cases own
  ·simp [COp.cls] at hc
  ·simp at hf
 case bsl own k xs =>
  cases own
  ·simp [COp.cls] at hc
  ·simp at hf
 all_goals (exfalso;simp only [COp.cls] at hc;omega)
theorem Qg8 {ρ:CX → PV} {c:COp} {R W:List Nat} (hf:fpOp ρ c = some (R,W)) (hc:c.cls ≤ 1):W = []:=by
 have hz:∀ c0,c ≠ .fz c0:=fun c0 e => by rw [e] at hc;simp [COp.cls] at hc
 cases c <;> first|exact absurd rfl (hz _)|simp only [fpOp,Option.some.injEq,Prod.mk.injEq,reduceCtorEq] at hf
 case box own k x => cases own <;> simp at hf;exact hf.2
 case bsl own k x => cases own <;> simp at hf;exact hf.2
 case store => simp [COp.cls] at hc
 case fcall => simp [COp.cls] at hc
 case append => simp [COp.cls] at hc
 case copy => simp [COp.cls] at hc
 case mupd => simp [COp.cls] at hc
 all_goals exact hf.2.symm
theorem Qa3:∀ (l:List PV) {M M':List Blk},QF M l = some M' → M'.length = M.length:=by
 intro l
 induction l with
 | nil => intro M M' h;simp only [QF,Option.some.injEq] at h;rw [h]
 | cons p r ih =>
  intro M M' h
  cases p
  case os i ver off len =>
   simp only [QF] at h
   cases hz:freeze M i with
   | none => rw [hz] at h;cases h
   | some M1 =>
    rw [hz] at h
    have h1:=ih h
    unfold freeze at hz
    split at hz
    ·cases hz;rw [h1,List.length_set]
    ·cases hz
  all_goals exact ih (by simpa only [QF] using h)
theorem Qei {M M1 M':List Blk} {ρ:CX → PV} {v0:PV} {k bytes:Nat} {x y:CX} (h:res M ρ (.append k bytes x y) = some (v0,M1)) (hz:QF M1 v0.cells = some M') (hl:M'.length = M.length) :
  ∃ i b,refs (ρ x) = [i] ∧ M' = M.set i b ∧ ∀ M2:List Blk,M2.length = M.length → (∀ q ∈ refs (ρ y) ++ refs (ρ x),M2[q]? = M[q]?) →
   ∃ M3,res M2 ρ (.append k bytes x y) = some (v0,M3) ∧ QF M3 v0.cells = some (M2.set i b) ∧ view M' v0 = view (M2.set i b) v0:=by
 have hl1:M1.length = M.length:=by rw [← hl];exact (Qa3 _ hz).symm
 simp only [res] at h ⊢
 cases hy:held M (ρ y) with
 | none => rw [hy] at h;cases h
 | some ys =>
  rw [hy] at h
  simp only at h
  split at h
  case isFalse => cases h
  rename_i hys
  generalize hpx:ρ x = p at h
  cases p
  case s u =>
   exfalso
   split at h
   ·split at h
    ·cases h;simp at hl1
    ·cases h
   ·rename_i e;cases e
   ·cases h
  case os i ver off len =>
   simp only at h
   split at h
   case h_2 => cases h
   rename_i k' vv xs hi
   split at h
   case isFalse => cases h
   rename_i hc1
   cases h
   have hil:i < M.length:=by
    rcases Nat.lt_or_ge i M.length with h|h
    ·exact h
    ·rw [List.getElem?_eq_none h] at hi;cases hi
   have fz:∀ M2:List Blk,M2.length = M.length → QF (M2.set i (.row true k (ver + 1) ((xs.drop off).take len ++ ys))) (PV.cells (.os i (ver + 1) 0 (len + ys.length))) = some (M2.set i (.row false k (ver + 1) ((xs.drop off).take len ++ ys))):=by
    intro M2 h2
    simp only [PV.cells,QF,freeze,List.getElem?_set_self (show i < M2.length by omega),Option.bind_some,List.set_set]
   rw [fz M rfl] at hz
   cases hz
   refine ⟨i,_,by simp [refs,refs1],rfl,fun M2 h0 ha => ⟨_,?_,fz M2 h0,?_⟩⟩
   ·have h1:held M2 (ρ y) = some ys:=by rw [← hy];exact Z2 fun z hz => ha z (by simp [hz])
    have h2:M2[i]? = M[i]?:=ha i (by simp [refs,refs1])
    simp only [h1,if_pos hys,h2,hi,if_pos hc1]
   ·refine (JP fun q hq => ?_).symm
    simp only [refs,refs1,List.mem_singleton] at hq
    subst hq
    rw [List.getElem?_set_self (by omega),List.getElem?_set_self (by omega)]
  all_goals cases h
theorem foot {C:CallR} {o:COper × Option Nat} {M M':List Blk} {ρ:CX → PV} {v:PV} {R W:List Nat} (hf:fpD M.length ρ o = some (R,W)) (h:resD C o.2 o.1.op M ρ v M') (hl:M'.length = M.length) :
  ∃ u:List Blk → List Blk,Upd W u ∧ M' = u M ∧ ∀ M2:List Blk,M2.length = M.length → (∀ k ∈ R ++ W,M2[k]? = M[k]?) → resD C o.2 o.1.op M2 ρ v (u M2):=by
 obtain ⟨o,p⟩:=o
 cases p with
 | some r =>
  simp only [fpD,Option.some.injEq,Prod.mk.injEq] at hf
  obtain ⟨rfl,rfl⟩:=hf
  obtain ⟨b,k,xs,h1,h2,h3,rfl⟩:=h
  refine ⟨fun M2 => M2.set (M.length - r) (.row true k 1 xs),.inr ⟨_,_,rfl,rfl⟩,rfl,fun M2 h4 h5 => ⟨b,k,xs,h1,?_,?_,?_⟩⟩
  ·rw [h4];exact (h5 _ (by simp)).trans h2
  ·rw [h4];exact h3
  ·rw [h4]
 | none =>
  simp only [fpD] at hf
  simp only [resD] at h ⊢
  by_cases hfc:∃ f xs,o.op = .fcall f xs
  ·obtain ⟨f,xs,e⟩:=hfc
   rw [e] at hf h ⊢
   obtain ⟨i,b,h1,rfl,h3,h4⟩:=h
   simp only [fpOp,Option.some.injEq,Prod.mk.injEq,h1] at hf
   obtain ⟨rfl,rfl⟩:=hf
   exact ⟨fun M2 => M2.set i b,.inr ⟨i,b,rfl,rfl⟩,rfl,fun M2 h5 h6 => ⟨i,b,h1,rfl,h3,fun N h7 h8 => h4 N (h7.trans h5) (h8.trans (h6 i (by simp)))⟩⟩
  by_cases hfz:∃ c,o.op = .fz c
  ·obtain ⟨c,e⟩:=hfz
   rw [e] at hf h ⊢
   cases c
   case append k bytes x y =>
    simp only [fpOp,Option.some.injEq,Prod.mk.injEq] at hf
    obtain ⟨rfl,rfl⟩:=hf
    obtain ⟨v0,M1,h1,h2,rfl⟩:=h
    obtain ⟨i,b,e1,rfl,h4⟩:=Qei h1 h2 hl
    refine ⟨fun M2 => M2.set i b,.inr ⟨i,b,e1,rfl⟩,rfl,fun M2 h5 h6 => ?_⟩
    obtain ⟨M3,g1,g2,g3⟩:=h4 M2 h5 h6
    exact ⟨v0,M3,g1,g2,g3⟩
   all_goals cases hf
  have hnf:∀ f xs,o.op ≠ .fcall f xs:=fun f xs e => hfc ⟨f,xs,e⟩
  have hne:∀ l f xs,o.op ≠ .call l f xs:=by intro l f xs e;rw [e] at hf;cases hf
  have hR:∀ {M M':List Blk},Res C o.op M ρ v M' ↔ res M ρ o.op = some (v,M'):=by
   intro M M'
   have hnz:∀ c,o.op ≠ .fz c:=fun c e => hfz ⟨c,e⟩
   have hnp:∀ f xs,o.op ≠ .pcall f xs:=by intro f xs e;rw [e] at hf;cases hf
   generalize o.op = c at hne hnz hnp hnf
   cases c <;> first|exact Iff.rfl|exact absurd rfl (hne _ _ _)|exact absurd rfl (hnz _)|exact absurd rfl (hnp _ _)|exact absurd rfl (hnf _ _)
  rw [hR] at h
  by_cases hc:o.op.cls ≤ 1
  ·have:=Qg8 hf hc
   subst this
   have hM:=Qa8 hc h
   subst hM
   exact ⟨id,.inl ⟨rfl,rfl⟩,rfl,fun M2 h4 h5 => hR.2 (Qgt hf hc h fun i hi => h5 i (by simp [hi]))⟩
  ·obtain ⟨i,b,rfl,rfl,h3⟩:=Qem hf hc h hl
   exact ⟨fun M2 => M2.set i b,.inr ⟨i,b,rfl,rfl⟩,rfl,fun M2 h4 h5 => hR.2 (h3 M2 h4 h5)⟩
theorem Upd.length {W:List Nat} {u:List Blk → List Blk} (h:Upd W u) (M:List Blk):(u M).length = M.length:=by
 rcases h with ⟨_,rfl⟩|⟨i,b,_,rfl⟩
 ·rfl
 ·simp
theorem Upd.out {W:List Nat} {u:List Blk → List Blk} (h:Upd W u) (M:List Blk) {k:Nat} (hk:k ∉ W):(u M)[k]? = M[k]?:=by
 rcases h with ⟨_,rfl⟩|⟨i,b,rfl,rfl⟩
 ·rfl
 ·rw [List.getElem?_set_ne (by simpa using fun e => hk (by simp [e]))]
theorem Upd.comm {W W':List Nat} {u u':List Blk → List Blk} (h:Upd W u) (h':Upd W' u') (hd:Zn W W') (M:List Blk):u (u' M) = u' (u M):=by
 rcases h with ⟨_,rfl⟩|⟨i,b,rfl,rfl⟩
 ·rfl
 ·rcases h' with ⟨_,rfl⟩|⟨j,c,rfl,rfl⟩
  ·rfl
  ·exact List.set_comm _ _ fun e => hd i (by simp) j (by simp) e.symm
theorem QbX {C:CallR} {p:Option Nat} {M M':List Blk} {ρ ρ':CX → PV} {v:PV} (c:COp) (h:∀ x ∈ c.opnds,ρ x = ρ' x) (k:resD C p c M ρ v M'):resD C p c M ρ' v M':=by
 cases p with
 | none => exact Ym c h k
 | some r =>
  obtain ⟨o,kk,xs,h1,h2,h3,h4⟩:=k
  refine ⟨o,kk,xs,?_,h2,h3,h4⟩
  rw [← h1]
  cases c <;> first|rfl|skip
  case box own k x => simp only [VH,h x (by simp [COp.opnds])]
  case bsl own k xs => simp only [VH,VV (ρ:=ρ) (ρ':=ρ') (xs:=xs) h]
theorem QbE {ρ ρ':CX → PV} (c:COp) (h:∀ x ∈ c.opnds,ρ x = ρ' x):fpOp ρ c = fpOp ρ' c:=by
  cases c
  case bsl own k xs =>
    simp only [fpOp]
    have:(xs.flatMap fun x => refs (ρ x)) = xs.flatMap fun x => refs (ρ' x):=by
      rw [List.flatMap_def,List.flatMap_def]
      congr 1
      exact List.map_congr_left fun x hx => by rw [h x hx]
    rw [this]
  case slice k x lo hi => simp only [fpOp,h x (by simp [COp.opnds])]
  case fcall f xs => simp only [fpOp,h f (by simp [COp.opnds])]
  case fz c =>
    cases c
    case append k b x y => simp only [fpOp,h x (by simp [COp.opnds]),h y (by simp [COp.opnds])]
    all_goals rfl
  all_goals first
    | rfl
    | (simp only [COp.opnds,List.mem_cons,List.not_mem_nil,or_false,forall_eq_or_imp,forall_eq] at h
       first
         | (simp only [fpOp,h];done)
         | (obtain ⟨h1,h2,h3⟩:=h;simp only [fpOp,h1,h2,h3];done)
         | (obtain ⟨h1,h2⟩:=h;simp only [fpOp,h1,h2];done))
end Go.Nac
namespace Go.Nac
variable [Env]
def stepD (C:CallR) (ops:List (COper × Option Nat)) (φ:Nat → Foot) (i:Nat) (s s':List Blk × List PV):Prop :=
 ∃ o,ops[i]? = some o ∧ o.1.guard = none ∧ ∃ v,resD C o.2 o.1.op s.1 (ev s.2) v s'.1 ∧ s'.1.length = s.1.length ∧ s'.2 = put s.2 o.1.dst v ∧ fpD s.1.length (ev s.2) o = φ i
theorem Qly {C:CallR} (os:List (COper × Option Nat)):∀ (pre:List (COper × Option Nat)) {tr:List Foot} {K:List Foot → List Blk → List PV → Prop} {M:List Blk} {t:List PV},wpD C os tr K M t →
  ∃ M' t' fps,fps.length = os.length ∧ K (tr ++ fps) M' t' ∧ ∀ φ:Nat → Foot,(∀ i,i < os.length → φ (pre.length + i) = fps.getD i none) →
   runG (stepD C (pre ++ os) φ) (List.range' pre.length os.length) (M,t) (M',t'):=by
 induction os with
 | nil => exact fun pre tr K M t h => ⟨M,t,[],rfl,by rw [List.append_nil];exact h,fun φ _ => rfl⟩
 | cons o os ih =>
  intro pre tr K M t h
  obtain ⟨h0,v,M1,h1,h2,h3⟩:=h
  obtain ⟨M',t',fps,h4,h5,h6⟩:=ih (pre ++ [o]) h3
  refine ⟨M',t',fpD M.length (ev t) o :: fps,by simp [h4],by simpa using h5,fun φ hφ => ?_⟩
  simp only [List.length_cons,List.range'_succ]
  refine ⟨(M1,put t o.1.dst v),⟨o,by simp,h0,v,h1,h2,rfl,?_⟩,?_⟩
  ·have:=hφ 0 (by simp)
   simpa using this.symm
  ·have:=h6 φ (fun i hi => by
    have:=hφ (i + 1) (by simp;omega)
    simp only [List.length_append,List.length_singleton,List.getD_cons_succ] at this ⊢
    rw [← this];congr 1;omega)
   simpa using this
def QbJ (a b:COper):Bool :=
 (match a.dst with|some d => !b.looks.contains d && b.dst != some d|none => true) &&
 (match b.dst with|some d => !a.looks.contains d|none => true)
def okD (ops:List (COper × Option Nat)) (pairs:List (Nat × Nat)) (i j:Nat):Bool :=
 match ops[i]?,ops[j]? with
 | some a,some b => QbJ a.1 b.1 &&
   ((a.2.isNone && a.1.op.cls == 0) || (b.2.isNone && b.1.op.cls == 0) || (a.2.isNone && b.2.isNone && decide (a.1.op.cls ≤ 1) && decide (b.1.op.cls ≤ 1)) || pairs.contains (j,i))
 | _,_ => false
theorem Qf0 {x y:Foot} (h:Yp x y):∃ r1 w1 r2 w2,x = some (r1,w1) ∧ y = some (r2,w2) ∧ Zn w1 r2 ∧ Zn w1 w2 ∧ Zn r1 w2:=by
 cases x with
 | none => cases y <;> cases h
 | some p => cases y with
  | none => cases h
  | some q => exact ⟨p.1,p.2,q.1,q.2,rfl,rfl,h⟩
theorem swapD {C:CallR} {ops:List (COper × Option Nat)} {pairs:List (Nat × Nat)} {φ:Nat → Foot} (hφ:∀ p ∈ pairs,Yp (φ p.1) (φ p.2)) {i j:Nat} {s s1 s2:List Blk × List PV} (ok:okD ops pairs i j = true)
  (hj:stepD C ops φ j s s1) (hi:stepD C ops φ i s1 s2):∃ s3,stepD C ops φ i s s3 ∧ stepD C ops φ j s3 s2:=by
 obtain ⟨b,hb,gb,v,b1,b2,b3,b4⟩:=hj
 obtain ⟨a,ha,ga,u,a1,a2,a3,a4⟩:=hi
 obtain ⟨M,t⟩:=s
 obtain ⟨M1,t1⟩:=s1
 obtain ⟨M2,t2⟩:=s2
 simp only at b1 b2 b3 b4 a1 a2 a3 a4
 subst b3;subst a3
 simp only [okD,ha,hb,QbJ,Bool.and_eq_true,Bool.or_eq_true,decide_eq_true_eq,beq_iff_eq,Option.isNone_iff_eq_none,List.contains_eq_mem] at ok
 obtain ⟨⟨i1,i2⟩,i3⟩:=ok
 have n1:∀ d,a.1.dst = some d → d ∉ b.1.looks ∧ b.1.dst ≠ some d:=by
  intro d hd;rw [hd] at i1;simp at i1;exact i1
 have n2:∀ d,b.1.dst = some d → d ∉ a.1.looks:=by
  intro d hd;rw [hd] at i2;simp at i2;exact i2
 have n3:∀ d,b.1.dst = some d → a.1.dst ≠ some d:=fun d hd ha => (n1 d ha).2 hd
 have ea:∀ x ∈ a.1.op.opnds,ev (put t b.1.dst v) x = ev t x:=Jk n2
 have eb:∀ x ∈ b.1.op.opnds,ev t x = ev (put t a.1.dst u) x:=fun x hx => (Jk (fun d hd => (n1 d hd).1) x hx).symm
 have a1':=QbX a.1.op ea a1
 have fpa:fpD M1.length (ev (put t b.1.dst v)) a = fpD M.length (ev t) a:=by
  rw [b2];unfold fpD;split
  ·rfl
  ·exact QbE _ ea
 have fpb:fpD M.length (ev t) b = fpD M.length (ev (put t a.1.dst u)) b:=by
  unfold fpD;split
  ·rfl
  ·exact QbE _ eb
 -- what is left: where memory stands between
 suffices h:∃ M3,resD C a.2 a.1.op M (ev t) u M3 ∧ M3.length = M.length ∧ resD C b.2 b.1.op M3 (ev t) v M2 by
  obtain ⟨M3,h1,h2,h3⟩:=h
  refine ⟨(M3,put t a.1.dst u),⟨a,ha,ga,u,h1,h2,rfl,?_⟩,b,hb,gb,v,QbX b.1.op eb h3,?_,?_,?_⟩
  ·exact fpa.symm.trans a4
  ·simp only;omega
  ·exact Zb n3
  ·simp only;rw [h2,← fpb];exact b4
 rcases i3 with ((⟨p1,p2⟩|⟨p1,p2⟩)|⟨⟨⟨p1,p2⟩,p3⟩,p4⟩)|hp
 ·rw [p1] at a1' ⊢
  obtain ⟨rfl,hall⟩:=JH p2 a1'
  exact ⟨M,hall M,rfl,b1⟩
 ·rw [p1] at b1 ⊢
  obtain ⟨rfl,hall⟩:=JH p2 b1
  exact ⟨M2,a1',a2,hall M2⟩
 ·rw [p1] at a1' ⊢
  rw [p2] at b1 ⊢
  have e1:M1 = M:=JD p4 b1
  subst e1
  have e2:M2 = M1:=JD p3 a1'
  subst e2
  exact ⟨M2,a1',rfl,b1⟩
 ·have hok:=hφ _ (by simpa using hp)
  simp only at hok
  rw [← a4,← b4,fpa] at hok
  obtain ⟨Rb,Wb,Ra,Wa,hfb,hfa,o1,o2,o3⟩:=Qf0 hok
  obtain ⟨ub,hub,rfl,hb2⟩:=foot hfb b1 b2
  have hfa':fpD (ub M).length (ev t) a = some (Ra,Wa):=by rw [b2];exact hfa
  obtain ⟨ua,hua,rfl,ha2⟩:=foot hfa' a1' a2
  have agree:∀ k ∈ Ra ++ Wa,M[k]? = (ub M)[k]?:=by
   intro k hk
   refine (hub.out M fun hw => ?_).symm
   rcases List.mem_append.1 hk with hk|hk
   ·exact o1 k hw k hk rfl
   ·exact o2 k hw k hk rfl
  refine ⟨ua M,ha2 M b2.symm agree,hua.length M,?_⟩
  have h5:=hb2 (ua M) (hua.length M) (fun k hk => hua.out M fun hw => by
   rcases List.mem_append.1 hk with hk|hk
   ·exact o3 k hk k hw rfl
   ·exact o2 k hk k hw rfl)
  rw [hub.comm hua o2] at h5
  exact h5
end Go.Nac
namespace Go.Nac
variable [Env]
section
variable {R:CCode → Code → Prop} {M:List Blk} {L:Loc} {w:World}
theorem Qh9 {n:Nat} (x:PV):lowL n x.cells ↔ x.low n:=by
 cases x <;> simp [PV.cells,lowL,PV.low]
theorem Zg {n:Nat} (xs:List PV):lowL n (xs.flatMap PV.cells) ↔ lowL n xs:=by
 induction xs with
 | nil => simp [lowL]
 | cons x xs ih => rw [List.flatMap_cons,QaO,Qh9,ih,lowL]
mutual
theorem VRel.low:∀ {p:PV} {c:Value},VRel M L w p c → p.low M.length
 | _,_,.top v => by simp [PV.low]
 | _,_,.s v h => by simp [PV.low]
 | _,_,.agg cs vs h => by rw [PV.low];exact LRel.low h
 | _,_,.tup cs vs h => by rw [PV.low];exact LRel.low h
 | _,_,.fs xs a n cap k vs hn hc hk h hm => by
   rw [PV.low]
   exact (Zg xs).1 (LRel.low h)
 | _,_,.fp cs b o vs h hlt hb hm => by rw [PV.low];exact LRel.low h
 | _,_,.os i ver off len wr k xs a cap hi hx hc hm => by rw [PV.low];exact (List.getElem?_eq_some_iff.1 hi).1
 | _,_,.os' i ver off len wr k v' xs a c hi hv => by rw [PV.low];exact (List.getElem?_eq_some_iff.1 hi).1
 | _,_,.op i ver e j wr k xs b o hi he hL => by rw [PV.low];exact (List.getElem?_eq_some_iff.1 hi).1
 | _,_,.op' i ver e j wr k v' xs a hi hv => by rw [PV.low];exact (List.getElem?_eq_some_iff.1 hi).1
 | _,_,.om i es b o hi hL => by rw [PV.low];exact (List.getElem?_eq_some_iff.1 hi).1
 | _,_,.om' i it c hi => by rw [PV.low];exact (List.getElem?_eq_some_iff.1 hi).1
 | _,_,.fn f a c va vc ha hc => by rw [PV.low];exact ⟨LRel.low ha,LRel.low hc⟩
 | _,_,.yl i st pd ts ps x y b o hi hL => by rw [PV.low];exact (List.getElem?_eq_some_iff.1 hi).1
 | _,_,.nan k b h => by simp [PV.low]
 | _,_,.err t v => by simp [PV.low]
 | _,_,.oi i it b o hi hL => by rw [PV.low];exact (List.getElem?_eq_some_iff.1 hi).1
 | _,_,.bp i ver T wr k xs b c hi hx hL hr hs => by rw [PV.low];exact (List.getElem?_eq_some_iff.1 hi).1
 | _,_,.bp' i ver T wr k v' xs a hi hv => by rw [PV.low];exact (List.getElem?_eq_some_iff.1 hi).1
 | _,_,.ot i ver len e wr xs b cap c hi hx h0 hc hL hr hs => by rw [PV.low];exact (List.getElem?_eq_some_iff.1 hi).1
 | _,_,.ot' i ver len e wr k v' xs a cap hi hv => by rw [PV.low];exact (List.getElem?_eq_some_iff.1 hi).1
theorem LRel.low:∀ {xs:List PV} {vs:List Value},LRel M L w xs vs → lowL M.length xs
 | _,_,.nil => by simp [lowL]
 | _,_,.cons x v xs vs h hs => by rw [lowL];exact ⟨VRel.low h,LRel.low hs⟩
end
theorem BRel.low {i:Nat} {b:Blk} (h:BRel R M L w i b):b.low M.length:=by
 cases b with
 | row wr k ver xs =>
  obtain ⟨_,h1,h2⟩:=h
  rw [Blk.low]
  cases hL:L i with
  | none => rw [h2 hL];simp [lowL]
  | some p =>
   obtain ⟨_,_,_,_,h3,_⟩:=h1 p.1 p.2 hL
   exact (Zg xs).1 h3.low
 | map es => exact trivial
 | loop st pd ts ps a b =>
  obtain ⟨_,_,_,_,_,_,_,_,h,_⟩:=h
  rw [Blk.low];exact h.low
 | siter => exact trivial
theorem Sim.low (S:Sim R M L w):lowM M.length M:=by
 intro b hb
 obtain ⟨i,hi⟩:=List.getElem?_of_mem hb
 exact (S.mem i b hi).low
section
variable {M2:List Blk} {L2:Loc} {n:Nat} (hM:∀ i,i < n → M2[i]? = M[i]?) (hL:∀ i,i < n → L2 i = L i) (hO:∀ b,Owned M2 L2 b → Owned M L b)
include hM hL hO
mutual
theorem VRel.remap:∀ {p:PV} {c:Value},VRel M L w p c → p.low n → VRel M2 L2 w p c
 | _,_,.top v,_ => .top v
 | _,_,.s v h,_ => .s v h
 | _,_,.agg cs vs h,l => .agg cs vs (LRel.remap h (by rw [PV.low] at l;exact l))
 | _,_,.tup cs vs h,l => .tup cs vs (LRel.remap h (by rw [PV.low] at l;exact l))
 | _,_,.fs xs a n cap k vs hn hc hk h hm,l => .fs xs a n cap k vs hn hc hk (LRel.remap h (by rw [PV.low] at l;exact (Zg xs).2 l)) fun hne => by
   obtain ⟨b,o,ha,hlt,hb,hv⟩:=hm hne
   exact ⟨b,o,ha,hlt,fun h => hb (hO b h),hv⟩
 | _,_,.fp cs b o vs h hlt hb hm,l => .fp cs b o vs (LRel.remap h (by rw [PV.low] at l;exact l)) hlt (fun h => hb (hO b h)) hm
 | _,_,.os i ver off len wr k xs a cap hi hx hc hm,l => .os i ver off len wr k xs a cap ((hM i (by rw [PV.low] at l;exact l)).trans hi) hx hc fun hne => by
   rw [PV.low] at l
   obtain ⟨b,o,c,el,g1,g2⟩:=hm hne
   exact ⟨b,o,c,el,(hL i l).trans g1,g2⟩
 | _,_,.os' i ver off len wr k v' xs a c hi hv,l => .os' i ver off len wr k v' xs a c ((hM i (by rw [PV.low] at l;exact l)).trans hi) hv
 | _,_,.op i ver e j wr k xs b o hi he hL',l => .op i ver _ j wr k xs b o ((hM i (by rw [PV.low] at l;exact l)).trans hi) he ((hL i (by rw [PV.low] at l;exact l)).trans hL')
 | _,_,.op' i ver e j wr k v' xs a hi hv,l => .op' i ver _ j wr k v' xs a ((hM i (by rw [PV.low] at l;exact l)).trans hi) hv
 | _,_,.om i es b o hi hL',l => .om i es b o ((hM i (by rw [PV.low] at l;exact l)).trans hi) ((hL i (by rw [PV.low] at l;exact l)).trans hL')
 | _,_,.om' i it c hi,l => .om' i it c ((hM i (by rw [PV.low] at l;exact l)).trans hi)
 | _,_,.fn f a c va vc ha hc,l => .fn f a c va vc (LRel.remap ha (by rw [PV.low] at l;exact l.1)) (LRel.remap hc (by rw [PV.low] at l;exact l.2))
 | _,_,.yl i st pd ts ps x y b o hi hL',l => .yl i st pd ts ps x y b o ((hM i (by rw [PV.low] at l;exact l)).trans hi) ((hL i (by rw [PV.low] at l;exact l)).trans hL')
 | _,_,.nan k b h,_ => .nan k b h
 | _,_,.err t v,_ => .err t v
 | _,_,.oi i it b o hi hL',l => .oi i it b o ((hM i (by rw [PV.low] at l;exact l)).trans hi) ((hL i (by rw [PV.low] at l;exact l)).trans hL')
 | _,_,.bp i ver T wr k xs b c hi hx hL' hr hs,l => .bp i ver T wr k xs b c ((hM i (by rw [PV.low] at l;exact l)).trans hi) hx ((hL i (by rw [PV.low] at l;exact l)).trans hL') hr hs
 | _,_,.bp' i ver T wr k v' xs a hi hv,l => .bp' i ver T wr k v' xs a ((hM i (by rw [PV.low] at l;exact l)).trans hi) hv
 | _,_,.ot i ver len e wr xs b cap c hi hx h0 hc hL' hr hs,l => .ot i ver len e wr xs b cap c ((hM i (by rw [PV.low] at l;exact l)).trans hi) hx h0 hc ((hL i (by rw [PV.low] at l;exact l)).trans hL') hr hs
 | _,_,.ot' i ver len e wr k v' xs a cap hi hv,l => .ot' i ver len e wr k v' xs a cap ((hM i (by rw [PV.low] at l;exact l)).trans hi) hv
theorem LRel.remap:∀ {xs:List PV} {vs:List Value},LRel M L w xs vs → lowL n xs → LRel M2 L2 w xs vs
 | _,_,.nil,_ => .nil
 | _,_,.cons x v xs vs h hs,l => .cons x v xs vs (VRel.remap h (by rw [lowL] at l;exact l.1)) (LRel.remap hs (by rw [lowL] at l;exact l.2))
end
theorem BRel.remap {i j:Nat} {b:Blk} (h:BRel R M L w i b) (l:b.low n) (e:L2 j = L i):BRel R M2 L2 w j b:=by
 cases b with
 | row wr k ver xs =>
  rw [Blk.low] at l
  obtain ⟨h0,h1,h2⟩:=h
  refine ⟨h0,fun b o hb => ?_,fun hb => h2 (e ▸ hb)⟩
  obtain ⟨c,el,vs,g1,g2,g3⟩:=h1 b o (e ▸ hb)
  exact ⟨c,el,vs,g1,LRel.remap hM hL hO g2 ((Zg xs).2 l),g3⟩
 | map es =>
  obtain ⟨b,o,ents,clock,h1,h2⟩:=h
  exact ⟨b,o,ents,clock,e.trans h1,h2⟩
 | loop st pd ts ps a b =>
  rw [Blk.low] at l
  obtain ⟨k,o,r,h1,h2,h3,h4,h5,h6,h7⟩:=h
  exact ⟨k,o,r,e.trans h1,h2,h3,h4,h5,LRel.remap hM hL hO h6 l,h7⟩
 | siter it =>
  cases it with
  | str s pos =>
   obtain ⟨b,o,h1,h2⟩:=h
   exact ⟨b,o,e.trans h1,h2⟩
  | mp left cur =>
   obtain ⟨b,o,h1,bm,since,seen,c0,ents,clock,h2,h3,h4,h5⟩:=h
   exact ⟨b,o,e.trans h1,bm,since,seen,c0,ents,clock,h2,h3,fun h => h4 (hO bm h),h5⟩
end
theorem Za {n i:Nat} (h:i < n):(M.take n)[i]? = M[i]?:=by rw [List.getElem?_take,if_pos h]
theorem ZL {n i:Nat} {b:Blk} (h:(M.take n)[i]? = some b):M[i]? = some b ∧ i < n:=by
 rw [List.getElem?_take] at h
 split at h
 ·exact ⟨h,by assumption⟩
 ·cases h
theorem Owned.take {n b:Nat} (h:Owned (M.take n) L b):Owned M L b:=by
 obtain ⟨i,bl,p,h1,h2⟩:=h
 exact ⟨i,bl,p,(ZL h1).1,h2⟩
theorem Sim.take (S:Sim R M L w) {n:Nat} (l:lowM n (M.take n)):Sim R (M.take n) L w :=
  ⟨fun i b hi => BRel.remap (fun i h => Za h) (fun _ _ => rfl) (fun b h => h.take) (S.mem i b (ZL hi).1) (l b (List.mem_of_getElem? hi)) rfl,
   fun i j bi bj p q h1 h2 => S.inj i j bi bj p q (ZL h1).1 (ZL h2).1,
   fun g cs h => ⟨(S.env g cs h).1,fun o => (S.env g cs h).2 o.take⟩⟩
theorem VRel.take {n:Nat} {p:PV} {c:Value} (h:VRel M L w p c) (l:p.low n):VRel (M.take n) L w p c :=
 VRel.remap (fun i h => Za h) (fun _ _ => rfl) (fun b h => h.take) h l
theorem LRel.take' {n:Nat} {p:List PV} {c:List Value} (h:LRel M L w p c) (l:lowL n p):LRel (M.take n) L w p c :=
 LRel.remap (fun i h => Za h) (fun _ _ => rfl) (fun b h => h.take) h l
theorem Evo.take {M0:List Blk} {L0:Loc} {w0:World} (E:Evo M0 L0 w0 M L w) {n:Nat} (h:M0.length ≤ n):Evo M0 L0 w0 (M.take n) L w where
 os:=E.os
 tape:=E.tape
 output:=E.output
 drawn:=E.drawn
 size:=E.size
 frame:=fun b h1 h2 => ⟨(E.frame b h1 h2).1,fun h => (E.frame b h1 h2).2 h.take⟩
 blk:=fun i b hi => by
  obtain ⟨b',h1,h2⟩:=E.blk i b hi
  exact ⟨b',by rw [Za (Nat.lt_of_lt_of_le (List.getElem?_eq_some_iff.1 hi).1 h)];exact h1,h2⟩
theorem QnT (S:Sim R M L w) {i ver off len:Nat} {c:Value} {xs:List PV} {M2:List Blk} (h:VRel M L w (.os i ver off len) c) (hh:held M (.os i ver off len) = some xs)
  (hO:∀ b,Owned M2 L b → Owned M L b) (hno:∀ b o,L i = some (b,o) → ¬ Owned M2 L b) {n:Nat} (hM:∀ i,i < n → M2[i]? = M[i]?) (l:lowL n xs):VRel M2 L w (.fs xs) c:=by
 simp only [held] at hh
 split at hh
 ·rename_i wr k v ys hi
  split at hh
  ·rename_i hc
   obtain ⟨rfl,hle⟩:=hc
   simp only [Option.some.injEq] at hh
   subst hh
   obtain ⟨a,cap,rfl,_,hcap,hm⟩:=h.os_live hi
   obtain ⟨hk,h2,h3⟩:=S.mem i _ hi
   have hlen:((ys.drop off).take len).length = len:=by simp;omega
   by_cases hcap0:cap = 0
   ·have:len = 0:=by omega
    subst this
    exact .fs _ _ _ _ k [] (by simp) (by simp) (by simp) (by simp;exact .nil) (by simp)
   ·obtain ⟨B,q,cc,el',hL,rfl,hb,hsz⟩:=hm hcap0
    obtain ⟨cc',el'',vs,g1,g2,g3⟩:=h2 B q hL
    obtain ⟨rfl,rfl⟩:=hb.uniq g1
    have hr:=(g2.drop (off * k)).take (len * k)
    rw [Vp hk,Vq (fun x hx => hk x (List.mem_of_mem_drop hx))] at hr
    refine .fs _ _ _ _ k _ hlen.symm (by rw [hlen];exact hcap) (fun x hx => hk x (List.mem_of_mem_drop (List.mem_of_mem_take hx))) (LRel.remap hM (fun _ _ => rfl) hO hr ((Zg _).2 l)) fun hne => ?_
    refine ⟨B,q + off * k,rfl,hb.lt,hno B q hL,fun m u hu => ?_⟩
    rw [List.getElem?_take] at hu
    split at hu
    ·rw [List.getElem?_drop] at hu
     have:=g3 _ _ hu
     rw [show q + off * k + m = q + (off * k + m) from by omega]
     exact (hb.cell _).trans this
    ·cases hu
  ·cases hh
 ·cases hh
theorem VRel.out1 (S:Sim R M L w) {n:Nat} {p:PV} {c:Value} (h:VRel M L w p c) (l:(Nac.out1 n M p).low n):VRel (M.take n) L w (Nac.out1 n M p) c:=by
 cases p
 case os i ver off len =>
  simp only [Nac.out1] at l ⊢
  split
  ·rename_i hn
   rw [if_pos hn] at l
   cases hh:held M (.os i ver off len) with
   | none => exact .top c
   | some xs =>
    rw [hh] at l
    simp only [PV.low] at l
    refine QnT S h hh (fun b h => h.take) (fun b o hL => ?_) (fun i h => Za h) l
    rintro ⟨j,bl,p,h1,h4,h5,h6⟩
    obtain ⟨h1,hj⟩:=ZL h1
    simp only [held] at hh
    split at hh
    ·rename_i hi
     exact S.inj j i bl _ p (b,o) h1 hi h4 (by omega) h5 hL h6
    ·cases hh
  ·rename_i hn
   rw [if_neg hn] at l
   exact (Yu S h).take l
 case s v =>
  have hc:=h.s_inv
  subst hc
  by_cases e:c = .slice none 0 0
  ·subst e;exact .fs [] none 0 0 0 [] rfl (Nat.le_refl _) (by simp) .nil (by simp)
  ·have:Nac.out1 n M (.s c) = .s c:=by
    unfold Nac.out1
    split
    ·rename_i h;cases h
    ·rename_i h;cases h;exact absurd rfl e
    ·rfl
   rw [this] at l ⊢;exact h.take l
 all_goals exact h.take l
theorem LRel.out1 (S:Sim R M L w) {n:Nat} {ps:List PV} {cs:List Value} (h:LRel M L w ps cs) (l:lowL n (ps.map (Nac.out1 n M))):LRel (M.take n) L w (ps.map (Nac.out1 n M)) cs:=by
 induction ps generalizing cs with
 | nil => cases h;exact .nil
 | cons x xs ih =>
  rw [List.map_cons,lowL] at l
  cases h with|cons _ v _ vs h hs => exact .cons _ _ _ _ (h.out1 S l.1) (ih hs l.2)
theorem VRel.outV (S:Sim R M L w) {n:Nat} {p:PV} {c:Value} (h:VRel M L w p c) (l:(Nac.outV n M p).low n):VRel (M.take n) L w (Nac.outV n M p) c:=by
 cases p
 case agg cs =>
  cases h with
  | agg _ vs h => exact .agg _ _ (LRel.out1 S h (by simpa only [Nac.outV,PV.low] using l))
 all_goals exact VRel.out1 S h l
theorem LRel.outV (S:Sim R M L w) {n:Nat} {ps:List PV} {cs:List Value} (h:LRel M L w ps cs) (l:lowL n (ps.map (Nac.outV n M))):LRel (M.take n) L w (ps.map (Nac.outV n M)) cs:=by
 induction ps generalizing cs with
 | nil => cases h;exact .nil
 | cons x xs ih =>
  rw [List.map_cons,lowL] at l
  cases h with|cons _ v _ vs h hs => exact .cons _ _ _ _ (h.outV S l.1) (ih hs l.2)
section
variable {D:Nat} {o:Obj} (hD:(∀ c el s,w.heap[D]? ≠ some (.cells c el s)) ∧ ∀ es c,w.heap[D]? ≠ some (.map es c))
include hD
theorem J4 {b:Nat} {c:Array Value} {el:TypeId} {s:Nat × Nat} (h:w.heap[b]? = some (.cells c el s)):(w.putObj D o).heap[b]? = some (.cells c el s):=by
 rw [World.putObj_heap_other (fun e => hD.1 _ _ _ (e ▸ h))];exact h
theorem RowAt.putObj {b:Nat} {c:Array Value} {el:TypeId} (h:RowAt w b c el):RowAt (w.putObj D o) b c el:=by
 obtain ⟨z,h,h2⟩:=h;exact ⟨z,J4 hD h,h2⟩
theorem QaR {a:Addr} {v:Value} (h:w.cell? a = some v):(w.putObj D o).cell? a = some v:=by
 rw [← h]
 by_cases e:a.block = D
 ·exfalso
  simp only [World.cell?] at h
  split at h
  ·rename_i h1;exact hD.1 _ _ _ (e ▸ h1)
  ·cases h
 ·simp only [World.cell?];rw [World.putObj_heap_other e]
mutual
theorem VRel.poke:∀ {p:PV} {c:Value},VRel M L w p c → VRel M L (w.putObj D o) p c
 | _,_,.top v => .top v
 | _,_,.s v h => .s v h
 | _,_,.agg cs vs h => .agg cs vs (LRel.poke h)
 | _,_,.tup cs vs h => .tup cs vs (LRel.poke h)
 | _,_,.fs xs a n cap k vs hn hc hk h hm => .fs xs a n cap k vs hn hc hk (LRel.poke h) fun hne => by
   obtain ⟨b,o,ha,hlt,hb,hv⟩:=hm hne
   exact ⟨b,o,ha,by rw [World.putObj_size];exact hlt,hb,fun m v hmv => QaR hD (hv m v hmv)⟩
 | _,_,.fp cs b o vs h hlt hb hm => .fp cs b o vs (LRel.poke h) (by rw [World.putObj_size];exact hlt) hb fun m v hmv => QaR hD (hm m v hmv)
 | _,_,.os i ver off len wr k xs a cap hi hx hc hm => .os i ver off len wr k xs a cap hi hx hc fun hne => by
   obtain ⟨b,o,c,el,g1,g2,g3,g4⟩:=hm hne
   exact ⟨b,o,c,el,g1,g2,RowAt.putObj hD g3,g4⟩
 | _,_,.os' i ver off len wr k v' xs a c hi hv => .os' i ver off len wr k v' xs a c hi hv
 | _,_,.op i ver e j wr k xs b o hi he hL => .op i ver _ j wr k xs b o hi he hL
 | _,_,.op' i ver e j wr k v' xs a hi hv => .op' i ver _ j wr k v' xs a hi hv
 | _,_,.om i es b o hi hL => .om i es b o hi hL
 | _,_,.om' i it c hi => .om' i it c hi
 | _,_,.fn f a c va vc ha hc => .fn f a c va vc (LRel.poke ha) (LRel.poke hc)
 | _,_,.yl i st pd ts ps x y b o hi hL => .yl i st pd ts ps x y b o hi hL
 | _,_,.nan k b h => .nan k b h
 | _,_,.err t v => .err t v
 | _,_,.oi i it b o hi hL => .oi i it b o hi hL
 | _,_,.bp i ver T wr k xs b c hi hx hL hr hs => .bp i ver T wr k xs b c hi hx hL (RowAt.putObj hD hr) hs
 | _,_,.bp' i ver T wr k v' xs a hi hv => .bp' i ver T wr k v' xs a hi hv
 | _,_,.ot i ver len e wr xs b cap c hi hx h0 hc hL hr hs => .ot i ver len e wr xs b cap c hi hx h0 hc hL (RowAt.putObj hD hr) hs
 | _,_,.ot' i ver len e wr k v' xs a cap hi hv => .ot' i ver len e wr k v' xs a cap hi hv
theorem LRel.poke:∀ {xs:List PV} {vs:List Value},LRel M L w xs vs → LRel M L (w.putObj D o) xs vs
 | _,_,.nil => .nil
 | _,_,.cons x v xs vs h hs => .cons x v xs vs (VRel.poke h) (LRel.poke hs)
end
theorem BRel.poke {i:Nat} {b:Blk} (hO:¬ Owned M L D) (hi:M[i]? = some b) (h:BRel R M L w i b):BRel R M L (w.putObj D o) i b:=by
 cases b with
 | row wr k ver xs =>
  obtain ⟨h0,h1,h2⟩:=h
  refine ⟨h0,fun b o hb => ?_,h2⟩
  obtain ⟨c,el,vs,g1,g2,g3⟩:=h1 b o hb
  exact ⟨c,el,vs,RowAt.putObj hD g1,LRel.poke hD g2,g3⟩
 | map es =>
  obtain ⟨b,o,ents,clock,h1,h2,h3⟩:=h
  refine ⟨b,o,ents,clock,h1,?_,h3⟩
  rw [World.putObj_heap_other (fun e => hO ⟨i,_,(b,o),hi,rfl,h1,e⟩)];exact h2
 | loop st pd ts ps a b =>
  obtain ⟨k,o,r,h1,h2,h3,h4,h5,h6,h7⟩:=h
  refine ⟨k,o,r,h1,?_,h3,h4,h5,LRel.poke hD h6,h7⟩
  rw [World.putObj_heap_other (fun e => hO ⟨i,_,(k,o),hi,rfl,h1,e⟩)];exact h2
 | siter it =>
  cases it with
  | str s pos =>
   obtain ⟨b,o,h1,h2⟩:=h
   refine ⟨b,o,h1,?_⟩
   rw [World.putObj_heap_other (fun e => hO ⟨i,_,(b,o),hi,rfl,h1,e⟩)];exact h2
  | mp left cur =>
   obtain ⟨b,o,h1,bm,since,seen,c0,ents,clock,h2,h3,h4,h5,h6⟩:=h
   refine ⟨b,o,h1,bm,since,seen,c0,ents,clock,?_,by rw [World.putObj_size];exact h3,h4,?_,h6⟩
   ·rw [World.putObj_heap_other (fun e => hO ⟨i,_,(b,o),hi,rfl,h1,e⟩)];exact h2
   ·rw [World.putObj_heap_other (fun e => hD.2 _ _ (e ▸ h5))];exact h5
theorem Sim.poke (hO:¬ Owned M L D) (S:Sim R M L w):Sim R M L (w.putObj D o):=⟨fun i b hi => BRel.poke hD hO hi (S.mem i b hi),S.inj,fun g cs h => by
 obtain ⟨⟨el,h1⟩,h2⟩:=S.env g cs h
 exact ⟨⟨el,J4 hD h1⟩,h2⟩⟩
theorem Evo.poke {M0:List Blk} {L0:Loc} {w0:World} (E:Evo M0 L0 w0 M L w) (h:w0.heap.size ≤ D):Evo M0 L0 w0 M L (w.putObj D o) where
 os:=E.os
 tape:=E.tape
 output:=E.output
 drawn:=E.drawn
 size:=by rw [World.putObj_size];exact E.size
 frame:=fun b h1 h2 => ⟨by rw [World.putObj_heap_other (by omega)];exact (E.frame b h1 h2).1,(E.frame b h1 h2).2⟩
 blk:=fun i b hi => by
  obtain ⟨b',h1,h2⟩:=E.blk i b hi
  refine ⟨b',h1,?_⟩
  cases b with
  | row wr k ver xs =>
   cases b' with
   | row wr' k' ver' xs' =>
    refine ⟨h2.1,fun e => ?_⟩
    obtain ⟨g1,g2,g3,g4⟩:=h2.2 e
    refine ⟨g1,g2,g3,fun b o c el hb hc => ?_⟩
    obtain ⟨c',k1,k2⟩:=g4 b o c el hb hc
    exact ⟨c',RowAt.putObj hD k1,k2⟩
   | _ => exact h2.elim
  | map es => cases b' <;> exact h2
  | loop => cases b' <;> exact h2
  | siter => cases b' <;> exact h2
end
end
end Go.Nac
namespace Go.Nac
variable [Env]
section
variable {R:CCode → Code → Prop} {M:List Blk} {L:Loc} {w:World}
section
variable {M2:List Blk} {L2:Loc} {n x:Nat} {kk:Nat} {zs:List PV} (hM:∀ i,i < n → i ≠ x → M2[i]? = M[i]?) (hx:M[x]? = some hole) (hx2:M2[x]? = some (.row true kk 1 zs)) (hL:∀ i,i < n → i ≠ x → L2 i = L i) (hO:∀ b,Owned M2 L2 b → Owned M L b)
include hM hx hx2 hL hO
mutual
theorem VRel.fill:∀ {p:PV} {c:Value},VRel M L w p c → p.low n → VRel M2 L2 w p c
 | _,_,.top v,_ => .top v
 | _,_,.s v h,_ => .s v h
 | _,_,.agg cs vs h,l => .agg cs vs (LRel.fill h (by rw [PV.low] at l;exact l))
 | _,_,.tup cs vs h,l => .tup cs vs (LRel.fill h (by rw [PV.low] at l;exact l))
 | _,_,.fs xs a n cap k vs hn hc hk h hm,l => .fs xs a n cap k vs hn hc hk (LRel.fill h (by rw [PV.low] at l;exact (Zg xs).2 l)) fun hne => by
   obtain ⟨b,o,ha,hlt,hb,hv⟩:=hm hne
   exact ⟨b,o,ha,hlt,fun h => hb (hO b h),hv⟩
 | _,_,.fp cs b o vs h hlt hb hm,l => .fp cs b o vs (LRel.fill h (by rw [PV.low] at l;exact l)) hlt (fun h => hb (hO b h)) hm
 | _,_,.os i ver off len wr k xs a cap hi hx' hc hm,l => by
   rw [PV.low] at l
   by_cases e:i = x
   ·subst e
    rw [hx] at hi;cases hi
    exact .os' i 0 off len true kk 1 zs a cap hx2 (by omega)
   ·exact .os i ver off len wr k xs a cap ((hM i l e).trans hi) hx' hc fun hne => by
     obtain ⟨b,o,c,el,g1,g2⟩:=hm hne
     exact ⟨b,o,c,el,(hL i l e).trans g1,g2⟩
 | _,_,.os' i ver off len wr k v' xs a c hi hv,l => by
   rw [PV.low] at l
   by_cases e:i = x
   ·subst e
    rw [hx] at hi;cases hi;omega
   ·exact .os' i ver off len wr k v' xs a c ((hM i l e).trans hi) hv
 | _,_,.op i ver e j wr k xs b o hi he hL',l => by
   rw [PV.low] at l
   by_cases e':i = x
   ·subst e'
    rw [hx] at hi;cases hi;simp at he
   ·exact .op i ver _ j wr k xs b o ((hM i l e').trans hi) he ((hL i l e').trans hL')
 | _,_,.op' i ver e j wr k v' xs a hi hv,l => by
   rw [PV.low] at l
   by_cases e':i = x
   ·subst e'
    rw [hx] at hi;cases hi;omega
   ·exact .op' i ver _ j wr k v' xs a ((hM i l e').trans hi) hv
 | _,_,.om i es b o hi hL',l => by
   rw [PV.low] at l
   by_cases e':i = x
   ·subst e'
    rw [hx] at hi;cases hi
   ·exact .om i es b o ((hM i l e').trans hi) ((hL i l e').trans hL')
 | _,_,.om' i it c hi,l => by
   rw [PV.low] at l
   by_cases e':i = x
   ·subst e'
    rw [hx] at hi;cases hi
   ·exact .om' i it c ((hM i l e').trans hi)
 | _,_,.fn f a c va vc ha hc,l => .fn f a c va vc (LRel.fill ha (by rw [PV.low] at l;exact l.1)) (LRel.fill hc (by rw [PV.low] at l;exact l.2))
 | _,_,.yl i st pd ts ps u y b o hi hL',l => by
   rw [PV.low] at l
   by_cases e':i = x
   ·subst e'
    rw [hx] at hi;cases hi
   ·exact .yl i st pd ts ps u y b o ((hM i l e').trans hi) ((hL i l e').trans hL')
 | _,_,.nan k b h,_ => .nan k b h
 | _,_,.err t v,_ => .err t v
 | _,_,.oi i it b o hi hL',l => by
   rw [PV.low] at l
   by_cases e':i = x
   ·subst e'
    rw [hx] at hi;cases hi
   ·exact .oi i it b o ((hM i l e').trans hi) ((hL i l e').trans hL')
 | _,_,.bp i ver T wr k xs b c hi hxl hL' hr hs,l => by
   rw [PV.low] at l
   by_cases e':i = x
   ·subst e'
    rw [hx] at hi;cases hi;simp at hxl
   ·exact .bp i ver T wr k xs b c ((hM i l e').trans hi) hxl ((hL i l e').trans hL') hr hs
 | _,_,.bp' i ver T wr k v' xs a hi hv,l => by
   rw [PV.low] at l
   by_cases e':i = x
   ·subst e'
    rw [hx] at hi;cases hi;omega
   ·exact .bp' i ver T wr k v' xs a ((hM i l e').trans hi) hv
 | _,_,.ot i ver len e wr xs b cap c hi hxl h0 hc hL' hr hs,l => by
   rw [PV.low] at l
   by_cases e':i = x
   ·subst e'
    rw [hx] at hi;cases hi
   ·exact .ot i ver len e wr xs b cap c ((hM i l e').trans hi) hxl h0 hc ((hL i l e').trans hL') hr hs
 | _,_,.ot' i ver len e wr k v' xs a cap hi hv,l => by
   rw [PV.low] at l
   by_cases e':i = x
   ·subst e'
    rw [hx] at hi;cases hi;omega
   ·exact .ot' i ver len e wr k v' xs a cap ((hM i l e').trans hi) hv
theorem LRel.fill:∀ {xs:List PV} {vs:List Value},LRel M L w xs vs → lowL n xs → LRel M2 L2 w xs vs
 | _,_,.nil,_ => .nil
 | _,_,.cons x v xs vs h hs,l => .cons x v xs vs (VRel.fill h (by rw [lowL] at l;exact l.1)) (LRel.fill hs (by rw [lowL] at l;exact l.2))
end
theorem BRel.fill {i j:Nat} {b:Blk} (h:BRel R M L w i b) (l:b.low n) (e:L2 j = L i):BRel R M2 L2 w j b:=by
 cases b with
 | row wr k ver xs =>
  rw [Blk.low] at l
  obtain ⟨h0,h1,h2⟩:=h
  refine ⟨h0,fun b o hb => ?_,fun hb => h2 (e ▸ hb)⟩
  obtain ⟨c,el,vs,g1,g2,g3⟩:=h1 b o (e ▸ hb)
  exact ⟨c,el,vs,g1,LRel.fill hM hx hx2 hL hO g2 ((Zg xs).2 l),g3⟩
 | map es =>
  obtain ⟨b,o,ents,clock,h1,h2⟩:=h
  exact ⟨b,o,ents,clock,e.trans h1,h2⟩
 | loop st pd ts ps a b =>
  rw [Blk.low] at l
  obtain ⟨k,o,r,h1,h2,h3,h4,h5,h6,h7⟩:=h
  exact ⟨k,o,r,e.trans h1,h2,h3,h4,h5,LRel.fill hM hx hx2 hL hO h6 l,h7⟩
 | siter it =>
  cases it with
  | str s pos =>
   obtain ⟨b,o,h1,h2⟩:=h
   exact ⟨b,o,e.trans h1,h2⟩
  | mp left cur =>
   obtain ⟨b,o,h1,bm,since,seen,c0,ents,clock,h2,h3,h4,h5⟩:=h
   exact ⟨b,o,e.trans h1,bm,since,seen,c0,ents,clock,h2,h3,fun h => h4 (hO bm h),h5⟩
end
theorem BRel.bump {j k v v':Nat} {wr wr':Bool} {xs:List PV} (h:BRel R M L w j (.row wr k v xs)):BRel R M L w j (.row wr' k v' xs):=h
theorem Qet {M0:List Blk} {L0:Loc} {w0:World} {k x:Nat} {xs:List PV} (E:Evo M0 L0 w0 (M ++ [.row true k 0 xs]) L w) (S:Sim R (M ++ [.row true k 0 xs]) L w) (hM0:M0 = M) (hlow:lowM M.length M) (hxl:lowL M.length xs)
  (hx:M[x]? = some hole):Evo M0 L0 w0 (M.set x (.row true k 1 xs)) (L.upd x (L M.length)) w ∧ Sim R (M.set x (.row true k 1 xs)) (L.upd x (L M.length)) w ∧
   (∀ p c,VRel (M ++ [.row true k 0 xs]) L w p c → p.low M.length → VRel (M.set x (.row true k 1 xs)) (L.upd x (L M.length)) w p c):=by
 have hlt:x < M.length:=(List.getElem?_eq_some_iff.1 hx).1
 have hx1:(M ++ [Blk.row true k 0 xs])[x]? = some hole:=by rw [List.getElem?_append_left hlt];exact hx
 have hx2:(M.set x (.row true k 1 xs))[x]? = some (.row true k 1 xs):=List.getElem?_set_self hlt
 have hN:(M ++ [Blk.row true k 0 xs])[M.length]? = some (.row true k 0 xs):=by simp
 have hM:∀ i,i < M.length → i ≠ x → (M.set x (.row true k 1 xs))[i]? = (M ++ [Blk.row true k 0 xs])[i]?:=by
  intro i hi hne
  rw [List.getElem?_set_ne (Ne.symm hne),List.getElem?_append_left hi]
 have hL:∀ i,i < M.length → i ≠ x → (L.upd x (L M.length)) i = L i:=fun i _ hne => Loc.upd_ne L _ hne
 have get:∀ i b,(M.set x (.row true k 1 xs))[i]? = some b → i < M.length ∧ ((i = x ∧ b = .row true k 1 xs) ∨ (i ≠ x ∧ M[i]? = some b)):=by
  intro i b hi
  have hl:i < M.length:=by have:=(List.getElem?_eq_some_iff.1 hi).1;simpa using this
  refine ⟨hl,?_⟩
  rcases Z8 hlt hi with ⟨h1,h2⟩|⟨h1,h2⟩
  ·exact .inl ⟨h1,h2⟩
  ·exact .inr ⟨h1,h2⟩
 have hO:∀ b,Owned (M.set x (.row true k 1 xs)) (L.upd x (L M.length)) b → Owned (M ++ [Blk.row true k 0 xs]) L b:=by
  rintro b ⟨j,bl,p,h1,h2,h3,h4⟩
  obtain ⟨hl,⟨rfl,rfl⟩|⟨hne,hj⟩⟩:=get j bl h1
  ·rw [Loc.upd_self] at h3
   exact ⟨M.length,_,p,hN,rfl,h3,h4⟩
  ·exact ⟨j,bl,p,by rw [List.getElem?_append_left hl];exact hj,h2,by rw [← hL j hl hne];exact h3,h4⟩
 refine ⟨⟨E.os,E.tape,E.output,E.drawn,E.size,fun b h1 h2 => ⟨(E.frame b h1 h2).1,fun h => (E.frame b h1 h2).2 (hO b h)⟩,fun j b hj => ?_⟩,⟨fun j b hj => ?_,fun i j bx bY p q h1 h2 hl hne hp hq => ?_,fun g cs h => ⟨(S.env g cs h).1,fun o => (S.env g cs h).2 (hO g o)⟩⟩,fun p c h l => VRel.fill hM hx1 hx2 hL hO h l⟩
 ·subst hM0
  have hjl:=(List.getElem?_eq_some_iff.1 hj).1
  by_cases e:j = x
  ·subst e
   rw [hx] at hj;cases hj
   exact ⟨_,hx2,by simp [hole,BEvo]⟩
  ·obtain ⟨b',h1,h2⟩:=E.blk j b hj
   refine ⟨b',(hM j hjl e).trans h1,?_⟩
   have hLj:=hL j hjl e
   cases b with
   | row =>
    cases b' with
    | row => exact ⟨h2.1,fun e => by obtain ⟨g1,g2,g3,g4⟩:=h2.2 e;exact ⟨g1,g2,hLj.trans g3,g4⟩⟩
    | _ => exact h2.elim
   | map =>
    cases b' with
    | map => exact Eq.trans hLj h2
    | siter => exact trivial
    | _ => exact h2.elim
   | loop =>
    cases b' with
    | loop => exact ⟨hLj.trans h2.1,h2.2⟩
    | _ => exact h2.elim
   | siter =>
    cases b' with
    | siter => exact Eq.trans hLj h2
    | _ => exact h2.elim
 ·obtain ⟨hl,⟨rfl,rfl⟩|⟨hne,hj⟩⟩:=get j b hj
  ·exact (BRel.fill hM hx1 hx2 hL hO (S.mem M.length _ hN) (by rw [Blk.low];exact hxl) (Loc.upd_self L _ _)).bump
  ·exact BRel.fill hM hx1 hx2 hL hO (S.mem j b (by rw [List.getElem?_append_left hl];exact hj)) (hlow b (List.mem_of_getElem? hj)) (hL j hl hne)
 ·obtain ⟨hli,⟨rfl,rfl⟩|⟨hnei,hi⟩⟩:=get i bx h1
  ·obtain ⟨hlj,⟨rfl,rfl⟩|⟨hnej,hj⟩⟩:=get j bY h2
   ·exact absurd rfl hne
   ·rw [Loc.upd_self] at hp;rw [hL j hlj hnej] at hq
    exact S.inj M.length j _ bY p q hN (by rw [List.getElem?_append_left hlj];exact hj) hl (by omega) hp hq
  ·obtain ⟨hlj,⟨rfl,rfl⟩|⟨hnej,hj⟩⟩:=get j bY h2
   ·rw [hL i hli hnei] at hp;rw [Loc.upd_self] at hq
    exact S.inj i M.length bx _ p q (by rw [List.getElem?_append_left hli];exact hi) hN hl (by omega) hp hq
   ·rw [hL i hli hnei] at hp;rw [hL j hlj hnej] at hq
    exact S.inj i j bx bY p q (by rw [List.getElem?_append_left hli];exact hi) (by rw [List.getElem?_append_left hlj];exact hj) hl hne hp hq
theorem Qeh (S:Sim R M L w) (k:Nat):∃ L',Evo M L w (M ++ List.replicate k hole) L' w ∧ Sim R (M ++ List.replicate k hole) L' w:=by
 induction k with
 | zero => exact ⟨L,by simpa using Evo.refl M L w,by simpa using S⟩
 | succ k ih =>
  obtain ⟨L1,E1,S1⟩:=ih
  obtain ⟨E2,S2⟩:=push S1 hole none (w':=w) ⟨rfl,rfl,rfl,(by first|exact Nat.le_refl _|exact Nat.le_succ _|simp)⟩ rfl (by
   rintro _ _ rfl rfl E
   exact ⟨by simp,fun b q hL => by simp [Loc.upd_self] at hL,fun _ => rfl⟩)
  rw [List.replicate_succ',← List.append_assoc]
  exact ⟨_,E1.trans E2,S2⟩
end
end Go.Nac
namespace Go.Nac
variable [Env]
def ghost:CCode → Bool
 | .forget _ => true
 | .frz _ => true
 | .own _ _ _ => true
 | .holes _ => true
 | .keep _ => true
 | .fix _ => true
 | .cut => true
 | .seq a b => ghost a && ghost b
 | _ => false
def ZO (P:Program) (c:COp) (o:Op):Bool :=
 match c,o with
 | .call _ f args,.call k => (match k.callee with
  | .value x => (match f with | .inr g => okX (.f g) x | .inl y => okX y x) && okXs args k.args.toList
  | _ => false)
 | .fcall y args,.call k => (match k.callee with
  | .value x => okX y x && okXs args k.args.toList
  | _ => false)
 | .pcall f args,.call k => (match k.callee with
  | .value x => (match f with | .inr g => okX (.f g) x | .inl y => okX y x) && okXs args k.args.toList
  | _ => false)
 | _,_ => false
def isBad:COp → Bool
 | .bad => true
 | _ => false
def okFz (P:Program) (c:COp) (o:Op):Bool :=
 match c with
 | .fz c => okOp P c o
 | _ => false
def QiB (P:Program) (ops:Array Oper) (c:COper) (o:Oper):Bool :=
  o.dst == c.dst && (isBad c.op || okOp P c.op o.op || ZO P c.op o.op || okFz P c.op o.op) &&
  (match c.guard,o.guard with
   | none,none => true
   | some (g,want),some (j,want') => want == want' && ((ops[j]?).bind (·.dst)) == some g
   | _,_ => false)
def ZC (P:Program) (cs:List COper) (ops:Array Oper):Bool :=
 cs.length == ops.size && (List.range cs.length).all fun i => match cs[i]?,ops[i]? with|some c,some o => QiB P ops c o|_,_ => false
def QkU:COp → Bool
 | .alloc _ _ => true
 | .box own _ _ => own
 | .bsl own _ _ => own
 | .onil _ => true
 | _ => false
def Qfx (P:Program) (c:COper × Option Nat) (o:Oper):Bool :=
 o.dst == c.1.dst && o.guard.isNone && (match c.2 with|none => okOp P c.1.op o.op || ZO P c.1.op o.op || okFz P c.1.op o.op|some _ => okOp P c.1.op o.op && QkU c.1.op)
def Yn (P:Program) (cs:List (COper × Option Nat)) (pairs:List (Nat × Nat)) (ops:Array Oper):Bool :=
 cs.length == ops.size && ((List.range cs.length).all fun i => match cs[i]?,ops[i]? with|some c,some o => Qfx P c o|_,_ => false) && Qbu ops.size ops (okD cs pairs)
def Qg5 (d x:Nat) (ops:Array Oper):Bool :=
 match ops[0]? with
 | some o => (match o.op with | .next (.tmp y) false => x == y | _ => false) && o.dst == some d && o.guard.isNone
 | none => false
def Qs (P:Program):CCode → Code → Bool
 | .mnext d x cs,.region _ ops draw => !draw && Qg5 d x ops && ZC P (⟨some d,.bad,none⟩ :: cs) ops
 | .skip,.skip => true
 | .region cs,.region _ ops draw => ZC P cs ops && (!draw || Qaw cs ops)
 | .regionD cs pairs,.region _ ops _ => Yn P cs pairs ops
 | .seq a b,d => (ghost a && Qs P b d) || (ghost b && Qs P a d) || (match d with | .seq x y => Qs P a x && Qs P b y | _ => false)
 | .cond c a b,.cond c' x y => okX c c' && Qs P a x && Qs P b y
 | .block i c,.block j d => i == j && Qs P c d
 | .scope c,.scope d => Qs P c d
 | .loop c,.loop d => Qs P c d
 | .rangeFunc f ps a b,.rangeFunc g qs x y => okX f g && ps == qs.toList && Qs P a x && Qs P b y
 | .exit i,.exit j => i == j
 | .goto i,.goto j => i == j
 | .label _,.label _ => true
 | .ret,.ret => true
 | _,_ => false
def RO (P:Program) (c:CCode) (d:Code):Prop:=Qs P c d = true
def FR (ro:Option Nat):Fence:={ Fence.wide with round:=ro }
def exRel:Ex → Exit → Prop
 | .normal,.normal => True
 | .ret,.ret => True
 | .exit i,.exit j => i = j
 | .goto i,.goto j => i = j
 | _,_ => False
def Fin (P:Program) (M:List Blk) (L:Loc) (w:World) (r:PV) (M':List Blk):Ending → World → Prop
 | .returned v,w' => ∃ L',Evo M L w M' L' w' ∧ Sim (RO P) M' L' w' ∧ VRel M' L' w' r v
 | _,_ => False
def QnS:PV → Bool
 | .tup [] => true
 | _ => false
def Conc (P:Program):CallR:=fun f args M r M' => ∀ (L:Loc) (w:World) (cargs:Array Value),Sim (RO P) M L w → LRel M L w args cargs.toList →
 match f with
 | .fn f => ((callFunc f cargs).run P w = .ok (.enter f cargs) w ∧ Calls P f cargs w (Fin P M L w r M')) ∨
   (QnS r = false ∧ ∃ v w',(callFunc f cargs).run P w = .ok (.value v) w' ∧ Fin P M L w r M' (.returned v) w')
 | .yl i => ∀ b o,L i = some (b,o) → ∃ fn tmps x y,(Instr.yield b cargs).run P w = .ok (.round b fn tmps x y) w ∧ RoundIn Fence.wide 0 P b fn tmps x y w (Fin P M L w r M')
def Marks (n:Nat) (M:List Blk) (L:Loc) (w:World):List Deferred → Prop
 | [] => True
 | d :: ds => (∃ D,d = { target:=.collected D,args:=#[] } ∧ n ≤ D ∧ w.heap[D]? = some (.deferred (some [])) ∧ ¬ Owned M L D ∧ ∀ d' ∈ ds,d'.target ≠ .collected D) ∧ Marks n M L w ds
def VZ (ro:Option Nat) (n:Nat) (M:List Blk) (L:Loc) (w:World) (ds:List Deferred):Prop :=
 match ro with
 | none => Marks n M L w ds
 | some _ => ds = []
structure St (P:Program) (M0:List Blk) (L0:Loc) (w0:World) (ro:Option Nat) (M:List Blk) (t:List PV) (L:Loc) (a:Act) (w:World):Prop where
 S:Sim (RO P) M L w
 T:LRel M L w t a.tmps.toList
 E:Evo M0 L0 w0 M L w
 D:VZ ro w0.heap.size M L w a.defers
section
variable {P:Program} {M0:List Blk} {L0:Loc} {w0:World} {ro:Option Nat} {M M':List Blk} {t t':List PV} {L L':Loc} {a:Act} {w w':World}
theorem Marks.evo {n:Nat} {ds:List Deferred} (h:Marks n M L w ds) (E:Evo M L w M' L' w'):Marks n M' L' w' ds:=by
 induction ds with
 | nil => exact trivial
 | cons d ds ih =>
  obtain ⟨⟨D,rfl,h1,h2,h3,h4⟩,h5⟩:=h
  obtain ⟨k1,k2⟩:=E.frame D (Array.getElem?_eq_some_iff.1 h2).1 h3
  exact ⟨⟨D,rfl,h1,k1.trans h2,k2,h4⟩,ih h5⟩
theorem VZ.evo {n:Nat} {ds:List Deferred} (h:VZ ro n M L w ds) (E:Evo M L w M' L' w'):VZ ro n M' L' w' ds:=by
 cases ro with
 | none => exact Marks.evo h E
 | some l => exact h
theorem Act.put_defers (a:Act) (dst:Option Tmp) (v:Value):(a.put dst v).defers = a.defers:=by cases dst <;> rfl
theorem LRel.put (h:LRel M L w t a.tmps.toList) (dst:Option Nat) {v:PV} {c:Value} (hv:VRel M L w v c):LRel M L w (put t dst v) (a.put dst c).tmps.toList:=by
 cases dst with
 | none => exact h
 | some d => simp only [Nac.put,Act.put,Array.toList_setIfInBounds];exact h.set d hv
theorem St.step (s:St P M0 L0 w0 ro M t L a w) (E:Evo M L w M' L' w') (S:Sim (RO P) M' L' w') {v:PV} {c:Value} (hv:VRel M' L' w' v c) (dst:Option Nat) :
  St P M0 L0 w0 ro M' (put t dst v) L' (a.put dst c) w' :=
 ⟨S,(s.T.evo E).put dst hv,s.E.trans E,by rw [Act.put_defers];exact s.D.evo E⟩
theorem St.fit (s:St P M0 L0 w0 ro M t L a w):Fit M L w (ev t) a.eval:=by
 intro x y h
 unfold okX at h
 split at h
 ·rename_i n m
  simp only [beq_iff_eq] at h;subst h
  simp only [ev,Act.eval,Array.getD_eq_getD_getElem?]
  cases hx:t[n]? with
  | some x =>
   obtain ⟨v,h1,h2⟩:=s.T.get hx
   rw [List.getD_eq_getElem?_getD,hx]
   rw [Array.getElem?_toList] at h1
   rw [h1];exact h2
  | none => rw [List.getD_eq_getElem?_getD,hx];exact .top _
 ·obtain ⟨rfl,h2⟩:=QhQ h
  exact .s _ h2
 ·simp only [beq_iff_eq] at h;subst h
  exact .fn _ _ _ _ _ .nil .nil
 ·rename_i g cs g'
  simp only [Bool.and_eq_true,beq_iff_eq] at h
  obtain ⟨rfl,h⟩:=h
  split at h
  ·rename_i ds hg
   obtain ⟨rfl,h2⟩:=YL h
   obtain ⟨⟨el,h3⟩,h4⟩:=s.S.env g cs hg
   refine .fp _ g 0 cs ?_ (Array.getElem?_eq_some_iff.1 h3).1 h4 ?_
   ·clear h h3 hg
    induction cs with
    | nil => exact .nil
    | cons v vs ih => exact .cons _ _ _ _ (.s _ (h2 v (by simp))) (ih fun u hu => h2 u (by simp [hu]))
   ·intro m v hv
    simp [World.cell?,h3,hv]
  ·cases h
 ·cases h
theorem Yq (ro:Option Nat) (n:Nat):(FR ro).depth.isSome = true → 1 ≤ n:=by intro h;cases h
theorem YB {n:Nat} {f:FuncId} {args:Array Value} {R:Ending → World → Prop} (h:Calls P f args w R):CallsIn (FR ro) n P f args w R :=
 show CallsIn Fence.wide n P f args w R from callsIn_wide.2 h
theorem Jb {ρ:Operand → Value} {o:Oper} {k:Call} (ho:o.op = .call k):execOp ρ o = (do let d ← resolve ρ k o.type;invoke d.target d.args):=by
 simp [execOp,ho]
theorem QaQ {p:PV} (h:(view1 [] p).low 0):view1 M p = view1 [] p:=by
 cases p
 case os i ver off len => exfalso;simp [view1,PV.low] at h
 case s v => unfold view1;split <;> first|rfl|(rename_i e;cases e)
 all_goals rfl
theorem QbV {p:PV} (h:(view [] p).low 0):view M p = view [] p:=by
 cases p
 case agg cs =>
  simp only [view,PV.low] at h ⊢
  congr 1
  refine List.map_congr_left fun c hc => QaQ ?_
  rw [VU] at h
  exact h _ (List.mem_map.2 ⟨c,hc,rfl⟩)
 all_goals exact QaQ (M:=M) (by simpa only [view] using h)
theorem QfH (s:St P M0 L0 w0 ro M t L a w) {o:Oper} {c:COp} (ok:ZO P c o.op = true) {v:PV} (h:Res (Conc P) c M (ev t) v M') {n:Nat} {next:Act → World → Prop} {Q:Exit → Act → World → Prop}
  (hk:∀ L' cv w',Evo M L w M' L' w' → Sim (RO P) M' L' w' → VRel M' L' w' v cv → next (a.put o.dst cv) w'):o.uponIn (FR ro) n P a next Q ((execOp a.eval o).run P w):=by
 unfold ZO at ok
 split at ok
 ·rename_i loud f args k ho
  rw [Jb ho]
  split at ok
  ·rename_i x hx
   simp only [Bool.and_eq_true] at ok
   obtain ⟨ok1,ok2⟩:=ok
   have hargs0:=Fit.list s.fit ok2
   have hargs:LRel M L w (args.map (argV M (ev t))) (k.args.map a.eval).toList:=by
    rw [Array.toList_map]
    generalize k.args.toList.map a.eval = ys at hargs0
    clear hk h ok1 ok2
    induction args generalizing ys with
    | nil => cases hargs0;exact .nil
    | cons x xs ih => cases hargs0 with | cons _ v _ vs h hs => exact .cons _ _ _ _ (by cases x <;> first | exact h | exact Vv s.S h) (ih _ hs)
   have core:∀ {g:FuncId} {as:List PV} {cargs:Array Value},Conc P (.fn g) as M v M' → LRel M L w as cargs.toList → o.uponIn (FR ro) n P a next Q ((callFunc g cargs).run P w):=by
    intro g as cargs hc hl
    rcases hc L w cargs s.S hl with ⟨h1,h2⟩|⟨_,cv,w',h1,h2⟩
    ·rw [h1,Oper.uponIn_enter]
     refine ⟨Yq ro n,YB (Calls.mono h2 fun e w' he => ?_)⟩
     cases e with
     | returned cv => obtain ⟨L',g1,g2,g3⟩:=he;exact hk L' cv w' g1 g2 g3
     | panicked => exact he.elim
     | outgrown => exact he.elim
    ·rw [h1,Oper.uponIn_value]
     obtain ⟨L',g1,g2,g3⟩:=h2;exact hk L' cv w' g1 g2 g3
   have hres:∀ {fv:Value},a.eval x = fv → (Sem.run P (do let d ← resolve a.eval k o.type;invoke d.target d.args) w) = (Sem.run P (do let d ← Deferred.ofValue fv (k.args.map a.eval);invoke d.target d.args) w):=by
    intro fv hf
    simp only [resolve,hx,hf]
   have h2:=h.2
   cases f with
   | inr g =>
    simp only at ok1 h2
    have hf:=s.fit _ _ ok1
    simp only [ev] at hf
    generalize hfv:a.eval x = fv at hf
    cases hf with
    | fn _ _ _ va vc h1 h3 =>
     obtain ⟨va⟩:=va;obtain ⟨vc⟩:=vc
     cases h1;cases h3
     rw [hres hfv]
     simp only [Deferred.ofValue,pure_bind,invoke]
     refine core h2 ?_
     simpa using hargs
   | inl y =>
    simp only at ok1 h2
    have hf:=s.fit _ _ ok1
    generalize hfv:a.eval x = fv at hf
    split at h2
    ·rename_i g first cap e
     rw [e] at hf
     cases hf with
     | fn _ _ _ va vc h1 h3 =>
      rw [hres hfv]
      simp only [Deferred.ofValue,pure_bind,invoke]
      refine core h2 ?_
      simp only [Array.toList_append]
      exact (h1.append hargs).append h3
    ·rename_i i e
     rw [e] at hf
     cases hf with
     | yl _ st pd ts ps x' y' b o' hi hL =>
      rw [hres hfv]
      simp only [Deferred.ofValue,pure_bind,invoke]
      obtain ⟨fn,tmps,x1,y1,g1,g2⟩:=h2 L w (k.args.map a.eval) s.S hargs b o' hL
      rw [show (#[] ++ Array.map a.eval k.args) = Array.map a.eval k.args from by simp,g1,Oper.uponIn_round]
      refine ⟨Yq ro n,?_⟩
      show RoundIn Fence.wide (n - 1) P b fn tmps x1 y1 w _
      refine ⟨g2.1,fun c cs hr => ?_⟩
      obtain ⟨e,w',h3,h4⟩:=g2.2 c cs (room_wide _)
      refine ⟨e,w',?_,h4⟩
      cases e with
      | returned cv => obtain ⟨L',g1,g2,g3⟩:=h3;exact hk L' cv w' g1 g2 g3
      | panicked => exact h3.elim
      | outgrown => exact h3.elim
    ·exact h2.elim
  ·cases ok
 ·rename_i y args k ho
  rw [Jb ho]
  obtain ⟨i,b,hrf,rfl,hlow,hcall⟩:=h
  split at ok
  ·rename_i x hx
   simp only [Bool.and_eq_true] at ok
   obtain ⟨ok1,ok2⟩:=ok
   have hargs0:=Fit.list s.fit ok2
   have hargs:LRel M L w (args.map (argV [] (ev t))) (k.args.map a.eval).toList:=by
    rw [Array.toList_map]
    generalize k.args.toList.map a.eval = ys at hargs0
    clear hk hcall ok1 ok2
    induction args generalizing ys with
    | nil => cases hargs0;exact .nil
    | cons x xs ih =>
     simp only [List.map_cons,lowL] at hlow
     cases hargs0 with|cons _ v _ vs h hs =>
     refine .cons _ _ _ _ ?_ (ih hlow.2 _ hs)
     cases x with
     | k v => exact h
     | t n => show VRel M L w (view [] (ev t (.t n))) v;rw [← QbV (M:=M) hlow.1];exact Vv s.S h
     | f g => exact Vv s.S h
     | g g cs => exact Vv s.S h
   have hres:∀ {fv:Value},a.eval x = fv → (Sem.run P (do let d ← resolve a.eval k o.type;invoke d.target d.args) w) = (Sem.run P (do let d ← Deferred.ofValue fv (k.args.map a.eval);invoke d.target d.args) w):=by
    intro fv hf
    simp only [resolve,hx,hf]
   have h2:=hcall M rfl rfl
   unfold QbS at h2
   have hf:=s.fit _ _ ok1
   generalize hfv:a.eval x = fv at hf
   split at h2
   ·rename_i g first cap e
    rw [e] at hf
    cases hf with
    | fn _ _ _ va vc h1 h3 =>
     rw [hres hfv]
     simp only [Deferred.ofValue,pure_bind,invoke]
     have hl:LRel M L w (first ++ args.map (argV [] (ev t)) ++ cap) (va ++ k.args.map a.eval ++ vc).toList:=by
      simp only [Array.toList_append]
      exact (h1.append hargs).append h3
     rcases h2 L w _ s.S hl with ⟨h1,h2⟩|⟨_,cv,w',h1,h2⟩
     ·rw [h1,Oper.uponIn_enter]
      refine ⟨Yq ro n,YB (Calls.mono h2 fun e w' he => ?_)⟩
      cases e with
      | returned cv => obtain ⟨L',g1,g2,g3⟩:=he;exact hk L' cv w' g1 g2 g3
      | panicked => exact he.elim
      | outgrown => exact he.elim
     ·rw [h1,Oper.uponIn_value]
      obtain ⟨L',g1,g2,g3⟩:=h2;exact hk L' cv w' g1 g2 g3
   ·exact h2.elim
  ·cases ok
 ·rename_i f args k ho
  rw [Jb ho]
  obtain ⟨rfl,hlow,hcall⟩:=h
  split at ok
  ·rename_i x hx
   simp only [Bool.and_eq_true] at ok
   obtain ⟨ok1,ok2⟩:=ok
   have hargs0:=Fit.list s.fit ok2
   have hargs:LRel M' L w (args.map (argV [] (ev t))) (k.args.map a.eval).toList:=by
    rw [Array.toList_map]
    generalize k.args.toList.map a.eval = ys at hargs0
    clear hk hcall ok1 ok2
    induction args generalizing ys with
    | nil => cases hargs0;exact .nil
    | cons x xs ih =>
     simp only [List.map_cons,lowL] at hlow
     cases hargs0 with|cons _ v _ vs h hs =>
     refine .cons _ _ _ _ ?_ (ih hlow.2 _ hs)
     cases x with
     | k v => exact h
     | t n => show VRel M' L w (view [] (ev t (.t n))) v;rw [← QbV (M:=M') hlow.1];exact Vv s.S h
     | f g => exact Vv s.S h
     | g g cs => exact Vv s.S h
   have core:∀ {g:FuncId} {as:List PV} {cargs:Array Value},Conc P (.fn g) as M' v M' → LRel M' L w as cargs.toList → o.uponIn (FR ro) n P a next Q ((callFunc g cargs).run P w):=by
    intro g as cargs hc hl
    rcases hc L w cargs s.S hl with ⟨h1,h2⟩|⟨_,cv,w',h1,h2⟩
    ·rw [h1,Oper.uponIn_enter]
     refine ⟨Yq ro n,YB (Calls.mono h2 fun e w' he => ?_)⟩
     cases e with
     | returned cv => obtain ⟨L',g1,g2,g3⟩:=he;exact hk L' cv w' g1 g2 g3
     | panicked => exact he.elim
     | outgrown => exact he.elim
    ·rw [h1,Oper.uponIn_value]
     obtain ⟨L',g1,g2,g3⟩:=h2;exact hk L' cv w' g1 g2 g3
   have hres:∀ {fv:Value},a.eval x = fv → (Sem.run P (do let d ← resolve a.eval k o.type;invoke d.target d.args) w) = (Sem.run P (do let d ← Deferred.ofValue fv (k.args.map a.eval);invoke d.target d.args) w):=by
    intro fv hf
    simp only [resolve,hx,hf]
   have h2:=hcall M'
   cases f with
   | inr g =>
    simp only at ok1 h2
    have hf:=s.fit _ _ ok1
    simp only [ev] at hf
    generalize hfv:a.eval x = fv at hf
    cases hf with
    | fn _ _ _ va vc h1 h3 =>
     obtain ⟨va⟩:=va;obtain ⟨vc⟩:=vc
     cases h1;cases h3
     rw [hres hfv]
     simp only [Deferred.ofValue,pure_bind,invoke]
     refine core h2 ?_
     simpa using hargs
   | inl y =>
    simp only at ok1 h2
    have hf:=s.fit _ _ ok1
    generalize hfv:a.eval x = fv at hf
    split at h2
    ·rename_i g first cap e
     rw [e] at hf
     cases hf with
     | fn _ _ _ va vc h1 h3 =>
      rw [hres hfv]
      simp only [Deferred.ofValue,pure_bind,invoke]
      refine core h2.2.2 ?_
      simp only [Array.toList_append]
      exact (h1.append hargs).append h3
    ·exact h2.elim
  ·cases ok
 ·cases ok
theorem Qdl {i:Nat} (S:Sim (RO P) M L w) (h:freeze M i = some M'):Evo M L w M' L w ∧ Sim (RO P) M' L w:=by
 unfold freeze at h
 split at h
 ·rename_i wr k v xs hi
  cases h
  refine change S hi L (fun _ _ => rfl) ⟨rfl,rfl,rfl,(by first|exact Nat.le_refl _|exact Nat.le_succ _|simp)⟩ (.inr rfl) (Nat.le_refl _) (fun _ _ _ => rfl) (fun p hp => .inl ⟨p,hp,rfl⟩)
   ⟨Nat.le_refl _,fun _ => ⟨rfl,rfl,rfl,fun b o c el _ hc => ⟨c,hc,rfl⟩⟩⟩ fun E => ?_
  obtain ⟨h0,h1,h2⟩:=S.mem i _ hi
  exact ⟨h0,fun b o hb => by obtain ⟨c,el,vs,g1,g2,g3⟩:=h1 b o hb;exact ⟨c,el,vs,g1,g2.evo E,g3⟩,h2⟩
 ·cases h
theorem ZT (ps:List PV):∀ {M M':List Blk},Sim (RO P) M L w → QF M ps = some M' → Evo M L w M' L w ∧ Sim (RO P) M' L w:=by
 induction ps with
 | nil => intro M M' S h;cases h;exact ⟨Evo.refl _ _ _,S⟩
 | cons p ps ih =>
  intro M M' S h
  cases p
  case os i ver off len =>
   simp only [QF] at h
   cases hf:freeze M i with
   | none => rw [hf] at h;cases h
   | some M1 =>
    rw [hf] at h
    obtain ⟨E1,S1⟩:=Qdl S hf
    obtain ⟨E2,S2⟩:=ih S1 h
    exact ⟨E1.trans E2,S2⟩
  all_goals exact ih S h
theorem Qks {c:COp} {o:Op} (h:okOp P c o = true ∨ ZO P c o = true ∨ okFz P c o = true):∀ k,o ≠ .defer k:=by
 rintro k rfl
 rcases h with h|h|h
 ·simp [okOp] at h
 ·simp [ZO] at h
 ·unfold okFz at h
  split at h
  ·simp [okOp] at h
  ·cases h
theorem JO (s:St P M0 L0 w0 ro M t L a w) {o:Oper} {c:COp} (ok:okOp P c o.op = true ∨ ZO P c o.op = true ∨ okFz P c o.op = true) {v:PV} (h:Res (Conc P) c M (ev t) v M') {n:Nat} {next:Act → World → Prop} {Q:Exit → Act → World → Prop}
  (hk:∀ L' cv w',Evo M L w M' L' w' → Sim (RO P) M' L' w' → VRel M' L' w' v cv → next (a.put o.dst cv) w'):o.wpIn (FR ro) n P a w next Q:=by
 refine ⟨fun f _ => trivial,?_⟩
 rw [Oper.semAt_eq _ _ _ (Qks ok)]
 rcases ok with ok|ok|ok
 ·have hr:res M (ev t) c = some (v,M'):=by
   cases c
   case call l f args => unfold okOp at ok;split at ok <;> first|(simp at ok;done)|(simp [YK] at ok;done)|skip
   case fz c => unfold okOp at ok;split at ok <;> first|(simp at ok;done)|(simp [YK] at ok;done)|skip
   case fcall f args => unfold okOp at ok;split at ok <;> first|(simp at ok;done)|(simp [YK] at ok;done)|skip
   case pcall f args => unfold okOp at ok;split at ok <;> first|(simp at ok;done)|(simp [YK] at ok;done)|skip
   all_goals exact h
  obtain ⟨cv,w',L',h1,E,S,hv⟩:=Qfg s.S s.fit (fun _ => rfl) ok hr
  rcases h1 with h1|⟨h1,rfl⟩
  ·rw [h1];exact hk L' cv w' E S hv
  ·rw [h1];exact hk L' _ w' E S hv
 ·exact QfH s ok h hk
 ·unfold okFz at ok
  split at ok
  ·rename_i c
   obtain ⟨v0,M1,hr,hf,rfl⟩:=h
   obtain ⟨cv,w',L',h1,E,S,hv⟩:=Qfg s.S s.fit (fun _ => rfl) ok hr
   obtain ⟨E2,S2⟩:=ZT _ S hf
   rcases h1 with h1|⟨h1,rfl⟩
   ·rw [h1];exact hk L' cv w' (E.trans E2) S2 (Vv S2 (hv.evo E2))
   ·rw [h1];exact hk L' _ w' (E.trans E2) S2 (Vv S2 (hv.evo E2))
  ·cases ok
theorem J8 {cs:List COper} {ops:Array Oper} (ok:ZC P cs ops = true) {n:Nat} {Q:Exit → Act → World → Prop}:∀ (is:List Nat) {M M':List Blk} {t t':List PV} {L:Loc} {a:Act} {w:World},
  St P M0 L0 w0 ro M t L a w → runL (Conc P) cs is M t M' t' → (∀ L' a' w',St P M0 L0 w0 ro M' t' L' a' w' → Q .normal a' w') → wpOpsIn (FR ro) n P ops Q is a w:=by
 intro is
 induction is with
 | nil =>
  intro M M' t t' L a w s h hq
  obtain ⟨rfl,rfl⟩:=h
  exact hq L a w s
 | cons i is ih =>
  intro M M' t t' L a w s h hq
  obtain ⟨c,M1,t1,hc,h1,h2⟩:=h
  simp only [ZC,Bool.and_eq_true,List.all_eq_true,List.mem_range,beq_iff_eq] at ok
  have ok2:=ok.2 i (List.getElem?_eq_some_iff.1 hc).1
  rw [hc] at ok2
  cases ho:ops[i]? with
  | none => rw [ho] at ok2;cases ok2
  | some o =>
   rw [ho] at ok2
   simp only [QiB,Bool.and_eq_true,Bool.or_eq_true,beq_iff_eq] at ok2
   obtain ⟨⟨hdst,hop⟩,hg⟩:=ok2
   simp only [wpOpsIn,ho]
   have ok':ZC P cs ops = true:=by simp only [ZC,Bool.and_eq_true,List.all_eq_true,List.mem_range,beq_iff_eq];exact ok
   have run:∀ v,Res (Conc P) c.op M (ev t) v M1 → t1 = put t c.dst v → o.wpIn (FR ro) n P a w (wpOpsIn (FR ro) n P ops Q is) Q:=by
    intro v hv ht
    have hop:okOp P c.op o.op = true ∨ ZO P c.op o.op = true ∨ okFz P c.op o.op = true:=by
     rcases hop with ((hop|hop)|hop)|hop
     ·exfalso
      generalize c.op = cop at hv hop
      cases cop <;> first|(cases hop;done)|(cases hv)
     ·exact .inl hop
     ·exact .inr (.inl hop)
     ·exact .inr (.inr hop)
    refine JO s hop hv fun L' cv w' E S hv' => ?_
    have s':=s.step E S hv' c.dst
    rw [← ht,← hdst] at s'
    exact ih s' h2 hq
   cases hcg:c.guard with
   | none =>
    rw [hcg] at hg
    cases hog:o.guard with
    | some p => rw [hog] at hg;cases hg
    | none =>
     rw [QO,hcg] at h1
     obtain ⟨v,h3,h4⟩:=h1
     rw [if_pos (by simp [Region.wanted,hog])]
     exact run v h3 h4
   | some p =>
    obtain ⟨g,want⟩:=p
    rw [hcg] at hg
    cases hog:o.guard with
    | none => rw [hog] at hg;cases hg
    | some q =>
     obtain ⟨j,want'⟩:=q
     rw [hog] at hg
     simp only [Bool.and_eq_true,beq_iff_eq] at hg
     obtain ⟨rfl,hj⟩:=hg
     rw [QO,hcg] at h1
     obtain ⟨b,h0,h1⟩:=h1
     have hy:(yielded ops a.tmps j == some want) = b:=by
      rw [List.getD_eq_getElem?_getD] at h0
      cases hx:t[g]? with
      | none => rw [hx] at h0;cases h0
      | some x =>
       rw [hx] at h0
       simp only [Option.getD_some] at h0
       obtain ⟨u,g1,g2⟩:=s.T.get hx
       rw [Array.getElem?_toList] at g1
       unfold wanted at h0
       split at h0
       ·have:=g2.s_inv
        subst this
        cases h0
        simp [yielded,hj,g1]
       ·have:=g2.s_inv
        subst this
        cases h0
        simp [yielded,hj,g1]
       ·cases h0
     by_cases hb:b = true
     ·rw [if_pos hb] at h1
      obtain ⟨v,h3,h4⟩:=h1
      rw [if_pos (by simp only [Region.wanted,hog];exact hy.trans hb)]
      exact run v h3 h4
     ·rw [if_neg hb] at h1
      obtain ⟨rfl,h4⟩:=h1
      rw [if_neg (by simp only [Region.wanted,hog];rw [hy];exact hb)]
      refine ⟨fun _ _ => trivial,?_⟩
      have s':=s.step (Evo.refl _ _ _) s.S (v:=unit) (c:=undef) (.s undef rfl) c.dst
      rw [← h4,← hdst] at s'
      exact ih s' h2 hq
theorem St.drawn (s:St P M0 L0 w0 ro M t L a w):St P M0 L0 w0 ro M t L a { w with drawn:=w.drawn + 1 }:=by
 have E:Evo M L w M L { w with drawn:=w.drawn + 1 }:=Evo.heap ⟨rfl,rfl,rfl,(by first|exact Nat.le_refl _|exact Nat.le_succ _|simp)⟩ rfl
 exact ⟨s.S.heap ⟨rfl,rfl,rfl,(by first|exact Nat.le_refl _|exact Nat.le_succ _|simp)⟩ rfl,s.T.evo E,s.E.trans E,s.D.evo E⟩
theorem Qc6 (hmix:P.follows .mixedOrders = true) {cs:List COper} {id:Nat} {ops:Array Oper} {draw:Bool} (ok:Qs P (.region cs) (.region id ops draw) = true) {n:Nat}
  {K:List Blk → List PV → Prop} {Q:Exit → Act → World → Prop} (s:St P M0 L0 w0 ro M t L a w) (h:wpOps (Conc P) cs K M t)
  (hq:∀ M' t' L' a' w',K M' t' → St P M0 L0 w0 ro M' t' L' a' w' → Q .normal a' w'):(Code.region id ops draw).wpIn (FR ro) n P Q a w:=by
 simp only [Qs,Bool.and_eq_true,Bool.or_eq_true,Bool.not_eq_true'] at ok
 obtain ⟨ok1,ok2⟩:=ok
 have hn:cs.length = ops.size:=by simp only [ZC,Bool.and_eq_true,beq_iff_eq] at ok1;exact ok1.1
 obtain ⟨M',t',h1,h2⟩:=Qct [] cs h
 rw [List.nil_append,List.length_nil,← List.range_eq_range'] at h1
 cases draw with
 | false =>
  refine wpIn_region ?_
  rw [← hn]
  exact J8 ok1 _ s h1 fun L' a' w' => hq M' t' L' a' w' h2
 | true =>
  refine wpIn_region_draw fun tn => ?_
  have ok3:Qaw cs ops = true:=by simpa using ok2
  simp only [Region.schedule,hmix,Bool.true_or,if_true]
  exact J8 ok1 _ s.drawn (QcW hn ok3 tn h1) fun L' a' w' => hq M' t' L' a' w' h2
theorem Qe8 {d x:Nat} {cs:List COper} {id:Nat} {ops:Array Oper} {draw:Bool} (ok:Qs P (.mnext d x cs) (.region id ops draw) = true) {n:Nat}
  {K:List Blk → List PV → Prop} {Q:Exit → Act → World → Prop} (s:St P M0 L0 w0 ro M t L a w)
  (h:∃ i left cur,t.getD x .top = .oi i ∧ M[i]? = some (.siter (.mp left cur)) ∧ (left = [] → wpOps (Conc P) cs K M (put t (some d) (.tup [.B false]))) ∧
   ∀ a e b,left = a ++ e :: b → wpOps (Conc P) cs K (M.set i (.siter (.mp (a ++ b) (some e)))) (put t (some d) (.tup [.B true,.s e.1,.s e.2])))
  (hq:∀ M' t' L' a' w',K M' t' → St P M0 L0 w0 ro M' t' L' a' w' → Q .normal a' w'):(Code.region id ops draw).wpIn (FR ro) n P Q a w:=by
 simp only [Qs,Bool.and_eq_true,Bool.not_eq_true'] at ok
 obtain ⟨⟨rfl,ok1⟩,ok2⟩:=ok
 obtain ⟨i,left,cur,hx,hi,h0,h1⟩:=h
 have hn:cs.length + 1 = ops.size:=by simp only [ZC,Bool.and_eq_true,beq_iff_eq,List.length_cons] at ok2;exact ok2.1
 refine wpIn_region ?_
 rw [← hn,List.range_eq_range',List.range'_succ]
 unfold Qg5 at ok1
 cases ho:ops[0]? with
 | none => rw [ho] at ok1;cases ok1
 | some o =>
  rw [ho] at ok1
  simp only [Bool.and_eq_true,beq_iff_eq,Option.isNone_iff_eq_none] at ok1
  obtain ⟨⟨hop,hdst⟩,hg⟩:=ok1
  have hop':o.op = .next (.tmp x) false:=by
   split at hop
   ·rename_i y e;rw [beq_iff_eq] at hop;rw [e,hop]
   ·cases hop
  have hv:=s.fit (.t x) (.tmp x) (by simp [okX])
  have hv:VRel M L w (.oi i) (a.eval (.tmp x)):=by
   have e:ev t (.t x) = .oi i:=hx
   rwa [e] at hv
  have rest:∀ {M1:List Blk} {t1:List PV} {L1:Loc} {a1:Act} {w1:World},St P M0 L0 w0 ro M1 t1 L1 a1 w1 → wpOps (Conc P) cs K M1 t1 → wpOpsIn (FR ro) n P ops Q (List.range' 1 cs.length) a1 w1:=by
   intro M1 t1 L1 a1 w1 s1 hw
   obtain ⟨M',t',g1,g2⟩:=Qct [⟨some d,.bad,none⟩] cs hw
   exact J8 ok2 _ s1 g1 fun L' a' w' => hq M' t' L' a' w' g2
  simp only [wpOpsIn,ho]
  rw [if_pos (by simp [Region.wanted,hg])]
  refine ⟨fun f _ => trivial,?_⟩
  rw [Oper.semAt_eq _ _ _ (fun k h => by rw [hop'] at h;cases h)]
  rcases Qio (P:=P) s.S hi hv o.type with ⟨hl,hr⟩|⟨A,e,B,w',hl,hr,o1,o2,E,S'⟩
  ·have hr':(execOp a.eval o).run P w = .ok (.value (.tuple #[.bool false])) w:=by
    simp only [execOp,hop',Sem.run_bind,hr,Result.andThen_ok,Sem.run_pure]
   rw [hr']
   have s':=s.step (Evo.refl _ _ _) s.S (v:=.tup [.B false]) (c:=.tuple #[.bool false]) (.tup _ _ (.cons _ _ _ _ (.s _ rfl) .nil)) (some d)
   rw [← hdst] at s'
   exact rest s' (by rw [hdst];exact h0 hl)
  ·have hr':(execOp a.eval o).run P w = .ok (.value (.tuple #[.bool true,e.1,e.2])) w':=by
    simp only [execOp,hop',Sem.run_bind,hr,Result.andThen_ok,Sem.run_pure]
   rw [hr']
   have s':=s.step E S' (v:=.tup [.B true,.s e.1,.s e.2]) (c:=.tuple #[.bool true,e.1,e.2]) (.tup _ _ (.cons _ _ _ _ (.s _ rfl) (.cons _ _ _ _ (.s _ o1) (.cons _ _ _ _ (.s _ o2) .nil)))) (some d)
   rw [← hdst] at s'
   exact rest s' (by rw [hdst];exact h1 A e B hl)
theorem Qgb {ρ:CX → PV} {c:COp} {b:Bool} {k:Nat} {xs:List PV} (h:VH ρ c = some (b,k,xs)):res M ρ c = some (if b = true then .op M.length 0 0 0 else .os M.length 0 0 xs.length,M ++ [.row true k 0 xs]):=by
 cases c <;> first|(cases h;done)|skip
 case alloc g z =>
  simp only [VH,Option.map_eq_some_iff] at h
  obtain ⟨e,h1,h2⟩:=h
  cases h2
  simp only [res,h1];rfl
 case box own k x =>
  simp only [VH] at h
  split at h
  ·rename_i hc
   obtain ⟨rfl,h1⟩:=hc
   cases h
   simp only [res,if_pos h1];rfl
  ·cases h
 case bsl own k x =>
  simp only [VH] at h
  split at h
  ·rename_i hc
   obtain ⟨rfl,h1⟩:=hc
   cases h
   simp only [res,if_pos h1];simp
  ·cases h
 case onil k => cases h;rfl
theorem Qf5 {ρ:CX → PV} {c:COp} {b:Bool} {k:Nat} {xs:List PV} (h:VH ρ c = some (b,k,xs)) {n:Nat} (hρ:∀ x ∈ c.opnds,(ρ x).low n):lowL n xs:=by
 cases c <;> first|(cases h;done)|skip
 case alloc g z =>
  simp only [VH,Option.map_eq_some_iff] at h
  obtain ⟨e,h1,h2⟩:=h
  cases h2
  rw [VU]
  intro x hx
  simp only [List.mem_singleton] at hx
  subst hx
  have hz:∀ y ∈ z.map PV.s,y.low n:=by intro y hy;obtain ⟨v,_,rfl⟩:=List.mem_map.1 hy;simp [PV.low]
  unfold mkPV at h1
  split at h1
  ·cases h1;rename_i hz2;exact hz _ (by rw [hz2];simp)
  ·cases h1
  ·split at h1
   ·cases h1;rw [PV.low,VU];exact hz
   ·cases h1
 case box own k x =>
  simp only [VH] at h
  split at h
  ·cases h;rw [VU];intro y hy;simp only [List.mem_singleton] at hy;subst hy;exact hρ _ (by simp [COp.opnds])
  ·cases h
 case bsl own k x =>
  simp only [VH] at h
  split at h
  ·cases h;rw [VU];intro y hy;obtain ⟨z,hz,rfl⟩:=List.mem_map.1 hy;exact hρ _ hz
  ·cases h
 case onil k => cases h;simp [lowL]
theorem Qoy (T:LRel M L w t a.tmps.toList) (x:CX):(ev t x).low M.length:=by
 cases x with
 | t n =>
  simp only [ev,List.getD_eq_getElem?_getD]
  cases hx:t[n]? with
  | none => simp [PV.low]
  | some y => have:=T.low;rw [VU] at this;exact this y (List.mem_of_getElem? hx)
 | k v => simp [ev,PV.low]
 | f g => simp [ev,PV.low,lowL]
 | g g cs => simp only [ev,PV.low];exact Zm _ _ fun _ => by simp [PV.low]
theorem QbM {cs:List (COper × Option Nat)} {pairs:List (Nat × Nat)} {φ:Nat → Foot} {ops:Array Oper} (ok:Yn P cs pairs ops = true) {n:Nat} {Q:Exit → Act → World → Prop}:∀ (is:List Nat) {M M':List Blk} {t t':List PV} {L:Loc} {a:Act} {w:World},
  St P M0 L0 w0 ro M t L a w → runG (stepD (Conc P) cs φ) is (M,t) (M',t') → (∀ L' a' w',St P M0 L0 w0 ro M' t' L' a' w' → Q .normal a' w') → wpOpsIn (FR ro) n P ops Q is a w:=by
 intro is
 induction is with
 | nil =>
  intro M M' t t' L a w s h hq
  cases h
  exact hq L a w s
 | cons i is ih =>
  intro M M' t t' L a w s h hq
  obtain ⟨⟨M1,t1⟩,⟨c,hc,_,v,h1,h2,h3,_⟩,h4⟩:=h
  simp only at h1 h2 h3
  have ok0:=ok
  simp only [Yn,Bool.and_eq_true,List.all_eq_true,List.mem_range,beq_iff_eq] at ok0
  have ok2:=ok0.1.2 i (List.getElem?_eq_some_iff.1 hc).1
  rw [hc] at ok2
  cases ho:ops[i]? with
  | none => rw [ho] at ok2;cases ok2
  | some o =>
   rw [ho] at ok2
   simp only [Qfx,Bool.and_eq_true,beq_iff_eq] at ok2
   obtain ⟨⟨hdst,hg⟩,hop⟩:=ok2
   have hog:o.guard = none:=by simpa using hg
   simp only [wpOpsIn,ho]
   rw [if_pos (by simp [Region.wanted,hog])]
   have fin:∀ L' cv w',Evo M L w M1 L' w' → Sim (RO P) M1 L' w' → VRel M1 L' w' v cv → wpOpsIn (FR ro) n P ops Q is (a.put o.dst cv) w':=by
    intro L' cv w' E S hv'
    have s':=s.step E S hv' c.1.dst
    rw [← h3,← hdst] at s'
    exact ih s' h4 hq
   obtain ⟨c,p⟩:=c
   cases p with
   | none =>
    simp only [Bool.or_eq_true] at hop
    exact JO s (or_assoc.1 hop) h1 fin
   | some r =>
    simp only [Bool.and_eq_true] at hop
    obtain ⟨b,k,xs,g1,g2,rfl,rfl⟩:=h1
    have hr:=Qgb (M:=M) g1
    have hrc:Res (Conc P) c.op M (ev t) (if b = true then .op M.length 0 0 0 else .os M.length 0 0 xs.length) (M ++ [.row true k 0 xs]):=by
     have:∀ l f ys,c.op ≠ .call l f ys:=by intro l f ys e;rw [e] at g1;cases g1
     have hnz:∀ c',c.op ≠ .fz c':=by intro c' e;rw [e] at g1;cases g1
     have hnp:∀ f ys,c.op ≠ .pcall f ys:=by intro f ys e;rw [e] at g1;cases g1
     have hnf:∀ f ys,c.op ≠ .fcall f ys:=by intro f ys e;rw [e] at g1;cases g1
     generalize c.op = cop at hr this hnz hnp hnf
     cases cop <;> first|exact hr|exact absurd rfl (this _ _ _)|exact absurd rfl (hnz _)|exact absurd rfl (hnp _ _)|exact absurd rfl (hnf _ _)
    refine JO s (.inl hop.1) hrc fun L' cv w' E S hv' => ?_
    obtain ⟨E2,S2,hV⟩:=Qet E S rfl s.S.low (Qf5 g1 fun x _ => Qoy s.T x) g2
    refine fin _ cv w' E2 S2 ?_
    have hlt:M.length - r < M.length:=(List.getElem?_eq_some_iff.1 g2).1
    have hi1:(M ++ [Blk.row true k 0 xs])[M.length]? = some (.row true k 0 xs):=by simp
    have hi2:(M.set (M.length - r) (.row true k 1 xs))[M.length - r]? = some (.row true k 1 xs):=List.getElem?_set_self hlt
    cases b with
    | true =>
     simp only [if_true] at hv' ⊢
     obtain ⟨bb,oo,q1,q2,rfl⟩:=hv'.op_live hi1
     exact .op _ 1 0 0 true k xs bb oo hi2 q2 ((Loc.upd_self _ _ _).trans q1)
    | false =>
     simp only [Bool.false_eq_true,if_false] at hv' ⊢
     obtain ⟨ad,cap,rfl,q1,q2,q3⟩:=hv'.os_live hi1
     exact .os _ 1 0 xs.length true k xs ad cap hi2 q1 q2 fun hne => by
      obtain ⟨bb,oo,cc,el,u1,u2⟩:=q3 hne
      exact ⟨bb,oo,cc,el,(Loc.upd_self _ _ _).trans u1,u2⟩
theorem QcX (hmix:P.follows .mixedOrders = true) {cs:List (COper × Option Nat)} {pairs:List (Nat × Nat)} {id:Nat} {ops:Array Oper} {draw:Bool} (ok:Yn P cs pairs ops = true) {n:Nat}
  {K:List Blk → List PV → Prop} {Q:Exit → Act → World → Prop} (s:St P M0 L0 w0 ro M t L a w) (h:wpD (Conc P) cs [] (fun tr M t => Yd pairs tr ∧ K M t) M t)
  (hq:∀ M' t' L' a' w',K M' t' → St P M0 L0 w0 ro M' t' L' a' w' → Q .normal a' w'):(Code.region id ops draw).wpIn (FR ro) n P Q a w:=by
 have ok0:=ok
 simp only [Yn,Bool.and_eq_true,beq_iff_eq] at ok0
 obtain ⟨⟨hn,_⟩,hord⟩:=ok0
 obtain ⟨M',t',fps,h1,⟨h2,h3⟩,h4⟩:=Qly cs [] h
 have hrun:=h4 (fun i => fps.getD i none) (fun i hi => by simp)
 simp only [List.nil_append,List.length_nil,← List.range_eq_range'] at hrun
 have hφ:∀ p ∈ pairs,Yp (fps.getD p.1 none) (fps.getD p.2 none):=by rw [List.nil_append] at h2;exact h2
 cases draw with
 | false =>
  refine wpIn_region ?_
  rw [← hn]
  exact QbM ok _ s hrun fun L' a' w' => hq M' t' L' a' w' h3
 | true =>
  refine wpIn_region_draw fun tn => ?_
  simp only [Region.schedule,hmix,Bool.true_or,if_true]
  rw [hn] at hrun
  exact QbM ok _ s.drawn (Js (S:=stepD (Conc P) cs (fun i => fps.getD i none)) hord (fun i j s s1 s2 hij hj hi => swapD hφ hij hj hi) tn hrun) fun L' a' w' => hq M' t' L' a' w' h3
end
end Go.Nac
namespace Go.Nac
variable [Env]
section
variable {P:Program} {M0:List Blk} {L0:Loc} {w0:World} {ro:Option Nat} {M M':List Blk} {t t':List PV} {L L':Loc} {a:Act} {w w':World}
def CP (P:Program) (M0:List Blk) (L0:Loc) (w0:World) (ro:Option Nat) (Q:Post):Exit → Act → World → Prop:=fun e a w => ∃ ex M t L,exRel ex e ∧ Q ex M t ∧ St P M0 L0 w0 ro M t L a w
theorem Qmf {k e m:Nat} {xs:List PV} {x:PV} (hk:∀ x ∈ xs,x.cells.length = k) (hx:xs[e]? = some x) (hm:m < k):(xs.flatMap PV.cells)[e * k + m]? = x.cells[m]?:=by
 have h:=Vp hk e
 have h2:(xs.drop e) = x :: xs.drop (e + 1):=by
  obtain ⟨h3,h4⟩:=List.getElem?_eq_some_iff.1 hx
  rw [List.drop_eq_getElem_cons h3,h4]
 rw [← List.getElem?_drop,h,h2,List.flatMap_cons,List.getElem?_append_left (by rw [hk x (List.mem_of_getElem? hx)];exact hm)]
theorem Qb6 {vs:List Value} {i:Nat} {v:Value} (h:vs[i]? = some v):Q4 vs i [v] = vs:=by
 obtain ⟨h3,h4⟩:=List.getElem?_eq_some_iff.1 h
 simp only [Q4,List.length_singleton]
 subst h4
 rw [List.append_assoc,List.singleton_append,← List.drop_eq_getElem_cons h3,List.take_append_drop]
theorem QfO {p:PV} {j k:Nat} (S:Sim (RO P) M L w) (h:Ju M p j k = some M'):∃ L',Evo M L w M' L' w ∧ Sim (RO P) M' L' w:=by
 unfold Ju at h
 split at h
 case h_2 => cases h
 rename_i a ver e j0
 split at h
 case h_2 => cases h
 rename_i wr0 kk0 v0 xs0 hi0
 split at h
 case h_2 => cases h
 rename_i hc
 cases hp:Vd M a ver e (j0 + j) [.os M.length 0 0 0] with
 | none => rw [hp] at h;cases h
 | some M1 =>
  rw [hp] at h
  cases h
  obtain ⟨k',xs,x,y,hi,hx,hle,_,rfl,hy⟩:=Qan hp
  have hy:=hy (by simp)
  rw [hi] at hi0;cases hi0
  rw [hx] at hc
  simp only [Option.map_some,Option.bind_some] at hc
  obtain ⟨E1,S1⟩:=push S (.row true k 0 []) none (w':=w) ⟨rfl,rfl,rfl,(by first|exact Nat.le_refl _|exact Nat.le_succ _|simp)⟩ rfl (by
   rintro _ _ rfl rfl E
   exact ⟨by simp,fun b q hL => by simp [Loc.upd_self] at hL,fun _ => rfl⟩)
  have hlt:a < M.length:=(List.getElem?_eq_some_iff.1 hi).1
  have hi1:(M ++ [Blk.row true k 0 []])[a]? = some (.row true kk0 ver xs0):=by rw [List.getElem?_append_left hlt];exact hi
  obtain ⟨hk,h2,h3⟩:=S1.mem a _ hi1
  have hxk:=hk x (List.mem_of_getElem? hx)
  have hset:M.set a (.row true kk0 ver (xs0.set e y)) ++ [Blk.row true k 0 []] = (M ++ [Blk.row true k 0 []]).set a (.row true kk0 ver (xs0.set e y)):=by
   rw [List.set_append_left _ _ hlt]
  simp only []
  rw [hset]
  have hlt':j0 + j < kk0:=by simp at hle;omega
  have key:=change S1 hi1 (blk':=.row true kk0 ver (xs0.set e y)) (L.upd M.length (none.map fun (_:Obj) => (w.heap.size,0))) (fun _ _ => rfl) (w':=w) ⟨rfl,rfl,rfl,(by first|exact Nat.le_refl _|exact Nat.le_succ _|simp)⟩ (.inl rfl) (Nat.le_refl _) (fun _ _ _ => rfl) (fun p hp => .inl ⟨p,hp,rfl⟩)
   ⟨Nat.le_refl _,fun _ => ⟨rfl,by simp,rfl,fun b o c el _ hc => ⟨c,hc,rfl⟩⟩⟩ (fun E => by
    refine ⟨fun z hz => ?_,fun b o hb => ?_,fun hb => ?_⟩
    ·rcases List.mem_or_eq_of_mem_set hz with hz|rfl
     ·exact hk z hz
     ·rw [hy,V9 hle];exact hxk
    ·obtain ⟨c,el,vs,g1,g2,g3⟩:=h2 b o hb
     refine ⟨c,el,vs,g1,?_,g3⟩
     rw [Qdr hk hx (by simp only [List.length_singleton];omega) hy]
     have g4:=g2.evo E
     have g5:(xs0.flatMap PV.cells)[e * kk0 + (j0 + j)]? = some (.s (.slice none 0 0)):=by rw [Qmf hk hx hlt'];exact hc
     obtain ⟨u,g6,g7⟩:=g4.get g5
     have:=g7.s_inv
     subst this
     rw [← Qb6 g6]
     refine g4.setRange (.cons _ _ _ _ ?_ .nil) _
     exact .os M.length 0 0 0 true k [] none 0 (by rw [List.getElem?_set_ne (by omega)];simp) (by simp) (Nat.le_refl _) (by simp)
    ·have:=h3 hb
     subst this
     simp at hx)
  exact ⟨_,E1.trans key.1,key.2⟩
theorem St.same (s:St P M0 L0 w0 ro M t L a w) (E:Evo M L w M' L' w') (S:Sim (RO P) M' L' w'):St P M0 L0 w0 ro M' t L' a w' :=
 ⟨S,s.T.evo E,s.E.trans E,s.D.evo E⟩
theorem LRel.forget (h:LRel M L w t a.tmps.toList) (ts:List Nat):LRel M L w (Qb8 ts t) a.tmps.toList:=by
 induction ts generalizing t with
 | nil => exact h
 | cons i ts ih =>
  refine ih ?_
  refine LRel.all (by simp [h.length]) fun j x v hx hv => ?_
  by_cases e:j = i
  ·subst e
   rw [List.getElem?_set_self (by have:=(List.getElem?_eq_some_iff.1 hv).1;rw [h.length];exact this)] at hx
   cases hx;exact .top v
  ·rw [List.getElem?_set_ne (Ne.symm e)] at hx
   obtain ⟨u,h1,h2⟩:=h.get hx
   rw [hv] at h1;cases h1;exact h2
theorem LRel.keep (h:LRel M L w t a.tmps.toList) (ks:List Nat):LRel M L w (keepL ks t) a.tmps.toList:=by
 refine LRel.all (by simp [keepL,h.length]) fun j x v hx hv => ?_
 simp only [keepL,List.getElem?_map] at hx
 have hj:j < t.length:=by have:=(List.getElem?_eq_some_iff.1 hv).1;rw [h.length];exact this
 rw [List.getElem?_range hj] at hx
 simp only [Option.map_some,Option.some.injEq] at hx
 subst hx
 split
 ·obtain ⟨u,h1,h2⟩:=h.get (List.getElem?_eq_getElem hj)
  rw [hv] at h1;cases h1
  rw [List.getD_eq_getElem?_getD,List.getElem?_eq_getElem hj];exact h2
 ·exact .top v
theorem St.top (s:St P M0 L0 w0 ro M t L a w) (i:Nat):VRel M L w (t.getD i .top) (a.tmps.getD i undef):=by
 rw [Array.getD_eq_getD_getElem?,List.getD_eq_getElem?_getD]
 cases hx:t[i]? with
 | none => exact .top _
 | some x =>
  obtain ⟨v,h1,h2⟩:=s.T.get hx
  rw [Array.getElem?_toList] at h1
  rw [h1];exact h2
theorem LRel.fix (h:LRel M L w t a.tmps.toList) (i:Nat) {x:PV} (hx:VRel M L w x (a.tmps.getD i undef)):LRel M L w (t.set i x) a.tmps.toList:=by
 refine LRel.all (by simp [h.length]) fun j y v hy hv => ?_
 by_cases e:j = i
 ·subst e
  rw [List.getElem?_set_self (by have:=(List.getElem?_eq_some_iff.1 hv).1;rw [h.length];exact this)] at hy
  cases hy
  rw [Array.getElem?_toList] at hv
  rw [Array.getD_eq_getD_getElem?,hv] at hx;exact hx
 ·rw [List.getElem?_set_ne (Ne.symm e)] at hy
  obtain ⟨u,h1,h2⟩:=h.get hy
  rw [hv] at h1;cases h1;exact h2
theorem Evo.len {M0:List Blk} {L0:Loc} {w0:World} (E:Evo M0 L0 w0 M L w):M0.length ≤ M.length:=by
 by_cases h:M0.length ≤ M.length
 ·exact h
 ·exfalso
  have hi:M0[M.length]? = some (M0[M.length]'(by omega)):=List.getElem?_eq_getElem (by omega)
  obtain ⟨b,h1,_⟩:=E.blk _ _ hi
  rw [List.getElem?_eq_none (by omega)] at h1;cases h1
theorem Marks.take {n m:Nat} {ds:List Deferred} (h:Marks n M L w ds):Marks n (M.take m) L w ds:=by
 induction ds with
 | nil => exact trivial
 | cons d ds ih =>
  obtain ⟨⟨D,rfl,h1,h2,h3,h4⟩,h5⟩:=h
  exact ⟨⟨D,rfl,h1,h2,fun h => h3 h.take,h4⟩,ih h5⟩
theorem VZ.take {n m:Nat} {ds:List Deferred} (h:VZ ro n M L w ds):VZ ro n (M.take m) L w ds:=by
 cases ro with
 | none => exact Marks.take h
 | some l => exact h
theorem St.cut (s:St P M0 L0 w0 ro M t L a w) {n:Nat} (h0:M0.length ≤ n) (h1:lowM n (M.take n)) (h2:lowL n t):St P M0 L0 w0 ro (M.take n) t L a w :=
 ⟨s.S.take h1,s.T.take' h2,s.E.take h0,s.D.take⟩
theorem QaK (g:CCode) (hg:ghost g = true):∀ {Q:Post} {M:List Blk} {t:List PV},Wp (Conc P) M0.length g Q M t → St P M0 L0 w0 ro M t L a w → ∃ M' t' L',Q .normal M' t' ∧ St P M0 L0 w0 ro M' t' L' a w:=by
 induction g generalizing L with
 | forget ts => intro Q M t h s;exact ⟨M,_,L,h,s.S,s.T.forget ts,s.E,s.D⟩
 | frz i =>
  intro Q M t h s
  obtain ⟨M',h1,h2⟩:=h
  obtain ⟨E,S⟩:=ZT _ s.S h1
  exact ⟨M',t,L,h2,s.same E S⟩
 | keep ks => intro Q M t h s;exact ⟨M,_,L,h,s.S,s.T.keep ks,s.E,s.D⟩
 | fix i =>
  intro Q M t h s
  obtain ⟨M',h1,h2⟩:=h
  obtain ⟨E,S⟩:=ZT _ s.S h1
  have s':=s.same E S
  exact ⟨M',_,L,h2,s'.S,s'.T.fix i (Vv s'.S (s'.top i)),s'.E,s'.D⟩
 | own i j k =>
  intro Q M t h s
  obtain ⟨M',h1,h2⟩:=h
  obtain ⟨L',E,S⟩:=QfO s.S h1
  exact ⟨M',t,L',h2,s.same E S⟩
 | holes k =>
  intro Q M t h s
  obtain ⟨L',E,S⟩:=Qeh s.S k
  exact ⟨_,t,L',h,s.same E S⟩
 | cut =>
  intro Q M t h s
  obtain ⟨n,h1,h2,h3,h4,h5⟩:=h
  exact ⟨_,t,L,h5,s.cut h1 h3 h4⟩
 | seq x y ihx ihy =>
  simp only [ghost,Bool.and_eq_true] at hg
  intro Q M t h s
  obtain ⟨M1,t1,L1,h1,s1⟩:=ihx hg.1 h s
  exact ihy hg.2 h1 s1
 | _ => cases hg
end
end Go.Nac
namespace Go.Nac
variable [Env]
section
variable {P:Program} {M0:List Blk} {L0:Loc} {w0:World} {ro:Option Nat} {M M':List Blk} {t t':List PV} {L L':Loc} {a:Act} {w w':World}
theorem Marks.lt {n:Nat} {ds:List Deferred} (h:Marks n M L w ds):∀ d ∈ ds,∃ D,d.target = .collected D ∧ D < w.heap.size:=by
 induction ds with
 | nil => intro d hd;cases hd
 | cons d ds ih =>
  obtain ⟨⟨D,rfl,h1,h2,h3,h4⟩,h5⟩:=h
  intro d' hd
  rcases List.mem_cons.1 hd with rfl|hd
  ·exact ⟨D,rfl,(Array.getElem?_eq_some_iff.1 h2).1⟩
  ·exact ih h5 d' hd
theorem Marks.poke {n:Nat} {ds:List Deferred} (h:Marks n M L w ds) {l:Nat} {o:Obj} {r:Loop} (hl:w.heap[l]? = some (.loop r)):Marks n M L (w.putObj l o) ds:=by
 induction ds with
 | nil => exact trivial
 | cons d ds ih =>
  obtain ⟨⟨D,rfl,h1,h2,h3,h4⟩,h5⟩:=h
  exact ⟨⟨D,rfl,h1,by rw [World.putObj_heap_other (fun e => by subst e;rw [hl] at h2;cases h2)];exact h2,h3,h4⟩,ih h5⟩
theorem VZ.poke {n:Nat} {ds:List Deferred} (h:VZ ro n M L w ds) {l:Nat} {o:Obj} {r:Loop} (hl:w.heap[l]? = some (.loop r)):VZ ro n M L (w.putObj l o) ds:=by
 cases ro with
 | none => exact Marks.poke h hl
 | some l => exact h
def Qax (M0:List Blk) (L0:Loc) (ro:Option Nat):Prop:=∀ l,ro = some l → ∃ i st pd ts ps x y o,M0[i]? = some (.loop st pd ts ps x y) ∧ L0 i = some (l,o)
theorem YI {i:Nat} {st:LoopState} {pd:Option Ex} {ts:List PV} {ps:List Nat} {x y:CCode} (S:Sim (RO P) M L w) (hi:M[i]? = some (.loop st pd ts ps x y)) {l o:Nat} (hL:L i = some (l,o)) :
  ∃ r,w.heap[l]? = some (.loop r) ∧ r.state = st ∧ Qay pd r.pending ∧ r.params.toList = ps ∧ LRel M L w ts r.tmps.toList ∧ RO P x r.assign ∧ RO P y r.body:=by
 obtain ⟨k,o',r,h1,h2⟩:=S.mem i _ hi
 rw [hL] at h1;cases h1
 exact ⟨r,h2⟩
theorem QeX (hro:Qax M0 L0 ro) (s:St P M0 L0 w0 ro M t L a w) (fn:FuncId) (qs:Array Tmp) (x y:Code) {ca cb:CCode} (hx:Qs P ca x = true) (hy:Qs P cb y = true) :
  ∃ l mark w1 L1,(Instr.enterLoop fn a.tmps qs x y ro).run P w = .ok (l,mark) w1 ∧ Evo M L w (M ++ [.loop .ready none t qs.toList ca cb]) L1 w1 ∧
   Sim (RO P) (M ++ [.loop .ready none t qs.toList ca cb]) L1 w1 ∧ L1 M.length = some (l,0) ∧ w.heap.size ≤ l ∧ VZ ro w0.heap.size (M ++ [.loop .ready none t qs.toList ca cb]) L1 w1 (mark ++ a.defers):=by
 have key:∀ (wA:World) (d:Nat),Evo M L w M L wA → Sim (RO P) M L wA →
   ∃ L1,Evo M L wA (M ++ [.loop .ready none t qs.toList ca cb]) L1 (wA.alloc (.loop { state:=.ready,pending:=none,fn:=fn,tmps:=a.tmps,params:=qs,assign:=x,body:=y,defers:=d })) ∧
    Sim (RO P) (M ++ [.loop .ready none t qs.toList ca cb]) L1 (wA.alloc (.loop { state:=.ready,pending:=none,fn:=fn,tmps:=a.tmps,params:=qs,assign:=x,body:=y,defers:=d })) ∧ L1 M.length = some (wA.heap.size,0):=by
  intro wA d EA SA
  have:=push SA (.loop .ready none t qs.toList ca cb) (some (.loop { state:=.ready,pending:=none,fn:=fn,tmps:=a.tmps,params:=qs,assign:=x,body:=y,defers:=d }))
   (w':=wA.alloc (.loop { state:=.ready,pending:=none,fn:=fn,tmps:=a.tmps,params:=qs,assign:=x,body:=y,defers:=d })) ⟨rfl,rfl,rfl,(by first|exact Nat.le_refl _|exact Nat.le_succ _|simp)⟩ rfl (by
    intro M' L' hM hL E
    exact ⟨wA.heap.size,0,_,by rw [hL,Loc.upd_self];rfl,World.alloc_heap_new _ _,rfl,trivial,rfl,(s.T.evo EA).evo E,hx,hy⟩)
  exact ⟨_,this.1,this.2,by rw [Loc.upd_self];rfl⟩
 cases ro with
 | none =>
  obtain ⟨EA,SA⟩:=grow s.S (.deferred (some [])) (w':=w.alloc (.deferred (some []))) ⟨rfl,rfl,rfl,(by first|exact Nat.le_refl _|exact Nat.le_succ _|simp)⟩ rfl
  obtain ⟨L1,E1,S1,hL1⟩:=key _ w.heap.size EA SA
  refine ⟨_,_,_,L1,run_enterLoop_outer fn a.tmps qs x y,EA.trans E1,S1,?_,by omega,?_⟩
  ·rw [hL1];simp
  ·have hsz:w.heap.size < (w.alloc (.deferred (some []))).heap.size:=by simp
   have hno:¬ Owned M L w.heap.size:=ZV s.S
   obtain ⟨g1,g2⟩:=E1.frame w.heap.size hsz hno
   refine ⟨⟨w.heap.size,rfl,s.E.size,g1.trans (World.alloc_heap_new _ _),g2,fun d' hd' => ?_⟩,s.D.evo (EA.trans E1)⟩
   obtain ⟨D,h1,h2⟩:=Marks.lt s.D d' hd'
   rw [h1];intro e;cases e;omega
 | some l0 =>
  obtain ⟨i,st,pd,ts,ps,x',y',o,h1,h2⟩:=hro l0 rfl
  obtain ⟨b',h3,h4⟩:=s.E.blk i _ h1
  cases b' with
  | loop st' pd' ts' ps' x1 y1 =>
   have hL:L i = some (l0,o):=h4.1.trans h2
   obtain ⟨r0,g1,_⟩:=YI s.S h3 hL
   obtain ⟨L1,E1,S1,hL1⟩:=key w r0.defers (Evo.refl _ _ _) s.S
   exact ⟨_,_,_,L1,run_enterLoop_inner g1 fn a.tmps qs x y,E1,S1,hL1,Nat.le_refl _,s.D⟩
  | _ => exact h4.elim
theorem QeA (hro:Qax M0 L0 ro) (s:St P M0 L0 w0 ro M t L a w) {f:CX} {g:Operand} (hf:okX f g = true) {ps:List Nat} {qs:Array Tmp} (hps:ps = qs.toList) {ca cb:CCode} {x y:Code}
  (hx:Qs P ca x = true) (hy:Qs P cb y = true) {n0:Nat} {Q:Post} (h:Wp (Conc P) n0 (.rangeFunc f ps ca cb) Q M t):(Code.rangeFunc g qs x y).wpIn (FR ro) 0 P (CP P M0 L0 w0 ro Q) a w:=by
 subst hps
 obtain ⟨gf,first,cap,M',st,pend,t',ps',a',b',h1,hc,hlen,hlow,hst,hq⟩:=h
 refine wpIn_rangeFunc fun fn _ => ?_
 obtain ⟨l,mark,w1,L1,hent,E1,S1,hL1,hle,hmarks⟩:=QeX hro s fn qs x y hx hy
 have hv:=s.fit _ _ hf
 rw [h1] at hv
 generalize hgv:a.eval g = gv at hv
 cases hv with
 | fn _ _ _ va vc ha hcap =>
  have hyl:VRel (M ++ [.loop .ready none t qs.toList ca cb]) L1 w1 (.yl M.length) (.func (.yield l) #[] #[]) :=
   .yl M.length .ready none t qs.toList ca cb l 0 (by simp) hL1
  have hargs:LRel (M ++ [.loop .ready none t qs.toList ca cb]) L1 w1 (first ++ [.yl M.length] ++ cap) ((va ++ #[Value.func (.yield l) #[] #[]]) ++ vc).toList:=by
   simp only [Array.toList_append]
   exact ((ha.evo E1).append (.cons _ _ _ _ hyl .nil)).append (hcap.evo E1)
  obtain ⟨hcall,hcalls⟩:_ ∧ _:=(hc L1 w1 _ S1 hargs).resolve_right fun h => by cases h.1
  refine ⟨l,mark,w1,{ target:=.fn (.func gf) vc,args:=va ++ #[.func (.yield l) #[] #[]] },w1,gf,_,w1,hent,?_,fun _ _ => trivial,hcall,Yq ro 0,YB (Calls.mono hcalls fun e w3 he => ?_)⟩
  ·have e:(#[Operand.const (.func (.yield l) #[] #[])]:Array Operand).map a.eval = #[Value.func (.yield l) #[] #[]]:=by simp [Act.eval]
   show (Deferred.ofValue (a.eval g) ((#[Operand.const (.func (.yield l) #[] #[])]:Array Operand).map a.eval)).run P w1 = _
   rw [hgv,e];rfl
  cases e with
  | panicked => exact he.elim
  | outgrown => exact he.elim
  | returned v =>
   obtain ⟨L3,E3,S3,_⟩:=he
   have hi3:(M' ++ [Blk.loop st pend t' ps' a' b'])[M.length]? = some (Blk.loop st pend t' ps' a' b'):=by rw [← hlen];simp
   have hL3:L3 M.length = some (l,0):=by
    obtain ⟨b',g1,g2⟩:=E3.blk M.length (.loop .ready none t qs.toList ca cb) (by simp)
    rw [hi3] at g1;cases g1
    exact g2.1.trans hL1
   obtain ⟨rc,k1,k2,k3,_⟩:=YI S3 hi3 hL3
   have hend:=run_endLoop (P:=P) k1 (by rw [k2];exact hst)
   have htake:(M' ++ [Blk.loop st pend t' ps' a' b']).take M.length = M':=by rw [← hlen];simp
   have hD:(∀ c el s,w3.heap[l]? ≠ some (.cells c el s)) ∧ ∀ es c,w3.heap[l]? ≠ some (.map es c):=⟨fun c el s h => by (rw [k1] at h;cases h),fun c el h => by (rw [k1] at h;cases h)⟩
   have hO:¬ Owned M' L3 l:=by
    rintro ⟨i,bl,p,g1,g2,g3,g4⟩
    have hlt:i < M'.length:=(List.getElem?_eq_some_iff.1 g1).1
    exact S3.inj i M.length bl _ p (l,0) (by rw [List.getElem?_append_left hlt];exact g1) hi3 g2 (by omega) g3 hL3 g4
   have St4:St P M0 L0 w0 ro M' t L3 { a with defers:=mark ++ a.defers } (w3.putObj l (.loop { rc with state:=.exhausted })):=by
    have hS:=S3.take (n:=M.length) (by rw [htake];exact hlow)
    have hT:=((s.T.evo E1).evo E3).take' (n:=M.length) s.T.low
    have hE:=((s.E.trans E1).trans E3).take s.E.len
    have hM:=VZ.take (m:=M.length) (hmarks.evo E3)
    rw [htake] at hS hT hE hM
    exact ⟨hS.poke hD hO,hT.poke hD,hE.poke hD (Nat.le_trans s.E.size hle),hM.poke k1⟩
   refine ⟨_,_,hend,?_⟩
   generalize w3.putObj l (.loop { rc with state:=.exhausted }) = w4 at St4 ⊢
   cases hp:rc.pending with
   | none =>
    rw [hp] at k3
    cases pend with
    | none => exact ⟨.normal,M',t,L3,trivial,hq,St4⟩
    | some e => cases e <;> exact k3.elim
   | some c =>
    rw [hp] at k3
    cases pend with
    | none => exact k3.elim
    | some e =>
     cases e with
     | normal => exact k3.elim
     | exit i =>
      cases c <;> first|exact k3.elim|skip
      cases k3
      exact wpIn_exit ⟨.exit i,M',t,L3,rfl,hq,St4⟩
     | goto i =>
      cases c <;> first|exact k3.elim|skip
      cases k3
      exact wpIn_goto ⟨.goto i,M',t,L3,rfl,hq,St4⟩
     | ret =>
      cases c <;> first|exact k3.elim|skip
      exact wpIn_ret ⟨.ret,M',t,L3,trivial,hq,St4⟩
end
end Go.Nac
namespace Go.Nac
variable [Env]
section
variable {P:Program} {M0:List Blk} {L0:Loc} {w0:World} {ro:Option Nat}
theorem Qmg {Q:Post} {K:List Blk → List PV → Prop} {Y:Act → World → Prop} (hk:∀ M t L a w,K M t → St P M0 L0 w0 ro M t L a w → Y a w) :
  ∀ e a w,CP P M0 L0 w0 ro (thenK K Q) e a w → Exit.then Y (CP P M0 L0 w0 ro Q) e a w:=by
 rintro e a w ⟨ex,M,t,L,h1,h2,h3⟩
 cases ex <;> cases e <;> first|exact h1.elim|skip
 ·exact hk _ _ _ _ _ h2 h3
 all_goals exact ⟨_,M,t,L,h1,h2,h3⟩
theorem Qi3 {Q:Post} {id:Nat}:∀ e a w,CP P M0 L0 w0 ro (VM id Q) e a w → Exit.inBlock id (CP P M0 L0 w0 ro Q) e a w:=by
 rintro e a w ⟨ex,M,t,L,h1,h2,h3⟩
 cases ex <;> cases e <;> first|exact h1.elim|skip
 case exit.exit i j =>
  cases h1
  simp only [VM] at h2
  simp only [Exit.inBlock]
  split
  ·rename_i e;rw [if_pos e] at h2;exact ⟨.normal,M,t,L,trivial,h2,h3⟩
  ·rename_i e;rw [if_neg e] at h2;exact ⟨.exit i,M,t,L,rfl,h2,h3⟩
 all_goals exact ⟨_,M,t,L,h1,h2,h3⟩
theorem QfT {F:Fence} {n:Nat} {Q:Exit → Act → World → Prop} {a:Act} {w:World} {c:Code} (h:c.wpIn F n P (Exit.noGoto Q) a w):(Code.scope c).wpIn F n P Q a w:=by
 intro b k cs hro hb hr
 have h0:(lone (b.atR a (.code (.scope c) :: k)) cs w).fenced P F:=fenced_calm hb hr rfl
 have step:step P (lone (b.atR a (.code (.scope c) :: k)) cs w) = .next (lone (b.atR a (.code c :: .inScope c :: k)) cs w) :=
  step_lone_go (by simp [stepG,stepG.exec,Frame.atR])
 have step2:∀ (a:Act) (w:World),Go.step P (lone (b.atR a (.inScope c :: k)) cs w) = .next (lone (b.atR a k) cs w):=fun a w =>
  step_lone_go (by simp [stepG,stepG.exec,Frame.atR])
 obtain ⟨e,a₁,w₁,hq,harr⟩:=h b (.inScope c :: k) cs hro hb hr
 have hx:∀ id,exitTo id (.inScope c :: k) = exitTo id k:=fun id => by simp [exitTo]
 cases e with
 | normal => exact ⟨.normal,a₁,w₁,hq,.head h0 step (StepsIn.trans harr (.one (fenced_calm hb hr rfl) (step2 _ _)))⟩
 | exit id => exact ⟨.exit id,a₁,w₁,hq,fun k' hk => .head h0 step (harr.1 k' (by rw [hx];exact hk)),
   fun hr' hk => let ⟨k₁,h1,h2⟩:=harr.2 hr' (by rw [hx];exact hk);⟨k₁,h1,.head h0 step h2⟩⟩
 | goto l => exact hq.elim
 | ret => exact ⟨_,a₁,w₁,hq,.of_steps (.one h0 step) harr⟩
 | panic ch => exact ⟨_,a₁,w₁,hq,.of_steps (.one h0 step) harr⟩
 | outgrown => exact ⟨_,a₁,w₁,hq,.of_steps (.one h0 step) harr⟩
theorem Qjg {Q:Post}:∀ e a w,CP P M0 L0 w0 ro (Yr Q) e a w → Exit.noGoto (CP P M0 L0 w0 ro Q) e a w:=by
 rintro e a w ⟨ex,M,t,L,h1,h2,h3⟩
 cases ex <;> cases e <;> first|exact h1.elim|exact h2.elim|skip
 all_goals exact ⟨_,M,t,L,h1,h2,h3⟩
theorem QlK {M:List Blk} {t:List PV} {L:Loc} {a:Act} {w:World} (s:St P M0 L0 w0 ro M t L a w) {c:CX} {c':Operand} (ok:okX c c' = true) {b:Bool} (h:ev t c = .B b):a.eval c' = .bool b:=by
 have:=s.fit _ _ ok
 rw [h] at this
 exact this.s_inv
theorem Qgz {x y:CCode} {d:Code} (h:Qs P (.seq x y) d = true):(ghost x = true ∧ Qs P y d = true) ∨ (ghost y = true ∧ Qs P x d = true) ∨ ∃ u v,d = .seq u v ∧ Qs P x u = true ∧ Qs P y v = true:=by
 cases d
 case seq u v =>
  simp [Qs] at h
  rcases h with (h|h)|h
  ·exact .inl h
  ·exact .inr (.inl h)
  ·exact .inr (.inr ⟨u,v,rfl,h.1,h.2⟩)
 all_goals
  simp [Qs] at h
  rcases h with h|h
  ·exact .inl h
  ·exact .inr (.inl h)
theorem Qbg (hmix:P.follows .mixedOrders = true) (hro:Qax M0 L0 ro) (c:CCode):∀ (d:Code),Qs P c d = true → ∀ {Q:Post} {M:List Blk} {t:List PV} {L:Loc} {a:Act} {w:World},
  Wp (Conc P) M0.length c Q M t → St P M0 L0 w0 ro M t L a w → d.wpIn (FR ro) 0 P (CP P M0 L0 w0 ro Q) a w:=by
 induction c with
 | skip =>
  intro d ok Q M t L a w h s
  cases d <;> first|(simp [Qs] at ok;done)|skip
  exact wpIn_skip ⟨.normal,M,t,L,trivial,h,s⟩
 | region cs =>
  intro d ok Q M t L a w h s
  cases d <;> first|(simp [Qs] at ok;done)|skip
  exact Qc6 hmix ok s h fun M' t' L' a' w' hq s' => ⟨.normal,M',t',L',trivial,hq,s'⟩
 | mnext d x cs =>
  intro d ok Q M t L a w h s
  cases d <;> first|(simp [Qs] at ok;done)|skip
  exact Qe8 ok s h fun M' t' L' a' w' hq s' => ⟨.normal,M',t',L',trivial,hq,s'⟩
 | regionD cs pairs =>
  intro d ok Q M t L a w h s
  cases d <;> first|(simp [Qs] at ok;done)|skip
  exact QcX hmix ok s h fun M' t' L' a' w' hq s' => ⟨.normal,M',t',L',trivial,hq,s'⟩
 | seq x y ihx ihy =>
  intro d ok Q M t L a w h s
  have h':Wp (Conc P) M0.length x (thenK (Wp (Conc P) M0.length y Q) Q) M t:=h
  rcases Qgz ok with ⟨g,ok⟩|⟨g,ok⟩|⟨u,v,rfl,ok1,ok2⟩
  ·obtain ⟨M',t',L',h1,s'⟩:=QaK x g h' s
   exact ihy d ok h1 s'
  ·refine wpIn_mono (ihx d ok h' s) ?_
   rintro e a w ⟨ex,M',t',L',h1,h2,h3⟩
   cases ex
   ·obtain ⟨M2,t2,L2,h4,s2⟩:=QaK y g h2 h3
    exact ⟨.normal,M2,t2,L2,h1,h4,s2⟩
   all_goals exact ⟨_,M',t',L',h1,h2,h3⟩
  ·exact wpIn_seq (wpIn_mono (ihx _ ok1 h' s) (Qmg fun M t L a w h s => ihy _ ok2 h s))
 | cond c x y ihx ihy =>
  intro d ok Q M t L a w h s
  cases d <;> first|(simp [Qs] at ok;done)|skip
  simp only [Qs,Bool.and_eq_true] at ok
  obtain ⟨b,h1,h2⟩:=h
  refine wpIn_cond (QlK s ok.1.1 h1) ?_
  cases b
  ·exact ihy _ ok.2 h2 s
  ·exact ihx _ ok.1.2 h2 s
 | block id c ih =>
  intro d ok Q M t L a w h s
  cases d <;> first|(simp [Qs] at ok;done)|skip
  simp only [Qs,Bool.and_eq_true,beq_iff_eq] at ok
  obtain ⟨rfl,ok⟩:=ok
  exact wpIn_block (wpIn_mono (ih _ ok h s) Qi3)
 | scope c ih =>
  intro d ok Q M t L a w h s
  cases d <;> first|(simp [Qs] at ok;done)|skip
  exact QfT (wpIn_mono (ih _ (by simpa [Qs] using ok) h s) Qjg)
 | loop c ih =>
  intro d ok Q M t L a w h s
  cases d <;> first|(simp [Qs] at ok;done)|skip
  rename_i d
  simp only [Qs] at ok
  intro b k cs hb1 hb hr
  have key:=h (fun M t => ∀ L a w,St P M0 L0 w0 ro M t L a w → ∃ e a' w',CP P M0 L0 w0 ro Q e a' w' ∧
    ArrivesIn (Machine.fenced P (FR ro)) P (lone (b.atR a (.code d :: .inLoop d :: k)) cs w) b k cs e a' w') (by
   intro M t hw L a w s
   obtain ⟨e,a₁,w₁,hq,harr⟩:=ih d ok hw s b (.inLoop d :: k) cs hb1 hb hr
   obtain ⟨ex,M',t',L',h1,h2,h3⟩:=hq
   cases ex <;> cases e <;> first|exact h1.elim|skip
   ·obtain ⟨e₂,a₂,w₂,hq₂,harr₂⟩:=h2 L' a₁ w₁ h3
    exact ⟨e₂,a₂,w₂,hq₂,.of_steps (StepsIn.trans harr (.one (fenced_calm hb hr rfl) stepR_inLoop)) harr₂⟩
   all_goals exact ⟨_,a₁,w₁,⟨_,M',t',L',h1,h2,h3⟩,.pass (x:=.inLoop d) rfl (fun _ _ => .inl (by simp)) harr⟩)
  obtain ⟨e,a',w',hq,harr⟩:=key L a w s
  exact ⟨e,a',w',hq,.of_steps (.one (fenced_calm hb hr rfl) stepR_loop) harr⟩
 | rangeFunc f ps x y _ _ =>
  intro d ok Q M t L a w h s
  cases d <;> first|(simp [Qs] at ok;done)|skip
  simp only [Qs,Bool.and_eq_true,beq_iff_eq] at ok
  exact QeA hro s ok.1.1.1 ok.1.1.2 ok.1.2 ok.2 h
 | exit id =>
  intro d ok Q M t L a w h s
  cases d <;> first|(simp [Qs] at ok;done)|skip
  simp only [Qs,beq_iff_eq] at ok
  subst ok
  exact wpIn_exit ⟨.exit id,M,t,L,rfl,h,s⟩
 | goto id =>
  intro d ok Q M t L a w h s
  cases d <;> first|(simp [Qs] at ok;done)|skip
  simp only [Qs,beq_iff_eq] at ok
  subst ok
  exact wpIn_goto ⟨.goto id,M,t,L,rfl,h,s⟩
 | label id =>
  intro d ok Q M t L a w h s
  cases d <;> first|(simp [Qs] at ok;done)|skip
  exact wpIn_label ⟨.normal,M,t,L,trivial,h,s⟩
 | ret =>
  intro d ok Q M t L a w h s
  cases d <;> first|(simp [Qs] at ok;done)|skip
  exact wpIn_ret ⟨.ret,M,t,L,trivial,h,s⟩
 | bad => intro d ok Q M t L a w h s;exact h.elim
 | _ =>
  intro d ok Q M t L a w h s
  cases d <;> (simp [Qs] at ok;done)
end
end Go.Nac
namespace Go.Nac
variable [Env]
def okRes (P:Program):List (Nat × Option (Option Nat)) → List ResultVar → Bool
 | [],[] => true
 | (i,none) :: r,.tmp j :: q => i == j && okRes P r q
 | (i,some g) :: r,.cell a t :: q => i == a && okG P t g && okRes P r q
 | _,_ => false
def okFn (P:Program) (f:FuncId) (cf:CFunc):Bool :=
  match P.funcs[f]? with
  | some fn => !(fn.name == "runtime.NumGoroutine") && fn.ntmps == cf.ntmps && okRes P cf.results fn.results.toList &&
      (match fn.body with|some c => Qs P cf.body c|none => false)
  | none => false
section
variable {P:Program} {M0:List Blk} {L0:Loc} {w0:World} {ro:Option Nat} {M M':List Blk} {t t':List PV} {L L':Loc} {a:Act} {w w':World}
def Qah (tmps:Array Value):ResultVar → Sem Value
 | .tmp t => pure (tmps.getD t undef)
 | .cell a t => do loadVar t (← asAddr (tmps.getD a undef))
theorem Qgy (fn:Func) (tmps:Array Value):results fn tmps = (do let vs ← fn.results.mapM (Qah tmps);pure (if h:vs.size = 1 then vs[0] else .tuple vs)):=by
 unfold results
 congr 1
theorem QkP {α β:Type} (f:α → Sem β) (xs:Array α) (vs:List β) (w:World) (h:(xs.toList.mapM f).run P w = .ok vs w):(xs.mapM f).run P w = .ok vs.toArray w:=by
 rw [Array.mapM_eq_mapM_toList,map_eq_pure_bind,Sem.run_bind,h]
 rfl
theorem QeE {tt:TypeId} {c cv:Value} (h:(Instr.loadAt tt c).run P w = .ok cv w):(do loadVar tt (← asAddr c):Sem Value).run P w = .ok cv w:=by
 unfold Instr.loadAt at h
 cases c
 case pointer p =>
  cases p with
  | none => cases h
  | some a => exact h
 all_goals cases h
theorem Qfq (S:Sim (RO P) M L w) (T:LRel M L w t a.tmps.toList):∀ (rs:List (Nat × Option (Option Nat))) (qs:List ResultVar) (vs:List PV),okRes P rs qs = true → resOf M t rs = some vs →
  ∃ cvs,(qs.mapM (Qah a.tmps)).run P w = .ok cvs w ∧ LRel M L w vs cvs:=by
 have tmp:∀ i,VRel M L w (t.getD i .top) (a.tmps.getD i undef):=by
  intro i
  rw [Array.getD_eq_getD_getElem?,List.getD_eq_getElem?_getD]
  cases hx:t[i]? with
  | none => exact .top _
  | some x =>
   obtain ⟨v,h1,h2⟩:=T.get hx
   rw [Array.getElem?_toList] at h1
   rw [h1];exact h2
 intro rs
 induction rs with
 | nil =>
  intro qs vs ok h
  cases qs with
  | nil => cases h;exact ⟨[],by simp,.nil⟩
  | cons => cases ok
 | cons r rs ih =>
  intro qs vs ok h
  obtain ⟨i,g⟩:=r
  cases qs with
  | nil => cases g <;> cases ok
  | cons q qs =>
   cases g with
   | none =>
    cases q with
    | cell => cases ok
    | tmp j =>
     simp only [okRes,Bool.and_eq_true,beq_iff_eq] at ok
     obtain ⟨rfl,ok⟩:=ok
     simp only [resOf] at h
     cases hr:resOf M t rs with
     | none => rw [hr] at h;cases h
     | some us =>
      rw [hr] at h;cases h
      obtain ⟨cvs,h1,h2⟩:=ih qs us ok hr
      refine ⟨_ :: cvs,?_,.cons _ _ _ _ (tmp i) h2⟩
      simp only [List.mapM_cons,Qah,pure_bind,Sem.run_bind,h1,Result.andThen_ok,Sem.run_pure]
   | some g =>
    cases q with
    | tmp => cases ok
    | cell b tt =>
     simp only [okRes,Bool.and_eq_true,beq_iff_eq] at ok
     obtain ⟨⟨rfl,ok1⟩,ok⟩:=ok
     simp only [resOf] at h
     split at h
     ·rename_i v M1 us hl hr
      cases h
      obtain ⟨cvs,h1,h2⟩:=ih qs us ok hr
      simp only [res,ev] at hl
      obtain ⟨hl,_⟩:=Vz hl
      obtain ⟨cv,h3,h4⟩:=QdT (P:=P) S (tmp i) ok1 hl
      refine ⟨cv :: cvs,?_,.cons _ _ _ _ h4 h2⟩
      simp only [List.mapM_cons,Sem.run_bind,Qah]
      have:=QeE h3
      simp only [Sem.run_bind] at this
      rw [this]
      simp only [Result.andThen_ok,h1,Sem.run_pure]
     ·cases h
def oneOr:List Value → Value
 | [v] => v
 | vs => .tuple vs.toArray
theorem Y9 {fn:Func} {tmps:Array Value} {cvs:List Value} (h:(fn.results.toList.mapM (Qah tmps)).run P w = .ok cvs w) :
  (results fn tmps).run P w = .ok (oneOr cvs) w:=by
 rw [Qgy,Sem.run_bind,QkP _ _ _ _ h]
 cases cvs with
 | nil => rfl
 | cons v vs => cases vs with | nil => rfl | cons u vs => simp [oneOr]
theorem QiF (S:Sim (RO P) M L w) {n:Nat} {vs:List PV} {cvs:List Value} (h:LRel M L w vs cvs) (l:(mkRes n M vs).low n):VRel (M.take n) L w (mkRes n M vs) (oneOr cvs):=by
 cases h with
 | nil => exact .tup _ _ .nil
 | cons x v xs us h hs =>
  cases hs with
  | nil => exact h.outV S l
  | cons y u ys us h' hs =>
   simp only [mkRes,PV.low] at l ⊢
   exact .tup _ _ (LRel.outV S (.cons _ _ _ _ h (.cons _ _ _ _ h' hs)) l)
theorem leaves {fn:Func} {tmps:Array Value} {Rr:Ending → World → Prop} (ds:List Deferred):∀ {w:World},Marks w0.heap.size M L w ds → Sim (RO P) M L w → LRel M L w t tmps.toList → Evo M0 L0 w0 M L w →
  (∀ w',Sim (RO P) M L w' → LRel M L w' t tmps.toList → Evo M0 L0 w0 M L w' → ∃ v,(results fn tmps).run P w' = .ok v w' ∧ Rr (.returned v) w') → LeavesInM (FR none) 0 P fn tmps Rr ds .returning w:=by
 induction ds with
 | nil => intro w _ S T E k;exact k w S T E
 | cons d ds ih =>
  intro w hm S T E k
  obtain ⟨⟨D,rfl,h1,h2,h3,h4⟩,h5⟩:=hm
  have hD:(∀ c el s,w.heap[D]? ≠ some (.cells c el s)) ∧ ∀ es c,w.heap[D]? ≠ some (.map es c):=⟨fun c el s h => by (rw [h2] at h;cases h),fun c el h => by (rw [h2] at h;cases h)⟩
  refine ⟨by simp,.inl ⟨D,_,rfl,run_takeDeferred h2,?_⟩⟩
  refine ih ?_ (S.poke hD h3) (T.poke hD) (E.poke hD h1) k
  clear ih
  induction ds with
  | nil => exact trivial
  | cons d' ds ih2 =>
   obtain ⟨⟨D',rfl,g1,g2,g3,g4⟩,g5⟩:=h5
   have hne:D' ≠ D:=fun e => h4 { target:=.collected D',args:=#[] } (by simp) (by rw [e])
   exact ⟨⟨D',rfl,g1,by rw [World.putObj_heap_other hne];exact g2,g3,g4⟩,ih2 g5 fun d hd => h4 d (List.mem_cons_of_mem _ hd)⟩
theorem QkQ {args:List PV} {cargs:Array Value} (h:LRel M L w args cargs.toList) (n:Nat):LRel M L w (args ++ List.replicate (n - args.length) .top) (cargs ++ Array.replicate (n - cargs.size) undef).toList:=by
 have hl:args.length = cargs.size:=by simpa using h.length
 simp only [Array.toList_append,Array.toList_replicate]
 rw [hl]
 refine h.append ?_
 have:=LRel.tops (M:=M) (L:=L) (w:=w) (List.replicate (n - cargs.size) undef)
 simpa using this
theorem Qdj (hmix:P.follows .mixedOrders = true) {f:FuncId} {cf:CFunc} (ok:okFn P f cf = true) {args:List PV} {r:PV} {M':List Blk} {Q:Post}
  (h:lowM M.length M → lowL M.length args → Wp (Conc P) M.length cf.body Q M (args ++ List.replicate (cf.ntmps - args.length) .top))
  (hq:∀ (fn:Func) e M1 t1 L L1 w w1 (a1:Act),P.funcs[f]? = some fn → okRes P cf.results fn.results.toList = true → Q e M1 t1 → Sim (RO P) M L w → Evo M L w M1 L1 w1 → Sim (RO P) M1 L1 w1 → LRel M1 L1 w1 t1 a1.tmps.toList →
   (match e with|.ret|.normal => True|_ => False) ∧ ∃ v,(results fn a1.tmps).run P w1 = .ok v w1 ∧ Fin P M L w r M' (.returned v) w1):Conc P (.fn f) args M r M':=by
 intro L w cargs S A
 unfold okFn at ok
 split at ok
 ·rename_i fn hf
  simp only [Bool.and_eq_true,Bool.not_eq_true',beq_iff_eq] at ok
  obtain ⟨⟨⟨ok1,ok2⟩,ok3⟩,ok4⟩:=ok
  split at ok4
  ·rename_i c hb
   refine .inl ⟨MuLone.run_callFunc_enter hf ok1 hb cargs w,callsIn_wide.1 (show CallsIn (FR none) 0 P f cargs w _ from callsIn_of_wp_marks hf hb trivial ?_)⟩
   have hw:=h S.low A.low
   have s:St P M L w none M (args ++ List.replicate (cf.ntmps - args.length) .top) L { tmps:=cargs ++ Array.replicate (fn.ntmps - cargs.size) undef,defers:=[] } w :=
    ⟨S,by rw [← ok2];exact QkQ A _,Evo.refl _ _ _,trivial⟩
   refine wpIn_mono (Qbg hmix (fun l hl => by cases hl) cf.body c ok4 hw s) ?_
   rintro e a1 w1 ⟨ex,M1,t1,L1,he,hqe,s1⟩
   have fin:=fun w' S1 T1 E1 => hq fn ex M1 t1 L L1 w w' a1 hf ok3 hqe S E1 S1 T1
   have out:LeavesInM (FR none) 0 P fn a1.tmps (Fin P M L w r M') a1.defers .returning w1 :=
    leaves a1.defers s1.D s1.S s1.T s1.E fun w' S' T' E' => (fin w' S' T' E').2
   have hx:=(fin w1 s1.S s1.T s1.E).1
   cases ex <;> cases e <;> first|exact he.elim|exact hx.elim|exact out
  ·cases ok4
 ·cases ok
end
end Go.Nac
namespace Go.Nac
variable [Env]
section
variable {P:Program} {M0:List Blk} {L0:Loc} {w0:World} {ro:Option Nat} {M M':List Blk} {t t':List PV} {L L':Loc} {a:Act} {w w':World}
theorem Qma (hmix:P.follows .mixedOrders = true) {f:FuncId} {cf:CFunc} (ok:okFn P f cf = true) {args:List PV} {r:PV} {M':List Blk}
  (h:lowM M.length M → lowL M.length args → Wp (Conc P) M.length cf.body (VC M.length cf.results r M') M (args ++ List.replicate (cf.ntmps - args.length) .top)):Conc P (.fn f) args M r M':=by
 refine Qdj hmix ok h fun fn e M1 t1 L L1 w w1 a1 hf hok hp S E S1 T1 => ?_
 obtain ⟨he,m,hn,_,hlow,rfl,vs,hres,hr,hrl⟩:=hp
 obtain ⟨cvs,g1,g2⟩:=Qfq S1 T1 _ _ _ hok hres
 rcases hr with rfl|⟨rfl,rfl⟩
 ·exact ⟨he,_,Y9 g1,L1,E.take hn,S1.take hlow,QiF S1 g2 hrl⟩
 ·cases g2 with
  | cons _ v _ us h hs =>
   cases hs
   have:=h.s_inv
   subst this
   exact ⟨he,_,Y9 g1,L1,E.take hn,S1.take hlow,.s _ rfl⟩
theorem QgI (S:Sim (RO P) M L w) {n i v k:Nat} {xs:List PV} (hn:n ≤ M.length) (hlow:lowM n (M.take n)) (hi:M[i]? = some (.row true k v xs)) (hge:n ≤ i) (hx:lowL n xs) :
  (∀ {M0:List Blk} {L0:Loc} {w0:World},Evo M0 L0 w0 M L w → M0.length = n → Evo M0 L0 w0 (M.take n ++ [.row true k v xs]) (L.upd n (L i)) w) ∧
  Sim (RO P) (M.take n ++ [.row true k v xs]) (L.upd n (L i)) w:=by
 have hlen:(M.take n).length = n:=by simp;omega
 have hM:∀ j,j < n → (M.take n ++ [Blk.row true k v xs])[j]? = M[j]?:=by
  intro j hj
  rw [List.getElem?_append_left (by omega)];exact Za hj
 have hL:∀ j,j < n → (L.upd n (L i)) j = L j:=fun j hj => Loc.upd_ne L _ (by omega)
 have get:∀ j b,(M.take n ++ [Blk.row true k v xs])[j]? = some b → (M[j]? = some b ∧ j < n) ∨ (j = n ∧ b = .row true k v xs):=by
  intro j b hj
  rcases YN hj with ⟨h1,h2⟩|⟨h1,h2⟩
  ·exact .inl (ZL h1)
  ·exact .inr ⟨by omega,h2⟩
 have hO:∀ b,Owned (M.take n ++ [Blk.row true k v xs]) (L.upd n (L i)) b → Owned M L b:=by
  rintro b ⟨j,bl,p,h1,h2,h3,h4⟩
  rcases get j bl h1 with ⟨h5,h6⟩|⟨rfl,rfl⟩
  ·exact ⟨j,bl,p,h5,h2,by rw [← hL j h6];exact h3,h4⟩
  ·rw [Loc.upd_self] at h3
   exact ⟨i,_,p,hi,rfl,h3,h4⟩
 refine ⟨fun E e => ⟨E.os,E.tape,E.output,E.drawn,E.size,fun b h1 h2 => ⟨(E.frame b h1 h2).1,fun h => (E.frame b h1 h2).2 (hO b h)⟩,fun j b hj => ?_⟩,fun j b hj => ?_,fun x y bx bY p q hx' hy hl hne hp hq => ?_,fun g cs h => ⟨(S.env g cs h).1,fun o => (S.env g cs h).2 (hO g o)⟩⟩
 ·have hlt:j < n:=by rw [← e];exact (List.getElem?_eq_some_iff.1 hj).1
  obtain ⟨b',h1,h2⟩:=E.blk j b hj
  refine ⟨b',(hM j hlt).trans h1,?_⟩
  have hLj:=hL j hlt
  cases b with
  | row =>
   cases b' with
   | row => exact ⟨h2.1,fun e => by obtain ⟨g1,g2,g3,g4⟩:=h2.2 e;exact ⟨g1,g2,hLj.trans g3,g4⟩⟩
   | _ => exact h2.elim
  | map =>
   cases b' with
   | map => exact Eq.trans hLj h2
   | siter => exact trivial
   | _ => exact h2.elim
  | loop =>
   cases b' with
   | loop => exact ⟨hLj.trans h2.1,h2.2⟩
   | _ => exact h2.elim
  | siter =>
   cases b' with
   | siter => exact Eq.trans hLj h2
   | _ => exact h2.elim
 ·rcases get j b hj with ⟨h1,h2⟩|⟨rfl,rfl⟩
  ·exact BRel.remap hM hL hO (S.mem j b h1) (hlow b (List.mem_of_getElem? ((Za h2).trans h1))) (hL j h2)
  ·exact BRel.remap hM hL hO (S.mem i _ hi) (by rw [Blk.low];exact hx) (Loc.upd_self L _ _)
 ·rcases get x bx hx' with ⟨h1,h2⟩|⟨rfl,rfl⟩
  ·rcases get y bY hy with ⟨h3,h4⟩|⟨rfl,rfl⟩
   ·rw [hL x h2] at hp;rw [hL y h4] at hq
    exact S.inj x y bx bY p q h1 h3 hl hne hp hq
   ·rw [hL x h2] at hp;rw [Loc.upd_self] at hq
    exact S.inj x i bx _ p q h1 hi hl (by omega) hp hq
  ·rcases get y bY hy with ⟨h3,h4⟩|⟨rfl,rfl⟩
   ·rw [Loc.upd_self] at hp;rw [hL y h4] at hq
    exact S.inj i y _ bY p q hi h3 hl (by omega) hp hq
   ·exact absurd rfl hne
theorem QnC (hmix:P.follows .mixedOrders = true) {f:FuncId} {cf:CFunc} (ok:okFn P f cf = true) {args:List PV} {r:PV} {M':List Blk}
  (h:lowM M.length M → lowL M.length args → Wp (Conc P) M.length cf.body (Qat M.length cf.results r M') M (args ++ List.replicate (cf.ntmps - args.length) .top)):Conc P (.fn f) args M r M':=by
 refine Qdj hmix ok h fun fn e M1 t1 L L1 w w1 a1 hf hok hp S E S1 T1 => ?_
 obtain ⟨he,hn,hlow,i,v,off,len,k,xs,hres,hge,hi,hxl,rfl,rfl⟩:=hp
 obtain ⟨cvs,g1,g2⟩:=Qfq S1 T1 _ _ _ hok hres
 cases g2 with
 | cons _ c _ us g3 g4 =>
  cases g4
  obtain ⟨k1,k2⟩:=QgI S1 hn hlow hi hge hxl
  refine ⟨he,_,Y9 g1,_,k1 E rfl,k2,?_⟩
  obtain ⟨ad,cap,rfl,hle,hcap,hm⟩:=g3.os_live hi
  refine .os _ _ _ _ true k xs ad cap ?_ hle hcap fun hne => ?_
  ·have e:(M1.take M.length).length = M.length:=by simp;omega
   rw [List.getElem?_append_right (by omega),e,Nat.sub_self];rfl
  ·obtain ⟨b,o,cc,el,q1,q2⟩:=hm hne
   exact ⟨b,o,cc,el,(Loc.upd_self _ _ _).trans q1,q2⟩
theorem Qjl {ps:Array Tmp} {args:List PV} {cargs:Array Value} {ts:List PV} {ctmps:Array Value} (hs:LRel M L w ts ctmps.toList) (ha:LRel M L w args cargs.toList) :
  LRel M L w ((ps.toList.zip args).foldl (fun t p => t.set p.1 p.2) ts) ((ps.zip cargs).foldl (fun tmps (t,a) => tmps.setIfInBounds t a) ctmps).toList:=by
 rw [← Array.foldl_toList,Array.toList_zip]
 generalize ps.toList = ps
 generalize cargs.toList = cs at ha
 induction ps generalizing ts ctmps args cs with
 | nil => exact hs
 | cons p ps ih =>
  cases ha with
  | nil => exact hs
  | cons x v xs vs h h' =>
   simp only [List.zip_cons_cons,List.foldl_cons]
   exact ih (by rw [Array.toList_setIfInBounds];exact hs.set p h) _ h'
theorem turn (S:Sim (RO P) M L w) {i:Nat} {st st':LoopState} {pd pd':Option Ex} {ts:List PV} {ps:List Nat} {x y:CCode} (hi:M[i]? = some (.loop st pd ts ps x y)) {l o:Nat} (hL:L i = some (l,o))
  {r:Loop} (hr:w.heap[l]? = some (.loop r)) {pend:Option Code} (hp:Qay pd' pend) :
  Evo M L w (M.set i (.loop st' pd' ts ps x y)) L (w.putObj l (.loop { r with state:=st',pending:=pend })) ∧
   Sim (RO P) (M.set i (.loop st' pd' ts ps x y)) L (w.putObj l (.loop { r with state:=st',pending:=pend })):=by
 obtain ⟨r',h1,h2,h3,h4,h5,h6,h7⟩:=YI S hi hL
 rw [hr] at h1;cases h1
 refine change S hi L (fun _ _ => rfl) ⟨rfl,rfl,rfl,(by first|exact Nat.le_refl _|exact Nat.le_succ _|simp)⟩ (.inl rfl) (by rw [World.putObj_size];exact Nat.le_refl _)
  (fun b hb hne => World.putObj_heap_other (fun e => hne (l,o) rfl hL e.symm)) (fun p hp => .inl ⟨p,hp,rfl⟩) ⟨rfl,rfl,rfl,rfl,rfl⟩ fun E => ?_
 exact ⟨l,o,_,hL,World.putObj_heap_same (Array.getElem?_eq_some_iff.1 hr).1,rfl,hp,h4,h5.evo E,h6,h7⟩
theorem Qjt (hmix:P.follows .mixedOrders = true) {i:Nat} {args:List PV} {r:PV} {M':List Blk} {ps:List Nat} {x y:CCode} {ts:List PV}
  (hi:M[i]? = some (.loop .ready none ts ps x y)) (hlen:args.length = ps.length)
  (h:lowM M.length M → lowL M.length args →
   Wp (Conc P) M.length x (thenK (fun M1 t1 => (∃ ts' ps' a' b',M1[i]? = some (.loop .ready none ts' ps' a' b')) ∧
    Wp (Conc P) M.length y (Yl M.length i ps x y ts r M') (M1.set i (.loop .busy none ts ps x y)) t1) (fun _ _ _ => False))
   M ((ps.zip args).foldl (fun t p => t.set p.1 p.2) ts)):Conc P (.yl i) args M r M':=by
 intro L w cargs S A
 intro b o hL
 obtain ⟨rc,h1,h2,h3,h4,h5,h6,h7⟩:=YI S hi hL
 subst h4
 have hsz:cargs.size = rc.params.size:=by have:=A.length;simp at this hlen;omega
 refine ⟨_,_,_,_,run_yield h1 hsz,?_⟩
 have hro:Qax M L (some b):=by
  rintro l hl;cases hl
  exact ⟨i,_,_,_,_,_,_,o,hi,hL⟩
 have s:St P M L w (some b) M ((rc.params.toList.zip args).foldl (fun t p => t.set p.1 p.2) ts) L { tmps:=(rc.params.zip cargs).foldl (fun tmps (t,a) => tmps.setIfInBounds t a) rc.tmps,defers:=[] } w :=
  ⟨S,Qjl h5 A,Evo.refl _ _ _,rfl⟩
 refine roundIn_of_wpIn trivial ?_
 show rc.assign.wpIn (FR (some b)) 0 P _ _ w
 refine wpIn_mono (Qbg hmix hro x rc.assign h6 (h S.low A.low) s) ?_
 rintro e a1 w1 ⟨ex,M1,t1,L1,he,hq,s1⟩
 cases ex <;> cases e <;> first|exact he.elim|exact hq.elim|skip
 obtain ⟨⟨ts',ps',a',b',hi1⟩,hw⟩:=hq
 have hL1:L1 i = some (b,o) ∧ ts' = ts ∧ ps' = rc.params.toList ∧ a' = x ∧ b' = y:=by
  obtain ⟨b',k1,k2⟩:=s1.E.blk i _ hi
  rw [hi1] at k1;cases k1
  exact ⟨k2.1.trans hL,k2.2⟩
 obtain ⟨hL1,e1,e2,e3,e4⟩:=hL1
 rw [e1,e2,e3,e4] at hi1
 clear e1 e2 e3 e4
 obtain ⟨r1,g1,g2,g3,_⟩:=YI s1.S hi1 hL1
 have hp1:r1.pending = none:=by
  cases hp:r1.pending with
  | none => rfl
  | some c => rw [hp] at g3;exact g3.elim
 refine ⟨_,run_beginRound g1 g2,?_⟩
 show rc.body.wpIn (FR (some b)) 0 P _ _ _
 have tt:=turn s1.S hi1 hL1 g1 (st':=.busy) (pd':=none) (pend:=r1.pending) (by rw [hp1];trivial)
 have s2:St P M L w (some b) (M1.set i (.loop .busy none ts rc.params.toList x y)) t1 L1 a1 (w1.putObj b (.loop { r1 with state:=.busy })) :=
  s1.same tt.1 tt.2
 refine wpIn_mono (Qbg hmix hro y rc.body h7 hw s2) ?_
 rintro e a2 w2 ⟨ex,M2,t2,L2,he2,⟨⟨ts2,ps2,a2',b2',q3⟩,⟨m,q1,q0,q2,rfl⟩,rfl⟩,s3⟩
 have hL2:L2 i = some (b,o) ∧ ts2 = ts ∧ ps2 = rc.params.toList ∧ a2' = x ∧ b2' = y:=by
  obtain ⟨b',k1,k2⟩:=s3.E.blk i _ hi
  rw [q3] at k1;cases k1
  exact ⟨k2.1.trans hL,k2.2⟩
 obtain ⟨hL2,e1,e2,e3,e4⟩:=hL2
 rw [e1,e2,e3,e4] at q3
 obtain ⟨r2,u1,u2,u3,_⟩:=YI s3.S q3 hL2
 have hlt:i < M.length:=(List.getElem?_eq_some_iff.1 hi).1
 have fin:∀ (st':LoopState) (pd':Option Ex) (pend:Option Code) (bv:Bool),Qay pd' pend → Fin P M L w (.B bv) ((M2.take m).set i (.loop st' pd' ts rc.params.toList x y)) (.returned (.bool bv))
   (w2.putObj b (.loop { r2 with state:=st',pending:=pend })):=by
  intro st' pd' pend bv hp
  have tt:=turn (s3.S.take q2) (i:=i) ((Za (Nat.lt_of_lt_of_le hlt q1)).trans q3) hL2 u1 (st':=st') hp
  exact ⟨L2,(s3.E.take q1).trans tt.1,tt.2,.s _ rfl⟩
 cases ex <;> cases e <;> first|exact he2.elim|skip
 ·exact ⟨_,_,run_endRound none u1,fin .ready none none true trivial⟩
 ·cases he2;exact ⟨_,_,run_endRound _ u1,fin .done (some (.exit _)) (some (.exit _)) false rfl⟩
 ·cases he2;exact ⟨_,_,run_endRound _ u1,fin .done (some (.goto _)) (some (.goto _)) false rfl⟩
 ·exact ⟨_,_,run_endRound _ u1,fin .done (some .ret) (some .ret) false trivial⟩
theorem QlI (hmix:P.follows .mixedOrders = true) {F:Prog} {X:XRel} (hF:∀ f cf,F f = some cf → okFn P f cf = true)
    (hX:∀ f args M r M',X f args M r M' → Conc P (.fn f) args M r M'):Qii F X (Conc P) :=
  ⟨fun f cf args M r M' hf _ h => Qma hmix (hF f cf hf) h,fun f cf args M r M' hf _ h => QnC hmix (hF f cf hf) h,
   fun f args M r M' hx => hX f args M r M' hx,fun i args M r M' ps a b ts hi hlen h => Qjt hmix hi hlen h⟩
theorem QaS (hmix:P.follows .mixedOrders = true) {F:Prog} {X:XRel} (hF:∀ f cf,F f = some cf → okFn P f cf = true)
  (hX:∀ f args M r M',X f args M r M' → Conc P (.fn f) args M r M') {f:FuncId} (hroot:(F f).isSome = true) {args:List PV} {r:PV} {M':List Blk} (h:ACall F X (.fn f) args M r M') {L:Loc} {w:World} {cargs:Array Value}
  (S:Sim (RO P) M L w) (A:LRel M L w args cargs.toList):Calls P f cargs w (Fin P M L w r M'):=by
 rcases h (Conc P) (QlI hmix hF hX) L w cargs S A with ⟨_,h⟩|⟨_,v,w',h1,_⟩
 ·exact h
 ·obtain ⟨cf,hcf⟩:=Option.isSome_iff_exists.1 hroot
  have ok:=hF f cf hcf
  unfold okFn at ok
  split at ok
  ·rename_i fn hf
   simp only [Bool.and_eq_true,Bool.not_eq_true',beq_iff_eq] at ok
   obtain ⟨⟨⟨ok1,ok2⟩,ok3⟩,ok4⟩:=ok
   split at ok4
   ·rename_i c hb
    rw [MuLone.run_callFunc_enter hf ok1 hb cargs w] at h1
    cases h1
   ·cases ok4
  ·cases ok
end
end Go.Nac
