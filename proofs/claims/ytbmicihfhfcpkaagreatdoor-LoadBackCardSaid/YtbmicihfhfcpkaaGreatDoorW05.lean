/- Counting cycles. -/
import Derived.Test.YtbmicihfhfcpkaaGreatDoorW04
import GoSem.Core.Float
set_option linter.unusedVariables false
namespace Go.Nac
def V6 (a b c d:Rev):Bool:=decide (VD b c ≤ VD a b) && decide (VD b c ≤ VD c d)
def mkCyc (b c:Rev):Cyc:=⟨b.at_,c.at_,min b.ld c.ld,max b.ld c.ld⟩
def drain:List Rev → List Cyc × List Rev
 | d :: c :: b :: a :: r => if V6 a b c d = true then (mkCyc b c :: (drain (d :: a :: r)).1,(drain (d :: a :: r)).2) else ([],d :: c :: b :: a :: r)
 | st => ([],st)
termination_by st => st.length
def Vh (s:List Cyc × List Rev) (r:Rev):List Cyc × List Rev:=(s.1 ++ (drain (r :: s.2)).1,(drain (r :: s.2)).2)
def Qt (l:List Rev):List Cyc × List Rev:=l.foldl Vh ([],[])
theorem QfV {l:List Rev} {k:Nat} {x:Rev} (h:l[k]? = some x):Qt (l.take (k + 1)) = Vh (Qt (l.take k)) x:=by
 obtain ⟨h1,h2⟩:=List.getElem?_eq_some_iff.1 h
 unfold Qt
 rw [List.take_succ_eq_append_getElem h1,h2,List.foldl_append];rfl
theorem Y7 {a b c d:Rev} {r:List Rev} (h:V6 a b c d = true):drain (d :: c :: b :: a :: r) = (mkCyc b c :: (drain (d :: a :: r)).1,(drain (d :: a :: r)).2):=by
 rw [drain];rw [if_pos h]
theorem JO {a b c d:Rev} {r:List Rev} (h:V6 a b c d = false):drain (d :: c :: b :: a :: r) = ([],d :: c :: b :: a :: r):=by
 rw [drain];rw [if_neg (by simp [h])]
theorem Qft {st:List Rev} (h:st.length < 4):drain st = ([],st):=by
 rcases st with _|⟨a,_|⟨b,_|⟨c,_|⟨d,r⟩⟩⟩⟩
 ·rw [drain];simp
 ·rw [drain];simp
 ·rw [drain];simp
 ·rw [drain];simp
 ·simp at h;omega
theorem QiM (st:List Rev):2 * (drain st).1.length + (drain st).2.length = st.length:=by
 induction st using drain.induct with
 | case1 d c b a r h ih => rw [Y7 h];simp at ih ⊢;omega
 | case2 d c b a r h => rw [JO (by simpa using h)];simp
 | case3 st h => rw [drain];simp;exact h
theorem QcK (st:List Rev):∀ x ∈ (drain st).2,x ∈ st:=by
 induction st using drain.induct with
 | case1 d c b a r h ih =>
  rw [Y7 h];intro x hx
  have:=ih x hx
  simp only [List.mem_cons] at this ⊢
  rcases this with h|h|h <;> simp [h]
 | case2 d c b a r h => rw [JO (by simpa using h)];exact fun x hx => hx
 | case3 st h =>
  rw [drain]
  ·exact fun x hx => hx
  ·exact h
theorem Qam (l:List Rev):2 * (Qt l).1.length + (Qt l).2.length = l.length:=by
 unfold Qt
 have:∀ (l:List Rev) (s:List Cyc × List Rev),2 * (l.foldl Vh s).1.length + (l.foldl Vh s).2.length = 2 * s.1.length + s.2.length + l.length:=by
  intro l
  induction l with
  | nil => intro s;simp
  | cons x l ih =>
   intro s
   have:=QiM (x :: s.2)
   rw [List.foldl_cons,ih]
   simp [Vh] at this ⊢;omega
 simpa using this l ([],[])
def Qpz (l:List Rev):Bool :=
 match l.reverse with
 | d :: c :: b :: a :: _ => V6 a b c d
 | _ => false
theorem last4 {l:List Rev} (h:4 ≤ l.length):∃ p a b c d,l = p ++ [a,b,c,d]:=by
 rcases List.eq_nil_or_concat l with rfl|⟨l1,d,rfl⟩
 ·simp at h
 rcases List.eq_nil_or_concat l1 with rfl|⟨l2,c,rfl⟩
 ·simp at h
 rcases List.eq_nil_or_concat l2 with rfl|⟨l3,b,rfl⟩
 ·simp at h
 rcases List.eq_nil_or_concat l3 with rfl|⟨l4,a,rfl⟩
 ·simp at h
 exact ⟨l4,a,b,c,d,by simp⟩
theorem get4 (p:List Rev) (a b c d:Rev):(p ++ [a,b,c,d])[p.length]? = some a ∧ (p ++ [a,b,c,d])[p.length + 1]? = some b ∧ (p ++ [a,b,c,d])[p.length + 2]? = some c ∧ (p ++ [a,b,c,d])[p.length + 3]? = some d:=by
 refine ⟨?_,?_,?_,?_⟩
 ·rw [List.getElem?_append_right (Nat.le_refl _)];simp
 all_goals rw [List.getElem?_append_right (Nat.le_add_right _ _)];simp
theorem Qao (l:List Rev):∀ x ∈ (Qt l).2,x ∈ l:=by
 unfold Qt
 have:∀ (l:List Rev) (s:List Cyc × List Rev),∀ x ∈ (l.foldl Vh s).2,x ∈ s.2 ∨ x ∈ l:=by
  intro l
  induction l with
  | nil => intro s x hx;exact .inl hx
  | cons y l ih =>
   intro s x hx
   rw [List.foldl_cons] at hx
   rcases ih _ x hx with h|h
   ·have:=QcK _ x h
    rcases List.mem_cons.1 this with rfl|h
    ·exact .inr (by simp)
    ·exact .inl h
   ·exact .inr (List.mem_cons_of_mem _ h)
 intro x hx
 rcases this l ([],[]) x hx with h|h
 ·cases h
 ·exact h
end Go.Nac
namespace Go.Nac
def Qx (a:Rev):Prop:=-32768 ≤ a.ld ∧ a.ld ≤ 32768
def Vy (c:Cyc):Prop:=0 ≤ c.hi - c.lo ∧ c.hi - c.lo ≤ 65536 ∧ -1048576 ≤ c.hi ∧ c.hi ≤ 1048576
theorem Qfl {b c:Rev} (hb:Qx b) (hc:Qx c):Vy (mkCyc b c):=by unfold Qx at hb hc;unfold Vy mkCyc;simp only [];omega
theorem Qe8 (st:List Rev):(∀ r ∈ st,Qx r) → ∀ c ∈ (drain st).1,Vy c:=by
 induction st using drain.induct with
 | case1 d c b a r h ih =>
  intro hs x hx
  rw [Y7 h] at hx
  rcases List.mem_cons.1 hx with rfl|hx
  ·exact Qfl (hs b (by simp)) (hs c (by simp))
  ·exact ih (fun y hy => hs y (by simp only [List.mem_cons] at hy ⊢;rcases hy with h|h|h <;> simp [h])) x hx
 | case2 d c b a r h => intro _ x hx;rw [JO (by simpa using h)] at hx;cases hx
 | case3 st h =>
  intro _ x hx
  rw [drain] at hx
  ·cases hx
  ·exact h
theorem Jl {l:List Rev} (hl:∀ r ∈ l,Qx r):∀ c ∈ (Qt l).1,Vy c:=by
 unfold Qt
 have:∀ (l:List Rev) (s:List Cyc × List Rev),(∀ r ∈ l,Qx r) → (∀ r ∈ s.2,Qx r) → (∀ c ∈ s.1,Vy c) → ∀ c ∈ (l.foldl Vh s).1,Vy c:=by
  intro l
  induction l with
  | nil => intro s _ _ h;exact h
  | cons y l ih =>
   intro s h1 h2 h3
   rw [List.foldl_cons]
   have hst:∀ r ∈ y :: s.2,Qx r:=fun r hr => by
    rcases List.mem_cons.1 hr with rfl|hr
    ·exact h1 _ (by simp)
    ·exact h2 r hr
   refine ih _ (fun r hr => h1 r (by simp [hr])) (fun r hr => hst r (QcK _ r hr)) (fun c hc => ?_)
   rcases List.mem_append.1 hc with hc|hc
   ·exact h3 c hc
   ·exact Qe8 _ hst c hc
 exact this l ([],[]) hl (by simp) (by simp)
theorem QeV (o:List Rev) (p:Rev):∀ x ∈ Qz o p,x ∈ o ∨ x = p:=by
 intro x hx
 unfold Qz at hx
 split at hx
 ·simp at hx;exact .inr hx
 ·split at hx
  ·exact .inl hx
  ·split at hx
   ·simp at hx;exact hx
   ·split at hx
    ·simp at hx;exact hx
    ·rcases List.mem_append.1 hx with h|h
     ·exact .inl (List.dropLast_subset _ h)
     ·simp at h;exact .inr h
theorem Qa9 (l:List Rev):∀ x ∈ Qv l,x ∈ l:=by
 unfold Qv
 have:∀ (l o:List Rev),∀ x ∈ l.foldl Qz o,x ∈ o ∨ x ∈ l:=by
  intro l
  induction l with
  | nil => intro o x hx;exact .inl hx
  | cons y l ih =>
   intro o x hx
   rw [List.foldl_cons] at hx
   rcases ih _ x hx with h|h
   ·rcases QeV _ _ x h with h|rfl
    ·exact .inl h
    ·exact .inr (by simp)
   ·exact .inr (List.mem_cons_of_mem _ h)
 intro x hx
 rcases this l [] x hx with h|h
 ·cases h
 ·exact h
theorem QbB {l:List Int} {r:Rev} (h:r ∈ points l):r.ld ∈ l ∧ 0 ≤ r.at_ ∧ r.at_ < l.length:=by
 unfold points at h
 obtain ⟨p,hp,rfl⟩:=List.mem_map.1 h
 obtain ⟨x,i⟩:=p
 have:=List.mem_zipIdx hp
 simp only [Nat.zero_add,Nat.zero_le,true_and,Nat.sub_zero] at this
 obtain ⟨h1,h2⟩:=this
 refine ⟨?_,by simp,by simp;omega⟩
 simp only [h2]
 exact List.getElem_mem _
theorem Qab {l:List Cyc} {e times:Int} (ht:0 ≤ times) (he:1 ≤ e ∧ e ≤ 3):∀ {m:Int × Bool},mOk m → (∀ c ∈ l,Vy c) → mOk (Vc e times m l):=by
 unfold Vc
 induction l with
 | nil => intro m h _;exact h
 | cons c l ih =>
  intro m h hs
  rw [List.foldl_cons]
  have hc:=hs c (by simp)
  have:=Qb0 he hc.1 hc.2.1
  exact ih (QaE h (Int.mul_nonneg ht this.1)) fun c hc => hs c (by simp [hc])
def J2 (l:List Rev):List Cyc × List Rev:=if Qh l = 0 then Qt l else ([],[])
def twRes (l:List Int) (e:Int):Int × Int:=mres (VN e (Vc e 2 (0,false) (Qt (Qv (points l))).1) (Qt (Qv (points l))).2.reverse)
def YY (l:List Int) (e:Int):Int × Int:=if fst0 [QI l,rng e 1 3] = 0 then twRes l e else (0,fst0 [QI l,rng e 1 3])
theorem QdD {α:Type} (l:List α) (k:Nat) (p q:α) (h:l[k]? = some p) (h':l[k + 1]? = some q):(l.zip l.tail)[k]? = some (p,q):=by
 rw [List.getElem?_zip_eq_some]
 exact ⟨h,by rw [List.getElem?_tail];exact h'⟩
theorem QdK {α:Type} (l:List α):(l.zip l.tail).length = l.length - 1:=by simp
def crosses (lv:Int) (p:Rev × Rev):Bool:=decide (p.1.ld ≤ lv) && decide (lv < p.2.ld)
def QdB (lv:Int) (l:List Rev):Nat:=((l.zip l.tail).filter (crosses lv)).length
def Z0 (l:List Rev) (lv:Int):Int × Int:=if fst0 [Qh l,rng lv (-999999999) 999999999] = 0 then (QdB lv l,0) else (0,fst0 [Qh l,rng lv (-999999999) 999999999])
def spread (l:List Rev):Int :=
 match l with
 | [] => 0
 | a :: _ => l.foldl (fun m r => max m r.ld) a.ld - l.foldl (fun m r => min m r.ld) a.ld
def grRes (l:List Rev):Int × Int:=if fst0 [Qh l,if l.length < 2 then 7 else 0] = 0 then (spread l,0) else (0,fst0 [Qh l,if l.length < 2 then 7 else 0])
end Go.Nac
namespace Go.Nac
theorem QaW {x y:Int}:Vk (.int .i64 x) (.int .i64 y) = decide (x = y):=by
 simp only [Vk,VG,if_true,Option.getD_some];congr
theorem QeI {x:Int} {v:Value}:Vk (.int .i64 x) v = true ↔ v = .int .i64 x:=by
 cases v <;> first|(simp [Vk,VG];done)|skip
 rename_i k y
 simp only [Vk,VG]
 split
 ·rename_i h;subst h;simp;exact eq_comm
 ·rename_i h;simp;intro e;exact absurd e.symm h
theorem Qdz {x y:Int} {v:Value} (es:List (Value × Value)):find (.int .i64 x) (upd (.int .i64 y) v es) = if x = y then some v else find (.int .i64 x) es:=by
 induction es with
 | nil => simp only [upd,find,QaW,decide_eq_true_eq]
 | cons e es ih =>
  obtain ⟨a,u⟩:=e
  simp only [upd]
  by_cases h:Vk (.int .i64 y) a = true
  ·rw [if_pos h]
   have:=QeI.1 h
   subst this
   simp only [find,QaW,decide_eq_true_eq]
   by_cases hx:x = y <;> simp [hx]
  ·rw [if_neg h]
   simp only [find,ih]
   by_cases hx:x = y
   ·subst hx;simp [h]
   ·simp [hx]
def Ya (es:List (Value × Value)):Prop:=∀ e ∈ es,∃ y:Int,e.1 = .int .i64 y
theorem Ya.like {es:List (Value × Value)} (h:Ya es) (x:Int):Vq (.int .i64 x) es = true:=by
 unfold Vq
 rw [List.all_eq_true]
 intro e he
 obtain ⟨y,hy⟩:=h e he
 rw [hy];rfl
theorem Ya.upd {es:List (Value × Value)} (h:Ya es) (x:Int) (v:Value):Ya (upd (.int .i64 x) v es):=by
 induction es with
 | nil => intro e he;simp [Nac.upd] at he;exact ⟨x,by rw [he]⟩
 | cons a es ih =>
  obtain ⟨k,u⟩:=a
  intro e he
  simp only [Nac.upd] at he
  split at he
  ·rcases List.mem_cons.1 he with rfl|he
   ·exact ⟨x,rfl⟩
   ·exact h e (by simp [he])
  ·rcases List.mem_cons.1 he with rfl|he
   ·exact h _ (by simp)
   ·exact ih (fun e he => h e (by simp [he])) e he
def Yi (least:Int) (es:List (Value × Value)) (c:Cyc):List (Value × Value):=if c.hi - c.lo < least then upd (.int .i64 c.to_) (.bool true) (upd (.int .i64 c.from_) (.bool true) es) else es
def VK (least:Int) (cs:List Cyc):List (Value × Value):=cs.foldl (Yi least) []
def Zj (least:Int) (cs:List Cyc) (x:Int):Bool:=cs.any fun c => decide (c.hi - c.lo < least) && (decide (c.from_ = x) || decide (c.to_ = x))
theorem Qb9 (least:Int) (cs:List Cyc):Ya (VK least cs):=by
 unfold VK
 have:∀ (cs:List Cyc) (es:List (Value × Value)),Ya es → Ya (cs.foldl (Yi least) es):=by
  intro cs
  induction cs with
  | nil => intro es h;exact h
  | cons c cs ih =>
   intro es h
   refine ih _ ?_
   unfold Yi
   split
   ·exact (h.upd _ _).upd _ _
   ·exact h
 exact this cs [] (by intro e he;cases he)
theorem Qe4 (least:Int) (cs:List Cyc) (x:Int):(find (.int .i64 x) (VK least cs)).getD (.bool false) = .bool (Zj least cs x):=by
 have key:∀ (cs:List Cyc) (es:List (Value × Value)) (b:Bool),(find (.int .i64 x) es).getD (.bool false) = .bool b → (find (.int .i64 x) (cs.foldl (Yi least) es)).getD (.bool false) = .bool (b || Zj least cs x):=by
  intro cs
  induction cs with
  | nil => intro es b h;simpa [Zj] using h
  | cons c cs ih =>
   intro es b h
   rw [List.foldl_cons,ih _ (b || (decide (c.hi - c.lo < least) && (decide (c.from_ = x) || decide (c.to_ = x))))]
   ·simp [Zj,Bool.or_assoc]
   ·unfold Yi
    split
    ·rename_i hl
     rw [Qdz,Qdz]
     by_cases h1:x = c.to_
     ·subst h1;simp [hl]
     ·rw [if_neg h1]
      by_cases h2:x = c.from_
      ·subst h2;simp [hl]
      ·rw [if_neg h2,h]
       have h1':¬ c.to_ = x:=fun e => h1 e.symm
       have h2':¬ c.from_ = x:=fun e => h2 e.symm
       simp [h1',h2']
    ·rename_i hl
     rw [h];simp [hl]
 have:=key cs [] false rfl
 simpa [VK] using this
theorem QeG {least:Int} {cs:List Cyc} {k:Nat} {c:Cyc} (h:cs[k]? = some c):VK least (cs.take (k + 1)) = Yi least (VK least (cs.take k)) c:=by
 obtain ⟨h1,h2⟩:=List.getElem?_eq_some_iff.1 h
 unfold VK
 rw [List.take_succ_eq_append_getElem h1,h2,List.foldl_append];rfl
def filt (l:List Rev) (least:Int):List Rev:=l.filter fun r => !Zj least (Qt l).1 r.at_
def YB (l:List Rev) (least:Int):Int:=fst0 [Qh l,rng least (-999999999) 999999999]
def shR (s:Int) (r:Rev):Rev:=⟨r.at_ + s,r.ld⟩
def farB (b:List Rev) (s:Int):Bool:=b.any fun r => decide (¬ rng (r.at_ + s) 0 39999 = 0)
def nearB (a b:List Rev) (s:Int):Bool :=
 match a.getLast?,b.head? with
 | some p,some q => decide (q.at_ + s ≤ p.at_)
 | _,_ => false
def QX (a b:List Rev) (s:Int):Int:=if farB b s = true then 3 else if nearB a b s = true then 11 else 0
def Vl (a b:List Rev) (s:Int):List Rev:=if QX a b s = 0 then Qv (a ++ b.map (shR s)) else []
def shK (b:List Rev) (s:Int) (k:Nat):List Rev:=(b.take k).map (shR s) ++ b.drop k
theorem Qmw (b:List Rev) (s:Int) (k:Nat):(shK b s k).length = b.length:=by simp [shK];omega
theorem QmY {b:List Rev} {s:Int} {k:Nat} {x:Rev} (h:b[k]? = some x):(shK b s k)[k]? = some x:=by
 have hlt:=(List.getElem?_eq_some_iff.1 h).1
 unfold shK
 rw [List.getElem?_append_right (by simp;omega)]
 simp [show min k b.length = k by omega,h]
theorem QlG {b:List Rev} {s:Int} {k:Nat} {x:Rev} (h:b[k]? = some x):(shK b s k).set k (shR s x) = shK b s (k + 1):=by
 obtain ⟨h1,h2⟩:=List.getElem?_eq_some_iff.1 h
 unfold shK
 rw [List.set_append_right _ _ (by simp;omega),List.drop_eq_getElem_cons h1,h2]
 simp only [List.length_map,List.length_take,show min k b.length = k by omega,Nat.sub_self,List.set_cons_zero]
 rw [Q1 h]
 simp
theorem QnR (b:List Rev) (s:Int):shK b s b.length = b.map (shR s):=by simp [shK]
def jErr (a b:List Rev) (s:Int):Int:=if fst0 [Qh a,Qh b,rng s 0 40000] = 0 then QX a b s else fst0 [Qh a,Qh b,rng s 0 40000]
def jRes (a b:List Rev) (s:Int):List Rev:=if fst0 [Qh a,Qh b,rng s 0 40000] = 0 then Vl a b s else []
def QO (l:List Rev):Int :=
 match l.head?,l.getLast? with
 | some a,some z => z.at_ - a.at_ + 1
 | _,_ => 0
def Zi (l:List Rev):Int:=if Qh l = 0 then (if l = [] then 0 else QX l l (QO l)) else Qh l
def V2 (l:List Rev):List Cyc:=if Zi l = 0 then (if l = [] then [] else (Qt (Vl l l (QO l))).1) else []
end Go.Nac
namespace Go.Nac
def pwI (x e:Int):Int:=if e = 1 then x else if e = 2 then x * x else x * x * x
theorem pwI_1 (x:Int):pwI x 1 = x:=rfl
theorem pwI_2 (x:Int):pwI x 2 = x * x:=rfl
theorem pwI_3 (x:Int):pwI x 3 = x * x * x:=rfl
theorem Qkx {x y e:Int} (h:0 ≤ x) (hxy:x ≤ y):pwI x e ≤ pwI y e:=by
 unfold pwI
 have h2:x * x ≤ y * y:=Int.mul_le_mul hxy hxy h (by omega)
 have h3:x * x * x ≤ y * y * y:=Int.mul_le_mul h2 hxy h (Int.mul_nonneg (by omega) (by omega))
 split
 ·exact hxy
 ·split
  ·exact h2
  ·exact h3
theorem QdG {x e:Int} (he:1 ≤ e ∧ e ≤ 3) (h0:0 ≤ x) (h:x ≤ 65536 ∨ (e = 2 ∧ x ≤ 2147483648) ∨ (e = 3 ∧ x ≤ 1048576)):powW x e.toNat = pwI x e:=by
 rcases (by omega:e = 1 ∨ e = 2 ∨ e = 3) with rfl|rfl|rfl
 ·rw [show (1:Int).toNat = 1 from rfl,pow1 x (by omega)];rfl
 ·rw [show (2:Int).toNat = 2 from rfl,pow2 x h0 (by omega)];rfl
 ·rw [show (3:Int).toNat = 3 from rfl,pow3 x h0 (by omega)];rfl
def VX (n e r:Int):Prop:=0 ≤ r ∧ pwI r e ≤ n ∧ n < pwI (r + 1) e
theorem VX.unique {n e r s:Int} (h:VX n e r) (k:VX n e s):r = s:=by
 have key:∀ {r s:Int},VX n e r → VX n e s → ¬ r < s:=by
  intro r s h k hlt
  have:=Qkx (e:=e) (by have:=h.1;omega:0 ≤ r + 1) (by omega:r + 1 ≤ s)
  have:=h.2.2;have:=k.2.1
  omega
 have:=key h k;have:=key k h
 omega
open Classical in
noncomputable def rootOf (n e:Int):Int:=if h:∃ r,VX n e r then Classical.choose h else 0
theorem Yn {n e r:Int} (h:VX n e r):rootOf n e = r:=by
 unfold rootOf
 rw [dif_pos ⟨r,h⟩]
 exact VX.unique (Classical.choose_spec (⟨r,h⟩:∃ r,VX n e r)) h
def ZR (x:Life):Int:=fst0 [rng x.cap 1 1152921504606846976,rng x.exp 1 3]
theorem QfB {m:Int × Bool} (h:mOk m):0 ≤ (mres m).1 ∧ (mres m).1 ≤ 1152921504606846976:=by
 unfold mres mOk at *;split
 ·simp
 ·exact h
theorem Qd9 (l:List Int):fst0 l = 0 ∨ fst0 l ∈ l:=by
 induction l with
 | nil => exact .inl rfl
 | cons x l ih =>
  simp only [fst0]
  split
  ·rcases ih with h|h
   ·exact .inl h
   ·exact .inr (by simp [h])
  ·exact .inr (by simp)
theorem JA (n a b:Int):rng n a b = 0 ∨ rng n a b = 3:=by unfold rng;split <;> simp
theorem Qlw (c:Cyc):errC c = 0 ∨ errC c = 3 ∨ errC c = 11:=by
 unfold errC
 have h1:=JA c.from_ 0 39999
 have h2:=JA c.to_ 0 39999
 have h3:=JA c.lo (-32768) 32768
 have h4:=JA c.hi (-32768) 32768
 rcases Qd9 [rng c.from_ 0 39999,rng c.to_ 0 39999,rng c.lo (-32768) 32768,rng c.hi (-32768) 32768,if ordC c = true then 11 else 0] with h|h
 ·exact .inl h
 ·have h5:(if ordC c = true then (11:Int) else 0) = 0 ∨ (if ordC c = true then (11:Int) else 0) = 11:=by split <;> simp
  generalize fst0 [rng c.from_ 0 39999,rng c.to_ 0 39999,rng c.lo (-32768) 32768,rng c.hi (-32768) 32768,if ordC c = true then 11 else 0] = z at h ⊢
  simp only [List.mem_cons,List.not_mem_nil,or_false] at h
  omega
theorem Qe3 (l:List Cyc):QN l = 0 ∨ QN l = 3 ∨ QN l = 5 ∨ QN l = 11:=by
 unfold QN
 split
 ·simp
 ·rcases Qd9 (l.map errC) with h|h
  ·exact .inl h
  ·obtain ⟨c,_,hc⟩:=List.mem_map.1 h
   have:=Qlw c
   omega
theorem Qdi {l:List Cyc} (h:QN l = 0):∀ c ∈ l,Vy c:=by
 intro c hc
 have:=(Qau.1 h).2 c hc
 unfold goodC at this;unfold Vy;omega
theorem Qfg {l:List Int} (h:QI l = 0):∀ r ∈ Qv (points l),Qx r:=fun r hr => (Yr.1 h).2 _ (QbB (Qa9 _ r hr)).1
theorem Qep:∀ (l:List Rev),(∀ r ∈ l,Qx r) → ∀ x ∈ halfs l,0 ≤ x ∧ x ≤ 65536
 | [],_,x,hx => by simp [halfs] at hx
 | [a],_,x,hx => by simp [halfs] at hx
 | a :: b :: r,h,x,hx => by
  simp only [halfs,List.mem_cons] at hx
  rcases hx with rfl|hx
  ·have h1:=h a (by simp);have h2:=h b (by simp)
   unfold Qx at h1 h2;unfold VD;omega
  ·exact Qep (b :: r) (fun r hr => h r (List.mem_cons_of_mem _ hr)) x hx
theorem Qg6 {l:List Rev} {e:Int} (he:1 ≤ e ∧ e ≤ 3) {m:Int × Bool} (hm:mOk m) (hs:∀ r ∈ l,Qx r):mOk (VN e m l):=by
 unfold VN
 have hb:=Qep l hs
 generalize halfs l = xs at hb ⊢
 induction xs generalizing m with
 | nil => exact hm
 | cons x xs ih => exact ih (QaE hm (Qb0 he (hb x (by simp)).1 (hb x (by simp)).2).1) fun y hy => hb y (by simp [hy])
theorem QnW {l:List Cyc} {e:Int} (hl:QN l = 0) (he:1 ≤ e ∧ e ≤ 3):mOk (Vc e 1 (0,false) l) :=
 Qab (by omega) he ⟨by decide,by decide⟩ (Qdi hl)
theorem QhY (l:List Cyc) (e:Int):0 ≤ (Q3 l e).1 ∧ (Q3 l e).1 ≤ 1152921504606846976:=by
 unfold Q3
 split
 ·rename_i h;exact QfB (QnW (Q4 h).1 (Vb.1 (Q4 h).2))
 ·simp
theorem Qg2 {l:List Cyc} {e:Int} (h:(Q3 l e).2 = 0 ∨ (Q3 l e).2 = 4):1 ≤ e ∧ e ≤ 3:=by
 have hc:=Qe3 l
 have hr:=JA e 1 3
 have:rng e 1 3 = 0:=by
  by_cases h0:rng e 1 3 = 0
  ·exact h0
  ·exfalso
   unfold Q3 at h
   rw [if_neg (by simp only [fst0];split <;> simp_all)] at h
   simp only [fst0] at h
   split at h
   ·omega
   ·omega
 exact Vb.1 this
noncomputable def eqvRes (l:List Cyc) (e number:Int):Int × Int :=
 if ¬ (Q3 l e).2 = 0 ∧ ¬ (Q3 l e).2 = 4 then (0,(Q3 l e).2)
 else if fst0 [rng number 1 999999999,(Q3 l e).2] = 0 then (rootOf ((Q3 l e).1 / number) e,0) else (0,fst0 [rng number 1 999999999,(Q3 l e).2])
theorem QkO {l:List Int} {e:Int} (h:QI l = 0) (he:1 ≤ e ∧ e ≤ 3):0 ≤ (twRes l e).1 ∧ (twRes l e).1 ≤ 1152921504606846976:=by
 have hsr:=Qfg h
 exact QfB (Qg6 he (Qab (by omega) he ⟨by decide,by decide⟩ (Jl hsr)) (fun c hc => hsr c (Qao _ c (by simpa using hc))))
def JC (x:Life) (l:List Int):Int × Int :=
 if fst0 [ZR x,QI l] = 0 then
  (if fst0 [(twRes l x.exp).2,if (twRes l x.exp).1 = 0 then 7 else 0] = 0 then (2 * x.cap / (twRes l x.exp).1,0) else (0,fst0 [(twRes l x.exp).2,if (twRes l x.exp).1 = 0 then 7 else 0]))
 else (0,fst0 [ZR x,QI l])
end Go.Nac
namespace Go.Nac
def awL:List Int:=[0,5,5,2,4,-1,3,6]
def awR:List Rev:=[⟨0,0⟩,⟨1,5⟩,⟨3,2⟩,⟨4,4⟩,⟨5,-1⟩,⟨7,6⟩]
def awC:List Cyc:=[⟨3,4,2,4⟩]
def awD:List Rev:=[⟨0,0⟩,⟨1,5⟩,⟨5,-1⟩,⟨7,6⟩]
def awO:List Cyc:=[⟨8,9,0,5⟩,⟨7,13,-1,6⟩]
theorem aw1:Qv (points awL) = awR:=by decide +kernel
theorem aw2:QI awL = 0:=by decide +kernel
theorem aw3:J2 awR = (awC,awD.reverse):=by decide +kernel
theorem aw4:Qh awR = 0:=by decide +kernel
theorem aw5:filt awR 3 = awD:=by decide +kernel
theorem aw6:filt awR 2 = awR:=by decide +kernel
theorem aw7:YB awR 3 = 0:=by decide +kernel
theorem aw8:YB awR 2 = 0:=by decide +kernel
theorem aw9:V2 awD = awO:=by decide +kernel
theorem aw10:Zi awD = 0:=by decide +kernel
theorem aw11:Z0 awR 3 = (3,0):=by decide +kernel
theorem aw12:grRes awR = (7,0):=by decide +kernel
theorem aw13:Q3 awC 2 = (4,0):=by decide +kernel
theorem aw14:JF awD 2 = (110,0):=by decide +kernel
theorem aw15:YY awL 2 = (118,0):=by decide +kernel
theorem aw16:JC ⟨40,1⟩ awL = (3,0):=by decide +kernel
theorem aw17:eqvRes awC 2 1 = (2,0):=by
 unfold eqvRes
 rw [aw13]
 simp only []
 rw [Yn (r:=2) (by unfold VX;decide)]
 decide
theorem aw18:eqvRes awC 2 2 = (1,0):=by
 unfold eqvRes
 rw [aw13]
 simp only []
 rw [Yn (r:=1) (by unfold VX;decide)]
 decide
end Go.Nac
namespace Go.Nac
theorem QhO {d:List Rev} {a p:Rev} {k:Nat} (hk:k < d.length):keepT (d ++ [a] ++ [p]) k = keepT (d ++ [a]) k:=by
 have e1:∀ j,j ≤ d.length → (d ++ [a] ++ [p])[j]? = (d ++ [a])[j]?:=fun j hj => List.getElem?_append_left (by simp;omega)
 have e2:decide (k + 1 = (d ++ [a] ++ [p]).length) = decide (k + 1 = (d ++ [a]).length):=by
  rw [decide_eq_false (by simp;omega),decide_eq_false (by simp;omega)]
 unfold keepT
 rw [e1 _ (by omega),e1 _ (by omega),e1 _ (by omega),e2]
theorem Qee {d:List Rev} {a p:Rev}:∀ {k:Nat},k ≤ d.length → outT (d ++ [a] ++ [p]) k = outT (d ++ [a]) k
 | 0,_ => rfl
 | k + 1,hk => by
  simp only [outT]
  rw [Qee (by omega),QhO (by omega),List.getElem?_append_left (by simp;omega)]
theorem QcO (d:List Rev) (a:Rev):outT (d ++ [a]) (d ++ [a]).length = outT (d ++ [a]) d.length ++ [a]:=by
 rw [List.length_append,List.length_singleton]
 simp only [outT]
 congr 1
 have:keepT (d ++ [a]) d.length = true:=by unfold keepT;simp
 rw [if_pos this];simp
theorem Qgw (d:List Rev) (a p:Rev):outT (d ++ [a] ++ [p]) (d ++ [a] ++ [p]).length = outT (d ++ [a]) d.length ++ (if keepT (d ++ [a] ++ [p]) d.length = true then [a] else []) ++ [p]:=by
 rw [QcO,show (d ++ [a]).length = d.length + 1 by simp]
 simp only [outT]
 rw [Qee (Nat.le_refl _)]
 congr 1
 congr 1
 congr 1
 rw [List.append_assoc,List.getElem?_append_right (Nat.le_refl _)];simp
def InvT (d o:List Rev):Prop:=∃ d1 o1 a,d = d1 ++ [a] ∧ o = o1 ++ [a] ∧ o1 = outT (d1 ++ [a]) d1.length ∧
 ((d1 = [] ∧ o1 = []) ∨ ∃ d2 z o2 b,d1 = d2 ++ [z] ∧ o1 = o2 ++ [b] ∧ z.ld ≠ a.ld ∧ (b.ld < a.ld ↔ z.ld < a.ld) ∧ (a.ld < b.ld ↔ a.ld < z.ld))
theorem Qci (a b c:Int):trn a b c = true ↔ (a < b ∧ c < b) ∨ (b < a ∧ b < c):=by unfold trn;simp
theorem InvT.step {d o:List Rev} (h:InvT d o) (p:Rev):InvT (YM d p) (Qz o p):=by
 obtain ⟨d1,o1,a,rfl,rfl,ho,hc⟩:=h
 by_cases hp:p.ld = a.ld
 ·have e1:YM (d1 ++ [a]) p = d1 ++ [a]:=by simp [YM,hp]
  have e2:Qz (o1 ++ [a]) p = o1 ++ [a]:=by simp [Qz,hp]
  rw [e1,e2]
  exact ⟨d1,o1,a,rfl,rfl,ho,hc⟩
 ·have hp':¬ a.ld = p.ld:=fun h => hp h.symm
  have e1:YM (d1 ++ [a]) p = d1 ++ [a] ++ [p]:=by simp [YM,hp]
  rw [e1]
  rcases hc with ⟨rfl,rfl⟩|⟨d2,z,o2,b,rfl,rfl,hz,h1,h2⟩
  ·have e2:Qz ([] ++ [a]) p = [] ++ [a] ++ [p]:=by simp [Qz,hp']
   rw [e2]
   refine ⟨[] ++ [a],[] ++ [a],p,rfl,rfl,?_,.inr ⟨[],a,[],a,rfl,rfl,hp',Iff.rfl,Iff.rfl⟩⟩
   simp [outT,keepT]
  ·have hk:keepT (d2 ++ [z] ++ [a] ++ [p]) (d2 ++ [z]).length = trn z.ld a.ld p.ld:=by
    unfold keepT
    have g1:(d2 ++ [z] ++ [a] ++ [p])[(d2 ++ [z]).length - 1]? = some z:=by simp
    have g2:(d2 ++ [z] ++ [a] ++ [p])[(d2 ++ [z]).length]? = some a:=by simp
    have g3:(d2 ++ [z] ++ [a] ++ [p])[(d2 ++ [z]).length + 1]? = some p:=by rw [List.getElem?_append_right (by simp)];simp
    rw [g1,g2,g3];simp
   have ht:trn b.ld a.ld p.ld = trn z.ld a.ld p.ld:=by
    rw [Bool.eq_iff_iff,Qci,Qci,h1,h2]
   have e2:Qz (o2 ++ [b] ++ [a]) p = if trn z.ld a.ld p.ld = true then o2 ++ [b] ++ [a] ++ [p] else o2 ++ [b] ++ [p]:=by
    simp [Qz,hp',ht]
   have e3:outT (d2 ++ [z] ++ [a] ++ [p]) (d2 ++ [z] ++ [a]).length = o2 ++ [b] ++ (if keepT (d2 ++ [z] ++ [a] ++ [p]) (d2 ++ [z]).length = true then [a] else []):=by
    have:=Qgw (d2 ++ [z]) a p
    rw [QcO] at this
    rw [← ho] at this
    exact List.append_cancel_right this
   rw [hk] at e3
   rw [e2]
   by_cases hT:trn z.ld a.ld p.ld = true
   ·rw [if_pos hT] at e3 ⊢
    exact ⟨d2 ++ [z] ++ [a],o2 ++ [b] ++ [a],p,rfl,rfl,e3.symm,.inr ⟨d2 ++ [z],a,o2 ++ [b],a,rfl,rfl,hp',Iff.rfl,Iff.rfl⟩⟩
   ·rw [if_neg hT] at e3 ⊢
    rw [List.append_nil] at e3
    refine ⟨d2 ++ [z] ++ [a],o2 ++ [b],p,rfl,rfl,e3.symm,.inr ⟨d2 ++ [z],a,o2,b,rfl,rfl,hp',?_,?_⟩⟩ <;> rw [Qci] at hT <;> omega
end Go.Nac
namespace Go.Nac
def sumI:List Int → Int
 | [] => 0
 | x :: r => x + sumI r
def sat (x:Int):Int:=if 1152921504606846976 < x then 1152921504606846977 else x
def chkM (x:Int):Int × Int:=if 1152921504606846976 < x then (0,4) else (x,0)
def MRel (m:Int × Bool) (t:Int):Prop:=(m.2 = true ∧ 1152921504606846976 < t) ∨ (m.2 = false ∧ m.1 = t ∧ t ≤ 1152921504606846976)
theorem MRel.add {m:Int × Bool} {t x:Int} (h:MRel m t) (hx:0 ≤ x):MRel (madd m x) (t + x):=by
 unfold madd
 rcases h with ⟨h1,h2⟩|⟨h1,h2,h3⟩
 ·rw [if_pos (.inl h1)];exact .inl ⟨rfl,by omega⟩
 ·by_cases hf:1152921504606846976 - m.1 < x
  ·rw [if_pos (.inr hf)];exact .inl ⟨rfl,by omega⟩
  ·rw [if_neg (by simp [h1,hf])];exact .inr ⟨rfl,by simp only [];omega,by omega⟩
theorem MRel.res {m:Int × Bool} {t:Int} (h:MRel m t):mres m = chkM t:=by
 unfold mres chkM
 rcases h with ⟨h1,h2⟩|⟨h1,h2,h3⟩
 ·rw [if_pos h1,if_pos h2]
 ·rw [if_neg (by simp [h1]),if_neg (by omega),h2]
theorem MRel.zero:MRel (0,false) 0:=.inr ⟨rfl,rfl,by decide⟩
def powC (e:Int) (l:List Cyc):List Int:=l.map fun c => powW (c.hi - c.lo) e.toNat
def powH (e:Int) (l:List Rev):List Int:=(halfs l).map fun x => powW x e.toNat
def sumC (e:Int) (l:List Cyc):Int:=sumI (powC e l)
def sumH (e:Int) (l:List Rev):Int:=sumI (powH e l)
def sumT (l:List Int) (e:Int):Int:=2 * sumC e (Qt (Qv (points l))).1 + sumH e (Qt (Qv (points l))).2.reverse
end Go.Nac
namespace Go.Nac
def wq (n q:Int):Nat → Int
 | 0 => q
 | k + 1 => wq n q k / n
end Go.Nac
namespace Go.Nac
theorem Yf {l:List Rev} (h:Qh l = 0):∀ r ∈ l,Qx r:=fun r hr => (Ve _ _ _ (Vp.1 h).2 r hr).2
end Go.Nac
namespace Go.Nac
end Go.Nac
namespace Go.Nac
def QfI (l:List (List Int)):Int:=if 256 < l.length then 5 else fst0 (l.map QI)
def QpK (s:Int × Int × Bool) (n:Int):Int × Int × Bool:=if s.2.2 = true ∨ s.2.1 < n then (s.1,s.2.1,true) else (s.1 + 1,s.2.1 - n,false)
def bear (left:Int):List Int → Int × Int
 | [] => (0,left)
 | n :: r => if left < n then (0,left) else ((bear (left - n) r).1 + 1,(bear (left - n) r).2)
def twL (x:Life) (l:List (List Int)):List Int:=l.map fun r => (twRes r x.exp).1
def twE (x:Life) (l:List (List Int)):List Int:=l.map fun r => (twRes r x.exp).2
def Qpw (x:Life) (l:List (List Int)):Int × Int × Int :=
 if fst0 [ZR x,QfI l] = 0 then
  (if fst0 (twE x l) = 0 then ((bear (2 * x.cap) (twL x l)).1,(bear (2 * x.cap) (twL x l)).2,0) else (0,0,fst0 (twE x l)))
 else (0,0,fst0 [ZR x,QfI l])
end Go.Nac
namespace Go.Nac
end Go.Nac
namespace Go.Nac
def zig:Bool → List Rev → Prop
 | _,[] => True
 | _,[x] => goodR x
 | s,y :: x :: r => goodR y ∧ x.at_ < y.at_ ∧ (if s = true then x.ld < y.ld else y.ld < x.ld) ∧ zig (!s) (x :: r)
def dirOf (a b:Rev):Bool:=decide (a.ld < b.ld)
end Go.Nac
set_option linter.unusedSimpArgs false
namespace Go.Nac
open Ieee
@[irreducible] def uE:Nat:=1100
def fV (s:Bool) (m:Nat) (l:Int):Int:=signed s m (l + 1100).toNat
abbrev c16:Nat:=4625196817309499392
def fTr (s:Bool) (m:Nat) (p:Int):Int:=signed s (m * 2 ^ p.toNat / 2 ^ (-p).toNat) 0
def Qph (s:Bool) (m:Nat) (p:Int):Bool:=decide (fTr s m p * 2 ^ uE = fV s m p)
def fFl (s:Bool) (m:Nat) (p:Int):Nat:=m * 2 ^ p.toNat / 2 ^ (-p).toNat + (s && m * 2 ^ p.toNat % 2 ^ (-p).toNat != 0).toNat
def smpE (x:Nat):Int :=
 match single.read x with
 | .number s m e => if fV s m (e + 4) < fV true 32768 0 ∨ fV false 32768 0 < fV s m (e + 4) ∨ Qph s m (e + 4) = false then 3 else 0
 | _ => 1
def six (x:Nat):Int :=
 match single.read x with
 | .number s m e => fTr s m (e + 4)
 | _ => 0
def nz (x:Nat):Bool :=
 match single.read x with
 | .number _ m _ => m != 0
 | _ => true
end Go.Nac
set_option linter.unusedSectionVars false
set_option maxRecDepth 10000
namespace Go.Nac
open Ieee
section
variable {s:Bool} {m:Nat} {p:Int} (h1:m < 2 ^ 53) (h2:-1074 ≤ p) (h3:p ≤ 966)
include h1 h2 h3
end
section
variable {s:Bool} {m:Nat} {p:Int} (h1:m < 2 ^ 53) (h2:-1070 ≤ p) (h3:p ≤ 966)
include h1 h2 h3
end
end Go.Nac
namespace Go.Nac
structure Spn where
 fr:Int
 to_:Int
 deriving DecidableEq
def Qpr (x:Spn):PV:=.agg [.I x.fr,.I x.to_]
abbrev encF (b:Nat):PV:=.s (.float .f32 b)
structure Ser where
 name:ByteArray
 start:Int
 samples:List Nat
 gaps:List Spn
def QpC (x:Ser):PV:=.agg [.s (.string x.name),.I x.start,.fs (x.samples.map encF),.fs (x.gaps.map Qpr)]
def QnI (c:Nat):Bool:=decide (97 ≤ c ∧ c ≤ 122) || decide (65 ≤ c ∧ c ≤ 90)
def chOk (i c:Nat):Bool:=QnI c || (decide (i ≠ 0) && (decide (c = 95) || decide (48 ≤ c ∧ c ≤ 57)))
def chAt (s:ByteArray) (i:Nat):Nat:=(s[i]?.getD 0).toNat
def Qbl (s:ByteArray):Bool:=decide (s.size ≠ 0) && decide (s.size ≤ 24) && (List.range s.size).all fun i => chOk i (chAt s i)
def Qog (s:Spn):Int:=if s.fr < 0 ∨ s.to_ ≤ s.fr ∨ 40000 < s.to_ then 14 else 0
def Qd2 (last:Int):List Spn → Int
 | [] => 0
 | s :: r => if Qog s = 0 then (if s.fr ≤ last then 11 else Qd2 s.to_ r) else 14
def Zr (l:List Spn):Int:=if 1024 < l.length then 5 else Qd2 (-1) l
def QpM (l:List Spn) (k:Nat):Int:=if k = 0 then -1 else match l[k - 1]? with|some s => s.to_|none => -1
def gapAt (g:List Spn) (i:Int):Bool:=g.any fun s => decide (s.fr ≤ i ∧ i < s.to_)
def Qid (l:List Nat) (g:List Spn):Int:=if (List.range l.length).any (fun i => nz (l.getD i 0) && gapAt g i) then 17 else 0
def Qfw (l:List Nat) (g:List Spn):Int:=match g.getLast? with|some z => if (l.length:Int) < z.to_ then 14 else 0|none => 0
def QpL (s:Ser):Int :=
 if Qbl s.name = false then 8 else if ¬ rng s.start 0 999999999 = 0 then 3 else if 40000 < s.samples.length then 5 else
 if ¬ fst0 (s.samples.map smpE) = 0 then fst0 (s.samples.map smpE) else if ¬ Zr s.gaps = 0 then Zr s.gaps else
 if ¬ Qfw s.samples s.gaps = 0 then 14 else Qid s.samples s.gaps
def QpE (l:List Nat) (g:List Spn) (k:Nat):List Int:=((l.take k).zipIdx.filter fun p => !gapAt g p.2).map fun p => six p.1
theorem Qa6 {l:List Int} (h:fst0 l = 0):∀ x ∈ l,x = 0:=by
 induction l with
 | nil => intro x hx;cases hx
 | cons a l ih =>
  simp only [fst0] at h
  split at h
  ·rename_i ha
   intro x hx
   rcases List.mem_cons.1 hx with rfl|hx
   ·exact ha
   ·exact ih h x hx
  ·rename_i ha;exact absurd h ha
end Go.Nac
namespace Go.Nac
theorem QgO {s:ByteArray} {k:Nat} {u:UInt8} (h:s[k]? = some u):idxsV (.s (.string s)) (some k) = some (.s (.int .u8 u.toNat)):=by
 show (s[k]?).map _ = _
 rw [h];rfl
theorem QS {F:Prog} {X:XRel} {f:FuncId} {args:List PV} {r:PV} {M M':List Blk} (h:X f args M r M'):ACall F X (.fn f) args M r M':=fun C hC => hC.2.2.1 f args M r M' h
section
variable {C:CallR} {K:(List Blk) → List PV → Prop} {M:List Blk} {t:List PV} {d:Option Nat} {os:List COper}
end
end Go.Nac
namespace Go.Nac
def Qpx (n:Nat) (g:List Spn) (k:Nat):List PV:=(List.range n).map fun (i:Nat) => PV.B (gapAt (g.take k) (i:Int))
def QpH (n:Nat) (g:List Spn) (k:Nat) (x:Spn) (j:Nat):List PV:=(List.range n).map fun (i:Nat) => PV.B (gapAt (g.take k) (i:Int) || decide (x.fr ≤ (i:Int) ∧ (i:Int) < (j:Int)))
def Qpy (l:List Nat) (g:List Spn) (k:Nat):Prop:=∀ (i x:Nat),i < k → l[i]? = some x → (nz x && gapAt g i) = false
def serA (s:Ser):Int:=fst0 [if Qbl s.name = false then 8 else 0,rng s.start 0 999999999,if 40000 < s.samples.length then 5 else 0]
def serB (s:Ser):Int :=
 if ¬ fst0 (s.samples.map smpE) = 0 then fst0 (s.samples.map smpE) else if ¬ Zr s.gaps = 0 then Zr s.gaps else
 if ¬ Qfw s.samples s.gaps = 0 then 14 else Qid s.samples s.gaps
end Go.Nac
