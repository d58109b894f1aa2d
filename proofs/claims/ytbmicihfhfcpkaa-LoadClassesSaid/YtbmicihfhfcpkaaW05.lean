/- What the checks are worth. -/
import Derived.Test.YtbmicihfhfcpkaaW04
import GoSem.Core.Float
set_option linter.unusedVariables false
namespace Go.Nac
theorem YY (l:List Int):fst0 l = 0 ↔ ∀ x ∈ l,x = 0:=by
 induction l with
 | nil => simp [fst0]
 | cons x l ih =>
  simp only [fst0,List.mem_cons,forall_eq_or_imp]
  split
  ·rename_i h;simp [h,ih]
  ·rename_i h;simp [h]
theorem Q8 {n a b:Int}:rng n a b = 0 ↔ a ≤ n ∧ n ≤ b:=by unfold rng;split <;> omega
def goodC (c:Cyc):Prop:=(0 ≤ c.from_ ∧ c.from_ ≤ 39999) ∧ (0 ≤ c.to_ ∧ c.to_ ≤ 39999) ∧ (-32768 ≤ c.lo ∧ c.lo ≤ 32768) ∧ (-32768 ≤ c.hi ∧ c.hi ≤ 32768) ∧ c.from_ < c.to_ ∧ c.lo < c.hi
theorem QgX {c:Cyc}:errC c = 0 ↔ goodC c:=by
 unfold errC goodC
 rw [YY]
 simp only [List.mem_cons,List.not_mem_nil,or_false,forall_eq_or_imp,forall_eq,Q8,ordC,Bool.or_eq_true,decide_eq_true_eq]
 constructor
 ·rintro ⟨h1,h2,h3,h4,h5⟩
  refine ⟨h1,h2,h3,h4,?_⟩
  split at h5 <;> omega
 ·rintro ⟨h1,h2,h3,h4,h5,h6⟩
  refine ⟨h1,h2,h3,h4,?_⟩
  rw [if_neg (by omega)]
theorem Z1 {l:List Cyc}:Qv l = 0 ↔ l.length ≤ 40000 ∧ ∀ c ∈ l,goodC c:=by
 unfold Qv
 split
 ·constructor
  ·intro h;cases h
  ·intro h;omega
 ·rw [YY]
  simp only [List.mem_map,forall_exists_index,and_imp,forall_apply_eq_imp_iff₂,QgX]
  constructor
  ·intro h;exact ⟨by omega,h⟩
  ·intro h;exact h.2
def goodR (r:Rev):Prop:=(0 ≤ r.at_ ∧ r.at_ ≤ 39999) ∧ (-32768 ≤ r.ld ∧ r.ld ≤ 32768)
def nextR (pp p:Option Rev) (r:Rev):Prop:=(∀ q,p = some q → q.at_ < r.at_ ∧ r.ld ≠ q.ld ∧ ∀ z,pp = some z → trn z.ld q.ld r.ld = true)
theorem QbG {pp p:Option Rev} {r:Rev}:errAt pp p r = 0 ↔ goodR r ∧ nextR pp p r:=by
 unfold errAt goodR nextR
 rw [YY]
 simp only [List.mem_cons,List.not_mem_nil,or_false,forall_eq_or_imp,forall_eq,Q8]
 have e1:(if ordB p r = true then (11:Int) else 0) = 0 ↔ ∀ q,p = some q → q.at_ < r.at_:=by
  cases p with
  | none => simp [ordB]
  | some q => simp [ordB]
 have e2:(if shpB pp p r = true then (2:Int) else 0) = 0 ↔ ∀ q,p = some q → r.ld ≠ q.ld ∧ ∀ z,pp = some z → trn z.ld q.ld r.ld = true:=by
  cases p with
  | none => simp [shpB]
  | some q =>
   cases pp with
   | none => simp [shpB]
   | some z => simp [shpB]
 rw [e1,e2]
 constructor
 ·rintro ⟨h1,h2,h3,h4⟩
  exact ⟨⟨h1,h2⟩,fun q hq => ⟨h3 q hq,h4 q hq⟩⟩
 ·rintro ⟨⟨h1,h2⟩,h3⟩
  exact ⟨h1,h2,fun q hq => (h3 q hq).1,fun q hq => (h3 q hq).2⟩
def Zl (pp p:Option Rev):List Rev → Prop
 | [] => True
 | r :: rs => goodR r ∧ nextR pp p r ∧ Zl p (some r) rs
theorem QaL:∀ (l:List Rev) (pp p:Option Rev),Vg pp p l = 0 ↔ Zl pp p l
 | [],pp,p => by simp [Vg,Zl]
 | r :: rs,pp,p => by
  simp only [Vg,Zl]
  by_cases h:errAt pp p r = 0
  ·rw [if_pos h,QaL rs]
   have:=QbG.1 h
   exact ⟨fun k => ⟨this.1,this.2,k⟩,fun k => k.2.2⟩
  ·rw [if_neg h]
   exact ⟨fun k => absurd k h,fun k => absurd (QbG.2 ⟨k.1,k.2.1⟩) h⟩
theorem VA {l:List Rev}:Qt l = 0 ↔ l.length ≤ 40000 ∧ Zl none none l:=by
 unfold Qt
 split
 ·constructor
  ·intro h;cases h
  ·intro h;omega
 ·rw [QaL]
  exact ⟨fun h => ⟨by omega,h⟩,fun h => h.2⟩
theorem Vm:∀ (l:List Rev) (pp p:Option Rev),Zl pp p l → ∀ r ∈ l,goodR r
 | [],_,_,_,r,hr => by cases hr
 | x :: xs,pp,p,h,r,hr => by
  rcases List.mem_cons.1 hr with rfl|hr
  ·exact h.1
  ·exact Vm xs _ _ h.2.2 r hr
theorem Qe3 {l:List Int}:(l.filter Yc).length = 0 ↔ ∀ x ∈ l,-32768 ≤ x ∧ x ≤ 32768:=by
 rw [List.length_eq_zero_iff,List.filter_eq_nil_iff]
 constructor
 ·intro h x hx
  have:=h x hx
  simp only [Yc,decide_eq_true_eq,Classical.not_not] at this
  exact Q8.1 this
 ·intro h x hx
  simp only [Yc,decide_eq_true_eq,Classical.not_not]
  exact Q8.2 (h x hx)
theorem Yx {l:List Int}:QZ l = 0 ↔ l.length ≤ 40000 ∧ ∀ x ∈ l,-32768 ≤ x ∧ x ≤ 32768:=by
 unfold QZ
 split
 ·constructor
  ·intro h;cases h
  ·intro h;omega
 ·rw [← Qe3]
  split
  ·rename_i h;simp [h];omega
  ·rename_i h;simp [h]
end Go.Nac
namespace Go.Nac
def Vc (l:List Cyc) (e:Int):Int × Int:=if fst0 [Qv l,rng e 1 3] = 0 then mres (Vl e 1 (0,false) l) else (0,fst0 [Qv l,rng e 1 3])
def Jn (l:List Rev) (e:Int):Int × Int:=if fst0 [Qt l,rng e 1 3] = 0 then mres (V5 e (0,false) l) else (0,fst0 [Qt l,rng e 1 3])
theorem QY {a b:Int} (h:fst0 [a,b] = 0):a = 0 ∧ b = 0:=by
 have:=(YY _).1 h
 exact ⟨this a (by simp),this b (by simp)⟩
end Go.Nac
namespace Go.Nac
def V2 (a b c d:Rev):Bool:=decide (VN b c ≤ VN a b) && decide (VN b c ≤ VN c d)
def mkCyc (b c:Rev):Cyc:=⟨b.at_,c.at_,min b.ld c.ld,max b.ld c.ld⟩
def drain:List Rev → List Cyc × List Rev
 | d :: c :: b :: a :: r => if V2 a b c d = true then (mkCyc b c :: (drain (d :: a :: r)).1,(drain (d :: a :: r)).2) else ([],d :: c :: b :: a :: r)
 | st => ([],st)
termination_by st => st.length
def Vt (s:List Cyc × List Rev) (r:Rev):List Cyc × List Rev:=(s.1 ++ (drain (r :: s.2)).1,(drain (r :: s.2)).2)
def QD (l:List Rev):List Cyc × List Rev:=l.foldl Vt ([],[])
theorem Qgj {l:List Rev} {k:Nat} {x:Rev} (h:l[k]? = some x):QD (l.take (k + 1)) = Vt (QD (l.take k)) x:=by
 obtain ⟨h1,h2⟩:=List.getElem?_eq_some_iff.1 h
 unfold QD
 rw [List.take_succ_eq_append_getElem h1,h2,List.foldl_append];rfl
theorem Y2 {a b c d:Rev} {r:List Rev} (h:V2 a b c d = true):drain (d :: c :: b :: a :: r) = (mkCyc b c :: (drain (d :: a :: r)).1,(drain (d :: a :: r)).2):=by
 rw [drain];rw [if_pos h]
theorem JM {a b c d:Rev} {r:List Rev} (h:V2 a b c d = false):drain (d :: c :: b :: a :: r) = ([],d :: c :: b :: a :: r):=by
 rw [drain];rw [if_neg (by simp [h])]
theorem QeJ {st:List Rev} (h:st.length < 4):drain st = ([],st):=by
 rcases st with _|⟨a,_|⟨b,_|⟨c,_|⟨d,r⟩⟩⟩⟩
 ·rw [drain];simp
 ·rw [drain];simp
 ·rw [drain];simp
 ·rw [drain];simp
 ·simp at h;omega
theorem Qh0 (st:List Rev):2 * (drain st).1.length + (drain st).2.length = st.length:=by
 induction st using drain.induct with
 | case1 d c b a r h ih => rw [Y2 h];simp at ih ⊢;omega
 | case2 d c b a r h => rw [JM (by simpa using h)];simp
 | case3 st h => rw [drain];simp;exact h
theorem Qcw (st:List Rev):∀ x ∈ (drain st).2,x ∈ st:=by
 induction st using drain.induct with
 | case1 d c b a r h ih =>
  rw [Y2 h];intro x hx
  have:=ih x hx
  simp only [List.mem_cons] at this ⊢
  rcases this with h|h|h <;> simp [h]
 | case2 d c b a r h => rw [JM (by simpa using h)];exact fun x hx => hx
 | case3 st h =>
  rw [drain]
  ·exact fun x hx => hx
  ·exact h
theorem Qaa (l:List Rev):2 * (QD l).1.length + (QD l).2.length = l.length:=by
 unfold QD
 have:∀ (l:List Rev) (s:List Cyc × List Rev),2 * (l.foldl Vt s).1.length + (l.foldl Vt s).2.length = 2 * s.1.length + s.2.length + l.length:=by
  intro l
  induction l with
  | nil => intro s;simp
  | cons x l ih =>
   intro s
   have:=Qh0 (x :: s.2)
   rw [List.foldl_cons,ih]
   simp [Vt] at this ⊢;omega
 simpa using this l ([],[])
def QoC (l:List Rev):Bool :=
 match l.reverse with
 | d :: c :: b :: a :: _ => V2 a b c d
 | _ => false
theorem last4 {l:List Rev} (h:4 ≤ l.length):∃ p a b c d,l = p ++ [a,b,c,d]:=by
 rcases List.eq_nil_or_concat l with rfl|⟨l1,d,rfl⟩
 ·simp at h
 rcases List.eq_nil_or_concat l1 with rfl|⟨l2,c,rfl⟩
 ·simp at h
 rcases List.eq_nil_or_concat l2 with rfl|⟨l3,b,rfl⟩
 ·simp at h
 rcases List.eq_nil_or_concat l3 with rfl|⟨l4,a,rfl⟩
 ·simp at h
 exact ⟨l4,a,b,c,d,by simp⟩
theorem get4 (p:List Rev) (a b c d:Rev):(p ++ [a,b,c,d])[p.length]? = some a ∧ (p ++ [a,b,c,d])[p.length + 1]? = some b ∧ (p ++ [a,b,c,d])[p.length + 2]? = some c ∧ (p ++ [a,b,c,d])[p.length + 3]? = some d:=by
 refine ⟨?_,?_,?_,?_⟩
 ·rw [List.getElem?_append_right (Nat.le_refl _)];simp
 all_goals rw [List.getElem?_append_right (Nat.le_add_right _ _)];simp
theorem Qaj (l:List Rev):∀ x ∈ (QD l).2,x ∈ l:=by
 unfold QD
 have:∀ (l:List Rev) (s:List Cyc × List Rev),∀ x ∈ (l.foldl Vt s).2,x ∈ s.2 ∨ x ∈ l:=by
  intro l
  induction l with
  | nil => intro s x hx;exact .inl hx
  | cons y l ih =>
   intro s x hx
   rw [List.foldl_cons] at hx
   rcases ih _ x hx with h|h
   ·have:=Qcw _ x h
    rcases List.mem_cons.1 this with rfl|h
    ·exact .inr (by simp)
    ·exact .inl h
   ·exact .inr (List.mem_cons_of_mem _ h)
 intro x hx
 rcases this l ([],[]) x hx with h|h
 ·cases h
 ·exact h
end Go.Nac
namespace Go.Nac
def QG (a:Rev):Prop:=-32768 ≤ a.ld ∧ a.ld ≤ 32768
def VG (c:Cyc):Prop:=0 ≤ c.hi - c.lo ∧ c.hi - c.lo ≤ 65536 ∧ -1048576 ≤ c.hi ∧ c.hi ≤ 1048576
theorem QeN {b c:Rev} (hb:QG b) (hc:QG c):VG (mkCyc b c):=by unfold QG at hb hc;unfold VG mkCyc;simp only [];omega
theorem QeP (st:List Rev):(∀ r ∈ st,QG r) → ∀ c ∈ (drain st).1,VG c:=by
 induction st using drain.induct with
 | case1 d c b a r h ih =>
  intro hs x hx
  rw [Y2 h] at hx
  rcases List.mem_cons.1 hx with rfl|hx
  ·exact QeN (hs b (by simp)) (hs c (by simp))
  ·exact ih (fun y hy => hs y (by simp only [List.mem_cons] at hy ⊢;rcases hy with h|h|h <;> simp [h])) x hx
 | case2 d c b a r h => intro _ x hx;rw [JM (by simpa using h)] at hx;cases hx
 | case3 st h =>
  intro _ x hx
  rw [drain] at hx
  ·cases hx
  ·exact h
theorem Jf {l:List Rev} (hl:∀ r ∈ l,QG r):∀ c ∈ (QD l).1,VG c:=by
 unfold QD
 have:∀ (l:List Rev) (s:List Cyc × List Rev),(∀ r ∈ l,QG r) → (∀ r ∈ s.2,QG r) → (∀ c ∈ s.1,VG c) → ∀ c ∈ (l.foldl Vt s).1,VG c:=by
  intro l
  induction l with
  | nil => intro s _ _ h;exact h
  | cons y l ih =>
   intro s h1 h2 h3
   rw [List.foldl_cons]
   have hst:∀ r ∈ y :: s.2,QG r:=fun r hr => by
    rcases List.mem_cons.1 hr with rfl|hr
    ·exact h1 _ (by simp)
    ·exact h2 r hr
   refine ih _ (fun r hr => h1 r (by simp [hr])) (fun r hr => hst r (Qcw _ r hr)) (fun c hc => ?_)
   rcases List.mem_append.1 hc with hc|hc
   ·exact h3 c hc
   ·exact QeP _ hst c hc
 exact this l ([],[]) hl (by simp) (by simp)
theorem Qe5 (o:List Rev) (p:Rev):∀ x ∈ QN o p,x ∈ o ∨ x = p:=by
 intro x hx
 unfold QN at hx
 split at hx
 ·simp at hx;exact .inr hx
 ·split at hx
  ·exact .inl hx
  ·split at hx
   ·simp at hx;exact hx
   ·split at hx
    ·simp at hx;exact hx
    ·rcases List.mem_append.1 hx with h|h
     ·exact .inl (List.dropLast_subset _ h)
     ·simp at h;exact .inr h
theorem Qa1 (l:List Rev):∀ x ∈ QJ l,x ∈ l:=by
 unfold QJ
 have:∀ (l o:List Rev),∀ x ∈ l.foldl QN o,x ∈ o ∨ x ∈ l:=by
  intro l
  induction l with
  | nil => intro o x hx;exact .inl hx
  | cons y l ih =>
   intro o x hx
   rw [List.foldl_cons] at hx
   rcases ih _ x hx with h|h
   ·rcases Qe5 _ _ x h with h|rfl
    ·exact .inl h
    ·exact .inr (by simp)
   ·exact .inr (List.mem_cons_of_mem _ h)
 intro x hx
 rcases this l [] x hx with h|h
 ·cases h
 ·exact h
theorem Qbv {l:List Int} {r:Rev} (h:r ∈ points l):r.ld ∈ l ∧ 0 ≤ r.at_ ∧ r.at_ < l.length:=by
 unfold points at h
 obtain ⟨p,hp,rfl⟩:=List.mem_map.1 h
 obtain ⟨x,i⟩:=p
 have:=List.mem_zipIdx hp
 simp only [Nat.zero_add,Nat.zero_le,true_and,Nat.sub_zero] at this
 obtain ⟨h1,h2⟩:=this
 refine ⟨?_,by simp,by simp;omega⟩
 simp only [h2]
 exact List.getElem_mem _
theorem J9 {l:List Cyc} {e times:Int} (ht:0 ≤ times) (he:1 ≤ e ∧ e ≤ 3):∀ {m:Int × Bool},mOk m → (∀ c ∈ l,VG c) → mOk (Vl e times m l):=by
 unfold Vl
 induction l with
 | nil => intro m h _;exact h
 | cons c l ih =>
  intro m h hs
  rw [List.foldl_cons]
  have hc:=hs c (by simp)
  have:=Qbn he hc.1 hc.2.1
  exact ih (Qas h (Int.mul_nonneg ht this.1)) fun c hc => hs c (by simp [hc])
def Qam (l:List Rev):List Cyc × List Rev:=if Qt l = 0 then QD l else ([],[])
def twRes (l:List Int) (e:Int):Int × Int:=mres (V5 e (Vl e 2 (0,false) (QD (QJ (points l))).1) (QD (QJ (points l))).2.reverse)
def YO (l:List Int) (e:Int):Int × Int:=if fst0 [QZ l,rng e 1 3] = 0 then twRes l e else (0,fst0 [QZ l,rng e 1 3])
theorem Qaf {α:Type} (l:List α) (k:Nat) (p q:α) (h:l[k]? = some p) (h':l[k + 1]? = some q):(l.zip l.tail)[k]? = some (p,q):=by
 rw [List.getElem?_zip_eq_some]
 exact ⟨h,by rw [List.getElem?_tail];exact h'⟩
theorem J0 {α:Type} (l:List α):(l.zip l.tail).length = l.length - 1:=by simp
def crosses (lv:Int) (p:Rev × Rev):Bool:=decide (p.1.ld ≤ lv) && decide (lv < p.2.ld)
def QV (lv:Int) (l:List Rev):Nat:=((l.zip l.tail).filter (crosses lv)).length
def Zj (l:List Rev) (lv:Int):Int × Int:=if fst0 [Qt l,rng lv (-999999999) 999999999] = 0 then (QV lv l,0) else (0,fst0 [Qt l,rng lv (-999999999) 999999999])
def spread (l:List Rev):Int :=
 match l with
 | [] => 0
 | a :: _ => l.foldl (fun m r => max m r.ld) a.ld - l.foldl (fun m r => min m r.ld) a.ld
def grRes (l:List Rev):Int × Int:=if fst0 [Qt l,if l.length < 2 then 7 else 0] = 0 then (spread l,0) else (0,fst0 [Qt l,if l.length < 2 then 7 else 0])
end Go.Nac
namespace Go.Nac
theorem QaH {x y:Int}:Ve (.int .i64 x) (.int .i64 y) = decide (x = y):=by
 simp only [Ve,VK,if_true,Option.getD_some];congr
theorem QeK {x:Int} {v:Value}:Ve (.int .i64 x) v = true ↔ v = .int .i64 x:=by
 cases v <;> first|(simp [Ve,VK];done)|skip
 rename_i k y
 simp only [Ve,VK]
 split
 ·rename_i h;subst h;simp;exact eq_comm
 ·rename_i h;simp;intro e;exact absurd e.symm h
theorem QaX {x y:Int} {v:Value} (es:List (Value × Value)):find (.int .i64 x) (upd (.int .i64 y) v es) = if x = y then some v else find (.int .i64 x) es:=by
 induction es with
 | nil => simp only [upd,find,QaH,decide_eq_true_eq]
 | cons e es ih =>
  obtain ⟨a,u⟩:=e
  simp only [upd]
  by_cases h:Ve (.int .i64 y) a = true
  ·rw [if_pos h]
   have:=QeK.1 h
   subst this
   simp only [find,QaH,decide_eq_true_eq]
   by_cases hx:x = y <;> simp [hx]
  ·rw [if_neg h]
   simp only [find,ih]
   by_cases hx:x = y
   ·subst hx;simp [h]
   ·simp [hx]
def Z0 (es:List (Value × Value)):Prop:=∀ e ∈ es,∃ y:Int,e.1 = .int .i64 y
theorem Z0.like {es:List (Value × Value)} (h:Z0 es) (x:Int):Q7 (.int .i64 x) es = true:=by
 unfold Q7
 rw [List.all_eq_true]
 intro e he
 obtain ⟨y,hy⟩:=h e he
 rw [hy];rfl
theorem Z0.upd {es:List (Value × Value)} (h:Z0 es) (x:Int) (v:Value):Z0 (upd (.int .i64 x) v es):=by
 induction es with
 | nil => intro e he;simp [Nac.upd] at he;exact ⟨x,by rw [he]⟩
 | cons a es ih =>
  obtain ⟨k,u⟩:=a
  intro e he
  simp only [Nac.upd] at he
  split at he
  ·rcases List.mem_cons.1 he with rfl|he
   ·exact ⟨x,rfl⟩
   ·exact h e (by simp [he])
  ·rcases List.mem_cons.1 he with rfl|he
   ·exact h _ (by simp)
   ·exact ih (fun e he => h e (by simp [he])) e he
def Ys (least:Int) (es:List (Value × Value)) (c:Cyc):List (Value × Value):=if c.hi - c.lo < least then upd (.int .i64 c.to_) (.bool true) (upd (.int .i64 c.from_) (.bool true) es) else es
def V1 (least:Int) (cs:List Cyc):List (Value × Value):=cs.foldl (Ys least) []
def ZE (least:Int) (cs:List Cyc) (x:Int):Bool:=cs.any fun c => decide (c.hi - c.lo < least) && (decide (c.from_ = x) || decide (c.to_ = x))
theorem QbF (least:Int) (cs:List Cyc):Z0 (V1 least cs):=by
 unfold V1
 have:∀ (cs:List Cyc) (es:List (Value × Value)),Z0 es → Z0 (cs.foldl (Ys least) es):=by
  intro cs
  induction cs with
  | nil => intro es h;exact h
  | cons c cs ih =>
   intro es h
   refine ih _ ?_
   unfold Ys
   split
   ·exact (h.upd _ _).upd _ _
   ·exact h
 exact this cs [] (by intro e he;cases he)
theorem QeC (least:Int) (cs:List Cyc) (x:Int):(find (.int .i64 x) (V1 least cs)).getD (.bool false) = .bool (ZE least cs x):=by
 have key:∀ (cs:List Cyc) (es:List (Value × Value)) (b:Bool),(find (.int .i64 x) es).getD (.bool false) = .bool b → (find (.int .i64 x) (cs.foldl (Ys least) es)).getD (.bool false) = .bool (b || ZE least cs x):=by
  intro cs
  induction cs with
  | nil => intro es b h;simpa [ZE] using h
  | cons c cs ih =>
   intro es b h
   rw [List.foldl_cons,ih _ (b || (decide (c.hi - c.lo < least) && (decide (c.from_ = x) || decide (c.to_ = x))))]
   ·simp [ZE,Bool.or_assoc]
   ·unfold Ys
    split
    ·rename_i hl
     rw [QaX,QaX]
     by_cases h1:x = c.to_
     ·subst h1;simp [hl]
     ·rw [if_neg h1]
      by_cases h2:x = c.from_
      ·subst h2;simp [hl]
      ·rw [if_neg h2,h]
       have h1':¬ c.to_ = x:=fun e => h1 e.symm
       have h2':¬ c.from_ = x:=fun e => h2 e.symm
       simp [h1',h2']
    ·rename_i hl
     rw [h];simp [hl]
 have:=key cs [] false rfl
 simpa [V1] using this
theorem Qew {least:Int} {cs:List Cyc} {k:Nat} {c:Cyc} (h:cs[k]? = some c):V1 least (cs.take (k + 1)) = Ys least (V1 least (cs.take k)) c:=by
 obtain ⟨h1,h2⟩:=List.getElem?_eq_some_iff.1 h
 unfold V1
 rw [List.take_succ_eq_append_getElem h1,h2,List.foldl_append];rfl
def filt (l:List Rev) (least:Int):List Rev:=l.filter fun r => !ZE least (QD l).1 r.at_
def YJ (l:List Rev) (least:Int):Int:=fst0 [Qt l,rng least (-999999999) 999999999]
def shR (s:Int) (r:Rev):Rev:=⟨r.at_ + s,r.ld⟩
def farB (b:List Rev) (s:Int):Bool:=b.any fun r => decide (¬ rng (r.at_ + s) 0 39999 = 0)
def nearB (a b:List Rev) (s:Int):Bool :=
 match a.getLast?,b.head? with
 | some p,some q => decide (q.at_ + s ≤ p.at_)
 | _,_ => false
def Q6 (a b:List Rev) (s:Int):Int:=if farB b s = true then 3 else if nearB a b s = true then 11 else 0
def Vu (a b:List Rev) (s:Int):List Rev:=if Q6 a b s = 0 then QJ (a ++ b.map (shR s)) else []
def shK (b:List Rev) (s:Int) (k:Nat):List Rev:=(b.take k).map (shR s) ++ b.drop k
theorem QkY (b:List Rev) (s:Int) (k:Nat):(shK b s k).length = b.length:=by simp [shK];omega
theorem Qk8 {b:List Rev} {s:Int} {k:Nat} {x:Rev} (h:b[k]? = some x):(shK b s k)[k]? = some x:=by
 have hlt:=(List.getElem?_eq_some_iff.1 h).1
 unfold shK
 rw [List.getElem?_append_right (by simp;omega)]
 simp [show min k b.length = k by omega,h]
theorem Qmc {b:List Rev} {s:Int} {k:Nat} {x:Rev} (h:b[k]? = some x):(shK b s k).set k (shR s x) = shK b s (k + 1):=by
 obtain ⟨h1,h2⟩:=List.getElem?_eq_some_iff.1 h
 unfold shK
 rw [List.set_append_right _ _ (by simp;omega),List.drop_eq_getElem_cons h1,h2]
 simp only [List.length_map,List.length_take,show min k b.length = k by omega,Nat.sub_self,List.set_cons_zero]
 rw [QC h]
 simp
theorem Ql8 (b:List Rev) (s:Int):shK b s b.length = b.map (shR s):=by simp [shK]
def jErr (a b:List Rev) (s:Int):Int:=if fst0 [Qt a,Qt b,rng s 0 40000] = 0 then Q6 a b s else fst0 [Qt a,Qt b,rng s 0 40000]
def jRes (a b:List Rev) (s:Int):List Rev:=if fst0 [Qt a,Qt b,rng s 0 40000] = 0 then Vu a b s else []
def QW (l:List Rev):Int :=
 match l.head?,l.getLast? with
 | some a,some z => z.at_ - a.at_ + 1
 | _,_ => 0
def ZB (l:List Rev):Int:=if Qt l = 0 then (if l = [] then 0 else Q6 l l (QW l)) else Qt l
def Zf (l:List Rev):List Cyc:=if ZB l = 0 then (if l = [] then [] else (QD (Vu l l (QW l))).1) else []
end Go.Nac
namespace Go.Nac
def pwI (x e:Int):Int:=if e = 1 then x else if e = 2 then x * x else x * x * x
theorem pwI_1 (x:Int):pwI x 1 = x:=rfl
theorem pwI_2 (x:Int):pwI x 2 = x * x:=rfl
theorem pwI_3 (x:Int):pwI x 3 = x * x * x:=rfl
theorem Qkg {x y e:Int} (h:0 ≤ x) (hxy:x ≤ y):pwI x e ≤ pwI y e:=by
 unfold pwI
 have h2:x * x ≤ y * y:=Int.mul_le_mul hxy hxy h (by omega)
 have h3:x * x * x ≤ y * y * y:=Int.mul_le_mul h2 hxy h (Int.mul_nonneg (by omega) (by omega))
 split
 ·exact hxy
 ·split
  ·exact h2
  ·exact h3
theorem QdF {x e:Int} (he:1 ≤ e ∧ e ≤ 3) (h0:0 ≤ x) (h:x ≤ 65536 ∨ (e = 2 ∧ x ≤ 2147483648) ∨ (e = 3 ∧ x ≤ 1048576)):powW x e.toNat = pwI x e:=by
 rcases (by omega:e = 1 ∨ e = 2 ∨ e = 3) with rfl|rfl|rfl
 ·rw [show (1:Int).toNat = 1 from rfl,pow1 x (by omega)];rfl
 ·rw [show (2:Int).toNat = 2 from rfl,pow2 x h0 (by omega)];rfl
 ·rw [show (3:Int).toNat = 3 from rfl,pow3 x h0 (by omega)];rfl
def Zh (n e r:Int):Prop:=0 ≤ r ∧ pwI r e ≤ n ∧ n < pwI (r + 1) e
theorem Zh.unique {n e r s:Int} (h:Zh n e r) (k:Zh n e s):r = s:=by
 have key:∀ {r s:Int},Zh n e r → Zh n e s → ¬ r < s:=by
  intro r s h k hlt
  have:=Qkg (e:=e) (by have:=h.1;omega:0 ≤ r + 1) (by omega:r + 1 ≤ s)
  have:=h.2.2;have:=k.2.1
  omega
 have:=key h k;have:=key k h
 omega
open Classical in
noncomputable def rootOf (n e:Int):Int:=if h:∃ r,Zh n e r then Classical.choose h else 0
theorem Yo {n e r:Int} (h:Zh n e r):rootOf n e = r:=by
 unfold rootOf
 rw [dif_pos ⟨r,h⟩]
 exact Zh.unique (Classical.choose_spec (⟨r,h⟩:∃ r,Zh n e r)) h
def Z9 (x:Life):Int:=fst0 [rng x.cap 1 1152921504606846976,rng x.exp 1 3]
theorem Qfp {m:Int × Bool} (h:mOk m):0 ≤ (mres m).1 ∧ (mres m).1 ≤ 1152921504606846976:=by
 unfold mres mOk at *;split
 ·simp
 ·exact h
theorem QdL (l:List Int):fst0 l = 0 ∨ fst0 l ∈ l:=by
 induction l with
 | nil => exact .inl rfl
 | cons x l ih =>
  simp only [fst0]
  split
  ·rcases ih with h|h
   ·exact .inl h
   ·exact .inr (by simp [h])
  ·exact .inr (by simp)
theorem Jm (n a b:Int):rng n a b = 0 ∨ rng n a b = 3:=by unfold rng;split <;> simp
theorem QiL (c:Cyc):errC c = 0 ∨ errC c = 3 ∨ errC c = 11:=by
 unfold errC
 have h1:=Jm c.from_ 0 39999
 have h2:=Jm c.to_ 0 39999
 have h3:=Jm c.lo (-32768) 32768
 have h4:=Jm c.hi (-32768) 32768
 rcases QdL [rng c.from_ 0 39999,rng c.to_ 0 39999,rng c.lo (-32768) 32768,rng c.hi (-32768) 32768,if ordC c = true then 11 else 0] with h|h
 ·exact .inl h
 ·have h5:(if ordC c = true then (11:Int) else 0) = 0 ∨ (if ordC c = true then (11:Int) else 0) = 11:=by split <;> simp
  generalize fst0 [rng c.from_ 0 39999,rng c.to_ 0 39999,rng c.lo (-32768) 32768,rng c.hi (-32768) 32768,if ordC c = true then 11 else 0] = z at h ⊢
  simp only [List.mem_cons,List.not_mem_nil,or_false] at h
  omega
theorem QeS (l:List Cyc):Qv l = 0 ∨ Qv l = 3 ∨ Qv l = 5 ∨ Qv l = 11:=by
 unfold Qv
 split
 ·simp
 ·rcases QdL (l.map errC) with h|h
  ·exact .inl h
  ·obtain ⟨c,_,hc⟩:=List.mem_map.1 h
   have:=QiL c
   omega
theorem QcP {l:List Cyc} (h:Qv l = 0):∀ c ∈ l,VG c:=by
 intro c hc
 have:=(Z1.1 h).2 c hc
 unfold goodC at this;unfold VG;omega
theorem QeW {l:List Int} (h:QZ l = 0):∀ r ∈ QJ (points l),QG r:=fun r hr => (Yx.1 h).2 _ (Qbv (Qa1 _ r hr)).1
theorem QdZ:∀ (l:List Rev),(∀ r ∈ l,QG r) → ∀ x ∈ halfs l,0 ≤ x ∧ x ≤ 65536
 | [],_,x,hx => by simp [halfs] at hx
 | [a],_,x,hx => by simp [halfs] at hx
 | a :: b :: r,h,x,hx => by
  simp only [halfs,List.mem_cons] at hx
  rcases hx with rfl|hx
  ·have h1:=h a (by simp);have h2:=h b (by simp)
   unfold QG at h1 h2;unfold VN;omega
  ·exact QdZ (b :: r) (fun r hr => h r (List.mem_cons_of_mem _ hr)) x hx
theorem QgC {l:List Rev} {e:Int} (he:1 ≤ e ∧ e ≤ 3) {m:Int × Bool} (hm:mOk m) (hs:∀ r ∈ l,QG r):mOk (V5 e m l):=by
 unfold V5
 have hb:=QdZ l hs
 generalize halfs l = xs at hb ⊢
 induction xs generalizing m with
 | nil => exact hm
 | cons x xs ih => exact ih (Qas hm (Qbn he (hb x (by simp)).1 (hb x (by simp)).2).1) fun y hy => hb y (by simp [hy])
theorem Qny {l:List Cyc} {e:Int} (hl:Qv l = 0) (he:1 ≤ e ∧ e ≤ 3):mOk (Vl e 1 (0,false) l) :=
 J9 (by omega) he ⟨by decide,by decide⟩ (QcP hl)
theorem Qip (l:List Cyc) (e:Int):0 ≤ (Vc l e).1 ∧ (Vc l e).1 ≤ 1152921504606846976:=by
 unfold Vc
 split
 ·rename_i h;exact Qfp (Qny (QY h).1 (Q8.1 (QY h).2))
 ·simp
theorem QgD {l:List Cyc} {e:Int} (h:(Vc l e).2 = 0 ∨ (Vc l e).2 = 4):1 ≤ e ∧ e ≤ 3:=by
 have hc:=QeS l
 have hr:=Jm e 1 3
 have:rng e 1 3 = 0:=by
  by_cases h0:rng e 1 3 = 0
  ·exact h0
  ·exfalso
   unfold Vc at h
   rw [if_neg (by simp only [fst0];split <;> simp_all)] at h
   simp only [fst0] at h
   split at h
   ·omega
   ·omega
 exact Q8.1 this
noncomputable def eqvRes (l:List Cyc) (e number:Int):Int × Int :=
 if ¬ (Vc l e).2 = 0 ∧ ¬ (Vc l e).2 = 4 then (0,(Vc l e).2)
 else if fst0 [rng number 1 999999999,(Vc l e).2] = 0 then (rootOf ((Vc l e).1 / number) e,0) else (0,fst0 [rng number 1 999999999,(Vc l e).2])
theorem Qju {l:List Int} {e:Int} (h:QZ l = 0) (he:1 ≤ e ∧ e ≤ 3):0 ≤ (twRes l e).1 ∧ (twRes l e).1 ≤ 1152921504606846976:=by
 have hsr:=QeW h
 exact Qfp (QgC he (J9 (by omega) he ⟨by decide,by decide⟩ (Jf hsr)) (fun c hc => hsr c (Qaj _ c (by simpa using hc))))
def Jo (x:Life) (l:List Int):Int × Int :=
 if fst0 [Z9 x,QZ l] = 0 then
  (if fst0 [(twRes l x.exp).2,if (twRes l x.exp).1 = 0 then 7 else 0] = 0 then (2 * x.cap / (twRes l x.exp).1,0) else (0,fst0 [(twRes l x.exp).2,if (twRes l x.exp).1 = 0 then 7 else 0]))
 else (0,fst0 [Z9 x,QZ l])
end Go.Nac
namespace Go.Nac
def awL:List Int:=[0,5,5,2,4,-1,3,6]
def awR:List Rev:=[⟨0,0⟩,⟨1,5⟩,⟨3,2⟩,⟨4,4⟩,⟨5,-1⟩,⟨7,6⟩]
def awC:List Cyc:=[⟨3,4,2,4⟩]
def awD:List Rev:=[⟨0,0⟩,⟨1,5⟩,⟨5,-1⟩,⟨7,6⟩]
def awO:List Cyc:=[⟨8,9,0,5⟩,⟨7,13,-1,6⟩]
theorem aw1:QJ (points awL) = awR:=by decide +kernel
theorem aw2:QZ awL = 0:=by decide +kernel
theorem aw3:Qam awR = (awC,awD.reverse):=by decide +kernel
theorem aw4:Qt awR = 0:=by decide +kernel
theorem aw5:filt awR 3 = awD:=by decide +kernel
theorem aw6:filt awR 2 = awR:=by decide +kernel
theorem aw7:YJ awR 3 = 0:=by decide +kernel
theorem aw8:YJ awR 2 = 0:=by decide +kernel
theorem aw9:Zf awD = awO:=by decide +kernel
theorem aw10:ZB awD = 0:=by decide +kernel
theorem aw11:Zj awR 3 = (3,0):=by decide +kernel
theorem aw12:grRes awR = (7,0):=by decide +kernel
theorem aw13:Vc awC 2 = (4,0):=by decide +kernel
theorem aw14:Jn awD 2 = (110,0):=by decide +kernel
theorem aw15:YO awL 2 = (118,0):=by decide +kernel
theorem aw16:Jo ⟨40,1⟩ awL = (3,0):=by decide +kernel
theorem aw17:eqvRes awC 2 1 = (2,0):=by
 unfold eqvRes
 rw [aw13]
 simp only []
 rw [Yo (r:=2) (by unfold Zh;decide)]
 decide
theorem aw18:eqvRes awC 2 2 = (1,0):=by
 unfold eqvRes
 rw [aw13]
 simp only []
 rw [Yo (r:=1) (by unfold Zh;decide)]
 decide
end Go.Nac
namespace Go.Nac
theorem Qif {d:List Rev} {a p:Rev} {k:Nat} (hk:k < d.length):keepT (d ++ [a] ++ [p]) k = keepT (d ++ [a]) k:=by
 have e1:∀ j,j ≤ d.length → (d ++ [a] ++ [p])[j]? = (d ++ [a])[j]?:=fun j hj => List.getElem?_append_left (by simp;omega)
 have e2:decide (k + 1 = (d ++ [a] ++ [p]).length) = decide (k + 1 = (d ++ [a]).length):=by
  rw [decide_eq_false (by simp;omega),decide_eq_false (by simp;omega)]
 unfold keepT
 rw [e1 _ (by omega),e1 _ (by omega),e1 _ (by omega),e2]
theorem Qdy {d:List Rev} {a p:Rev}:∀ {k:Nat},k ≤ d.length → outT (d ++ [a] ++ [p]) k = outT (d ++ [a]) k
 | 0,_ => rfl
 | k + 1,hk => by
  simp only [outT]
  rw [Qdy (by omega),Qif (by omega),List.getElem?_append_left (by simp;omega)]
theorem Qcx (d:List Rev) (a:Rev):outT (d ++ [a]) (d ++ [a]).length = outT (d ++ [a]) d.length ++ [a]:=by
 rw [List.length_append,List.length_singleton]
 simp only [outT]
 congr 1
 have:keepT (d ++ [a]) d.length = true:=by unfold keepT;simp
 rw [if_pos this];simp
theorem QfI (d:List Rev) (a p:Rev):outT (d ++ [a] ++ [p]) (d ++ [a] ++ [p]).length = outT (d ++ [a]) d.length ++ (if keepT (d ++ [a] ++ [p]) d.length = true then [a] else []) ++ [p]:=by
 rw [Qcx,show (d ++ [a]).length = d.length + 1 by simp]
 simp only [outT]
 rw [Qdy (Nat.le_refl _)]
 congr 1
 congr 1
 congr 1
 rw [List.append_assoc,List.getElem?_append_right (Nat.le_refl _)];simp
def InvT (d o:List Rev):Prop:=∃ d1 o1 a,d = d1 ++ [a] ∧ o = o1 ++ [a] ∧ o1 = outT (d1 ++ [a]) d1.length ∧
 ((d1 = [] ∧ o1 = []) ∨ ∃ d2 z o2 b,d1 = d2 ++ [z] ∧ o1 = o2 ++ [b] ∧ z.ld ≠ a.ld ∧ (b.ld < a.ld ↔ z.ld < a.ld) ∧ (a.ld < b.ld ↔ a.ld < z.ld))
theorem Qb7 (a b c:Int):trn a b c = true ↔ (a < b ∧ c < b) ∨ (b < a ∧ b < c):=by unfold trn;simp
theorem InvT.step {d o:List Rev} (h:InvT d o) (p:Rev):InvT (YG d p) (QN o p):=by
 obtain ⟨d1,o1,a,rfl,rfl,ho,hc⟩:=h
 by_cases hp:p.ld = a.ld
 ·have e1:YG (d1 ++ [a]) p = d1 ++ [a]:=by simp [YG,hp]
  have e2:QN (o1 ++ [a]) p = o1 ++ [a]:=by simp [QN,hp]
  rw [e1,e2]
  exact ⟨d1,o1,a,rfl,rfl,ho,hc⟩
 ·have hp':¬ a.ld = p.ld:=fun h => hp h.symm
  have e1:YG (d1 ++ [a]) p = d1 ++ [a] ++ [p]:=by simp [YG,hp]
  rw [e1]
  rcases hc with ⟨rfl,rfl⟩|⟨d2,z,o2,b,rfl,rfl,hz,h1,h2⟩
  ·have e2:QN ([] ++ [a]) p = [] ++ [a] ++ [p]:=by simp [QN,hp']
   rw [e2]
   refine ⟨[] ++ [a],[] ++ [a],p,rfl,rfl,?_,.inr ⟨[],a,[],a,rfl,rfl,hp',Iff.rfl,Iff.rfl⟩⟩
   simp [outT,keepT]
  ·have hk:keepT (d2 ++ [z] ++ [a] ++ [p]) (d2 ++ [z]).length = trn z.ld a.ld p.ld:=by
    unfold keepT
    have g1:(d2 ++ [z] ++ [a] ++ [p])[(d2 ++ [z]).length - 1]? = some z:=by simp
    have g2:(d2 ++ [z] ++ [a] ++ [p])[(d2 ++ [z]).length]? = some a:=by simp
    have g3:(d2 ++ [z] ++ [a] ++ [p])[(d2 ++ [z]).length + 1]? = some p:=by rw [List.getElem?_append_right (by simp)];simp
    rw [g1,g2,g3];simp
   have ht:trn b.ld a.ld p.ld = trn z.ld a.ld p.ld:=by
    rw [Bool.eq_iff_iff,Qb7,Qb7,h1,h2]
   have e2:QN (o2 ++ [b] ++ [a]) p = if trn z.ld a.ld p.ld = true then o2 ++ [b] ++ [a] ++ [p] else o2 ++ [b] ++ [p]:=by
    simp [QN,hp',ht]
   have e3:outT (d2 ++ [z] ++ [a] ++ [p]) (d2 ++ [z] ++ [a]).length = o2 ++ [b] ++ (if keepT (d2 ++ [z] ++ [a] ++ [p]) (d2 ++ [z]).length = true then [a] else []):=by
    have:=QfI (d2 ++ [z]) a p
    rw [Qcx] at this
    rw [← ho] at this
    exact List.append_cancel_right this
   rw [hk] at e3
   rw [e2]
   by_cases hT:trn z.ld a.ld p.ld = true
   ·rw [if_pos hT] at e3 ⊢
    exact ⟨d2 ++ [z] ++ [a],o2 ++ [b] ++ [a],p,rfl,rfl,e3.symm,.inr ⟨d2 ++ [z],a,o2 ++ [b],a,rfl,rfl,hp',Iff.rfl,Iff.rfl⟩⟩
   ·rw [if_neg hT] at e3 ⊢
    rw [List.append_nil] at e3
    refine ⟨d2 ++ [z] ++ [a],o2 ++ [b],p,rfl,rfl,e3.symm,.inr ⟨d2 ++ [z],a,o2,b,rfl,rfl,hp',?_,?_⟩⟩ <;> rw [Qb7] at hT <;> omega
end Go.Nac
namespace Go.Nac
def sumI:List Int → Int
 | [] => 0
 | x :: r => x + sumI r
def sat (x:Int):Int:=if 1152921504606846976 < x then 1152921504606846977 else x
def chkM (x:Int):Int × Int:=if 1152921504606846976 < x then (0,4) else (x,0)
def MRel (m:Int × Bool) (t:Int):Prop:=(m.2 = true ∧ 1152921504606846976 < t) ∨ (m.2 = false ∧ m.1 = t ∧ t ≤ 1152921504606846976)
theorem MRel.add {m:Int × Bool} {t x:Int} (h:MRel m t) (hx:0 ≤ x):MRel (madd m x) (t + x):=by
 unfold madd
 rcases h with ⟨h1,h2⟩|⟨h1,h2,h3⟩
 ·rw [if_pos (.inl h1)];exact .inl ⟨rfl,by omega⟩
 ·by_cases hf:1152921504606846976 - m.1 < x
  ·rw [if_pos (.inr hf)];exact .inl ⟨rfl,by omega⟩
  ·rw [if_neg (by simp [h1,hf])];exact .inr ⟨rfl,by simp only [];omega,by omega⟩
theorem MRel.res {m:Int × Bool} {t:Int} (h:MRel m t):mres m = chkM t:=by
 unfold mres chkM
 rcases h with ⟨h1,h2⟩|⟨h1,h2,h3⟩
 ·rw [if_pos h1,if_pos h2]
 ·rw [if_neg (by simp [h1]),if_neg (by omega),h2]
theorem MRel.zero:MRel (0,false) 0:=.inr ⟨rfl,rfl,by decide⟩
def powC (e:Int) (l:List Cyc):List Int:=l.map fun c => powW (c.hi - c.lo) e.toNat
def powH (e:Int) (l:List Rev):List Int:=(halfs l).map fun x => powW x e.toNat
def sumC (e:Int) (l:List Cyc):Int:=sumI (powC e l)
def sumH (e:Int) (l:List Rev):Int:=sumI (powH e l)
def sumT (l:List Int) (e:Int):Int:=2 * sumC e (QD (QJ (points l))).1 + sumH e (QD (QJ (points l))).2.reverse
end Go.Nac
namespace Go.Nac
def wq (n q:Int):Nat → Int
 | 0 => q
 | k + 1 => wq n q k / n
end Go.Nac
namespace Go.Nac
theorem ZH {l:List Rev} (h:Qt l = 0):∀ r ∈ l,QG r:=fun r hr => (Vm _ _ _ (VA.1 h).2 r hr).2
end Go.Nac
namespace Go.Nac
end Go.Nac
namespace Go.Nac
def Qfv (l:List (List Int)):Int:=if 256 < l.length then 5 else fst0 (l.map QZ)
def QoG (s:Int × Int × Bool) (n:Int):Int × Int × Bool:=if s.2.2 = true ∨ s.2.1 < n then (s.1,s.2.1,true) else (s.1 + 1,s.2.1 - n,false)
def bear (left:Int):List Int → Int × Int
 | [] => (0,left)
 | n :: r => if left < n then (0,left) else ((bear (left - n) r).1 + 1,(bear (left - n) r).2)
def twL (x:Life) (l:List (List Int)):List Int:=l.map fun r => (twRes r x.exp).1
def twE (x:Life) (l:List (List Int)):List Int:=l.map fun r => (twRes r x.exp).2
def Qoz (x:Life) (l:List (List Int)):Int × Int × Int :=
 if fst0 [Z9 x,Qfv l] = 0 then
  (if fst0 (twE x l) = 0 then ((bear (2 * x.cap) (twL x l)).1,(bear (2 * x.cap) (twL x l)).2,0) else (0,0,fst0 (twE x l)))
 else (0,0,fst0 [Z9 x,Qfv l])
end Go.Nac
namespace Go.Nac
end Go.Nac
namespace Go.Nac
def zig:Bool → List Rev → Prop
 | _,[] => True
 | _,[x] => goodR x
 | s,y :: x :: r => goodR y ∧ x.at_ < y.at_ ∧ (if s = true then x.ld < y.ld else y.ld < x.ld) ∧ zig (!s) (x :: r)
def dirOf (a b:Rev):Bool:=decide (a.ld < b.ld)
end Go.Nac
namespace Go.Nac
def cntC (l:List Int):List Cyc:=(QD (QJ (points l))).1
def cntR (l:List Int):List Rev:=(QD (QJ (points l))).2.reverse
end Go.Nac
namespace Go.Nac
inductive Stp:List (Int × Int) → List Int → List Int → Prop
 | dup (x:Int) (s:List Int):Stp [] (x :: x :: s) (x :: s)
 | mid (a b c:Int) (s:List Int) (h:(a ≤ b ∧ b ≤ c) ∨ (c ≤ b ∧ b ≤ a)):Stp [] (a :: b :: c :: s) (a :: c :: s)
 | up (a b c d:Int) (s:List Int) (h:a ≤ c ∧ c < b ∧ b ≤ d):Stp [(c,b)] (a :: b :: c :: d :: s) (a :: d :: s)
 | dn (a b c d:Int) (s:List Int) (h:d ≤ b ∧ b < c ∧ c ≤ a):Stp [(b,c)] (a :: b :: c :: d :: s) (a :: d :: s)
 | cons (x:Int) {E:List (Int × Int)} {l m:List Int} (h:Stp E l m):Stp E (x :: l) (x :: m)
inductive Red:List (Int × Int) → List Int → List Int → Prop
 | refl (l:List Int):Red [] l l
 | step {E F:List (Int × Int)} {l m n:List Int} (h:Stp E l m) (k:Red F m n):Red (E ++ F) l n
theorem Stp.len {E:List (Int × Int)} {l m:List Int} (h:Stp E l m):m.length < l.length:=by
 induction h with
 | cons x h ih => simp;exact ih
 | _ => simp
theorem Stp.head {E:List (Int × Int)} {x:Int} {l m:List Int} (h:Stp E (x :: l) m):∃ m',m = x :: m':=by
 cases h <;> exact ⟨_,rfl⟩
theorem Red.one {E:List (Int × Int)} {l m:List Int} (h:Stp E l m):Red E l m:=by have:=Red.step h (.refl m);rwa [List.append_nil] at this
theorem Red.trans {E F:List (Int × Int)} {l m n:List Int} (h:Red E l m) (k:Red F m n):Red (E ++ F) l n:=by
 induction h with
 | refl => exact k
 | step s _ ih => rw [List.append_assoc];exact .step s (ih k)
theorem Red.cons {E:List (Int × Int)} {l m:List Int} (x:Int) (h:Red E l m):Red E (x :: l) (x :: m):=by
 induction h with
 | refl => exact .refl _
 | step s _ ih => exact .step (.cons x s) ih
theorem Red.left {E:List (Int × Int)} {l m:List Int} (p:List Int) (h:Red E l m):Red E (p ++ l) (p ++ m):=by
 induction p with
 | nil => exact h
 | cons x p ih => exact ih.cons x
theorem Stp.right {E:List (Int × Int)} {l m:List Int} (h:Stp E l m) (s:List Int):Stp E (l ++ s) (m ++ s):=by
 induction h with
 | dup x t => exact .dup x (t ++ s)
 | mid a b c t h => exact .mid a b c (t ++ s) h
 | up a b c d t h => exact .up a b c d (t ++ s) h
 | dn a b c d t h => exact .dn a b c d (t ++ s) h
 | cons x _ ih => exact .cons x ih
theorem Red.right {E:List (Int × Int)} {l m:List Int} (h:Red E l m) (s:List Int):Red E (l ++ s) (m ++ s):=by
 induction h with
 | refl => exact .refl _
 | step k _ ih => exact .step (k.right s) ih
def Meets (E F:List (Int × Int)) (m n:List Int):Prop:=∃ q E' F',Red E' m q ∧ Red F' n q ∧ (E ++ E').Perm (F ++ F')
theorem Meets.symm {E F:List (Int × Int)} {m n:List Int} (h:Meets E F m n):Meets F E n m:=by
 obtain ⟨q,E',F',h1,h2,h3⟩:=h;exact ⟨q,F',E',h2,h1,h3.symm⟩
theorem Meets.same {E:List (Int × Int)} {m:List Int}:Meets E E m m:=⟨m,[],[],.refl _,.refl _,.refl _⟩
theorem Meets.cons {E F:List (Int × Int)} {m n:List Int} (x:Int) (h:Meets E F m n):Meets E F (x :: m) (x :: n):=by
 obtain ⟨q,E',F',h1,h2,h3⟩:=h;exact ⟨x :: q,E',F',h1.cons x,h2.cons x,h3⟩
theorem Meets.mk {E F E' F':List (Int × Int)} {m n q:List Int} (h:Stp E' m q) (k:Stp F' n q) (hp:(E ++ E').Perm (F ++ F')):Meets E F m n:=⟨q,E',F',.one h,.one k,hp⟩
theorem Qau {α:Type} (A B:List α):(A ++ B).Perm (B ++ A):=List.perm_append_comm
theorem QcF {F:List (Int × Int)} {x:Int} {s n:List Int} (k:Stp F (x :: x :: s) n):Meets [] F (x :: s) n:=by
 cases k with
 | dup => exact .same
 | mid _ _ c s h => exact .same
 | up _ _ c d s h => omega
 | dn _ _ c d s h => omega
 | cons _ k =>
  obtain ⟨m',rfl⟩:=k.head
  exact .mk k (.dup x m') (by simp)
theorem Qcp {F:List (Int × Int)} {a b c:Int} {s n:List Int} (h:(a ≤ b ∧ b ≤ c) ∨ (c ≤ b ∧ b ≤ a)) (k:Stp F (a :: b :: c :: s) n):Meets [] F (a :: c :: s) n:=by
 cases k with
 | dup => exact .same
 | mid => exact .same
 | up _ _ _ d s g => omega
 | dn _ _ _ d s g => omega
 | cons _ k =>
  cases k with
  | dup => exact .same
  | mid _ _ d s g =>
   by_cases e:b = c
   ·subst e;exact .same
   ·exact .mk (.mid a c d s (by omega)) (.mid a b d s (by omega)) (by simp)
  | up _ _ d e s g => exact .mk (.up a c d e s (by omega)) (.mid a b e s (by omega)) (by simp)
  | dn _ _ d e s g => exact .mk (.dn a c d e s (by omega)) (.mid a b e s (by omega)) (by simp)
  | cons _ k =>
   obtain ⟨m',rfl⟩:=k.head
   exact .mk (.cons a k) (.mid a b c m' h) (by simp)
theorem QdK {F:List (Int × Int)} {a b c d:Int} {s n:List Int} (h:a ≤ c ∧ c < b ∧ b ≤ d) (k:Stp F (a :: b :: c :: d :: s) n):Meets [(c,b)] F (a :: d :: s) n:=by
 cases k with
 | dup => omega
 | mid _ _ _ _ g => omega
 | up => exact .same
 | dn _ _ _ _ _ g => omega
 | cons _ k =>
  cases k with
  | dup => omega
  | mid _ _ _ _ g => omega
  | up _ _ _ e s g => omega
  | dn _ _ _ e s g =>
   have:d = b:=by omega
   subst this;exact .same
  | cons _ k =>
   cases k with
   | dup => omega
   | mid _ _ e s g => exact .mk (.mid a d e s (by omega)) (.up a b c e s (by omega)) (by simp)
   | up _ _ e f s g => exact .mk (.up a d e f s (by omega)) (.up a b c f s (by omega)) (Qau _ _)
   | dn _ _ e f s g => omega
   | cons _ k =>
    obtain ⟨m',rfl⟩:=k.head
    exact .mk (.cons a k) (.up a b c d m' h) (Qau _ _)
theorem QdV {F:List (Int × Int)} {a b c d:Int} {s n:List Int} (h:d ≤ b ∧ b < c ∧ c ≤ a) (k:Stp F (a :: b :: c :: d :: s) n):Meets [(b,c)] F (a :: d :: s) n:=by
 cases k with
 | dup => omega
 | mid _ _ _ _ g => omega
 | up _ _ _ _ _ g => omega
 | dn => exact .same
 | cons _ k =>
  cases k with
  | dup => omega
  | mid _ _ _ _ g => omega
  | up _ _ _ e s g =>
   have:d = b:=by omega
   subst this;exact .same
  | dn _ _ _ e s g => omega
  | cons _ k =>
   cases k with
   | dup => omega
   | mid _ _ e s g => exact .mk (.mid a d e s (by omega)) (.dn a b c e s (by omega)) (by simp)
   | up _ _ e f s g => omega
   | dn _ _ e f s g => exact .mk (.dn a d e f s (by omega)) (.dn a b c f s (by omega)) (Qau _ _)
   | cons _ k =>
    obtain ⟨m',rfl⟩:=k.head
    exact .mk (.cons a k) (.dn a b c d m' h) (Qau _ _)
theorem meets {E F:List (Int × Int)} {l m n:List Int} (h:Stp E l m):Stp F l n → Meets E F m n:=by
 induction h generalizing F n with
 | dup x s => exact QcF
 | mid a b c s h => exact Qcp h
 | up a b c d s h => exact QdK h
 | dn a b c d s h => exact QdV h
 | @cons x E l m h ih =>
  intro k
  cases k with
  | dup => exact (QcF (.cons _ h)).symm
  | mid _ _ _ _ g => exact (Qcp g (.cons _ h)).symm
  | up _ _ _ _ _ g => exact (QdK g (.cons _ h)).symm
  | dn _ _ _ _ _ g => exact (QdV g (.cons _ h)).symm
  | cons _ k => exact (ih k).cons x
def Norm (l:List Int):Prop:=∀ E m,¬ Stp E l m
theorem Qfk:∀ (k:Nat) (l:List Int),l.length ≤ k → ∃ E n,Red E l n ∧ Norm n
 | 0,l,h => by
  have:l = []:=List.eq_nil_of_length_eq_zero (by omega)
  subst this;exact ⟨[],[],.refl _,fun E m h => by cases h⟩
 | k + 1,l,h => by
  by_cases hn:Norm l
  ·exact ⟨[],l,.refl _,hn⟩
  ·unfold Norm at hn
   simp only [Classical.not_forall,Classical.not_not] at hn
   obtain ⟨E,m,hs⟩:=hn
   obtain ⟨F,n,h1,h2⟩:=Qfk k m (by have:=hs.len;omega)
   exact ⟨E ++ F,n,.step hs h1,h2⟩
theorem QfK:∀ (k:Nat) (l:List Int),l.length ≤ k → ∀ {E F:List (Int × Int)} {m n:List Int},Red E l m → Norm m → Red F l n → Norm n → m = n ∧ E.Perm F:=by
 intro k
 induction k with
 | zero =>
  intro l hl E F m n h1 n1 h2 n2
  have:l = []:=List.eq_nil_of_length_eq_zero (by omega)
  subst this
  cases h1 with
  | refl =>
   cases h2 with
   | refl => exact ⟨rfl,.refl _⟩
   | step s _ => exact absurd s (n1 _ _)
  | step s _ => cases s
 | succ k ih =>
  intro l hl E F m n h1 n1 h2 n2
  cases h1 with
  | refl =>
   cases h2 with
   | refl => exact ⟨rfl,.refl _⟩
   | step s _ => exact absurd s (n1 _ _)
  | @step e1 E1 _ m1 _ s1 r1 =>
   cases h2 with
   | refl => exact absurd s1 (n2 _ _)
   | @step e2 E2 _ m2 _ s2 r2 =>
    have hl1:=s1.len;have hl2:=s2.len
    obtain ⟨q,G1,G2,g1,g2,g3⟩:=meets s1 s2
    obtain ⟨G,n3,g4,g5⟩:=Qfk q.length q (Nat.le_refl _)
    obtain ⟨a1,a2⟩:=ih m1 (by omega) r1 n1 (g1.trans g4) g5
    obtain ⟨b1,b2⟩:=ih m2 (by omega) r2 n2 (g2.trans g4) g5
    refine ⟨a1.trans b1.symm,?_⟩
    have c1:(e1 ++ E1).Perm (e1 ++ (G1 ++ G)):=a2.append_left e1
    have c2:(e2 ++ E2).Perm (e2 ++ (G2 ++ G)):=b2.append_left e2
    refine c1.trans (.trans ?_ c2.symm)
    rw [← List.append_assoc,← List.append_assoc]
    exact g3.append_right G
theorem Red.unique {E F:List (Int × Int)} {l m n:List Int} (h1:Red E l m) (n1:Norm m) (h2:Red F l n) (n2:Norm n):m = n ∧ E.Perm F:=QfK l.length l (Nat.le_refl _) h1 n1 h2 n2
theorem Stp.back {E:List (Int × Int)} {l m:List Int} (h:Stp E l m):Stp E l.reverse m.reverse:=by
 have ctx:∀ {E:List (Int × Int)} {l m:List Int} (p:List Int),Stp E l m → Stp E (p ++ l) (p ++ m):=by
  intro E l m p h
  induction p with
  | nil => exact h
  | cons x p ih => exact .cons x ih
 induction h with
 | dup x s => simp only [List.reverse_cons,List.append_assoc,List.cons_append,List.nil_append];exact ctx _ (.dup x [])
 | mid a b c s h => simp only [List.reverse_cons,List.append_assoc,List.cons_append,List.nil_append];exact ctx _ (.mid c b a [] (by omega))
 | up a b c d s h => simp only [List.reverse_cons,List.append_assoc,List.cons_append,List.nil_append];exact ctx _ (.dn d c b a [] (by omega))
 | dn a b c d s h => simp only [List.reverse_cons,List.append_assoc,List.cons_append,List.nil_append];exact ctx _ (.up d c b a [] (by omega))
 | cons x _ ih => rw [List.reverse_cons,List.reverse_cons];exact ih.right [x]
theorem Red.back {E:List (Int × Int)} {l m:List Int} (h:Red E l m):Red E l.reverse m.reverse:=by
 induction h with
 | refl => exact .refl _
 | step s _ ih => exact .step s.back ih
theorem Norm.back {l:List Int} (h:Norm l):Norm l.reverse:=fun E m s => by
 have:=s.back;rw [List.reverse_reverse] at this;exact h _ _ this
theorem Stp.mem {E:List (Int × Int)} {l m:List Int} (h:Stp E l m):∀ x ∈ m,x ∈ l:=by
  induction h with
  | cons x _ ih => intro y hy;rcases List.mem_cons.1 hy with rfl | hy;· simp
                   · simp [ih y hy]
  | dup => intro y hy;exact List.mem_cons_of_mem _ hy
  | mid => intro y hy;simp only [List.mem_cons] at hy ⊢;rcases hy with h | h | h <;> simp [h]
  | up => intro y hy;simp only [List.mem_cons] at hy ⊢;rcases hy with h | h | h <;> simp [h]
  | dn => intro y hy;simp only [List.mem_cons] at hy ⊢;rcases hy with h | h | h <;> simp [h]
theorem Red.mem {E:List (Int × Int)} {l m:List Int} (h:Red E l m):∀ x ∈ m,x ∈ l:=by
 induction h with
 | refl => exact fun x hx => hx
 | step s _ ih => exact fun x hx => s.mem x (ih x hx)
theorem Red.head {E:List (Int × Int)} {x:Int} {l m:List Int} (h:Red E (x :: l) m):∃ m',m = x :: m':=by
 generalize hl:x :: l = L at h
 induction h generalizing l with
 | refl => exact ⟨l,hl.symm⟩
 | step s _ ih =>
  subst hl
  obtain ⟨m',rfl⟩:=s.head
  exact ih rfl
theorem Red.last {E:List (Int × Int)} {x:Int} {l m:List Int} (h:Red E (l ++ [x]) m):∃ m',m = m' ++ [x]:=by
 have:=h.back
 rw [List.reverse_append] at this
 obtain ⟨m',hm⟩:=this.head
 exact ⟨m'.reverse,by rw [← List.reverse_reverse m,hm];simp⟩
theorem Norm.tail {x:Int} {l:List Int} (h:Norm (x :: l)):Norm l:=fun E m s => h _ _ (.cons x s)
end Go.Nac
namespace Go.Nac
def lds (l:List Rev):List Int:=l.map Rev.ld
def vals (l:List Cyc):List (Int × Int):=l.map fun c => (c.lo,c.hi)
def irr:List Rev → Prop
 | d :: c :: b :: a :: r => V2 a b c d = false ∧ irr (c :: b :: a :: r)
 | _ => True
end Go.Nac
namespace Go.Nac
def gtP (q p:Pnt):Bool:=decide (p.x < q.x) || (decide (q.x = p.x) && decide (p.y < q.y))
def posP (p:Pnt) (out:List Pnt):Nat → Nat
 | 0 => 0
 | k + 1 => match out[k]? with
  | some q => if gtP q p = true then posP p out k else k + 1
  | none => k + 1
def insP (out:List Pnt) (p:Pnt):List Pnt:=out.take (posP p out out.length) ++ p :: out.drop (posP p out out.length)
def pntOf (c:Cyc):Pnt:=⟨c.lo,c.hi⟩
def valS (l:List Cyc):List Pnt:=l.foldl (fun o c => insP o (pntOf c)) []
def LeP (a b:Pnt):Prop:=gtP a b = false
end Go.Nac
namespace Go.Nac
def mapR (f:Int → Int) (r:Rev):Rev:=⟨r.at_,f r.ld⟩
def negC (c:Cyc):Cyc:=⟨c.from_,c.to_,-c.hi,-c.lo⟩
def dblC (c:Cyc):Cyc:=⟨c.from_,c.to_,2 * c.lo,2 * c.hi⟩
theorem Stp.ext {E:List (Int × Int)} {l m:List Int} (h:Stp E l m):∀ z ∈ l,(∃ w ∈ m,z ≤ w) ∧ (∃ w ∈ m,w ≤ z):=by
 have self:∀ {m:List Int} {z:Int},z ∈ m → (∃ w ∈ m,z ≤ w) ∧ (∃ w ∈ m,w ≤ z):=fun h => ⟨⟨_,h,Int.le_refl _⟩,⟨_,h,Int.le_refl _⟩⟩
 induction h with
 | dup x s => intro z hz;exact self (by simp only [List.mem_cons] at hz ⊢;rcases hz with h | h | h <;> simp [h])
 | mid a b c s h =>
  intro z hz
  simp only [List.mem_cons] at hz
  rcases hz with h1|h1|h1
  ·exact self (by simp [h1])
  ·rcases h with h|h
   ·exact ⟨⟨c,by simp,by omega⟩,⟨a,by simp,by omega⟩⟩
   ·exact ⟨⟨a,by simp,by omega⟩,⟨c,by simp,by omega⟩⟩
  ·exact self (by rcases h1 with h1|h1 <;> simp [h1])
 | up a b c d s h =>
  intro z hz
  simp only [List.mem_cons] at hz
  rcases hz with h1|h1|h1|h1
  ·exact self (by simp [h1])
  ·exact ⟨⟨d,by simp,by omega⟩,⟨a,by simp,by omega⟩⟩
  ·exact ⟨⟨d,by simp,by omega⟩,⟨a,by simp,by omega⟩⟩
  ·exact self (by rcases h1 with h1|h1 <;> simp [h1])
 | dn a b c d s h =>
  intro z hz
  simp only [List.mem_cons] at hz
  rcases hz with h1|h1|h1|h1
  ·exact self (by simp [h1])
  ·exact ⟨⟨a,by simp,by omega⟩,⟨d,by simp,by omega⟩⟩
  ·exact ⟨⟨a,by simp,by omega⟩,⟨d,by simp,by omega⟩⟩
  ·exact self (by rcases h1 with h1|h1 <;> simp [h1])
 | cons x h ih =>
  intro z hz
  rcases List.mem_cons.1 hz with rfl|hz
  ·exact self (by simp)
  ·obtain ⟨⟨w,h1,h2⟩,⟨v,h3,h4⟩⟩:=ih z hz
   exact ⟨⟨w,by simp [h1],h2⟩,⟨v,by simp [h3],h4⟩⟩
theorem Red.ext {E:List (Int × Int)} {l m:List Int} (h:Red E l m):∀ z ∈ l,(∃ w ∈ m,z ≤ w) ∧ (∃ w ∈ m,w ≤ z):=by
 induction h with
 | refl => exact fun z hz => ⟨⟨z,hz,Int.le_refl _⟩,⟨z,hz,Int.le_refl _⟩⟩
 | step s _ ih =>
  intro z hz
  obtain ⟨⟨w,h1,h2⟩,⟨v,h3,h4⟩⟩:=s.ext z hz
  obtain ⟨⟨w',k1,k2⟩,_⟩:=ih w h1
  obtain ⟨_,⟨v',k3,k4⟩⟩:=ih v h3
  exact ⟨⟨w',k1,by omega⟩,⟨v',k3,by omega⟩⟩
end Go.Nac
namespace Go.Nac
def joinL (a b:List Int):List Rev:=QJ (cntR a ++ (cntR b).map (shR a.length))
end Go.Nac
namespace Go.Nac
def ends (cs:List Cyc):List Int:=cs.flatMap fun c => [c.from_,c.to_]
def ats (l:List Rev):List Int:=l.map Rev.at_
def IM (es:List (Value × Value)) (g:Int → Int):Prop:=Z0 es ∧ ∀ x,(find (.int .i64 x) es).getD (.int .i64 0) = .int .i64 (g x)
theorem IM.nil:IM [] (fun _ => 0):=⟨(by intro e he;cases he),fun x => rfl⟩
theorem IM.upd {es:List (Value × Value)} {g:Int → Int} (h:IM es g) (x v:Int):IM (upd (.int .i64 x) (.int .i64 v) es) (fun y => if y = x then v else g y):=by
 refine ⟨h.1.upd _ _,fun y => ?_⟩
 rw [QaX]
 by_cases e:y = x
 ·subst e;simp
 ·simp only [if_neg e];exact h.2 y
theorem IM.congr {es:List (Value × Value)} {g g':Int → Int} (h:IM es g) (e:∀ x,g x = g' x):IM es g':=⟨h.1,fun x => by rw [h.2 x,e x]⟩
def atF (l:List Rev):Int → Int:=l.foldl (fun f r => fun y => if y = r.at_ then r.ld else f y) (fun _ => 0)
def seenF (L:List Int):Int → Int:=fun y => L.count y
def xN (lv:Int):List Int → Nat
 | a :: b :: r => (if a ≤ lv ∧ lv < b then 1 else 0) + xN lv (b :: r)
 | _ => 0
def inB (lv:Int) (E:List (Int × Int)):Nat:=(E.filter fun p => decide (p.1 ≤ lv) && decide (lv < p.2)).length
def upB (lv:Int) (cs:List Cyc):List Cyc:=cs.filter fun c => decide (c.lo ≤ lv) && decide (lv < c.hi)
end Go.Nac
set_option linter.unusedSimpArgs false
namespace Go.Nac
open Ieee
theorem Qb3 (neg:Bool) (a d:Nat) (ha:a ≠ 0):Toward.even.cut neg (2 * a) (d + 1) = Toward.even.cut neg a d:=by
 unfold Toward.cut
 have h1:(2 * a).log2 = a.log2 + 1:=Nat.log2_two_mul ha
 have h2:(1 <<< min (d + 1) ((2 * a).log2 + 2):Nat) = 2 * (1 <<< min d (a.log2 + 2)):=by
  rw [h1,show min (d + 1) (a.log2 + 1 + 2) = min d (a.log2 + 2) + 1 from by omega,Nat.shiftLeft_eq,Nat.shiftLeft_eq,Nat.pow_succ];omega
 have h3:0 < (1 <<< min d (a.log2 + 2):Nat):=by rw [Nat.shiftLeft_eq];exact Nat.mul_pos (by decide) (Nat.pow_pos (by decide))
 simp only [h2]
 generalize (1 <<< min d (a.log2 + 2):Nat) = g at h3
 have h4:2 * a / (2 * g) = a / g:=Nat.mul_div_mul_left a g (by decide)
 have h5:2 * a % (2 * g) = 2 * (a % g):=Nat.mul_mod_mul_left 2 a g
 rw [h4,h5]
 have e1:decide (2 * g < 2 * (2 * (a % g))) = decide (g < 2 * (a % g)):=decide_eq_decide.2 (by omega)
 have e2:(2 * g == 2 * (2 * (a % g))) = (g == 2 * (a % g)):=by rw [Bool.eq_iff_iff];simp only [beq_iff_eq];omega
 rw [e1,e2]
@[irreducible] def uE:Nat:=1100
def fV (s:Bool) (m:Nat) (l:Int):Int:=signed s m (l + 1100).toNat
abbrev c16:Nat:=4625196817309499392
def fTr (s:Bool) (m:Nat) (p:Int):Int:=signed s (m * 2 ^ p.toNat / 2 ^ (-p).toNat) 0
def Qn3 (s:Bool) (m:Nat) (p:Int):Bool:=decide (fTr s m p * 2 ^ uE = fV s m p)
def fFl (s:Bool) (m:Nat) (p:Int):Nat:=m * 2 ^ p.toNat / 2 ^ (-p).toNat + (s && m * 2 ^ p.toNat % 2 ^ (-p).toNat != 0).toNat
def smpE (x:Nat):Int :=
 match single.read x with
 | .number s m e => if fV s m (e + 4) < fV true 32768 0 ∨ fV false 32768 0 < fV s m (e + 4) ∨ Qn3 s m (e + 4) = false then 3 else 0
 | _ => 1
def six (x:Nat):Int :=
 match single.read x with
 | .number s m e => fTr s m (e + 4)
 | _ => 0
def nz (x:Nat):Bool :=
 match single.read x with
 | .number _ m _ => m != 0
 | _ => true
end Go.Nac
set_option linter.unusedSectionVars false
set_option maxRecDepth 10000
namespace Go.Nac
open Ieee
section
variable {s:Bool} {m:Nat} {p:Int} (h1:m < 2 ^ 53) (h2:-1074 ≤ p) (h3:p ≤ 966)
include h1 h2 h3
end
section
variable {s:Bool} {m:Nat} {p:Int} (h1:m < 2 ^ 53) (h2:-1070 ≤ p) (h3:p ≤ 966)
include h1 h2 h3
end
end Go.Nac
namespace Go.Nac
structure Spn where
 fr:Int
 to_:Int
 deriving DecidableEq
def Qh (x:Spn):PV:=.agg [.I x.fr,.I x.to_]
theorem Qy (x:Spn):Qh x = .agg [.I x.fr,.I x.to_]:=rfl
theorem Ql (x:Spn):(Qh x).cells = [.I x.fr,.I x.to_]:=nrfl rfl
theorem Qw {n:Nat} (x:Spn):(Qh x).low n = True:=eq_true (by simp [Qh,PV.low,lowL])
theorem Qq {n:Nat} (l:List Spn):lowL n (l.map Qh) = True:=eq_true (Zm _ _ fun r => by simp [Qh,PV.low,lowL])
theorem Y3 (l:List Spn):(l.map Qh).all (QX 2) = true:=by rw [List.all_eq_true];intro x hx;obtain ⟨y,_,rfl⟩:=List.mem_map.1 hx;rfl
abbrev encF (b:Nat):PV:=.s (.float .f32 b)
structure Ser where
 name:ByteArray
 start:Int
 samples:List Nat
 gaps:List Spn
def QoH (x:Ser):PV:=.agg [.s (.string x.name),.I x.start,.fs (x.samples.map encF),.fs (x.gaps.map Qh)]
def Qls (c:Nat):Bool:=decide (97 ≤ c ∧ c ≤ 122) || decide (65 ≤ c ∧ c ≤ 90)
def chOk (i c:Nat):Bool:=Qls c || (decide (i ≠ 0) && (decide (c = 95) || decide (48 ≤ c ∧ c ≤ 57)))
def chAt (s:ByteArray) (i:Nat):Nat:=(s[i]?.getD 0).toNat
def QiD (s:ByteArray):Bool:=decide (s.size ≠ 0) && decide (s.size ≤ 24) && (List.range s.size).all fun i => chOk i (chAt s i)
def Qou (s:Spn):Int:=if s.fr < 0 ∨ s.to_ ≤ s.fr ∨ 40000 < s.to_ then 14 else 0
def QdM (last:Int):List Spn → Int
 | [] => 0
 | s :: r => if Qou s = 0 then (if s.fr ≤ last then 11 else QdM s.to_ r) else 14
def QaA (l:List Spn):Int:=if 1024 < l.length then 5 else QdM (-1) l
def QoJ (l:List Spn) (k:Nat):Int:=if k = 0 then -1 else match l[k - 1]? with|some s => s.to_|none => -1
def gapAt (g:List Spn) (i:Int):Bool:=g.any fun s => decide (s.fr ≤ i ∧ i < s.to_)
def Qik (l:List Nat) (g:List Spn):Int:=if (List.range l.length).any (fun i => nz (l.getD i 0) && gapAt g i) then 17 else 0
def Qfo (l:List Nat) (g:List Spn):Int:=match g.getLast? with|some z => if (l.length:Int) < z.to_ then 14 else 0|none => 0
def QoE (s:Ser):Int :=
 if QiD s.name = false then 8 else if ¬ rng s.start 0 999999999 = 0 then 3 else if 40000 < s.samples.length then 5 else
 if ¬ fst0 (s.samples.map smpE) = 0 then fst0 (s.samples.map smpE) else if ¬ QaA s.gaps = 0 then QaA s.gaps else
 if ¬ Qfo s.samples s.gaps = 0 then 14 else Qik s.samples s.gaps
def QoI (l:List Nat) (g:List Spn) (k:Nat):List Int:=((l.take k).zipIdx.filter fun p => !gapAt g p.2).map fun p => six p.1
end Go.Nac
namespace Go.Nac
theorem QhU {F:Prog} {X:XRel} {f:FuncId} {args:List PV} {r:PV} {M M':List Blk} (h:X f args M r M'):ACall F X (.fn f) args M r M':=fun C hC => hC.2.2.1 f args M r M' h
section
variable {C:CallR} {K:(List Blk) → List PV → Prop} {M:List Blk} {t:List PV} {d:Option Nat} {os:List COper}
end
end Go.Nac
namespace Go.Nac
def QoD (n:Nat) (g:List Spn) (k:Nat):List PV:=(List.range n).map fun (i:Nat) => PV.B (gapAt (g.take k) (i:Int))
def QoK (n:Nat) (g:List Spn) (k:Nat) (x:Spn) (j:Nat):List PV:=(List.range n).map fun (i:Nat) => PV.B (gapAt (g.take k) (i:Int) || decide (x.fr ≤ (i:Int) ∧ (i:Int) < (j:Int)))
def QoA (l:List Nat) (g:List Spn) (k:Nat):Prop:=∀ (i x:Nat),i < k → l[i]? = some x → (nz x && gapAt g i) = false
def serA (s:Ser):Int:=fst0 [if QiD s.name = false then 8 else 0,rng s.start 0 999999999,if 40000 < s.samples.length then 5 else 0]
def serB (s:Ser):Int :=
 if ¬ fst0 (s.samples.map smpE) = 0 then fst0 (s.samples.map smpE) else if ¬ QaA s.gaps = 0 then QaA s.gaps else
 if ¬ Qfo s.samples s.gaps = 0 then 14 else Qik s.samples s.gaps
end Go.Nac
