/- Sites in texts and out of them. -/
import Derived.Test.YtclanmkmbjinaaaGreatDoorW08
import Derived.Laws.FloatBits
set_option linter.unusedVariables false
namespace Go.Nac
def uns (c:UInt8):List (List UInt8) → List UInt8
 | [] => []
 | [l] => l
 | l :: r => l ++ c :: uns c r
theorem ZI {c:UInt8} {l:List UInt8} {r:List (List UInt8)} (h:r ≠ []):uns c (l :: r) = l ++ c :: uns c r:=by
 cases r with
 | nil => exact absurd rfl h
 | cons a r => rfl
theorem QeT (c:UInt8):∀ t:List UInt8,uns c (spl c t) = t
 | [] => rfl
 | x :: t => by
  have ih:=QeT c t
  have hn:=Qbj c t
  unfold spl
  split
  ·rename_i h
   rw [ZI hn,ih,h];rfl
  ·cases hs:spl c t with
   | nil => exact absurd hs hn
   | cons a r =>
    rw [hs] at ih
    cases r with
    | nil => simp only [uns] at ih ⊢;rw [ih]
    | cons b r => rw [ZI (by simp)] at ih ⊢;rw [List.cons_append,ih]
theorem Qal {c:UInt8}:∀ {L:List (List UInt8)},L ≠ [] → (∀ l ∈ L,c ∉ l) → spl c (uns c L) = L
 | [],h,_ => absurd rfl h
 | [l],_,h => JM (h l (by simp))
 | l :: a :: r,_,h => by
  rw [ZI (by simp),Qar (h l (by simp)),Qal (by simp) fun x hx => h x (by simp [hx])]
theorem QiT (c:UInt8):∀ {L:List (List UInt8)},L ≠ [] → uns c (L ++ [[]]) = uns c L ++ [c]
 | [],h => absurd rfl h
 | [l],_ => by simp [uns]
 | l :: a :: r,_ => by
  rw [List.cons_append,ZI (by simp),ZI (by simp),QiT c (by simp)];simp
theorem QhG (c:UInt8):∀ {L:List (List UInt8)},L ≠ [] → uns c (L ++ [[]]) = (L.map (· ++ [c])).flatten
 | [],h => absurd rfl h
 | [l],_ => by simp [uns]
 | l :: a :: r,_ => by
  rw [List.cons_append,ZI (by simp),QhG c (by simp)];simp
def hdrT (s:Ste):List UInt8:=uns 32 [siteW,s.name.data.toList,Lib.itoa s.least]
def tbT (t:Tb):List UInt8:=uns 32 [turbW,t.name.data.toList,Lib.itoa t.x,Lib.itoa t.y]
def Q2 (s:Ste):List (List UInt8):=hdrT s :: s.tbs.map tbT
def steL (s:Ste):List UInt8:=uns 10 (Q2 s ++ [[]])
theorem Qss (t:Tb):tbTxt t = ⟨(tbT t ++ [10]).toArray⟩:=by
 refine Qaj ?_
 unfold tbTxt tbT itoaB turbW
 simp [uns]
theorem QfD (l:List ByteArray):(joinB l).data.toList = (l.map (·.data.toList)).flatten:=by
 induction l with
 | nil => rfl
 | cons x r =>
  unfold joinB
  show (Lib.join _ []) = _
  rw [List.map_cons,Lib.join_cons]
  unfold Lib.joinTail
  simp
  rfl
theorem QeE (s:Ste):Yc s = ⟨(steL s).toArray⟩:=by
 refine Qaj ?_
 have e:(steL s) = hdrT s ++ 10 :: ((s.tbs.map tbT).map (· ++ [10])).flatten:=by
  unfold steL Q2
  rw [QhG 10 (by simp)]
  simp
 rw [e]
 have h2:(joinB (s.tbs.map tbTxt)).data.toList = ((s.tbs.map tbT).map (· ++ [10])).flatten:=by
  rw [QfD,List.map_map,List.map_map]
  congr 1
  exact List.map_congr_left fun t _ => by simp [Qss]
 unfold Yc itoaB
 simp only [ByteArray.data_append,Array.toList_append,h2]
 simp [hdrT,uns,siteW]
def wordy (w:List UInt8):Prop:=(32:UInt8) ∉ w ∧ (10:UInt8) ∉ w
theorem Jj {s:ByteArray} (h:Qn s = true):wordy s.data.toList ∧ s.data.toList ≠ []:=by
 unfold Qn at h
 simp only [Bool.and_eq_true,decide_eq_true_eq,List.all_eq_true,List.mem_range] at h
 obtain ⟨⟨h0,_⟩,h1⟩:=h
 have key:∀ c ∈ s.data.toList,48 ≤ c.toNat:=by
  intro c hc
  obtain ⟨i,hi,hx⟩:=List.mem_iff_getElem.1 hc
  have hi2:i < s.size:=by rw [Lib.size_eq];exact hi
  have h2:=h1 i hi2
  have h3:chAt s i = c.toNat:=by
   unfold chAt
   rw [getElem?_pos s i hi2]
   simp only [Option.getD_some]
   congr 1
  rw [h3] at h2
  unfold chOk QB at h2
  simp only [Bool.or_eq_true,Bool.and_eq_true,decide_eq_true_eq] at h2
  omega
 refine ⟨⟨fun h => ?_,fun h => ?_⟩,fun h => h0 (by rw [Lib.size_eq,h];rfl)⟩
 ·have:=key _ h;have e:(32:UInt8).toNat = 32:=rfl;omega
 ·have:=key _ h;have e:(10:UInt8).toNat = 10:=rfl;omega
theorem Qb2 (n:Nat):∀ c ∈ Lib.decDigits n,48 ≤ c.toNat:=by
 intro c hc
 obtain ⟨k,hk,hx⟩:=List.mem_iff_getElem.1 hc
 obtain ⟨d,hd⟩:=Lib.digit_of_decFrom _ 0 n (VI n) k c (by rw [List.getElem?_eq_getElem hk,hx])
 exact (Lib.digitVal_eq hd).1
theorem Qa0 (n:Int):wordy (Lib.itoa n):=by
 have key:∀ c ∈ Lib.itoa n,c.toNat = 45 ∨ 48 ≤ c.toNat:=by
  intro c hc
  unfold Lib.itoa at hc
  split at hc
  ·rcases List.mem_cons.1 hc with rfl|hc
   ·exact .inl rfl
   ·exact .inr (Qb2 _ c hc)
  ·exact .inr (Qb2 _ c hc)
 refine ⟨fun h => ?_,fun h => ?_⟩
 ·have:=key _ h;have e:(32:UInt8).toNat = 32:=rfl;omega
 ·have:=key _ h;have e:(10:UInt8).toNat = 10:=rfl;omega
theorem QgS {c d:UInt8} (hcd:d ≠ c):∀ {L:List (List UInt8)},(∀ l ∈ L,d ∉ l) → d ∉ uns c L
 | [],_ => by simp [uns]
 | [l],h => h l (by simp)
 | l :: a :: r,h => by
  rw [ZI (by simp)]
  simp only [List.mem_append,List.mem_cons,not_or]
  exact ⟨h l (by simp),hcd,QgS hcd fun x hx => h x (by simp [hx])⟩
theorem QaD {s:Ste} (h:Qn s.name = true):spl 32 (hdrT s) = [siteW,s.name.data.toList,Lib.itoa s.least] ∧ (10:UInt8) ∉ hdrT s ∧ hdrT s ≠ []:=by
 obtain ⟨h1,h2⟩:=Jj h
 have h3:=Qa0 s.least
 refine ⟨Qal (by simp) ?_,QgS (by decide) ?_,?_⟩
 ·intro l hl
  simp only [List.mem_cons,List.not_mem_nil,or_false] at hl
  rcases hl with rfl|rfl|rfl
  ·decide
  ·exact h1.1
  ·exact h3.1
 ·intro l hl
  simp only [List.mem_cons,List.not_mem_nil,or_false] at hl
  rcases hl with rfl|rfl|rfl
  ·decide
  ·exact h1.2
  ·exact h3.2
 ·simp [hdrT,uns,siteW]
theorem Qes {t:Tb} (h:Qn t.name = true):spl 32 (tbT t) = [turbW,t.name.data.toList,Lib.itoa t.x,Lib.itoa t.y] ∧ (10:UInt8) ∉ tbT t ∧ tbT t ≠ []:=by
 obtain ⟨h1,h2⟩:=Jj h
 have h3:=Qa0 t.x
 have h4:=Qa0 t.y
 refine ⟨Qal (by simp) ?_,QgS (by decide) ?_,?_⟩
 ·intro l hl
  simp only [List.mem_cons,List.not_mem_nil,or_false] at hl
  rcases hl with rfl|rfl|rfl|rfl
  ·decide
  ·exact h1.1
  ·exact h3.1
  ·exact h4.1
 ·intro l hl
  simp only [List.mem_cons,List.not_mem_nil,or_false] at hl
  rcases hl with rfl|rfl|rfl|rfl
  ·decide
  ·exact h1.2
  ·exact h3.2
  ·exact h4.2
 ·simp [tbT,uns,turbW]
theorem QbC {n:Int} (h:n.natAbs < 1000000000):numR (Lib.itoa n) = (n,true):=QaP.2 ⟨rfl,h⟩
theorem Qe7 {s0 s:Ste} (h:Qn s.name = true) (hl:s.least.natAbs < 1000000000):lineS 0 s0 (hdrT s) = some { s0 with name:=s.name,least:=s.least }:=by
 unfold lineS
 rw [if_pos rfl,(QaD h).1]
 have:hdrL [siteW,s.name.data.toList,Lib.itoa s.least] = some (s.name,s.least):=by
  show (if siteW = siteW ∧ s.name.data.toList ≠ [] ∧ (numR (Lib.itoa s.least)).2 = true then some (bs s.name.data.toList,(numR (Lib.itoa s.least)).1) else none) = _
  rw [QbC hl,if_pos ⟨rfl,(Jj h).2,rfl⟩]
 rw [this];rfl
theorem QnH {k:Nat} (hk:k ≠ 0) {s0:Ste} {t:Tb} (h:Qn t.name = true) (hx:t.x.natAbs < 1000000000) (hy:t.y.natAbs < 1000000000):lineS k s0 (tbT t) = some { s0 with tbs:=s0.tbs ++ [t] }:=by
 unfold lineS
 rw [if_neg hk,(Qes h).1]
 have:tbL2 [turbW,t.name.data.toList,Lib.itoa t.x,Lib.itoa t.y] = some t:=by
  show (if turbW = turbW ∧ t.name.data.toList ≠ [] ∧ (numR (Lib.itoa t.x)).2 = true ∧ (numR (Lib.itoa t.y)).2 = true then some (⟨bs t.name.data.toList,(numR (Lib.itoa t.x)).1,(numR (Lib.itoa t.y)).1⟩:Tb) else none) = _
  rw [QbC hx,QbC hy,if_pos ⟨rfl,(Jj h).2,rfl,rfl⟩]
 rw [this];rfl
theorem Qdl:∀ (l:List Tb) (k:Nat) (s0:Ste) (r:List (List UInt8)),k ≠ 0 → r ≠ [] → (∀ t ∈ l,Qn t.name = true ∧ t.x.natAbs < 1000000000 ∧ t.y.natAbs < 1000000000) →
  parL k s0 (l.map tbT ++ r) = parL (k + l.length) { s0 with tbs:=s0.tbs ++ l } r
 | [],k,s0,r,_,_,_ => by simp
 | t :: l,k,s0,r,hk,hr,h => by
  obtain ⟨h1,h2,h3⟩:=h t (by simp)
  rw [List.map_cons,List.cons_append,Z0 (QnH hk h1 h2 h3) (by simp [hr]),Qdl l (k + 1) _ r (by omega) hr fun x hx => h x (by simp [hx])]
  congr 1
  ·simp;omega
  ·simp
theorem QeO {s:Ste} (h:Qx s = 0):Qn s.name = true ∧ s.least.natAbs < 1000000000 ∧ ∀ t ∈ s.tbs,Qn t.name = true ∧ t.x.natAbs < 1000000000 ∧ t.y.natAbs < 1000000000:=by
 obtain ⟨hn,hle,hln,hin⟩:=Yb h
 refine ⟨hn,by omega,fun t ht => ?_⟩
 obtain ⟨i,hi,e2⟩:=List.mem_iff_getElem.1 ht
 obtain ⟨p1,p2,_⟩:=YV (hin i t hi (List.getElem?_eq_some_iff.2 ⟨hi,e2⟩))
 unfold ptIn at p2
 have p3:-1000 ≤ t.x ∧ t.x ≤ 1000 ∧ -1000 ≤ t.y ∧ t.y ≤ 1000:=p2
 exact ⟨p1,by omega,by omega⟩
theorem QgY {s:Ste} (h:Qx s = 0):∀ l ∈ Q2 s,(10:UInt8) ∉ l:=by
 obtain ⟨h1,_,h3⟩:=QeO h
 intro l hl
 rcases List.mem_cons.1 hl with rfl|hl
 ·exact (QaD h1).2.1
 ·obtain ⟨t,ht,rfl⟩:=List.mem_map.1 hl
  exact (Qes (h3 t ht).1).2.1
theorem Qdm {s:Ste} (h:Qx s = 0):spl 10 (steL s) = Q2 s ++ [[]]:=by
 refine Qal (by simp) fun l hl => ?_
 rcases List.mem_append.1 hl with hl|hl
 ·exact QgY h l hl
 ·simp at hl;rw [hl];simp
theorem QmJ {s:Ste} (h:Qx s = 0) {r:List (List UInt8)} (hr:r ≠ []):parL 0 ste0 (Q2 s ++ r) = parL (1 + s.tbs.length) s r:=by
 obtain ⟨h1,h2,h3⟩:=QeO h
 unfold Q2
 rw [List.cons_append,Z0 (Qe7 h1 h2) (by simp [hr]),Qdl s.tbs 1 _ r (by decide) hr h3]
 rfl
theorem QhW {s:Ste} (h:Qx s = 0) (hl:(steL s).length ≤ 1000000):parE (steL s) = 0 ∧ parN (steL s) = 0 ∧ parS (steL s) = s:=by
 have hne:steL s ≠ []:=by
  intro e
  have:=Qdm h
  rw [e] at this
  have:=congrArg List.length this
  simp [spl,Q2] at this
 have hp:parL 0 ste0 (spl 10 (steL s)) = (some s,1 + s.tbs.length):=by
  rw [Qdm h,QmJ h (by simp)]
  simp [parL]
 unfold parE parN parS
 rw [if_neg (by omega),if_neg hne,if_neg (by omega),if_neg hne,if_neg (by omega),if_neg hne,hp]
 refine ⟨h,?_,?_⟩
 ·show (if Qx s = 0 then 0 else _) = 0
  rw [if_pos h]
 ·show (if Qx s = 0 then s else _) = s
  rw [if_pos h]
theorem Qlc {s:Ste} (h:Qx s = 0) (hl:(steL s).length ≤ 1000000):(steL s).length ≠ 0 ∧ parE ((steL s).take ((steL s).length - 1)) = 26 ∧ parN ((steL s).take ((steL s).length - 1)) = s.tbs.length:=by
 obtain ⟨h1,h2,h3⟩:=QeO h
 have hL:Q2 s ≠ []:=by simp [Q2]
 have e:steL s = uns 10 (Q2 s) ++ [10]:=QiT 10 hL
 have hlen:(steL s).length = (uns 10 (Q2 s)).length + 1:=by rw [e];simp
 have ht:(steL s).take ((steL s).length - 1) = uns 10 (Q2 s):=by
  rw [hlen,Nat.add_sub_cancel,e,List.take_left]
 rw [ht]
 have hs:spl 10 (uns 10 (Q2 s)) = Q2 s:=Qal hL (QgY h)
 have hne:uns 10 (Q2 s) ≠ []:=by
  unfold Q2
  cases s.tbs with
  | nil => exact (QaD h1).2.2
  | cons t l => rw [List.map_cons,ZI (by simp)];simp
 have hp:parL 0 ste0 (Q2 s) = (none,s.tbs.length):=by
  rcases List.eq_nil_or_concat s.tbs with e0|⟨l,t,e0⟩
  ·unfold Q2
   rw [e0]
   have:=(QaD h1).2.2
   simp [parL,this]
  ·have ht:=h3 t (by rw [e0];simp)
   have hl2:∀ x ∈ l,Qn x.name = true ∧ x.x.natAbs < 1000000000 ∧ x.y.natAbs < 1000000000:=fun x hx => h3 x (by rw [e0];simp [hx])
   unfold Q2
   rw [e0]
   simp only [List.concat_eq_append,List.map_append,List.map_cons,List.map_nil,List.length_append,List.length_cons,List.length_nil]
   rw [Z0 (Qe7 h1 h2) (by simp),Qdl l 1 _ _ (by decide) (by simp) hl2]
   have:=(Qes ht.1).2.2
   simp [parL,this]
   omega
 refine ⟨by omega,?_,?_⟩
 ·unfold parE
  rw [if_neg (by omega),if_neg hne,hs,hp];rfl
 ·unfold parN
  rw [if_neg (by omega),if_neg hne,hs,hp];rfl
theorem Qej {k:Nat} {s0 s:Ste} {w:List UInt8} (h:lineS k s0 w = some s):if k = 0 then s.tbs = s0.tbs ∧ w = hdrT s else s.name = s0.name ∧ s.least = s0.least ∧ ∃ t,s.tbs = s0.tbs ++ [t] ∧ w = tbT t:=by
 have hu:=QeT 32 w
 have num:∀ {c:List UInt8},(numR c).2 = true → c = Lib.itoa (numR c).1:=fun {c} hc => (QaP.1 (show numR c = ((numR c).1,true) by rw [← hc])).1
 unfold lineS at h
 by_cases hk:k = 0
 ·rw [if_pos hk] at h ⊢
  cases hh:hdrL (spl 32 w) with
  | none => rw [hh] at h;cases h
  | some p =>
   rw [hh] at h
   cases h
   unfold hdrL at hh
   split at hh
   ·rename_i a b c hs
    split at hh
    ·rename_i hc
     cases hh
     obtain ⟨rfl,_,h3⟩:=hc
     refine ⟨rfl,?_⟩
     rw [← hu,hs]
     unfold hdrT
     rw [← num h3]
    ·cases hh
   ·cases hh
 ·rw [if_neg hk] at h ⊢
  cases hh:tbL2 (spl 32 w) with
  | none => rw [hh] at h;cases h
  | some p =>
   rw [hh] at h
   cases h
   unfold tbL2 at hh
   split at hh
   ·rename_i a b c d hs
    split at hh
    ·rename_i hc
     cases hh
     obtain ⟨rfl,_,h3,h4⟩:=hc
     refine ⟨rfl,rfl,_,rfl,?_⟩
     rw [← hu,hs]
     unfold tbT
     rw [← num h3,← num h4]
    ·cases hh
   ·cases hh
theorem Qfd:∀ (L:List (List UInt8)) (k:Nat) (s0 s:Ste) (n:Nat),k ≠ 0 → L ≠ [] → parL k s0 L = (some s,n) → s.name = s0.name ∧ s.least = s0.least ∧ ∃ l,s.tbs = s0.tbs ++ l ∧ L = l.map tbT ++ [[]]
 | [],_,_,_,_,_,h,_ => absurd rfl h
 | w :: r,k,s0,s,n,hk,_,h => by
  by_cases hr:r = []
  ·subst hr
   by_cases hw:w = []
   ·subst hw
    simp [parL] at h
    obtain ⟨rfl,_⟩:=h
    exact ⟨rfl,rfl,[],by simp,rfl⟩
   ·simp [parL,hw] at h
  ·cases hl:lineS k s0 w with
   | none => rw [Qbq hl hr] at h;cases h
   | some s1 =>
    rw [Z0 hl hr] at h
    have hb:=Qej hl
    rw [if_neg hk] at hb
    obtain ⟨b1,b2,t,b3,b4⟩:=hb
    obtain ⟨c1,c2,l,c3,c4⟩:=Qfd r (k + 1) s1 s n (by omega) hr h
    exact ⟨c1.trans b1,c2.trans b2,t :: l,by rw [c3,b3];simp,by rw [b4,c4];simp⟩
theorem Qif {t:List UInt8} (h:parE t = 0):Qx (parS t) = 0 ∧ Yc (parS t) = ⟨t.toArray⟩:=by
 unfold parE at h
 split at h
 ·cases h
 rename_i h1
 split at h
 ·cases h
 rename_i h2
 cases hp:parL 0 ste0 (spl 10 t) with
 | mk o n =>
  rw [hp] at h
  cases o with
  | none => cases h
  | some s =>
   have hc:Qx s = 0:=h
   have hs:parS t = s:=by
    unfold parS
    rw [if_neg h1,if_neg h2,hp]
    show (if Qx s = 0 then s else ste0) = s
    rw [if_pos hc]
   rw [hs]
   refine ⟨hc,?_⟩
   rw [QeE]
   have key:Q2 s ++ [[]] = spl 10 t:=by
    have hu:=Qbj 10 t
    cases hl:spl 10 t with
    | nil => exact absurd hl hu
    | cons w r =>
     rw [hl] at hp
     by_cases hr:r = []
     ·subst hr
      by_cases hw:w = []
      ·subst hw
       simp [parL] at hp
       obtain ⟨rfl,_⟩:=hp
       exact absurd (show Qx ste0 = 0 from hc) (by decide)
      ·simp [parL,hw] at hp
     ·cases hls:lineS 0 ste0 w with
      | none => rw [Qbq hls hr] at hp;cases hp
      | some s1 =>
       rw [Z0 hls hr] at hp
       have hb:=Qej hls
       rw [if_pos rfl] at hb
       obtain ⟨c1,c2,l,c3,c4⟩:=Qfd r (0 + 1) s1 s n (by decide) hr hp
       have e1:s.tbs = l:=by rw [c3,hb.1];rfl
       have e2:hdrT s1 = hdrT s:=by unfold hdrT;rw [c1,c2]
       unfold Q2
       rw [e1,hb.2,e2,c4];rfl
   unfold steL
   rw [key,QeT]
end Go.Nac
namespace Go.Nac
open Ieee
theorem Qhq {u:Nat} (hu:u < 4294967296) {s:Bool} {m:Nat} {e:Int} (h:single.read u = .number s m e) (hm:m ≠ 0):single.nearest s m e = u:=by
 have hmod:u % 4294967296 = u:=Nat.mod_eq_of_lt hu
 have hw:single.word (u / 2147483648 % 2 == 1) (u % 2147483648) = u:=by
  unfold Format.word
  rw [JI]
  have:u / 2147483648 = 0 ∨ u / 2147483648 = 1:=by omega
  rcases this with h0|h0 <;> rw [h0] <;> simp <;> omega
 have hl24:=Qav h
 unfold Format.read at h
 rw [JI,Zb,YE,V6] at h
 simp only at h
 split at h
 ·rename_i hr
  simp only [Datum.number.injEq] at h
  obtain ⟨rfl,rfl,rfl⟩:=h
  unfold Format.nearest
  rw [if_neg hm,QaF,V6,Zb,YE]
  have hlog:(u % 2147483648).log2 ≤ 22:=by
   have:=(Nat.log2_lt hm (k:=23)).2 (by omega);omega
  have hlast:max (-149 + ((u % 2147483648).log2:Int) - ((23:Nat):Int)) (-149) = -149:=by omega
  simp only [hlast]
  have e1:((-149:Int) - -149).toNat = 0:=by omega
  rw [e1,Zy,Nat.zero_mul,Nat.zero_add,Nat.shiftLeft_zero,Nat.min_eq_left (by omega)]
  exact hw
 ·split at h
  ·rename_i hr1 hr2
   simp only [Datum.number.injEq] at h
   obtain ⟨rfl,rfl,rfl⟩:=h
   unfold Format.nearest
   rw [if_neg hm,QaF,V6,Zb,YE]
   have hlog:(8388608 + u % 2147483648 % 8388608).log2 = 23:=by
    rw [Nat.log2_eq_iff hm]
    omega
   rw [hlog]
   have hlast:max ((-149 + ((u % 2147483648 / 8388608 - 1:Nat):Int)) + ((23:Nat):Int) - ((23:Nat):Int)) (-149) = -149 + ((u % 2147483648 / 8388608 - 1:Nat):Int):=by omega
   simp only [hlast]
   have e1:((-149 + ((u % 2147483648 / 8388608 - 1:Nat):Int)) - (-149 + ((u % 2147483648 / 8388608 - 1:Nat):Int))).toNat = 0:=by omega
   have e2:((-149 + ((u % 2147483648 / 8388608 - 1:Nat):Int)) - -149).toNat = u % 2147483648 / 8388608 - 1:=by omega
   rw [e1,e2,Zy,Nat.shiftLeft_zero]
   have e3:(u % 2147483648 / 8388608 - 1) * 8388608 + (8388608 + u % 2147483648 % 8388608) = u % 2147483648:=by omega
   rw [e3,Nat.min_eq_left (by omega)]
   exact hw
  ·split at h <;> cases h
theorem QaL {x:Nat} {s:Bool} {m:Nat} {e:Int} (h:single.read x = .number s m e):plus0 x = if m = 0 then 0 else single.nearest s m e:=by
 obtain ⟨_,hp,_⟩:=QM h
 unfold plus0 Format.add
 have h0:single.read 0 = .number false 0 (-149):=by decide
 rw [h,h0]
 have hmin:min e (-149) = -149:=by omega
 obtain ⟨k,hk⟩:∃ k,k = (e - -149).toNat:=⟨_,rfl⟩
 have e0:signed false 0 ((-149:Int) - -149).toNat = 0:=by rw [Qy];simp
 have e1:(Datum.number s m e).sum (.number false 0 (-149)) = some (.number (if signed s m k = 0 then s && false else decide (signed s m k < 0)) (signed s m k).natAbs (-149)):=by
  show some (Datum.number (if signed s m (e - min e (-149)).toNat + signed false 0 ((-149:Int) - min e (-149)).toNat = 0 then s && false else decide (signed s m (e - min e (-149)).toNat + signed false 0 ((-149:Int) - min e (-149)).toNat < 0)) (signed s m (e - min e (-149)).toNat + signed false 0 ((-149:Int) - min e (-149)).toNat).natAbs (min e (-149))) = _
  rw [hmin,e0,Int.add_zero,← hk]
 rw [e1]
 show single.nearest _ _ _ = _
 rw [Qy]
 by_cases hm:m = 0
 ·subst hm
  rw [if_pos rfl]
  cases s <;> simp [Format.nearest,Format.word]
 ·rw [if_neg hm]
  have hpos:0 < m * 2 ^ k:=Nat.mul_pos (by omega) (Nat.pow_pos (by decide))
  have hn:=Qbm s m k (-149)
  have he:(-149:Int) + k = e:=by omega
  rw [he] at hn
  rw [← hn]
  cases s
  ·simp only [Bool.false_eq_true,if_false]
   generalize m * 2 ^ k = z at hpos ⊢
   rw [if_neg (by omega),decide_eq_false (by omega)]
   simp
  ·simp only [if_true]
   generalize m * 2 ^ k = z at hpos ⊢
   rw [if_neg (by omega),decide_eq_true (by omega)]
   simp
theorem QjP {u:Nat} (hu:u < 4294967296) (h:smpE u = 0) (hz:u ≠ 2147483648):plus0 u = u:=by
 obtain ⟨s,m,e,hr⟩:=V1 h
 rw [QaL hr]
 by_cases hm:m = 0
 ·rw [if_pos hm]
  unfold Format.read at hr
  rw [JI,Zb,YE,V6] at hr
  simp only at hr
  split at hr
  ·simp only [Datum.number.injEq] at hr
   omega
  ·split at hr
   ·simp only [Datum.number.injEq] at hr
    omega
   ·split at hr <;> cases hr
 ·rw [if_neg hm]
  exact Qhq hu hr hm
theorem QmM {x:Nat} (h:smpE x = 0):plus0 x ≠ 2147483648:=by
 obtain ⟨s,m,e,hr⟩:=V1 h
 rw [QaL hr]
 by_cases hm:m = 0
 ·rw [if_pos hm];decide
 ·rw [if_neg hm]
  intro hc
  obtain ⟨p1,p2,p3⟩:=QM hr
  obtain ⟨k,l,h1,_,_⟩:=Y8 s (Qav hr) p2 p3
  rw [hc] at h1
  have h2:single.read 2147483648 = .number true 0 (-149):=by decide
  rw [h2] at h1
  simp only [Datum.number.injEq] at h1
  have hpos:0 < m * 2 ^ k:=Nat.mul_pos (by omega) (Nat.pow_pos (by decide))
  omega
theorem Qc7 (x:Nat):plus0 x < 4294967296:=by
 unfold plus0
 cases h:single.add x 0 with
 | none => decide
 | some r => exact Format.add_lt single h
end Go.Nac
namespace Go.Nac
open Ieee
def be8 (n:Nat):List UInt8:=[UInt8.ofNat (n / 16777216),UInt8.ofNat (n / 65536),UInt8.ofNat (n / 256),UInt8.ofNat n]
def fours (l:List Nat):List UInt8:=l.flatMap be8
theorem Yl (n:Nat) (l:List Nat):fours (n :: l) = be8 n ++ fours l:=rfl
theorem YP (a b:List Nat):fours (a ++ b) = fours a ++ fours b:=by unfold fours;rw [List.flatMap_append]
theorem V5 (l:List Nat):(fours l).length = 4 * l.length:=by
 induction l with
 | nil => rfl
 | cons n l ih => rw [Yl,List.length_append,ih,List.length_cons];have:(be8 n).length = 4:=rfl;omega
theorem Qsq (n:Nat):(be8 n).map bt = be4 n:=by
 have w:∀ z:Int,IntKind.u8.wrap z = z % 256:=fun _ => rfl
 have o:∀ a:Nat,((UInt8.ofNat a).toNat:Int) = ((a % 256:Nat):Int):=fun a => by rw [UInt8.toNat_ofNat']
 have f:∀ d:Nat,(n:Int).fdiv d = ((n / d:Nat):Int):=fun d => by rw [Int.fdiv_eq_ediv_of_nonneg _ (by omega)];rfl
 have f1:=f 16777216
 have f2:=f 65536
 have f3:=f 256
 unfold be8
 rw [Qgz]
 simp only [List.map_cons,List.map_nil,bt_eq,o,w]
 have g1:(n:Int).fdiv 16777216 = ((n / 16777216:Nat):Int):=f1
 have g2:(n:Int).fdiv 65536 = ((n / 65536:Nat):Int):=f2
 have g3:(n:Int).fdiv 256 = ((n / 256:Nat):Int):=f3
 rw [g1,g2,g3]
 rfl
theorem Qo8 (l:List Nat):(fours l).map bt = putB (l.map fun n:Nat => (n:Int)):=by
 induction l with
 | nil => rfl
 | cons n l ih => rw [Yl,List.map_append,ih,Qsq];rfl
theorem Qob {n:Nat} (h:n < 4294967296) (r:List UInt8):num4 (be8 n ++ r) = n:=by
 show (((UInt8.ofNat (n / 16777216)).toNat * 256 + (UInt8.ofNat (n / 65536)).toNat) * 256 + (UInt8.ofNat (n / 256)).toNat) * 256 + (UInt8.ofNat n).toNat = n
 simp only [UInt8.toNat_ofNat']
 omega
theorem Qpj {a b c d:UInt8}:be8 (((a.toNat * 256 + b.toNat) * 256 + c.toNat) * 256 + d.toNat) = [a,b,c,d]:=by
 have ha:=u8_lt a
 have hb:=u8_lt b
 have hc:=u8_lt c
 have hd:=u8_lt d
 have key:∀ (n:Nat) (x:UInt8),n % 256 = x.toNat → UInt8.ofNat n = x:=fun n x h => UInt8.toNat_inj.1 (by rw [UInt8.toNat_ofNat'];exact h)
 unfold be8
 rw [key _ a (by omega),key _ b (by omega),key _ c (by omega),key _ d (by omega)]
theorem Qhs {l r:List UInt8} (h:4 ≤ l.length):num4 (l ++ r) = num4 l:=by
 obtain ⟨a,b,c,d,t,rfl⟩:=QeA h
 rfl
theorem Z1 {l:List UInt8} {n:Nat} (h:4 ≤ l.length) (hn:4 ≤ n):num4 (l.take n) = num4 l:=by
 have:=Qhs (l:=l.take n) (r:=l.drop n) (by rw [List.length_take];omega)
 rw [List.take_append_drop] at this
 exact this.symm
theorem Qkd (l:List Nat) (i:Nat):(fours l).drop (4 * i) = fours (l.drop i):=by
 induction i generalizing l with
 | zero => rfl
 | succ i ih =>
  cases l with
  | nil => simp [fours]
  | cons n l =>
   rw [List.drop_succ_cons,← ih,Yl]
   have e:4 * (i + 1) = (be8 n).length + 4 * i:=by have:(be8 n).length = 4:=rfl;omega
   rw [e,List.drop_append]
   simp
theorem Jm {l:List Nat} {i n:Nat} (h:l[i]? = some n) (hn:n < 4294967296):num4 ((fours l).drop (4 * i)) = n:=by
 obtain ⟨h1,h2⟩:=List.getElem?_eq_some_iff.1 h
 rw [Qkd,List.drop_eq_getElem_cons h1,h2,Yl,Qob hn]
theorem Qjn {l:List Nat} {k:Nat} (hk:k ≤ l.length) (h:∀ n ∈ l,n < 4294967296):smpL (fours l) k = l.take k:=by
 induction k with
 | zero => rfl
 | succ k ih =>
  have h1:l[k]? = some l[k]:=List.getElem?_eq_getElem (by omega)
  rw [YT,ih (by omega),Jm h1 (h _ (List.getElem_mem _)),List.take_succ_eq_append_getElem (by omega)]
theorem QaM:∀ (k:Nat) (t:List UInt8),t.length = 4 * k → fours (smpL t k) = t:=by
 intro k
 have key:∀ (j:Nat) (t:List UInt8),4 * j ≤ t.length → fours (smpL t j) = t.take (4 * j):=by
  intro j
  induction j with
  | zero => intro t _;rfl
  | succ j ih =>
   intro t ht
   rw [YT,YP,ih t (by omega)]
   obtain ⟨a,b,c,d,r,hr⟩:=QeA (l:=t.drop (4 * j)) (by rw [List.length_drop];omega)
   have e1:num4 (t.drop (4 * j)) = ((a.toNat * 256 + b.toNat) * 256 + c.toNat) * 256 + d.toNat:=by rw [hr];rfl
   have e2:fours [num4 (t.drop (4 * j))] = [a,b,c,d]:=by
    rw [e1,Yl,Qpj];rfl
   rw [e2]
   have e3:t = t.take (4 * j) ++ (a :: b :: c :: d :: r):=by rw [← hr,List.take_append_drop]
   have e4:(t.take (4 * j)).length = 4 * j:=by rw [List.length_take];omega
   generalize t.take (4 * j) = p at e3 e4 ⊢
   rw [e3,show 4 * (j + 1) = p.length + 4 by omega,List.take_append,List.take_of_length_le (by omega)]
   simp
 intro t ht
 rw [key k t (by omega),List.take_of_length_le (by omega)]
def gpN (l:List Spn):List Nat:=l.flatMap fun g => [g.fr.toNat,g.to_.toNat]
def numsN (x:Ser):List Nat:=[x.start.toNat,x.samples.length,x.gaps.length] ++ (gpN x.gaps ++ x.samples.map plus0)
def encL (x:Ser):List UInt8:=[87,73,78,68,UInt8.ofNat x.name.size] ++ (x.name.data.toList ++ fours (numsN x))
theorem YB (l:List Spn):(gpN l).length = 2 * l.length:=by
 induction l with
 | nil => rfl
 | cons a l ih =>
  have e:gpN (a :: l) = [a.fr.toNat,a.to_.toNat] ++ gpN l:=rfl
  rw [e,List.length_append,ih];simp;omega
theorem Qi8:∀ (l:List Spn) (i:Nat) (g:Spn),l[i]? = some g → (gpN l)[2 * i]? = some g.fr.toNat ∧ (gpN l)[2 * i + 1]? = some g.to_.toNat
 | [],i,g,h => by simp at h
 | a :: l,0,g,h => by
  simp at h
  subst h
  exact ⟨rfl,rfl⟩
 | a :: l,i + 1,g,h => by
  have e:gpN (a :: l) = a.fr.toNat :: a.to_.toNat :: gpN l:=rfl
  rw [e]
  have:=Qi8 l i g (by simpa using h)
  rw [show 2 * (i + 1) = 2 * i + 1 + 1 by omega]
  simpa using this
theorem JE (x:Ser):(encL x).length = 17 + x.name.size + 8 * x.gaps.length + 4 * x.samples.length:=by
 unfold encL numsN
 simp only [List.length_append,V5,YB,List.length_cons,List.length_nil,List.length_map,Lib.size_eq]
 omega
structure SerOk (x:Ser):Prop where
 chk:Ql x = 0
 nm:x.name.size ≤ 24
 st:0 ≤ x.start ∧ x.start ≤ 999999999
 sl:x.samples.length ≤ 40000
 gl:x.gaps.length ≤ 1024
 sm:∀ y ∈ x.samples,smpE y = 0
 gp:∀ g ∈ x.gaps,0 ≤ g.fr ∧ g.fr < g.to_ ∧ g.to_ ≤ x.samples.length
theorem serN {x:Ser} (h:SerOk x):∀ n ∈ numsN x,n < 4294967296:=by
 obtain ⟨_,h1,h2,h3,h4,h5,h6⟩:=h
 intro n hn
 unfold numsN at hn
 rcases List.mem_append.1 hn with hn|hn
 ·simp only [List.mem_cons,List.not_mem_nil,or_false] at hn
  rcases hn with rfl|rfl|rfl <;> omega
 ·rcases List.mem_append.1 hn with hn|hn
  ·unfold gpN at hn
   obtain ⟨g,hg,hn⟩:=List.mem_flatMap.1 hn
   have:=h6 g hg
   simp only [List.mem_cons,List.not_mem_nil,or_false] at hn
   rcases hn with rfl|rfl <;> omega
  ·obtain ⟨y,_,rfl⟩:=List.mem_map.1 hn
   exact Qc7 y
theorem QlK {x:Ser} (h:SerOk x):encB x = (encL x).map bt:=by
 obtain ⟨_,h1,h2,h3,h4,h5,h6⟩:=h
 unfold encB hdrB encL numsN
 rw [List.map_append,List.map_append,Qo8]
 have e1:(([87,73,78,68,UInt8.ofNat x.name.size]:List UInt8).map bt) = [u8 87,u8 73,u8 78,u8 68] ++ [u8 (IntKind.u8.wrap x.name.size)]:=by
  have o:((UInt8.ofNat x.name.size).toNat:Int) = IntKind.u8.wrap x.name.size:=by
   have w:∀ z:Int,IntKind.u8.wrap z = z % 256:=fun _ => rfl
   rw [w,UInt8.toNat_ofNat'];rfl
  simp only [List.map_cons,List.map_nil,bt_eq,o]
  rfl
 have e2:(x.name.data.toList.map bt) = QI x.name:=rfl
 have e3:(gpN x.gaps).map (fun n:Nat => (n:Int)) = gapNs x.gaps:=by
  have:∀ l:List Spn,(∀ g ∈ l,0 ≤ g.fr ∧ g.fr < g.to_) → (gpN l).map (fun n:Nat => (n:Int)) = gapNs l:=by
   intro l
   induction l with
   | nil => intro _;rfl
   | cons a l ih =>
    intro hl
    have ha:=hl a (by simp)
    have e:gpN (a :: l) = [a.fr.toNat,a.to_.toNat] ++ gpN l:=rfl
    have e':gapNs (a :: l) = [a.fr,a.to_] ++ gapNs l:=rfl
    rw [e,e',List.map_append,ih fun g hg => hl g (by simp [hg])]
    simp only [List.map_cons,List.map_nil]
    rw [Int.toNat_of_nonneg (by omega),Int.toNat_of_nonneg (by omega)]
  exact this _ fun g hg => ⟨(h6 g hg).1,(h6 g hg).2.1⟩
 have e4:(x.samples.map plus0).map (fun n:Nat => (n:Int)) = bitNs x.samples:=by
  unfold bitNs
  rw [List.map_map]
  refine List.map_congr_left fun y _ => ?_
  have:=Qc7 y
  show ((plus0 y:Nat):Int) = IntKind.i64.wrap ((plus0 y:Nat):Int)
  exact (Qap ⟨by omega,by omega⟩).symm
 rw [e1,e2,List.map_append,List.map_append,e3,e4,List.map_cons,List.map_cons,List.map_cons,List.map_nil,Int.toNat_of_nonneg h2.1]
 simp only [List.append_assoc]
theorem Qn1 {x:Nat} (h:smpE x = 0):nz (plus0 x) = nz x:=by
 obtain ⟨s,m,e,hr⟩:=V1 h
 rw [QaL hr]
 have hx:nz x = (m != 0):=by unfold nz;rw [hr]
 rw [hx]
 by_cases hm:m = 0
 ·rw [if_pos hm,hm];decide
 ·rw [if_neg hm]
  obtain ⟨p1,p2,p3⟩:=QM hr
  obtain ⟨k,l,h1,_,_⟩:=Y8 s (Qav hr) p2 p3
  unfold nz
  rw [h1]
  have hpos:0 < m * 2 ^ k:=Nat.mul_pos (by omega) (Nat.pow_pos (by decide))
  have g1:(m * 2 ^ k != 0) = true:=by simp;omega
  have g2:(m != 0) = true:=by simp [hm]
  simp only [g1,g2]
def serP (x:Ser):Ser:=⟨x.name,x.start,x.samples.map plus0,x.gaps⟩
theorem Qny {x:Ser} (h:SerOk x):Ql (serP x) = 0:=by
 have h0:=h.chk
 have e1:(x.samples.map plus0).map smpE = x.samples.map smpE:=by
  rw [List.map_map]
  exact List.map_congr_left fun y hy => by rw [h.sm y hy];exact (Qbo (h.sm y hy)).1
 have e2:Vf (x.samples.map plus0) x.gaps = Vf x.samples x.gaps:=by unfold Vf;rw [List.length_map]
 have e3:Vw (x.samples.map plus0) x.gaps = Vw x.samples x.gaps:=by
  unfold Vw
  rw [List.length_map]
  have:∀ i ∈ List.range x.samples.length,(nz ((x.samples.map plus0).getD i 0) && gapAt x.gaps i) = (nz (x.samples.getD i 0) && gapAt x.gaps i):=by
   intro i hi
   have hi2:i < x.samples.length:=List.mem_range.1 hi
   rw [List.getD_eq_getElem?_getD,List.getD_eq_getElem?_getD,List.getElem?_map,List.getElem?_eq_getElem hi2]
   simp only [Option.map_some,Option.getD_some]
   rw [Qn1 (h.sm _ (List.getElem_mem _))]
  rw [show ((List.range x.samples.length).any fun i => nz ((x.samples.map plus0).getD i 0) && gapAt x.gaps i) = ((List.range x.samples.length).any fun i => nz (x.samples.getD i 0) && gapAt x.gaps i) from by
   rw [Bool.eq_iff_iff,List.any_eq_true,List.any_eq_true]
   exact ⟨fun ⟨i,hi,hx⟩ => ⟨i,hi,by rw [← this i hi];exact hx⟩,fun ⟨i,hi,hx⟩ => ⟨i,hi,by rw [this i hi];exact hx⟩⟩]
 unfold Ql at h0 ⊢
 unfold serP
 simp only [List.length_map,e1,e2,e3]
 exact h0
end Go.Nac
namespace Go.Nac
open Ieee
theorem Qae {x:Ser} (h:SerOk x) (r:List UInt8):nmN (encL x ++ r) = x.name.size ∧ (encL x ++ r).take 4 = [87,73,78,68]:=by
 refine ⟨?_,rfl⟩
 have e:nmN (encL x ++ r) = (UInt8.ofNat x.name.size).toNat:=rfl
 rw [e,UInt8.toNat_ofNat']
 have:=h.nm
 omega
theorem JS {x:Ser} (h:SerOk x) (r:List UInt8):dBody (encL x ++ r) = fours (numsN x) ++ r ∧ ((encL x ++ r).drop 5).take x.name.size = x.name.data.toList:=by
 have e:(encL x ++ r).drop 5 = x.name.data.toList ++ (fours (numsN x) ++ r):=by
  unfold encL
  simp
 have hl:x.name.data.toList.length = x.name.size:=(Lib.size_eq _).symm
 refine ⟨?_,?_⟩
 ·unfold dBody
  rw [(Qae h r).1,← List.drop_drop,e,← hl,List.drop_left]
 ·rw [e,← hl,List.take_left]
theorem Qbv {x:Ser} (h:SerOk x) (r:List UInt8) {i n:Nat} (hi:(numsN x)[i]? = some n):num4 ((fours (numsN x) ++ r).drop (4 * i)) = n:=by
 obtain ⟨h1,h2⟩:=List.getElem?_eq_some_iff.1 hi
 have hn:n < 4294967296:=serN h n (List.mem_of_getElem? hi)
 rw [List.drop_append_of_le_length (by rw [V5];omega),Qhs (by rw [List.length_drop,V5];omega)]
 exact Jm hi hn
theorem JQ {x:Ser} (h:SerOk x) (r:List UInt8):num4 (dBody (encL x ++ r)) = x.start.toNat ∧ dM (encL x ++ r) = x.samples.length ∧ dG (encL x ++ r) = x.gaps.length:=by
 have hb:=(JS h r).1
 have h0:=Qbv h r (i:=0) (n:=x.start.toNat) rfl
 have h1:=Qbv h r (i:=1) (n:=x.samples.length) rfl
 have h2:=Qbv h r (i:=2) (n:=x.gaps.length) rfl
 unfold dM dG
 rw [hb]
 exact ⟨h0,h1,h2⟩
theorem Qca {x:Ser} (h:SerOk x) (r:List UInt8):dTail (encL x ++ r) = fours (gpN x.gaps ++ x.samples.map plus0) ++ r:=by
 unfold dTail
 rw [(JS h r).1]
 have e:fours (numsN x) = fours [x.start.toNat,x.samples.length,x.gaps.length] ++ fours (gpN x.gaps ++ x.samples.map plus0):=by unfold numsN;rw [YP]
 rw [e,List.append_assoc]
 have hl:(fours [x.start.toNat,x.samples.length,x.gaps.length]).length = 12:=by rw [V5];rfl
 rw [← hl,List.drop_left]
theorem QeP {x:Ser} (h:SerOk x) {b:List UInt8} (hb:5 ≤ b.length) (hb2:b.length ≤ 4000000) (h4:b.take 4 = [87,73,78,68]):dE0 b = 0:=by
 unfold dE0
 rw [if_neg (by omega),if_neg (by omega),if_neg (fun g => g h4)]
theorem SerOk.len {x:Ser} (h:SerOk x):(encL x).length ≤ 200000:=by
 rw [JE]
 have:=h.nm;have:=h.sl;have:=h.gl
 omega
theorem QgV {x:Ser} (h:SerOk x):dSer (encL x) = serP x:=by
 have hr:=JQ h []
 have hb:=JS h []
 have ht:=Qca h []
 have hn:=(Qae h []).1
 simp only [List.append_nil] at hr hb ht hn
 unfold dSer serP
 have hN:=serN h
 have e1:smpL ((dTail (encL x)).drop (8 * dG (encL x))) (dM (encL x)) = x.samples.map plus0:=by
  rw [hr.2.1,hr.2.2,ht,YP]
  have hl:(fours (gpN x.gaps)).length = 8 * x.gaps.length:=by rw [V5,YB];omega
  rw [← hl,List.drop_left]
  have:=Qjn (l:=x.samples.map plus0) (k:=x.samples.length) (by simp) (fun n hn => by obtain ⟨y,_,rfl⟩:=List.mem_map.1 hn;exact Qc7 y)
  rw [this,List.take_of_length_le (by simp)]
 have e2:gapL (dTail (encL x)) (dG (encL x)) = x.gaps:=by
  rw [hr.2.2,ht]
  refine List.ext_getElem? fun i => ?_
  by_cases hi:i < x.gaps.length
  ·obtain ⟨g,hg⟩:∃ g,x.gaps[i]? = some g:=⟨_,List.getElem?_eq_getElem hi⟩
   obtain ⟨g1,g2⟩:=Qi8 _ _ _ hg
   have hp:=h.gp g (List.mem_of_getElem? hg)
   have hsl:=h.sl
   have k1:(gpN x.gaps ++ x.samples.map plus0)[2 * i]? = some g.fr.toNat:=by rw [List.getElem?_append_left (by rw [YB];omega)];exact g1
   have k2:(gpN x.gaps ++ x.samples.map plus0)[2 * i + 1]? = some g.to_.toNat:=by rw [List.getElem?_append_left (by rw [YB];omega)];exact g2
   have n1:=Jm k1 (by omega)
   have n2:=Jm k2 (by omega)
   rw [hg]
   unfold gapL
   rw [List.getElem?_map,List.getElem?_range hi]
   simp only [Option.map_some]
   rw [show 8 * i = 4 * (2 * i) by omega,show 4 * (2 * i) + 4 = 4 * (2 * i + 1) by omega,n1,n2,Int.toNat_of_nonneg (by omega),Int.toNat_of_nonneg (by omega)]
  ·rw [List.getElem?_eq_none (by rw [QaZ];omega),List.getElem?_eq_none (by omega)]
 rw [e1,e2,hn,hb.2,hr.1,Int.toNat_of_nonneg h.st.1]
theorem QqJ {x:Ser} (h:SerOk x):dE (encL x) = 0 ∧ decS (encL x) = serP x:=by
 have hr:=JQ h []
 have ht:=Qca h []
 have hn:=(Qae h [])
 simp only [List.append_nil] at hr ht hn
 have hl:=JE x
 have hE:dE (encL x) = 0:=by
  unfold dE
  rw [QeP h (by omega) (by have:=h.len;omega) hn.2,if_neg (fun g => g rfl),hn.1,if_neg (by omega)]
  have tl:(dTail (encL x)).length = 8 * dG (encL x) + 4 * dM (encL x):=by
   rw [ht,hr.2.1,hr.2.2,V5,List.length_append,YB,List.length_map];omega
  rw [if_neg (by omega),if_neg (fun g => g tl),QgV h,if_neg,Qny h]
  intro hm
  obtain ⟨y,hy,e⟩:=List.mem_map.1 (show 2147483648 ∈ x.samples.map plus0 from hm)
  exact QmM (h.sm y hy) e
 refine ⟨hE,?_⟩
 unfold decS
 rw [if_pos hE,QgV h]
theorem Qow {x:Ser} (h:SerOk x) (c:UInt8):dE (encL x ++ [c]) = 2:=by
 have hr:=JQ h [c]
 have ht:=Qca h [c]
 have hn:=Qae h [c]
 have hl:=JE x
 have hll:=h.len
 have hl2:(encL x ++ [c]).length = (encL x).length + 1:=by simp
 have tl:(dTail (encL x ++ [c])).length = 8 * dG (encL x ++ [c]) + 4 * dM (encL x ++ [c]) + 1:=by
  rw [ht,hr.2.1,hr.2.2,List.length_append,V5,List.length_append,YB,List.length_map];simp;omega
 unfold dE
 rw [QeP h (by omega) (by omega) hn.2,if_neg (fun g => g rfl),hn.1,if_neg (by omega),if_neg (by omega),if_pos (by omega)]
theorem QoP {x:Ser} (h:SerOk x):dE ((encL x).take ((encL x).length - 1)) = 29:=by
 have hn:=Qae h []
 have hr:=JQ h []
 have hb:=JS h []
 simp only [List.append_nil] at hn hr hb
 have hl:=JE x
 have hll:=h.len
 obtain ⟨b,hbd⟩:∃ b,b = (encL x).take ((encL x).length - 1):=⟨_,rfl⟩
 rw [← hbd]
 have hbl:b.length = (encL x).length - 1:=by rw [hbd,List.length_take];omega
 have b4:b.take 4 = [87,73,78,68]:=by rw [hbd,List.take_take,Nat.min_eq_left (by omega)];exact hn.2
 have bn:nmN b = x.name.size:=by
  rw [← hn.1]
  unfold nmN
  rw [hbd,List.getElem?_take_of_lt (by omega)]
 unfold dE
 rw [QeP h (by omega) (by omega) b4,if_neg (fun g => g rfl),bn]
 by_cases hs:b.length < 17 + x.name.size
 ·rw [if_pos hs]
 ·rw [if_neg hs]
  have bb:dBody b = (dBody (encL x)).take ((dBody (encL x)).length - 1):=by
   unfold dBody
   rw [bn,hn.1,hbd,List.drop_take,List.length_drop]
   congr 1
   omega
  have bl:(dBody (encL x)).length = 4 * (numsN x).length:=by rw [hb.1,V5]
  have nl:(numsN x).length = 3 + (2 * x.gaps.length + x.samples.length):=by unfold numsN;simp [YB];omega
  have m1:dM b = x.samples.length:=by
   rw [← hr.2.1]
   unfold dM
   rw [bb,List.drop_take,Z1 (by rw [List.length_drop];omega) (by omega)]
  have m2:dG b = x.gaps.length:=by
   rw [← hr.2.2]
   unfold dG
   rw [bb,List.drop_take,Z1 (by rw [List.length_drop];omega) (by omega)]
  have tl:(dTail b).length = 8 * x.gaps.length + 4 * x.samples.length - 1:=by
   unfold dTail
   rw [bb,List.length_drop,List.length_take]
   omega
  rw [m1,m2,if_pos (by omega)]
theorem Qqp {b:List UInt8} (hb:b.length ≤ 100000) (h:dE b = 0) (hs:SerOk (dSer b)):encL (dSer b) = b:=by
 unfold dE at h
 split at h
 ·rename_i h0;exact absurd h h0
 rename_i h0
 have h0:dE0 b = 0:=by simpa using h0
 split at h
 ·cases h
 rename_i h1
 split at h
 ·cases h
 rename_i h2
 split at h
 ·cases h
 rename_i h3
 split at h
 ·cases h
 rename_i h4
 have h3:(dTail b).length = 8 * dG b + 4 * dM b:=by simpa using h3
 have hW:b.take 4 = [87,73,78,68]:=by
  unfold dE0 at h0
  split at h0
  ·cases h0
  ·split at h0
   ·cases h0
   ·split at h0
    ·cases h0
    ·rename_i g;simpa using g
 obtain ⟨c,hc⟩:∃ c,b[4]? = some c:=⟨_,List.getElem?_eq_getElem (by omega)⟩
 have hn:nmN b = c.toNat:=by unfold nmN;rw [hc];rfl
 have hcl:=u8_lt c
 have hnl:((b.drop 5).take (nmN b)).length = nmN b:=by rw [List.length_take,List.length_drop];omega
 have hbl:12 ≤ (dBody b).length:=by unfold dBody;rw [List.length_drop];omega
 have e3:fours [num4 (dBody b),dM b,dG b] = (dBody b).take 12:=by
  have:[num4 (dBody b),dM b,dG b] = smpL ((dBody b).take 12) 3:=by
   unfold smpL dM dG
   show _ = [num4 (((dBody b).take 12).drop 0),num4 (((dBody b).take 12).drop 4),num4 (((dBody b).take 12).drop 8)]
   rw [List.drop_zero,List.drop_take,List.drop_take,Z1 (by omega) (by omega),Z1 (by rw [List.length_drop];omega) (by omega),Z1 (by rw [List.length_drop];omega) (by omega)]
  rw [this,QaM 3 _ (by rw [List.length_take];omega)]
 have eg:fours (gpN (gapL (dTail b) (dG b))) = (dTail b).take (8 * dG b):=by
  have key:∀ k,gpN (gapL (dTail b) k) = smpL (dTail b) (2 * k):=by
   intro k
   induction k with
   | zero => rfl
   | succ k ih =>
    rw [Qfl,show 2 * (k + 1) = 2 * k + 1 + 1 by omega,YT,YT,← ih]
    unfold gpN
    rw [List.flatMap_append]
    simp only [List.flatMap_cons,List.flatMap_nil,List.append_nil,Int.toNat_natCast,List.append_assoc,List.cons_append,List.nil_append]
    rw [show 4 * (2 * k) = 8 * k by omega,show 4 * (2 * k + 1) = 8 * k + 4 by omega]
  have k2:smpL (dTail b) (2 * dG b) = smpL ((dTail b).take (8 * dG b)) (2 * dG b):=by
   unfold smpL
   refine List.map_congr_left fun i hi => ?_
   have hi2:=List.mem_range.1 hi
   rw [List.drop_take,Z1 (by rw [List.length_drop];omega) (by omega)]
  rw [key,k2,QaM _ _ (by rw [List.length_take];omega)]
 have es:fours ((smpL ((dTail b).drop (8 * dG b)) (dM b)).map plus0) = (dTail b).drop (8 * dG b):=by
  have:(smpL ((dTail b).drop (8 * dG b)) (dM b)).map plus0 = smpL ((dTail b).drop (8 * dG b)) (dM b):=by
   conv => rhs;rw [← List.map_id (smpL ((dTail b).drop (8 * dG b)) (dM b))]
   refine List.map_congr_left fun u hu => ?_
   have h5:=hs.sm u hu
   refine QjP ?_ h5 (fun e => h4 (by rw [← e];exact hu))
   unfold smpL at hu
   obtain ⟨i,_,rfl⟩:=List.mem_map.1 hu
   exact YF _
  rw [this,QaM _ _ (by rw [List.length_drop];omega)]
 have et:fours (numsN (dSer b)) = dBody b:=by
  unfold numsN
  have f1:(dSer b).start.toNat = num4 (dBody b):=Int.toNat_natCast _
  have f2:(dSer b).samples.length = dM b:=Qa3 _ _
  have f3:(dSer b).gaps.length = dG b:=QaZ _ _
  rw [f1,f2,f3,YP,YP,e3]
  show _ ++ (fours (gpN (gapL (dTail b) (dG b))) ++ fours ((smpL ((dTail b).drop (8 * dG b)) (dM b)).map plus0)) = _
  rw [eg,es,List.take_append_drop]
  unfold dTail
  rw [List.take_append_drop]
 have hnm:(dSer b).name.data.toList = (b.drop 5).take (nmN b):=by show (⟨((b.drop 5).take (nmN b)).toArray⟩:ByteArray).data.toList = _;simp
 have hsz:(dSer b).name.size = nmN b:=by rw [Lib.size_eq,hnm,hnl]
 unfold encL
 rw [et,hnm,hsz]
 have e5:UInt8.ofNat (nmN b) = c:=UInt8.toNat_inj.1 (by rw [UInt8.toNat_ofNat',hn];omega)
 rw [e5]
 unfold dBody
 rw [← List.drop_drop,List.take_append_drop]
 have e6:b = b.take 4 ++ (c :: b.drop 5):=by
  obtain ⟨g1,g2⟩:=List.getElem?_eq_some_iff.1 hc
  have:b.drop 4 = c :: b.drop 5:=by rw [List.drop_eq_getElem_cons g1,g2]
  rw [← this,List.take_append_drop]
 conv => rhs;rw [e6,hW]
 rfl
end Go.Nac
set_option linter.unusedSimpArgs false
set_option linter.unnecessarySimpa false
set_option maxRecDepth 10000
namespace Go.Nac.L4
attribute [local congr] Zx VT ZC Vz VA Vt Zs ZD
section
variable {X:XRel}
theorem QdW (l:List Spn):Q X 147 [.fs (l.map Qb)] (.fn (.func 167) [] [.fp [.fs (l.map Qb)]]):=by
 intro M
 (refine Qd (cf:=L4.c147) rfl rfl fun hM hA => ?_;simp only [L4.c147,zO,zF,zT,zM,CX.i];rw [mk1 _ (by decide)];simp -implicitDefEqProofs (disch:=first|omega|(simp only [go_sem,seval];first|done|omega)) only [go_sem,seval])
 (all_goals (first|refine pfN hM ?_ ?_|refine pf0 hM ?_ ?_);all_goals first|(simp only [go_sem,seval,Qf]<;>omega)|skip;all_goals (try simp -implicitDefEqProofs (disch:=first|omega|(simp only [go_sem,seval];first|done|omega)) only [go_sem,seval]))
theorem QdP (l:List Spn) (hl:l.length ≤ 1048576):Yields X 167 [.fp [.fs (l.map Qb)]] (l.map Qb):=by
 intro i N hN hy
 have hpl:(l.map Qb).length = l.length:=by simp
 refine Qd (cf:=c167) rfl rfl fun hM hA => ?_
 have hi:i < (N 0).length:=by simp only [lowL,PV.low] at hA;exact hA.1
 simp only [c167,zO,zF,zT,zM,CX.i]
 rw [mk2 _ (by decide)]
 simp -implicitDefEqProofs (disch:=first|omega|(simp only [go_sem,seval];first|done|omega)) only [go_sem,seval]
 refine Qm (α:=Nat) 0 (fun k => k ≤ l.length) (fun k => N k) (fun k => [(0,.yl i),(5,.fs (l.map Qb)),(6,.I l.length),(7,.I k)]) (fun k => l.length - k) (Nat.zero_le _) rfl rfl ?_
 intro k hk
 have hk0:=hN k (by omega)
 by_cases hlt:k < l.length
 ·obtain ⟨x,h1⟩:∃ x,l[k]? = some x:=⟨_,List.getElem?_eq_getElem hlt⟩
  have hp:(l.map Qb)[k]? = some (Qb x):=by simp [h1]
  have hk1:=hN (k + 1) (by omega)
  simp -implicitDefEqProofs (disch:=first|omega|(simp only [go_sem,seval,hlt,h1,Qj];first|done|omega)) only [go_sem,seval,hlt,h1,Qj]
  refine QL (hy k _ _ hp) ?_
  simp -implicitDefEqProofs (disch:=first|omega|(simp only [go_sem,seval];first|done|omega)) only [go_sem,seval]
  refine Qr hk1.2 (by omega) 0 (by simp) Yw (Qv ?_) ?_
  ·have:i < (N (k + 1)).length:=by omega
   simp only [go_sem,seval,this,Nat.add_zero,Qf]
  ·simp -implicitDefEqProofs (disch:=first|omega|(simp only [go_sem,seval];first|done|omega)) only [go_sem,seval]
   exact again' (k + 1) (by omega) (by omega) rfl rfl
 ·simp -implicitDefEqProofs (disch:=first|omega|(simp only [go_sem,seval,hlt];first|done|omega)) only [go_sem,seval,hlt]
  have e:l.length = k:=by omega
  rw [e]
  refine Vj Qb8 hk0.2 hk0.1.symm ?_ ?_
  ·simp -implicitDefEqProofs (disch:=first|omega|(simp only [go_sem,seval];first|done|omega)) only [go_sem,seval]
   rfl
  ·(simp only [go_sem,seval]<;>omega)
theorem QhY {l:List Spn} {g:FuncId} {cap:List PV} (hl:l.length ≤ 1048576) (hg:Yields X g cap (l.map Qb)) (M:List Blk) :
  ACall F X (.fn 179) [PV.nilS,.fn (.func g) [] cap] M (.os M.length l.length 0 l.length) (M ++ [.row true 2 l.length (l.map Qb)]):=by
 refine QbW (cf:=c179) rfl rfl fun hM hA => ?_
 simp only [c179,zO,zF,zT,zM,CX.i]
 rw [mk2 _ (by decide)]
 have hcap:lowL M.length cap:=by simp only [lowL,PV.low] at hA;exact hA.2.1.2
 simp -implicitDefEqProofs (disch:=first|omega|(simp only [go_sem,seval];first|done|omega)) only [go_sem,seval]
 have htl:∀ k,k ≤ l.length → (l.take k).length = k:=fun k hk => by simp;omega
 refine QjR hg (fun k => [.row true 1 0 [.os (M.length + 2) (l.take k).length 0 (l.take k).length],.row true 2 0 [],.row true 2 (l.take k).length ((l.take k).map Qb)]) hM (by simp -implicitDefEqProofs (disch:=first|omega|(simp only [go_sem,seval];first|done|omega)) only [go_sem,seval]) (fun k => rfl) ?_ ?_ ?_ ?_
 ·intro k _
  simp only [go_sem,seval,Qf]
  try simp
 ·refine (?_:lowL (M.length + (0 + 1 + 1 + 1)) _)
  simp only [go_sem,seval,QT (Nat.le_add_right M.length 3) cap hcap]
 ·intro k x E L LB hx hE
  obtain ⟨y,h1,rfl⟩:∃ y,l[k]? = some y ∧ Qb y = x:=by simpa using hx
  have hk:k < l.length:=(List.getElem?_eq_some_iff.1 h1).1
  have hs:(l.take (k + 1)) = l.take k ++ [y]:=by
   obtain ⟨h3,h4⟩:=List.getElem?_eq_some_iff.1 h1
   rw [List.take_succ_eq_append_getElem h3,h4]
  have ho:=htl k (by omega)
  simp only [hs]
  generalize l.take k = o at ho ⊢
  clear hs hx
  simp -implicitDefEqProofs (disch:=first|omega|(simp only [go_sem,seval,Qj];first|done|omega)) only [go_sem,seval,Qj]
  refine QsH (by rw [getMj];rfl) ?_
  have ho2:o.length ≤ 1048575:=by omega
  simp -implicitDefEqProofs (disch:=first|omega|(simp only [go_sem,seval,Qj];first|done|omega)) only [go_sem,seval,Qj]
  refine Qr6 [.row true 2 0 [.agg [.I y.fr,.I y.to_]]] ?_
  simp [Qb]
 ·simp -implicitDefEqProofs (disch:=first|omega|(simp only [go_sem,seval];first|done|omega)) only [go_sem,seval]
  refine Qey Q8 hM (j:=2) (xs:=l.map Qb) (k:=2) (v:=l.length) (by simp -implicitDefEqProofs (disch:=first|omega|(simp only [go_sem,seval,Nat.min_self];first|done|omega)) only [go_sem,seval,Nat.min_self]) (by simp) ?_
  ·(simp only [go_sem,seval,Qf]<;>omega)
theorem Qmd {l:List Spn} {g:FuncId} {cap:List PV} (hl:l.length ≤ 1048576) (hg:Yields X g cap (l.map Qb)) (M:List Blk) :
  ACall F X (.fn 165) [.fn (.func g) [] cap] M (.os M.length l.length 0 l.length) (M ++ [.row true 2 l.length (l.map Qb)]):=by
 refine QbW (cf:=c165) rfl rfl fun hM hA => ?_
 simp only [c165,zO,zF,zT,zM,CX.i]
 rw [mk1 _ (by decide)]
 simp -implicitDefEqProofs (disch:=first|omega|(simp only [go_sem,seval];first|done|omega)) only [go_sem,seval]
 refine QL (QhY hl hg _) ?_
 simp -implicitDefEqProofs (disch:=first|omega|(simp only [go_sem,seval];first|done|omega)) only [go_sem,seval]
 refine Qey Q8 hM (j:=1) (xs:=l.map Qb) (k:=2) (v:=l.length) (by simp -implicitDefEqProofs (disch:=first|omega|(simp only [go_sem,seval];first|done|omega)) only [go_sem,seval]) (by simp) ?_
 ·(simp only [go_sem,seval,Qf]<;>omega)
def SortX (X:XRel):Prop:=∀ (M:List Blk) (i ver:Nat) (d:List Spn),d.length ≤ 1048576 → M[i]? = some (.row true 2 ver (d.map Qb)) →
 X 166 [.os i ver 0 d.length,.fn (.func 148) [] []] M (.tup []) (M.set i (.row true 2 ver ((srtL Vr d).map Qb)))
theorem Qbg (hS:SortX X) {l:List Spn} {g:FuncId} {cap:List PV} (hl:l.length ≤ 1048576) (hg:Yields X g cap (l.map Qb)) :
  Q X 146 [.fn (.func g) [] cap,.fn (.func 148) [] []] (.fs ((srtL Vr l).map Qb)):=by
 intro M
 (refine Qd (cf:=L4.c146) rfl rfl fun hM hA => ?_;simp only [L4.c146,zO,zF,zT,zM,CX.i];rw [mk2 _ (by decide)];simp -implicitDefEqProofs (disch:=first|omega|(simp only [go_sem,seval];first|done|omega)) only [go_sem,seval])
 refine QL (Qmd hl hg _) ?_
 simp -implicitDefEqProofs (disch:=first|omega|(simp only [go_sem,seval];first|done|omega)) only [go_sem,seval]
 refine QL (QZ (hS _ _ _ l hl (by simp))) ?_
 have hsl:=QeS l
 simp -implicitDefEqProofs (disch:=first|omega|(simp only [go_sem,seval,hsl];first|done|omega)) only [go_sem,seval,hsl]
 (first|refine pfN hM ?_ ?_|refine pf0 hM ?_ ?_)
 ·simp -implicitDefEqProofs (disch:=first|omega|(simp only [go_sem,seval,hsl];first|done|omega)) only [go_sem,seval,hsl]
 ·(simp only [go_sem,seval,Qf]<;>omega)
theorem QbX (hS:SortX X) (l:List Spn) (hl:l.length ≤ 1000000):Q X 101 [.fs (l.map Qb)] (.fs ((Z3 l).map Qb)):=by
 intro M
 (refine Qd (cf:=L4.c101) rfl rfl fun hM hA => ?_;simp only [L4.c101,zO,zF,zT,zM,CX.i];rw [mk1 _ (by decide)];simp -implicitDefEqProofs (disch:=first|omega|(simp only [go_sem,seval];first|done|omega)) only [go_sem,seval])
 refine Qa (QdW l _) ?_
 simp -implicitDefEqProofs (disch:=first|omega|(simp only [go_sem,seval];first|done|omega)) only [go_sem,seval]
 refine Qa (Qbg hS (by omega) (QdP l (by omega)) _) ?_
 have hsl:=QeS l
 unfold Z3
 generalize srtL Vr l = d at hsl ⊢
 simp -implicitDefEqProofs (disch:=first|omega|(simp only [go_sem,seval,hsl];first|done|omega)) only [go_sem,seval,hsl]
 have hml:∀ k,k ≤ d.length → (QX (d.take k)).length ≤ k:=fun k hk => by have:=QbL (d.take k);simp at this;omega
 refine Qm (α:=Nat) 0 (fun k => k ≤ d.length) (fun k => M ++ [.row true 2 0 [],.row true 2 (QX (d.take k)).length ((QX (d.take k)).map Qb)])
  (fun k => [(4,.os (M.length + 1) (QX (d.take k)).length 0 (QX (d.take k)).length),(11,.fs (d.map Qb)),(12,.I l.length),(13,.I k)]) (fun k => d.length - k) (Nat.zero_le _) rfl rfl ?_
 intro k hk
 by_cases hlt:k < d.length
 ·obtain ⟨x,h1⟩:∃ x,d[k]? = some x:=⟨_,List.getElem?_eq_getElem hlt⟩
  have hs:=Qf0 h1
  have ho:=hml k hk
  have again:∀ o:List Spn,QX (d.take (k + 1)) = o → Again 52 (fun k => k ≤ d.length) (fun k => M ++ [.row true 2 0 [],.row true 2 (QX (d.take k)).length ((QX (d.take k)).map Qb)])
   (fun k => [(4,.os (M.length + 1) (QX (d.take k)).length 0 (QX (d.take k)).length),(11,.fs (d.map Qb)),(12,.I l.length),(13,.I k)]) (fun k => d.length - k) k
   (M ++ [.row true 2 0 [],.row true 2 o.length (o.map Qb)]) (mk 52 [(4,.os (M.length + 1) o.length 0 o.length),(11,.fs (d.map Qb)),(12,.I l.length),(13,.I (k + 1))]):=by
   rintro o rfl
   exact again' (k + 1) (by omega) (by omega) rfl rfl
  rw [hs] at again
  clear hs
  generalize QX (d.take k) = o at ho again ⊢
  have f0:((k:Int) < l.length) = True:=eq_true (by omega)
  simp -implicitDefEqProofs (disch:=first|omega|(simp only [go_sem,seval,hlt,f0,h1,Qj];first|done|omega)) only [go_sem,seval,hlt,f0,h1,Qj]
  rcases (by omega:o.length = 0 ∨ 1 ≤ o.length) with h0|h0
  ·have f1:((0:Int) < o.length) = False:=eq_false (by omega)
   simp -implicitDefEqProofs (disch:=first|omega|(simp only [go_sem,seval,f1,Qj];first|done|omega)) only [go_sem,seval,f1,Qj]
   refine Qr hM rfl 2 (by simp) (by first|done|(simp only [go_sem,seval,Qf] <;> first|done|(refine ⟨?_,?_⟩ <;> omega)|omega)) (Qv (by first|done|(simp only [go_sem,seval,Qf] <;> first|done|(refine ⟨?_,?_⟩ <;> omega)|omega))) ?_
   simp -implicitDefEqProofs (disch:=first|omega|(simp only [go_sem,seval];first|done|omega)) only [go_sem,seval]
   have:=again _ (Qmc h0)
   have ho:o = []:=List.eq_nil_of_length_eq_zero h0
   subst ho
   exact this
  ·have f1:((0:Int) < o.length) = True:=eq_true (by omega)
   obtain ⟨p,g1⟩:∃ p,o[o.length - 1]? = some p:=⟨_,List.getElem?_eq_getElem (by omega)⟩
   have e1:(o.length:Int) - 1 = ((o.length - 1:Nat):Int):=by omega
   have l1:o.length - 1 < o.length:=by omega
   simp -implicitDefEqProofs (disch:=first|omega|(simp only [go_sem,seval,f1,e1,g1,l1,Qj];first|done|omega)) only [go_sem,seval,f1,e1,g1,l1,Qj]
   have eset:(o.map Qb).set (o.length - 1) (.agg [.I p.fr,.I (max p.to_ x.to_)]) = (o.set (o.length - 1) ⟨p.fr,max p.to_ x.to_⟩).map Qb:=by rw [List.map_set];rfl
   refine QK ?_ ?_ <;> intro hc <;> (try simp only [decide_eq_true_eq,decide_eq_false_iff_not,Classical.not_not,Bool.not_eq_true,Bool.not_eq_true',Bool.not_eq_false',Bool.false_or,Bool.or_false,Bool.true_or,Bool.or_true,Bool.false_and,Bool.and_false,Bool.true_and,Bool.and_true] at hc) <;> simp -implicitDefEqProofs (disch:=first|omega|(simp only [go_sem,seval,f1,e1,g1,l1,Qj,Qe,eset,hc];first|done|omega)) only [go_sem,seval,f1,e1,g1,l1,Qj,Qe,eset,hc]
   ·refine Qr hM rfl 2 (by simp) (by first|done|(simp only [go_sem,seval,Qf] <;> first|done|(refine ⟨?_,?_⟩ <;> omega)|omega)) (Qv (by first|done|(simp only [go_sem,seval,Qf] <;> first|done|(refine ⟨?_,?_⟩ <;> omega)|omega))) ?_
    simp -implicitDefEqProofs (disch:=first|omega|(simp only [go_sem,seval];first|done|omega)) only [go_sem,seval]
    have:=again _ (QjX g1 hc)
    rw [List.length_set] at this
    exact this
   ·refine Qr hM rfl 2 (by simp) (by first|done|(simp only [go_sem,seval,Qf] <;> first|done|(refine ⟨?_,?_⟩ <;> omega)|omega)) (Qv (by first|done|(simp only [go_sem,seval,Qf] <;> first|done|(refine ⟨?_,?_⟩ <;> omega)|omega))) ?_
    simp -implicitDefEqProofs (disch:=first|omega|(simp only [go_sem,seval];first|done|omega)) only [go_sem,seval]
    have:=again _ (QhV g1 (by omega))
    simpa [Qb] using this
 ·have f0:((k:Int) < l.length) = False:=eq_false (by omega)
  simp -implicitDefEqProofs (disch:=first|omega|(simp only [go_sem,seval,hlt,f0];first|done|omega)) only [go_sem,seval,hlt,f0]
  have e:d.take k = d:=List.take_of_length_le (by omega)
  (first|refine pfN hM ?_ ?_|refine pf0 hM ?_ ?_)
  ·simp -implicitDefEqProofs (disch:=first|omega|(simp only [go_sem,seval,e];first|done|omega)) only [go_sem,seval,e]
   rw [List.take_of_length_le (by simp)]
  ·(simp only [go_sem,seval,Qf]<;>omega)
def Qtk (l:List Spn):List Spn:=Qd1 (Qem [1] l [])
def joinR (a b:List Spn):List Spn:=Qd1 (Qem [1,2,3] a b)
def meetR (a b:List Spn):List Spn:=Qd1 (Qem [3] a b)
def Qtm (a b:List Spn):List Spn:=Qd1 (Qem [1] a b)
theorem Jd (a b:List Spn) (hl:a.length ≤ 1048576):Q X 39 [.fs (a.map Qb),.fs (b.map Qb)] (.B (decide (a = b))):=by
 intro M
 (refine Qd (cf:=L4.c39) rfl rfl fun hM hA => ?_;simp only [L4.c39,zO,zF,zT,zM,CX.i];rw [mk2 _ (by decide)];simp -implicitDefEqProofs (disch:=first|omega|(simp only [go_sem,seval,-List.reduceReplicate];first|done|omega)) only [go_sem,seval,-List.reduceReplicate])
 refine QK ?_ ?_ <;> intro hc <;> simp only [decide_eq_true_eq,decide_eq_false_iff_not,Classical.not_not] at hc
 ·simp -implicitDefEqProofs (disch:=first|omega|(simp only [go_sem,seval,-List.reduceReplicate];first|done|omega)) only [go_sem,seval,-List.reduceReplicate]
  (first|refine pfN hM ?_ ?_|refine pf0 hM ?_ ?_)
  ·simp -implicitDefEqProofs (disch:=first|omega|(simp only [go_sem,seval,-List.reduceReplicate];first|done|omega)) only [go_sem,seval,-List.reduceReplicate]
   congr 2;symm;rw [decide_eq_false_iff_not];rintro rfl;exact hc rfl
  ·(simp only [go_sem,seval,-List.reduceReplicate]<;>omega)
 ·simp -implicitDefEqProofs (disch:=first|omega|(simp only [go_sem,seval,-List.reduceReplicate];first|done|omega)) only [go_sem,seval,-List.reduceReplicate]
  have hc:b.length = a.length:=by omega
  refine Qm (α:=Nat) 0 (fun k => k ≤ a.length ∧ a.take k = b.take k) (fun k => M) (fun k => [(0,.fs (a.map Qb)),(1,.fs (b.map Qb)),(5,.I k)]) (fun k => a.length - k) ⟨Nat.zero_le _,rfl⟩ rfl rfl ?_
  rintro k ⟨hk,hs⟩
  by_cases hlt:k < a.length
  ·obtain ⟨x,h1⟩:∃ x,a[k]? = some x:=⟨_,List.getElem?_eq_getElem hlt⟩
   obtain ⟨y,h2⟩:∃ y,b[k]? = some y:=⟨_,List.getElem?_eq_getElem (by omega)⟩
   simp -implicitDefEqProofs (disch:=first|omega|(simp only [go_sem,seval,-List.reduceReplicate,hlt,h1,h2,Qj];first|done|omega)) only [go_sem,seval,-List.reduceReplicate,hlt,h1,h2,Qj]
   refine QK ?_ ?_ <;> intro he
   ·simp -implicitDefEqProofs (disch:=first|omega|(simp only [go_sem,seval,-List.reduceReplicate];first|done|omega)) only [go_sem,seval,-List.reduceReplicate]
    (first|refine pfN hM ?_ ?_|refine pf0 hM ?_ ?_)
    ·simp -implicitDefEqProofs (disch:=first|omega|(simp only [go_sem,seval,-List.reduceReplicate];first|done|omega)) only [go_sem,seval,-List.reduceReplicate]
     congr 2;symm;rw [decide_eq_false_iff_not];rintro rfl
     rw [h1] at h2;cases h2;simp at he
    ·(simp only [go_sem,seval,-List.reduceReplicate]<;>omega)
   ·simp -implicitDefEqProofs (disch:=first|omega|(simp only [go_sem,seval,-List.reduceReplicate];first|done|omega)) only [go_sem,seval,-List.reduceReplicate]
    have hxy:x = y:=by cases x;cases y;simp at he;simp [he]
    refine again' (k + 1) ⟨by omega,?_⟩ (by omega) rfl rfl
    have g1:=VP (f:=id) h1;have g2:=VP (f:=id) h2
    simp only [List.map_id] at g1 g2
    rw [g1,g2,hs,hxy]
  ·simp -implicitDefEqProofs (disch:=first|omega|(simp only [go_sem,seval,-List.reduceReplicate,hlt];first|done|omega)) only [go_sem,seval,-List.reduceReplicate,hlt]
   (first|refine pfN hM ?_ ?_|refine pf0 hM ?_ ?_)
   ·simp -implicitDefEqProofs (disch:=first|omega|(simp only [go_sem,seval,-List.reduceReplicate];first|done|omega)) only [go_sem,seval,-List.reduceReplicate]
    congr 2;symm;rw [decide_eq_true_eq]
    rw [List.take_of_length_le (by omega),List.take_of_length_le (by omega)] at hs;exact hs
   ·(simp only [go_sem,seval,-List.reduceReplicate]<;>omega)
def zSpn:PV:=.agg [.I 0,.I 0]
theorem QcC (M:List Blk):ACall F X (.fn 152) [PV.nilS,.I 0] M PV.nilS M:=by
 (refine Qd (cf:=L4.c152) rfl rfl fun hM hA => ?_;simp only [L4.c152,zO,zF,zT,zM,CX.i];rw [mk2 _ (by decide)];simp -implicitDefEqProofs (disch:=first|omega|(simp only [go_sem,seval,-List.reduceReplicate,Qds,JX,QdT,Jg,Qao,Yt,Z2];first|done|omega)) only [go_sem,seval,-List.reduceReplicate,Qds,JX,QdT,Jg,Qao,Yt,Z2])
 have hres:∀ N:List Blk,VD M.length [(4,none)] PV.nilS M .ret (M ++ N) (mk 27 [(4,PV.nilS)]):=fun N => Qnj Q8 hM rfl (by simp -implicitDefEqProofs (disch:=first|omega|(simp only [go_sem,seval,-List.reduceReplicate];first|done|omega)) only [go_sem,seval,-List.reduceReplicate])
 exact hres _
theorem Qf7 (n:Nat) (h:1 ≤ n) (hn:n ≤ 1048576) (M:List Blk):ACall F X (.fn 152) [PV.nilS,.I n] M (.os M.length 0 0 0) (M ++ [.row true 2 0 (List.replicate n zSpn)]):=by
 refine QbW (cf:=c152) rfl rfl fun hM hA => ?_
 simp only [c152,zO,zF,zT,zM,CX.i]
 rw [mk2 _ (by decide)]
 have h1:¬ (n:Int) < 0:=by omega
 have h2:(0:Int) < n:=by omega
 have h3:((0:Int) ≤ 0) = True:=eq_true (by omega)
 have e1:(n:Int) - 0 = n:=by omega
 have e2:(0:Int) - 0 = 0:=by omega
 simp -implicitDefEqProofs (disch:=first|omega|(simp only [go_sem,seval,-List.reduceReplicate,Qds,JX,QdT,Jg,Qao,Yt,Z2,h1,h2,h3,e1,e2,natZ];first|done|omega)) only [go_sem,seval,-List.reduceReplicate,Qds,JX,QdT,Jg,Qao,Yt,Z2,h1,h2,h3,e1,e2,natZ]
 refine Qey Q8 hM (j:=1) rfl rfl ?_
 ·rw [QV]
  intro x hx
  rw [List.eq_of_mem_replicate hx]
  unfold zSpn
  (simp only [go_sem,seval,-List.reduceReplicate]<;>omega)
theorem Qeb (a b:List Spn) (hl:a.length + b.length ≤ 1000000):Q X 106 [.fs [.fs (a.map Qb),.fs (b.map Qb)]] (.fs ((a ++ b).map Qb)):=by
 intro M
 (refine Qd (cf:=L4.c106) rfl rfl fun hM hA => ?_;simp only [L4.c106,zO,zF,zT,zM,CX.i];rw [mk1 _ (by decide)];simp -implicitDefEqProofs (disch:=first|omega|(simp only [go_sem,seval,-List.reduceReplicate];first|done|omega)) only [go_sem,seval,-List.reduceReplicate])
 refine Qm (α:=Nat) 0 (fun k => k ≤ 2) (fun _ => M) (fun k => [(0,.fs [.fs (a.map Qb),.fs (b.map Qb)]),(3,.I (if k = 0 then 0 else if k = 1 then a.length else a.length + b.length)),(9,.fs [.fs (a.map Qb),.fs (b.map Qb)]),(10,.I 2),(11,.I k)]) (fun k => 2 - k) (by omega) rfl rfl ?_
 intro k hk
 rcases (by omega:k = 0 ∨ k = 1 ∨ k = 2) with rfl|rfl|rfl
 ·have f1:¬ (a.length:Int) < 0:=by omega
  simp -implicitDefEqProofs (disch:=first|omega|(simp only [go_sem,seval,-List.reduceReplicate,f1];first|done|omega)) only [go_sem,seval,-List.reduceReplicate,f1]
  exact again' (α:=Nat) 1 (by decide) (by decide) rfl rfl
 ·have f1:¬ (a.length:Int) + (b.length:Int) < 0:=by omega
  simp -implicitDefEqProofs (disch:=first|omega|(simp only [go_sem,seval,-List.reduceReplicate,f1];first|done|omega)) only [go_sem,seval,-List.reduceReplicate,f1]
  exact again' (α:=Nat) 2 (by decide) (by decide) rfl rfl
 ·simp -implicitDefEqProofs (disch:=first|omega|(simp only [go_sem,seval,-List.reduceReplicate,Int.lt_irrefl];first|done|omega)) only [go_sem,seval,-List.reduceReplicate,Int.lt_irrefl]
  rcases (by omega:a.length + b.length = 0 ∨ 1 ≤ a.length + b.length) with h0|h0
  ·have ha:a = []:=List.eq_nil_of_length_eq_zero (by omega)
   have hb:b = []:=List.eq_nil_of_length_eq_zero (by omega)
   subst ha;subst hb
   simp -implicitDefEqProofs (disch:=first|omega|(simp only [go_sem,seval,-List.reduceReplicate];first|done|omega)) only [go_sem,seval,-List.reduceReplicate]
   refine Qa (QcC M) ?_
   simp -implicitDefEqProofs (disch:=first|omega|(simp only [go_sem,seval,-List.reduceReplicate];first|done|omega)) only [go_sem,seval,-List.reduceReplicate]
   refine Qm (α:=Nat) 0 (fun k => k ≤ 2) (fun k => if k = 0 then M else M ++ [.row true 2 (k - 1) []]) (fun k => [(6,if k = 0 then PV.nilS else .os M.length (k - 1) 0 0),(25,.fs [.fs [],.fs []]),(26,.I 2),(27,.I k)]) (fun k => 2 - k) (by omega) rfl rfl ?_
   intro k hk
   rcases (by omega:k = 0 ∨ k = 1 ∨ k = 2) with rfl|rfl|rfl
   ·simp -implicitDefEqProofs (disch:=first|omega|(simp only [go_sem,seval,-List.reduceReplicate,Qfg];first|done|omega)) only [go_sem,seval,-List.reduceReplicate,Qfg]
    exact again' (α:=Nat) 1 (by decide) (by decide) rfl rfl
   ·simp -implicitDefEqProofs (disch:=first|omega|(simp only [go_sem,seval,-List.reduceReplicate,Qfm];first|done|omega)) only [go_sem,seval,-List.reduceReplicate,Qfm]
    exact again' (α:=Nat) 2 (by decide) (by decide) rfl rfl
   ·simp -implicitDefEqProofs (disch:=first|omega|(simp only [go_sem,seval,-List.reduceReplicate];first|done|omega)) only [go_sem,seval,-List.reduceReplicate]
    (first|refine pfN hM ?_ ?_|refine pf0 hM ?_ ?_)
    ·simp -implicitDefEqProofs (disch:=first|omega|(simp only [go_sem,seval,-List.reduceReplicate];first|done|omega)) only [go_sem,seval,-List.reduceReplicate]
    ·(simp only [go_sem,seval,-List.reduceReplicate]<;>omega)
  ·have e1:(a.length:Int) + (b.length:Int) = ((a.length + b.length:Nat):Int):=by omega
   rw [e1]
   refine QL (Qf7 _ h0 (by omega) M) ?_
   have oka:=Qbl a
   have okb:=Qbl b
   simp -implicitDefEqProofs (disch:=first|omega|(simp only [go_sem,seval,-List.reduceReplicate];first|done|omega)) only [go_sem,seval,-List.reduceReplicate]
   refine Qm (α:=Nat) 0 (fun k => k ≤ 2) (fun k => M ++ [.row true 2 k (if k = 0 then List.replicate (a.length + b.length) zSpn else if k = 1 then a.map Qb else a.map Qb ++ b.map Qb)]) (fun k => [(6,.os M.length k 0 (if k = 0 then 0 else if k = 1 then a.length else a.length + b.length)),(25,.fs [.fs (a.map Qb),.fs (b.map Qb)]),(26,.I 2),(27,.I k)]) (fun k => 2 - k) (by omega) rfl rfl ?_
   intro k hk
   rcases (by omega:k = 0 ∨ k = 1 ∨ k = 2) with rfl|rfl|rfl
   ·have hc:=Qm4 (M:=M ++ [.row true 2 0 (List.replicate (a.length + b.length) zSpn)]) (k:=2) (bytes:=16) (i:=M.length) (ver:=0) (len:=0) (xs:=List.replicate (a.length + b.length) zSpn) (ys:=a.map Qb) (by omega) oka (by omega) (by omega) (by simp;omega)
    simp only [List.take_zero,List.nil_append,List.length_map,Nat.zero_add] at hc
    simp -implicitDefEqProofs (disch:=first|omega|(simp only [go_sem,seval,-List.reduceReplicate,hc];first|done|omega)) only [go_sem,seval,-List.reduceReplicate,hc]
    refine again' (α:=Nat) 1 ?_ ?_ ?_ ?_
    ·decide
    ·decide
    ·rfl
    ·rfl
   ·simp -implicitDefEqProofs (disch:=first|omega|(simp only [go_sem,seval,-List.reduceReplicate,oka,okb];first|done|omega)) only [go_sem,seval,-List.reduceReplicate,oka,okb]
    refine again' (α:=Nat) 2 ?_ ?_ ?_ ?_
    ·decide
    ·decide
    ·rfl
    ·rfl
   ·simp -implicitDefEqProofs (disch:=first|omega|(simp only [go_sem,seval,-List.reduceReplicate,oka,okb];first|done|omega)) only [go_sem,seval,-List.reduceReplicate,oka,okb]
    (first|refine pfN hM ?_ ?_|refine pf0 hM ?_ ?_)
    ·simp -implicitDefEqProofs (disch:=first|omega|(simp only [go_sem,seval,-List.reduceReplicate];first|done|omega)) only [go_sem,seval,-List.reduceReplicate]
     simp
    ·(simp only [go_sem,seval,-List.reduceReplicate,Qf]<;>omega)
theorem Qhy (l:List Spn) (hl:l.length ≤ 1000000):Q X 20 [.fs (l.map Qb)] (.fs (l.map Qb)):=by
 intro M
 have ok:=Qbl l
 (refine Qd (cf:=L4.c20) rfl rfl fun hM hA => ?_;simp only [L4.c20,zO,zF,zT,zM,CX.i];rw [mk1 _ (by decide)];simp -implicitDefEqProofs (disch:=first|omega|(simp only [go_sem,seval,-List.reduceReplicate,ok];first|done|omega)) only [go_sem,seval,-List.reduceReplicate,ok])
 (all_goals (first|refine pfN hM ?_ ?_|refine pf0 hM ?_ ?_);all_goals first|(simp only [go_sem,seval,-List.reduceReplicate,Qf]<;>omega)|skip;all_goals (try simp -implicitDefEqProofs (disch:=first|omega|(simp only [go_sem,seval,-List.reduceReplicate];first|done|omega)) only [go_sem,seval,-List.reduceReplicate]))
theorem QbH {g:FuncId} {f:Spn → Int} (l:List Spn) (hl:l.length ≤ 1000000) (hg:∀ x,Q X g [Qb x] (.I (f x))):Q X 100 [.fs (l.map Qb),.fn (.func g) [] []] (.fs ((l.map f).map .I)):=by
 intro M
 (refine Qd (cf:=L4.c100) rfl rfl fun hM hA => ?_;simp only [L4.c100,zO,zF,zT,zM,CX.i];rw [mk2 _ (by decide)];simp -implicitDefEqProofs (disch:=first|omega|(simp only [go_sem,seval,-List.reduceReplicate];first|done|omega)) only [go_sem,seval,-List.reduceReplicate])
 refine Qm (α:=Nat) 0 (fun k => k ≤ l.length) (fun k => M ++ [.row true 1 k (((l.take k).map f).map .I)])
  (fun k => [(1,.fn (.func g) [] []),(5,.os M.length k 0 k),(8,.fs (l.map Qb)),(9,.I l.length),(10,.I k)]) (fun k => l.length - k) (Nat.zero_le _) rfl rfl ?_
 intro k hk
 by_cases hlt:k < l.length
 ·obtain ⟨x,h1⟩:∃ x,l[k]? = some x:=⟨_,List.getElem?_eq_getElem hlt⟩
  have h2:k = ((l.take k).map f).length:=by simp;omega
  simp -implicitDefEqProofs (disch:=first|omega|(simp only [go_sem,seval,-List.reduceReplicate,hlt,h1,Qj];first|done|omega)) only [go_sem,seval,-List.reduceReplicate,hlt,h1,Qj]
  refine QL (hg x _) ?_
  simp -implicitDefEqProofs (disch:=first|omega|(simp only [go_sem,seval,-List.reduceReplicate,Qj];first|done|omega)) only [go_sem,seval,-List.reduceReplicate,Qj]
  refine Qr hM rfl 1 (by simp) (by first|done|(simp only [go_sem,seval,-List.reduceReplicate,Qdn,Qf] <;> first|done|(refine ⟨?_,?_⟩ <;> omega)|omega)) (Qv (by first|done|(simp only [go_sem,seval,-List.reduceReplicate,Qdn,Qf] <;> first|done|(refine ⟨?_,?_⟩ <;> omega)|omega))) ?_
  simp -implicitDefEqProofs (disch:=first|omega|(simp only [go_sem,seval,-List.reduceReplicate];first|done|omega)) only [go_sem,seval,-List.reduceReplicate]
  refine again' (k + 1) (by omega) (by omega) ?_ rfl
  have h3:=VP (f:=fun x => PV.I (f x)) h1
  rw [h3]
 ·simp -implicitDefEqProofs (disch:=first|omega|(simp only [go_sem,seval,-List.reduceReplicate,hlt];first|done|omega)) only [go_sem,seval,-List.reduceReplicate,hlt]
  (first|refine pfN hM ?_ ?_|refine pf0 hM ?_ ?_)
  ·simp -implicitDefEqProofs (disch:=first|omega|(simp only [go_sem,seval,-List.reduceReplicate];first|done|omega)) only [go_sem,seval,-List.reduceReplicate]
   rw [List.take_of_length_le (by omega)]
  ·(simp only [go_sem,seval,-List.reduceReplicate,Qdn]<;>omega)
def QbV (l:List Spn):Int:=if 1024 < l.length then 5 else fst0 (l.map Vl)
theorem Qgu (hS:SortX X) (l:List Spn) (hl:l.length ≤ 1000000):Q X 19 [.fs (l.map Qb)] (.tup [.fs ((if QbV l = 0 then Z3 l else []).map Qb),.I (QbV l)]):=by
 intro M
 (refine Qd (cf:=L4.c19) rfl rfl fun hM hA => ?_;simp only [L4.c19,zO,zF,zT,zM,CX.i];rw [mk1 _ (by decide)];simp -implicitDefEqProofs (disch:=first|omega|(simp only [go_sem,seval,-List.reduceReplicate];first|done|omega)) only [go_sem,seval,-List.reduceReplicate])
 by_cases h1:1024 < l.length
 ·have f1:((1024:Int) < l.length) = True:=eq_true (by omega)
  have e:QbV l = 5:=if_pos h1
  have e5:(if (5:Int) = 0 then Z3 l else []) = []:=if_neg (by decide)
  rw [e,e5]
  simp -implicitDefEqProofs (disch:=first|omega|(simp only [go_sem,seval,-List.reduceReplicate,f1];first|done|omega)) only [go_sem,seval,-List.reduceReplicate,f1]
  (all_goals (first|refine pfN hM ?_ ?_|refine pf0 hM ?_ ?_);all_goals first|(simp only [go_sem,seval,-List.reduceReplicate]<;>omega)|skip;all_goals (try simp -implicitDefEqProofs (disch:=first|omega|(simp only [go_sem,seval,-List.reduceReplicate];first|done|omega)) only [go_sem,seval,-List.reduceReplicate]))
 ·have f1:((1024:Int) < l.length) = False:=eq_false (by omega)
  have e:QbV l = fst0 (l.map Vl):=if_neg h1
  rw [e]
  simp -implicitDefEqProofs (disch:=first|omega|(simp only [go_sem,seval,-List.reduceReplicate,f1];first|done|omega)) only [go_sem,seval,-List.reduceReplicate,f1]
  refine Qa (QbH l hl (fun x => JO x) _) ?_
  simp -implicitDefEqProofs (disch:=first|omega|(simp only [go_sem,seval,-List.reduceReplicate];first|done|omega)) only [go_sem,seval,-List.reduceReplicate]
  have hq:=QJ (X:=X) (l.map Vl) (by rw [List.length_map];omega) M
  rw [List.map_map] at hq
  refine Qa hq ?_
  generalize fst0 (l.map Vl) = e
  simp -implicitDefEqProofs (disch:=first|omega|(simp only [go_sem,seval,-List.reduceReplicate];first|done|omega)) only [go_sem,seval,-List.reduceReplicate]
  by_cases hc:e = 0
  ·subst hc
   simp -implicitDefEqProofs (disch:=first|omega|(simp only [go_sem,seval,-List.reduceReplicate];first|done|omega)) only [go_sem,seval,-List.reduceReplicate]
   refine Qa (QbX hS l hl _) ?_
   simp -implicitDefEqProofs (disch:=first|omega|(simp only [go_sem,seval,-List.reduceReplicate];first|done|omega)) only [go_sem,seval,-List.reduceReplicate]
   (all_goals (first|refine pfN hM ?_ ?_|refine pf0 hM ?_ ?_);all_goals first|(simp only [go_sem,seval,-List.reduceReplicate,Qf]<;>omega)|skip;all_goals (try simp -implicitDefEqProofs (disch:=first|omega|(simp only [go_sem,seval,-List.reduceReplicate];first|done|omega)) only [go_sem,seval,-List.reduceReplicate]))
  ·rw [if_neg hc]
   simp -implicitDefEqProofs (disch:=first|omega|(simp only [go_sem,seval,-List.reduceReplicate,hc];first|done|omega)) only [go_sem,seval,-List.reduceReplicate,hc]
   (all_goals (first|refine pfN hM ?_ ?_|refine pf0 hM ?_ ?_);all_goals first|(simp only [go_sem,seval,-List.reduceReplicate]<;>omega)|skip;all_goals (try simp -implicitDefEqProofs (disch:=first|omega|(simp only [go_sem,seval,-List.reduceReplicate];first|done|omega)) only [go_sem,seval,-List.reduceReplicate]))
theorem QgC (l:List Spn) (hl:l.length ≤ 1048576):Q X 21 [.fs (l.map Qb)] (.tup [.I (if Qp l = 0 then totOf l else 0),.I (Qp l)]):=by
 intro M
 (refine Qd (cf:=L4.c21) rfl rfl fun hM hA => ?_;simp only [L4.c21,zO,zF,zT,zM,CX.i];rw [mk1 _ (by decide)];simp -implicitDefEqProofs (disch:=first|omega|(simp only [go_sem,seval];first|done|omega)) only [go_sem,seval])
 refine Qa (VW l hl _) ?_
 simp -implicitDefEqProofs (disch:=first|omega|(simp only [go_sem,seval];first|done|omega)) only [go_sem,seval]
 by_cases hc:Qp l = 0
 ·rw [if_pos hc,hc]
  obtain ⟨hin,hlen⟩:=V9 hc
  simp -implicitDefEqProofs (disch:=first|omega|(simp only [go_sem,seval,hc];first|done|omega)) only [go_sem,seval,hc]
  refine Qm (α:=Nat) 0 (fun k => k ≤ l.length) (fun k => M) (fun k => [(5,.I (totOf (l.take k))),(13,.fs (l.map Qb)),(14,.I l.length),(15,.I k)]) (fun k => l.length - k) (Nat.zero_le _) rfl rfl ?_
  intro k hk
  by_cases hlt:k < l.length
  ·obtain ⟨x,h1⟩:∃ x,l[k]? = some x:=⟨_,List.getElem?_eq_getElem hlt⟩
   have h2:=Qd0 h1
   have h3:=hin x (List.mem_of_getElem? h1)
   have h4:=Qn3 hk hin
   simp -implicitDefEqProofs (disch:=first|omega|(simp only [go_sem,seval,hlt,h1,Qj,Qe];first|done|omega)) only [go_sem,seval,hlt,h1,Qj,Qe]
   refine Qr hM rfl 0 (by simp) (by first|done|(simp only [go_sem,seval,Qf] <;> first|done|(refine ⟨?_,?_⟩ <;> omega)|omega)) (Qv (by first|done|(simp only [go_sem,seval,Qf] <;> first|done|(refine ⟨?_,?_⟩ <;> omega)|omega))) ?_
   simp -implicitDefEqProofs (disch:=first|omega|(simp only [go_sem,seval];first|done|omega)) only [go_sem,seval]
   exact again' (k + 1) (by omega) (by omega) rfl (by rw [h2];rfl)
  ·simp -implicitDefEqProofs (disch:=first|omega|(simp only [go_sem,seval,hlt];first|done|omega)) only [go_sem,seval,hlt]
   (first|refine pfN hM ?_ ?_|refine pf0 hM ?_ ?_)
   ·simp -implicitDefEqProofs (disch:=first|omega|(simp only [go_sem,seval];first|done|omega)) only [go_sem,seval]
    rw [List.take_of_length_le (by omega)]
   ·(simp only [go_sem,seval]<;>omega)
 ·rw [if_neg hc]
  simp -implicitDefEqProofs (disch:=first|omega|(simp only [go_sem,seval,hc];first|done|omega)) only [go_sem,seval,hc]
  (all_goals (first|refine pfN hM ?_ ?_|refine pf0 hM ?_ ?_);all_goals first|(simp only [go_sem,seval]<;>omega)|skip;all_goals (try simp -implicitDefEqProofs (disch:=first|omega|(simp only [go_sem,seval];first|done|omega)) only [go_sem,seval]))
theorem QfN (l:List Spn) (hin:spOk l) (hl:l.length ≤ 1000000):Q X 109 [.fs (l.map Qb)] (.fs ((VU l).map Qb)):=by
 intro M
 (refine Qd (cf:=L4.c109) rfl rfl fun hM hA => ?_;simp only [L4.c109,zO,zF,zT,zM,CX.i];rw [mk1 _ (by decide)];simp -implicitDefEqProofs (disch:=first|omega|(simp only [go_sem,seval];first|done|omega)) only [go_sem,seval])
 refine Qm (α:=Nat) 0 (fun k => k ≤ l.length) (fun k => M ++ [.row true 2 (othTo (l.take k)).1.length ((othTo (l.take k)).1.map Qb)])
  (fun k => [(3,.os M.length (othTo (l.take k)).1.length 0 (othTo (l.take k)).1.length),(4,.I (othTo (l.take k)).2),(7,.fs (l.map Qb)),(8,.I l.length),(9,.I k)]) (fun k => l.length - k) (Nat.zero_le _) rfl rfl ?_
 intro k hk
 by_cases hlt:k < l.length
 ·obtain ⟨x,h1⟩:∃ x,l[k]? = some x:=⟨_,List.getElem?_eq_getElem hlt⟩
  have h2:=QaS h1
  have h3:=hin x (List.mem_of_getElem? h1)
  have h4:=QjJ hk hin
  have h5:=QbP (l.take k)
  have h6:(l.take k).length = k:=by simp;omega
  have again:∀ s:List Spn × Int,othTo (l.take (k + 1)) = s → Again 35 (fun k => k ≤ l.length) (fun k => M ++ [.row true 2 (othTo (l.take k)).1.length ((othTo (l.take k)).1.map Qb)])
   (fun k => [(3,.os M.length (othTo (l.take k)).1.length 0 (othTo (l.take k)).1.length),(4,.I (othTo (l.take k)).2),(7,.fs (l.map Qb)),(8,.I l.length),(9,.I k)]) (fun k => l.length - k) k
   (M ++ [.row true 2 s.1.length (s.1.map Qb)]) (mk 35 [(3,.os M.length s.1.length 0 s.1.length),(4,.I s.2),(7,.fs (l.map Qb)),(8,.I l.length),(9,.I (k + 1))]):=by
   rintro s rfl
   exact again' (k + 1) (by omega) (by omega) rfl rfl
  rw [h2] at again
  generalize othTo (l.take k) = st at h4 h5 again ⊢
  obtain ⟨o,last⟩:=st
  simp only at h4 h5 again ⊢
  simp -implicitDefEqProofs (disch:=first|omega|(simp only [go_sem,seval,hlt,h1,Qj];first|done|omega)) only [go_sem,seval,hlt,h1,Qj]
  unfold Z4 at again
  simp only at again
  by_cases hc:last < x.fr
  ·rw [if_pos hc] at again
   simp -implicitDefEqProofs (disch:=first|omega|(simp only [go_sem,seval,hc,Qe];first|done|omega)) only [go_sem,seval,hc,Qe]
   refine Qr hM rfl 1 (by simp) (by first|done|(simp only [go_sem,seval,Qf] <;> first|done|(refine ⟨?_,?_⟩ <;> omega)|omega)) (Qv (by first|done|(simp only [go_sem,seval,Qf] <;> first|done|(refine ⟨?_,?_⟩ <;> omega)|omega))) ?_
   simp -implicitDefEqProofs (disch:=first|omega|(simp only [go_sem,seval];first|done|omega)) only [go_sem,seval]
   simpa [Qb] using again _ rfl
  ·rw [if_neg hc] at again
   simp -implicitDefEqProofs (disch:=first|omega|(simp only [go_sem,seval,hc,Qe];first|done|omega)) only [go_sem,seval,hc,Qe]
   refine Qr hM rfl 1 (by simp) (by first|done|(simp only [go_sem,seval,Qf] <;> first|done|(refine ⟨?_,?_⟩ <;> omega)|omega)) (Qv (by first|done|(simp only [go_sem,seval,Qf] <;> first|done|(refine ⟨?_,?_⟩ <;> omega)|omega))) ?_
   simp -implicitDefEqProofs (disch:=first|omega|(simp only [go_sem,seval];first|done|omega)) only [go_sem,seval]
   exact again _ rfl
 ·simp -implicitDefEqProofs (disch:=first|omega|(simp only [go_sem,seval,hlt];first|done|omega)) only [go_sem,seval,hlt]
  rw [List.take_of_length_le (by omega)]
  unfold VU
  have h5:=QbP l
  generalize othTo l = st at h5 ⊢
  obtain ⟨o,last⟩:=st
  simp only at h5 ⊢
  by_cases hc:last < 40000
  ·rw [if_pos hc]
   simp -implicitDefEqProofs (disch:=first|omega|(simp only [go_sem,seval,hc,Qe];first|done|omega)) only [go_sem,seval,hc,Qe]
   (first|refine pfN hM ?_ ?_|refine pf0 hM ?_ ?_)
   ·simp -implicitDefEqProofs (disch:=first|omega|(simp only [go_sem,seval];first|done|omega)) only [go_sem,seval]
    simp [Qb]
   ·(simp only [go_sem,seval,Qf]<;>omega)
  ·rw [if_neg hc]
   simp -implicitDefEqProofs (disch:=first|omega|(simp only [go_sem,seval,hc,Qe];first|done|omega)) only [go_sem,seval,hc,Qe]
   (first|refine pfN hM ?_ ?_|refine pf0 hM ?_ ?_)
   ·simp -implicitDefEqProofs (disch:=first|omega|(simp only [go_sem,seval];first|done|omega)) only [go_sem,seval]
   ·(simp only [go_sem,seval,Qf]<;>omega)
theorem Qio (a b:List Spn) (ha:spOk a) (hb:spOk b) (hl:a.length + b.length ≤ 1000000):Q X 107 [.fs (a.map Qb),.fs (b.map Qb)] (.fs ((Zi a b).map Qb)):=by
 intro M
 (refine Qd (cf:=L4.c107) rfl rfl fun hM hA => ?_;simp only [L4.c107,zO,zF,zT,zM,CX.i];rw [mk2 _ (by decide)];simp -implicitDefEqProofs (disch:=first|omega|(simp only [go_sem,seval];first|done|omega)) only [go_sem,seval])
 refine Qm (α:=List Spn × List Spn × List Spn) ([],a,b) (fun s => s.1.length + (s.2.1.length + s.2.2.length) ≤ a.length + b.length ∧ spOk s.2.1 ∧ spOk s.2.2 ∧ Zi a b = s.1 ++ Zi s.2.1 s.2.2)
  (fun s => M ++ [.row true 2 s.1.length (s.1.map Qb)])
  (fun s => [(0,.fs (s.2.1.map Qb)),(1,.fs (s.2.2.map Qb)),(5,.os M.length s.1.length 0 s.1.length)]) (fun s => s.2.1.length + s.2.2.length) ⟨by simp,ha,hb,rfl⟩ rfl rfl ?_
 rintro ⟨o,x,y⟩ ⟨h1,h2,h3,h4⟩
 simp only at h1 h2 h3 h4 ⊢
 rcases x with _|⟨u,x⟩
 ·simp -implicitDefEqProofs (disch:=first|omega|(simp only [go_sem,seval];first|done|omega)) only [go_sem,seval]
  (first|refine pfN hM ?_ ?_|refine pf0 hM ?_ ?_)
  ·simp -implicitDefEqProofs (disch:=first|omega|(simp only [go_sem,seval];first|done|omega)) only [go_sem,seval]
   rw [h4,Qik,List.append_nil]
  ·(simp only [go_sem,seval,Qf]<;>omega)
 ·rcases y with _|⟨w,y⟩
  ·have f0:((0:Int) < ((x.length + 1:Nat):Int)) = True:=eq_true (by omega)
   simp -implicitDefEqProofs (disch:=first|omega|(simp only [go_sem,seval,f0];first|done|omega)) only [go_sem,seval,f0]
   (first|refine pfN hM ?_ ?_|refine pf0 hM ?_ ?_)
   ·simp -implicitDefEqProofs (disch:=first|omega|(simp only [go_sem,seval];first|done|omega)) only [go_sem,seval]
    rw [h4,QhO,List.append_nil]
   ·(simp only [go_sem,seval,Qf]<;>omega)
  ·rw [QiH] at h4
   have b1:=h2 u (by simp)
   have b2:=h3 w (by simp)
   simp only [List.length_cons] at h1
   have f0:((0:Int) < ((x.length + 1:Nat):Int)) = True:=eq_true (by omega)
   have f1:((0:Int) < ((y.length + 1:Nat):Int)) = True:=eq_true (by omega)
   simp -implicitDefEqProofs (disch:=first|omega|(simp only [go_sem,seval,f0,f1,Qe];first|done|omega)) only [go_sem,seval,f0,f1,Qe]
   refine ⟨by simp [Jp,JA,ZO,refs,refs1],?_⟩
   have s1:sized 2 (PV.agg [PV.I u.fr,PV.I u.to_] :: List.map Qb x) = true:=QbB (u :: x)
   have s2:sized 2 (PV.agg [PV.I w.fr,PV.I w.to_] :: List.map Qb y) = true:=QbB (w :: y)
   have t1:(List.map Qb x).take x.length = List.map Qb x:=List.take_of_length_le (by simp)
   have t2:(List.map Qb y).take y.length = List.map Qb y:=List.take_of_length_le (by simp)
   by_cases hc:max u.fr w.fr < min u.to_ w.to_
   ·rw [if_pos hc] at h4
    simp -implicitDefEqProofs (disch:=first|omega|(simp only [go_sem,seval,hc,Qe,f0,f1];first|done|omega)) only [go_sem,seval,hc,Qe,f0,f1]
    by_cases hd:u.to_ < w.to_
    ·rw [if_pos hd] at h4
     simp -implicitDefEqProofs (disch:=first|omega|(simp only [go_sem,seval,hd,Qe,f0,f1,s1,s2,List.drop_succ_cons,List.drop_zero,List.length_cons,t1,t2];first|done|omega)) only [go_sem,seval,hd,Qe,f0,f1,s1,s2,List.drop_succ_cons,List.drop_zero,List.length_cons,t1,t2]
     refine Qr hM rfl 1 (by simp) (by first|done|(simp only [go_sem,seval,Qf] <;> first|done|(refine ⟨?_,?_⟩ <;> omega)|omega)) (Qv (by first|done|(simp only [go_sem,seval,Qf] <;> first|done|(refine ⟨?_,?_⟩ <;> omega)|omega))) ?_
     simp -implicitDefEqProofs (disch:=first|omega|(simp only [go_sem,seval];first|done|omega)) only [go_sem,seval]
     refine again' (α:=List Spn × List Spn × List Spn) (o ++ [⟨max u.fr w.fr,min u.to_ w.to_⟩],x,w :: y) ⟨by simp;omega,fun z hz => h2 z (List.mem_cons_of_mem _ hz),h3,by rw [h4];simp⟩ (by simp;try omega) ?_ ?_
     ·simp [Qb]
     ·simp [Qb]
    ·rw [if_neg hd] at h4
     simp -implicitDefEqProofs (disch:=first|omega|(simp only [go_sem,seval,hd,Qe,f0,f1,s1,s2,List.drop_succ_cons,List.drop_zero,List.length_cons,t1,t2];first|done|omega)) only [go_sem,seval,hd,Qe,f0,f1,s1,s2,List.drop_succ_cons,List.drop_zero,List.length_cons,t1,t2]
     refine Qr hM rfl 1 (by simp) (by first|done|(simp only [go_sem,seval,Qf] <;> first|done|(refine ⟨?_,?_⟩ <;> omega)|omega)) (Qv (by first|done|(simp only [go_sem,seval,Qf] <;> first|done|(refine ⟨?_,?_⟩ <;> omega)|omega))) ?_
     simp -implicitDefEqProofs (disch:=first|omega|(simp only [go_sem,seval];first|done|omega)) only [go_sem,seval]
     refine again' (α:=List Spn × List Spn × List Spn) (o ++ [⟨max u.fr w.fr,min u.to_ w.to_⟩],u :: x,y) ⟨by simp;omega,h2,fun z hz => h3 z (List.mem_cons_of_mem _ hz),by rw [h4];simp⟩ (by simp;try omega) ?_ ?_
     ·simp [Qb]
     ·simp [Qb]
   ·rw [if_neg hc] at h4
    simp -implicitDefEqProofs (disch:=first|omega|(simp only [go_sem,seval,hc,Qe,f0,f1];first|done|omega)) only [go_sem,seval,hc,Qe,f0,f1]
    by_cases hd:u.to_ < w.to_
    ·rw [if_pos hd] at h4
     simp -implicitDefEqProofs (disch:=first|omega|(simp only [go_sem,seval,hd,Qe,f0,f1,s1,s2,List.drop_succ_cons,List.drop_zero,List.length_cons,t1,t2];first|done|omega)) only [go_sem,seval,hd,Qe,f0,f1,s1,s2,List.drop_succ_cons,List.drop_zero,List.length_cons,t1,t2]
     refine Qr hM rfl 1 (by simp) (by first|done|(simp only [go_sem,seval,Qf] <;> first|done|(refine ⟨?_,?_⟩ <;> omega)|omega)) (Qv (by first|done|(simp only [go_sem,seval,Qf] <;> first|done|(refine ⟨?_,?_⟩ <;> omega)|omega))) ?_
     simp -implicitDefEqProofs (disch:=first|omega|(simp only [go_sem,seval];first|done|omega)) only [go_sem,seval]
     refine again' (α:=List Spn × List Spn × List Spn) (o,x,w :: y) ⟨by simp;omega,fun z hz => h2 z (List.mem_cons_of_mem _ hz),h3,by rw [h4];simp⟩ (by simp;try omega) ?_ ?_
     ·simp [Qb]
     ·simp [Qb]
    ·rw [if_neg hd] at h4
     simp -implicitDefEqProofs (disch:=first|omega|(simp only [go_sem,seval,hd,Qe,f0,f1,s1,s2,List.drop_succ_cons,List.drop_zero,List.length_cons,t1,t2];first|done|omega)) only [go_sem,seval,hd,Qe,f0,f1,s1,s2,List.drop_succ_cons,List.drop_zero,List.length_cons,t1,t2]
     refine Qr hM rfl 1 (by simp) (by first|done|(simp only [go_sem,seval,Qf] <;> first|done|(refine ⟨?_,?_⟩ <;> omega)|omega)) (Qv (by first|done|(simp only [go_sem,seval,Qf] <;> first|done|(refine ⟨?_,?_⟩ <;> omega)|omega))) ?_
     simp -implicitDefEqProofs (disch:=first|omega|(simp only [go_sem,seval];first|done|omega)) only [go_sem,seval]
     refine again' (α:=List Spn × List Spn × List Spn) (o,u :: x,y) ⟨by simp;omega,h2,fun z hz => h3 z (List.mem_cons_of_mem _ hz),by rw [h4];simp⟩ (by simp;try omega) ?_ ?_
     ·simp [Qb]
     ·simp [Qb]
theorem QcO {g:FuncId} {f:List Spn → List Spn → List Spn} (a b:List Spn) (ha:a.length ≤ 1048576) (hb:b.length ≤ 1048576)
  (hg:fst0 [Qp a,Qp b] = 0 → Q X g [.fs (a.map Qb),.fs (b.map Qb)] (.fs ((f a b).map Qb)) ∧ (f a b).length ≤ 1000000) :
  Q X 104 [.fs (a.map Qb),.fs (b.map Qb),.fn (.func g) [] []] (.tup [.fs ((Yr f a b).1.map Qb),.I (Yr f a b).2]):=by
 intro M
 (refine Qd (cf:=L4.c104) rfl rfl fun hM hA => ?_;simp only [L4.c104,zO,zF,zT,zM,CX.i];rw [mk3 _ (by decide)];simp -implicitDefEqProofs (disch:=first|omega|(simp only [go_sem,seval];first|done|omega)) only [go_sem,seval])
 refine Qa (VW a ha _) ?_
 simp -implicitDefEqProofs (disch:=first|omega|(simp only [go_sem,seval];first|done|omega)) only [go_sem,seval]
 refine Qa (VW b hb _) ?_
 simp -implicitDefEqProofs (disch:=first|omega|(simp only [go_sem,seval];first|done|omega)) only [go_sem,seval]
 have hq:=QJ (X:=X) [Qp a,Qp b] (by simp) M
 refine Qa hq ?_
 unfold Yr
 generalize fst0 [Qp a,Qp b] = e at hg
 by_cases hc:e = 0
 ·obtain ⟨h1,h2⟩:=hg hc
  subst hc
  rw [if_pos rfl]
  simp -implicitDefEqProofs (disch:=first|omega|(simp only [go_sem,seval];first|done|omega)) only [go_sem,seval]
  refine Qa (h1 _) ?_
  simp -implicitDefEqProofs (disch:=first|omega|(simp only [go_sem,seval];first|done|omega)) only [go_sem,seval]
  by_cases h3:1024 < (f a b).length
  ·have f1:((1024:Int) < (f a b).length) = True:=eq_true (by omega)
   rw [if_pos h3]
   simp -implicitDefEqProofs (disch:=first|omega|(simp only [go_sem,seval,f1];first|done|omega)) only [go_sem,seval,f1]
   (all_goals (first|refine pfN hM ?_ ?_|refine pf0 hM ?_ ?_);all_goals first|(simp only [go_sem,seval]<;>omega)|skip;all_goals (try simp -implicitDefEqProofs (disch:=first|omega|(simp only [go_sem,seval];first|done|omega)) only [go_sem,seval]))
  ·have f1:((1024:Int) < (f a b).length) = False:=eq_false (by omega)
   rw [if_neg h3]
   simp -implicitDefEqProofs (disch:=first|omega|(simp only [go_sem,seval,f1];first|done|omega)) only [go_sem,seval,f1]
   (all_goals (first|refine pfN hM ?_ ?_|refine pf0 hM ?_ ?_);all_goals first|(simp only [go_sem,seval,Qf]<;>omega)|skip;all_goals (try simp -implicitDefEqProofs (disch:=first|omega|(simp only [go_sem,seval];first|done|omega)) only [go_sem,seval]))
 ·rw [if_neg hc]
  simp -implicitDefEqProofs (disch:=first|omega|(simp only [go_sem,seval,hc];first|done|omega)) only [go_sem,seval,hc]
  (all_goals (first|refine pfN hM ?_ ?_|refine pf0 hM ?_ ?_);all_goals first|(simp only [go_sem,seval]<;>omega)|skip;all_goals (try simp -implicitDefEqProofs (disch:=first|omega|(simp only [go_sem,seval];first|done|omega)) only [go_sem,seval]))
theorem Yz {x y:Int} (h:fst0 [x,y] = 0):x = 0 ∧ y = 0:=by
 simp only [fst0] at h
 split at h
 ·rename_i h1
  split at h
  ·rename_i h2;exact ⟨h1,h2⟩
  ·rename_i h2;exact absurd h h2
 ·rename_i h1;exact absurd h h1
theorem Qf5 (hS:SortX X) (a b:List Spn) (hl:a.length + b.length ≤ 1000000):Q X 105 [.fs (a.map Qb),.fs (b.map Qb)] (.fs ((YU a b).map Qb)):=by
 intro M
 (refine Qd (cf:=L4.c105) rfl rfl fun hM hA => ?_;simp only [L4.c105,zO,zF,zT,zM,CX.i];rw [mk2 _ (by decide)];simp -implicitDefEqProofs (disch:=first|omega|(simp only [go_sem,seval];first|done|omega)) only [go_sem,seval])
 refine Qa (Qeb a b hl _) ?_
 simp -implicitDefEqProofs (disch:=first|omega|(simp only [go_sem,seval];first|done|omega)) only [go_sem,seval]
 have hq:=QbX hS (a ++ b) (by rw [List.length_append];omega) M
 have e:YU a b = Z3 (a ++ b):=rfl
 rw [e]
 refine Qa hq ?_
 simp -implicitDefEqProofs (disch:=first|omega|(simp only [go_sem,seval];first|done|omega)) only [go_sem,seval]
 (all_goals (first|refine pfN hM ?_ ?_|refine pf0 hM ?_ ?_);all_goals first|(simp only [go_sem,seval,Qf]<;>omega)|skip;all_goals (try simp -implicitDefEqProofs (disch:=first|omega|(simp only [go_sem,seval];first|done|omega)) only [go_sem,seval]))
theorem Qbt (l:List Spn):(VU l).length ≤ l.length + 1:=by
 have:=QbP l
 unfold VU
 split
 ·simp;omega
 ·omega
theorem Qix {l:List Spn} (h:spOk l):spOk (VU l):=by
 have key:∀ (k:Nat),k ≤ l.length → spOk (othTo (l.take k)).1 ∧ 0 ≤ (othTo (l.take k)).2:=by
  intro k
  induction k with
  | zero => intro _;exact ⟨fun x hx => (by simp [othTo] at hx),Int.le_refl _⟩
  | succ k ih =>
   intro hk
   obtain ⟨x,h1⟩:∃ x,l[k]? = some x:=⟨_,List.getElem?_eq_getElem (by omega)⟩
   obtain ⟨g1,g2⟩:=ih (by omega)
   have g3:=h x (List.mem_of_getElem? h1)
   rw [QaS h1]
   unfold Z4
   refine ⟨?_,by show 0 ≤ x.to_;omega⟩
   simp only
   split
   ·intro z hz
    rcases List.mem_append.1 hz with hz|hz
    ·exact g1 z hz
    ·simp only [List.mem_singleton] at hz;subst hz
     refine ⟨g2,by assumption,?_⟩
     show x.fr ≤ 40000
     omega
   ·exact g1
 have:=key l.length (Nat.le_refl _)
 rw [List.take_length] at this
 obtain ⟨g1,g2⟩:=this
 unfold VU
 split
 ·intro z hz
  rcases List.mem_append.1 hz with hz|hz
  ·exact g1 z hz
  ·simp only [List.mem_singleton] at hz;subst hz
   exact ⟨g2,by assumption,Int.le_refl _⟩
 ·exact g1
theorem QeF (a b:List Spn) (ha:spOk a) (hb:spOk b) (hl:a.length + b.length ≤ 900000):Q X 108 [.fs (a.map Qb),.fs (b.map Qb)] (.fs ((Yu a b).map Qb)):=by
 intro M
 have:=Qbt b
 (refine Qd (cf:=L4.c108) rfl rfl fun hM hA => ?_;simp only [L4.c108,zO,zF,zT,zM,CX.i];rw [mk2 _ (by decide)];simp -implicitDefEqProofs (disch:=first|omega|(simp only [go_sem,seval];first|done|omega)) only [go_sem,seval])
 refine Qa (QfN b hb (by omega) _) ?_
 simp -implicitDefEqProofs (disch:=first|omega|(simp only [go_sem,seval];first|done|omega)) only [go_sem,seval]
 refine Qa (Qio a (VU b) ha (Qix hb) (by omega) _) ?_
 have e:Yu a b = Zi a (VU b):=rfl
 rw [e]
 simp -implicitDefEqProofs (disch:=first|omega|(simp only [go_sem,seval];first|done|omega)) only [go_sem,seval]
 (all_goals (first|refine pfN hM ?_ ?_|refine pf0 hM ?_ ?_);all_goals first|(simp only [go_sem,seval,Qf]<;>omega)|skip;all_goals (try simp -implicitDefEqProofs (disch:=first|omega|(simp only [go_sem,seval];first|done|omega)) only [go_sem,seval]))
theorem Qke (a b:List Spn):(Zi a b).length ≤ a.length + b.length:=by
 have:∀ (n:Nat) (a b:List Spn),(meetN n a b).length ≤ n:=by
  intro n
  induction n with
  | zero => intro a b;cases a <;> cases b <;> simp [meetN]
  | succ n ih =>
   intro a b
   cases a with
   | nil => rw [Qen];simp
   | cons x a =>
    cases b with
    | nil => rw [Qec];simp
    | cons y b =>
     rw [meetN,List.length_append]
     have h1:(if max x.fr y.fr < min x.to_ y.to_ then [(⟨max x.fr y.fr,min x.to_ y.to_⟩:Spn)] else []).length ≤ 1:=by split <;> simp
     have h2:(if x.to_ < y.to_ then meetN n a (y :: b) else meetN n (x :: a) b).length ≤ n:=by split <;> apply ih
     omega
 exact this _ a b
theorem Qir (hS:SortX X) (a b:List Spn) (ha:a.length ≤ 1048576) (hb:b.length ≤ 1048576) :
  Q X 31 [.fs (a.map Qb),.fs (b.map Qb)] (.tup [.fs ((Yr YU a b).1.map Qb),.I (Yr YU a b).2]):=by
 intro M
 (refine Qd (cf:=L4.c31) rfl rfl fun hM hA => ?_;simp only [L4.c31,zO,zF,zT,zM,CX.i];rw [mk2 _ (by decide)];simp -implicitDefEqProofs (disch:=first|omega|(simp only [go_sem,seval];first|done|omega)) only [go_sem,seval])
 refine Qa (QcO (f:=YU) a b ha hb (fun h => ?_) _) ?_
 ·obtain ⟨h1,h2⟩:=Yz h
  have l1:=(V9 h1).2
  have l2:=(V9 h2).2
  refine ⟨Qf5 hS a b (by omega),?_⟩
  have:=QhL (a ++ b)
  rw [List.length_append] at this
  unfold YU
  omega
 ·simp -implicitDefEqProofs (disch:=first|omega|(simp only [go_sem,seval];first|done|omega)) only [go_sem,seval]
  (all_goals (first|refine pfN hM ?_ ?_|refine pf0 hM ?_ ?_);all_goals first|(simp only [go_sem,seval,Qf]<;>omega)|skip;all_goals (try simp -implicitDefEqProofs (disch:=first|omega|(simp only [go_sem,seval];first|done|omega)) only [go_sem,seval]))
theorem Qhr (a b:List Spn) (ha:a.length ≤ 1048576) (hb:b.length ≤ 1048576) :
  Q X 33 [.fs (a.map Qb),.fs (b.map Qb)] (.tup [.fs ((Yr Yu a b).1.map Qb),.I (Yr Yu a b).2]):=by
 intro M
 (refine Qd (cf:=L4.c33) rfl rfl fun hM hA => ?_;simp only [L4.c33,zO,zF,zT,zM,CX.i];rw [mk2 _ (by decide)];simp -implicitDefEqProofs (disch:=first|omega|(simp only [go_sem,seval];first|done|omega)) only [go_sem,seval])
 refine Qa (QcO (f:=Yu) a b ha hb (fun h => ?_) _) ?_
 ·obtain ⟨h1,h2⟩:=Yz h
  have l1:=V9 h1
  have l2:=V9 h2
  refine ⟨QeF a b l1.1 l2.1 (by omega),?_⟩
  have g1:=Qke a (VU b)
  have g2:=Qbt b
  unfold Yu
  omega
 ·simp -implicitDefEqProofs (disch:=first|omega|(simp only [go_sem,seval];first|done|omega)) only [go_sem,seval]
  (all_goals (first|refine pfN hM ?_ ?_|refine pf0 hM ?_ ?_);all_goals first|(simp only [go_sem,seval,Qf]<;>omega)|skip;all_goals (try simp -implicitDefEqProofs (disch:=first|omega|(simp only [go_sem,seval];first|done|omega)) only [go_sem,seval]))
theorem JH (a b:Pt) (ha:ptW a) (hb:ptW b):Q X 111 [encPt a,encPt b] (.I (Q1 a b)):=by
 intro M
 obtain ⟨⟨h1,h2⟩,h3,h4⟩:=QbE ha hb
 unfold ptW at ha hb
 (refine Qd (cf:=L4.c111) rfl rfl fun hM hA => ?_;simp only [L4.c111,zO,zF,zT,zM,CX.i];rw [mk2 _ (by decide)];simp -implicitDefEqProofs (disch:=first|omega|(simp only [go_sem,seval,Qo];first|done|omega)) only [go_sem,seval,Qo])
 (all_goals (first|refine pfN hM ?_ ?_|refine pf0 hM ?_ ?_);all_goals first|(simp only [go_sem,seval]<;>omega)|skip;all_goals (try simp -implicitDefEqProofs (disch:=first|omega|(simp only [go_sem,seval];first|done|omega)) only [go_sem,seval]))
 all_goals rfl
theorem Qf8 (a b:Pt) (ha:ptW a) (hb:ptW b):Q X 119 [encPt a,encPt b] (.I (Q1 a b)):=by
 intro M
 obtain ⟨⟨h1,h2⟩,h3,h4⟩:=QbE ha hb
 unfold ptW at ha hb
 (refine Qd (cf:=L4.c119) rfl rfl fun hM hA => ?_;simp only [L4.c119,zO,zF,zT,zM,CX.i];rw [mk2 _ (by decide)];simp -implicitDefEqProofs (disch:=first|omega|(simp only [go_sem,seval,Qo];first|done|omega)) only [go_sem,seval,Qo])
 (all_goals (first|refine pfN hM ?_ ?_|refine pf0 hM ?_ ?_);all_goals first|(simp only [go_sem,seval]<;>omega)|skip;all_goals (try simp -implicitDefEqProofs (disch:=first|omega|(simp only [go_sem,seval];first|done|omega)) only [go_sem,seval]))
 all_goals rfl
theorem QcB (p:Pt):Q X 115 [encPt p] (.I (ptE p)):=by
 intro M
 (refine Qd (cf:=L4.c115) rfl rfl fun hM hA => ?_;simp only [L4.c115,zO,zF,zT,zM,CX.i];rw [mk1 _ (by decide)];simp -implicitDefEqProofs (disch:=first|omega|(simp only [go_sem,seval,Qo];first|done|omega)) only [go_sem,seval,Qo])
 refine Qa (Vi _ _ _ _) ?_
 simp -implicitDefEqProofs (disch:=first|omega|(simp only [go_sem,seval,Qo];first|done|omega)) only [go_sem,seval,Qo]
 refine Qa (Vi _ _ _ _) ?_
 simp -implicitDefEqProofs (disch:=first|omega|(simp only [go_sem,seval,Qo];first|done|omega)) only [go_sem,seval,Qo]
 refine Qa (QJ [rng p.x (-1000) 1000,rng p.y (-1000) 1000] (by simp) _) ?_
 have e:ptE p = fst0 [rng p.x (-1000) 1000,rng p.y (-1000) 1000]:=rfl
 rw [e]
 simp -implicitDefEqProofs (disch:=first|omega|(simp only [go_sem,seval];first|done|omega)) only [go_sem,seval]
 (all_goals (first|refine pfN hM ?_ ?_|refine pf0 hM ?_ ?_);all_goals first|(simp only [go_sem,seval]<;>omega)|skip;all_goals (try simp -implicitDefEqProofs (disch:=first|omega|(simp only [go_sem,seval];first|done|omega)) only [go_sem,seval]))
theorem Qbx (p:Pt):Q X 49 [encPt p] (.I (ptE p)):=by
 intro M
 (refine Qd (cf:=L4.c49) rfl rfl fun hM hA => ?_;simp only [L4.c49,zO,zF,zT,zM,CX.i];rw [mk1 _ (by decide)];simp -implicitDefEqProofs (disch:=first|omega|(simp only [go_sem,seval,Qo];first|done|omega)) only [go_sem,seval,Qo])
 refine Qa (VM _ _ _ _) ?_
 simp -implicitDefEqProofs (disch:=first|omega|(simp only [go_sem,seval,Qo];first|done|omega)) only [go_sem,seval,Qo]
 refine Qa (VM _ _ _ _) ?_
 simp -implicitDefEqProofs (disch:=first|omega|(simp only [go_sem,seval,Qo];first|done|omega)) only [go_sem,seval,Qo]
 refine Qa (Qba [rng p.x (-1000) 1000,rng p.y (-1000) 1000] (by simp) _) ?_
 have e:ptE p = fst0 [rng p.x (-1000) 1000,rng p.y (-1000) 1000]:=rfl
 rw [e]
 simp -implicitDefEqProofs (disch:=first|omega|(simp only [go_sem,seval];first|done|omega)) only [go_sem,seval]
 (all_goals (first|refine pfN hM ?_ ?_|refine pf0 hM ?_ ?_);all_goals first|(simp only [go_sem,seval]<;>omega)|skip;all_goals (try simp -implicitDefEqProofs (disch:=first|omega|(simp only [go_sem,seval];first|done|omega)) only [go_sem,seval]))
theorem Jc (n:Int):Q X 112 [.I n] (.I (rng n 0 3)):=by
 intro M
 (refine Qd (cf:=L4.c112) rfl rfl fun hM hA => ?_;simp only [L4.c112,zO,zF,zT,zM,CX.i];rw [mk1 _ (by decide)];simp -implicitDefEqProofs (disch:=first|omega|(simp only [go_sem,seval];first|done|omega)) only [go_sem,seval])
 refine Qa (Vi _ _ _ _) ?_
 simp -implicitDefEqProofs (disch:=first|omega|(simp only [go_sem,seval];first|done|omega)) only [go_sem,seval]
 (all_goals (first|refine pfN hM ?_ ?_|refine pf0 hM ?_ ?_);all_goals first|(simp only [go_sem,seval]<;>omega)|skip;all_goals (try simp -implicitDefEqProofs (disch:=first|omega|(simp only [go_sem,seval];first|done|omega)) only [go_sem,seval]))
theorem Qcu (s:Ste) (hl:s.tbs.length ≤ 1048576):Q X 46 [Qq s] (.I (Qx s)):=by
 obtain ⟨nm,least,l⟩:=s
 have e:Qx ⟨nm,least,l⟩ = if Qn nm = false then 8 else if ¬ rng least 1 1000 = 0 then 3 else if 64 < l.length then 5 else fst0 (tbL least l):=rfl
 rw [e]
 clear e
 simp only at hl
 have e:Qq ⟨nm,least,l⟩ = .agg [.s (.string nm),.I least,.fs (l.map encTb)]:=rfl
 rw [e]
 clear e
 intro M
 (refine Qd (cf:=L4.c46) rfl rfl fun hM hA => ?_;simp only [L4.c46,zO,zF,zT,zM,CX.i];rw [mk1 _ (by decide)];simp -implicitDefEqProofs (disch:=first|omega|(simp only [go_sem,seval];first|done|omega)) only [go_sem,seval])
 refine Qa (YD nm _) ?_
 simp -implicitDefEqProofs (disch:=first|omega|(simp only [go_sem,seval];first|done|omega)) only [go_sem,seval]
 by_cases h1:Qn nm = false
 ·rw [if_pos h1]
  simp -implicitDefEqProofs (disch:=first|omega|(simp only [go_sem,seval,h1];first|done|omega)) only [go_sem,seval,h1]
  (all_goals (first|refine pfN hM ?_ ?_|refine pf0 hM ?_ ?_);all_goals first|(simp only [go_sem,seval]<;>omega)|skip;all_goals (try simp -implicitDefEqProofs (disch:=first|omega|(simp only [go_sem,seval];first|done|omega)) only [go_sem,seval]))
 have h1':Qn nm = true:=by simpa using h1
 rw [if_neg h1]
 simp -implicitDefEqProofs (disch:=first|omega|(simp only [go_sem,seval,h1'];first|done|omega)) only [go_sem,seval,h1']
 refine Qa (VM _ _ _ _) ?_
 simp -implicitDefEqProofs (disch:=first|omega|(simp only [go_sem,seval];first|done|omega)) only [go_sem,seval]
 by_cases h2:rng least 1 1000 = 0
 case neg =>
  rw [if_pos h2]
  simp -implicitDefEqProofs (disch:=first|omega|(simp only [go_sem,seval,h2];first|done|omega)) only [go_sem,seval,h2]
  (all_goals (first|refine pfN hM ?_ ?_|refine pf0 hM ?_ ?_);all_goals first|(simp only [go_sem,seval]<;>omega)|skip;all_goals (try simp -implicitDefEqProofs (disch:=first|omega|(simp only [go_sem,seval];first|done|omega)) only [go_sem,seval]))
 rw [if_neg (fun h => h h2)]
 simp -implicitDefEqProofs (disch:=first|omega|(simp only [go_sem,seval,h2];first|done|omega)) only [go_sem,seval,h2]
 rw [ZR] at h2
 by_cases h3:64 < l.length
 ·have f3:((64:Int) < l.length) = True:=eq_true (by omega)
  rw [if_pos h3]
  simp -implicitDefEqProofs (disch:=first|omega|(simp only [go_sem,seval,f3];first|done|omega)) only [go_sem,seval,f3]
  (all_goals (first|refine pfN hM ?_ ?_|refine pf0 hM ?_ ?_);all_goals first|(simp only [go_sem,seval]<;>omega)|skip;all_goals (try simp -implicitDefEqProofs (disch:=first|omega|(simp only [go_sem,seval];first|done|omega)) only [go_sem,seval]))
 have f3:((64:Int) < l.length) = False:=eq_false (by omega)
 rw [if_neg h3]
 simp -implicitDefEqProofs (disch:=first|omega|(simp only [go_sem,seval,f3];first|done|omega)) only [go_sem,seval,f3]
 have hsq:=sqBd (d:=least) (n:=1000) (by omega) (by omega) (by omega)
 refine Qm (α:=Nat) 0 (fun k => k ≤ l.length ∧ fst0 (tbL least l) = fst0 ((tbL least l).drop k) ∧ tbsIn least l k) (fun k => M)
  (fun k => [(1,.fp [.s (.string nm),.I least,.fs (l.map encTb)]),(3,.I k)]) (fun k => l.length - k) ⟨Nat.zero_le _,rfl,Qd3⟩ rfl rfl ?_
 rintro k ⟨hk,hs,hin⟩
 by_cases hlt:k < l.length
 case neg =>
  simp -implicitDefEqProofs (disch:=first|omega|(simp only [go_sem,seval,hlt];first|done|omega)) only [go_sem,seval,hlt]
  (first|refine pfN hM ?_ ?_|refine pf0 hM ?_ ?_)
  ·simp -implicitDefEqProofs (disch:=first|omega|(simp only [go_sem,seval];first|done|omega)) only [go_sem,seval]
   rw [hs,List.drop_of_length_le (by rw [QiN];omega)];rfl
  ·(simp only [go_sem,seval]<;>omega)
 obtain ⟨x,hx⟩:∃ x,l[k]? = some x:=⟨_,List.getElem?_eq_getElem hlt⟩
 have hd:=V4 (tbL least l) k _ (Qe1 hx)
 have hpt:=fun (i:Nat) (t:Tb) (hi:i < k) (ht:l[i]? = some t) => QaJ hin hi ht
 have hin1:=Qei hin hx
 simp -implicitDefEqProofs (disch:=first|omega|(simp only [go_sem,seval,hlt,hx,Qh,Qi];first|done|omega)) only [go_sem,seval,hlt,hx,Qh,Qi]
 refine Qa (YD _ _) ?_
 simp -implicitDefEqProofs (disch:=first|omega|(simp only [go_sem,seval,Qi];first|done|omega)) only [go_sem,seval,Qi]
 by_cases g1:Qn x.name = false
 ·rw [Qgb g1] at hd
  simp -implicitDefEqProofs (disch:=first|omega|(simp only [go_sem,seval,g1];first|done|omega)) only [go_sem,seval,g1]
  (first|refine pfN hM ?_ ?_|refine pf0 hM ?_ ?_)
  ·simp -implicitDefEqProofs (disch:=first|omega|(simp only [go_sem,seval];first|done|omega)) only [go_sem,seval]
   rw [hs,hd];rfl
  ·(simp only [go_sem,seval]<;>omega)
 have g1':Qn x.name = true:=by simpa using g1
 simp -implicitDefEqProofs (disch:=first|omega|(simp only [go_sem,seval,g1'];first|done|omega)) only [go_sem,seval,g1']
 refine Qa (Qbx x.at_ _) ?_
 simp -implicitDefEqProofs (disch:=first|omega|(simp only [go_sem,seval,Qi];first|done|omega)) only [go_sem,seval,Qi]
 by_cases g2:ptE x.at_ = 0
 case neg =>
  rw [QmC g1' g2] at hd
  simp -implicitDefEqProofs (disch:=first|omega|(simp only [go_sem,seval,g2];first|done|omega)) only [go_sem,seval,g2]
  (first|refine pfN hM ?_ ?_|refine pf0 hM ?_ ?_)
  ·simp -implicitDefEqProofs (disch:=first|omega|(simp only [go_sem,seval];first|done|omega)) only [go_sem,seval]
   rw [hs,hd];rfl
  ·(simp only [go_sem,seval]<;>omega)
 have gx:=Qhm g2
 simp -implicitDefEqProofs (disch:=first|omega|(simp only [go_sem,seval,g2,Qi];first|done|omega)) only [go_sem,seval,g2,Qi]
 refine Qm (α:=Nat) 0 (fun j => j ≤ k ∧ (l.take j).any (fun o => decide (o.name = x.name)) = false) (fun _ => M ++ [.row true 3 0 [encTb x]])
  (fun j => [(1,.fp [.s (.string nm),.I least,.fs (l.map encTb)]),(3,.I k),(4,.op M.length 0 0 0),(5,.I j)]) (fun j => k - j) ⟨Nat.zero_le _,rfl⟩ rfl rfl ?_
 rintro j ⟨hj,hany⟩
 by_cases hjk:j < k
 ·obtain ⟨y,hy⟩:∃ y,l[j]? = some y:=⟨_,List.getElem?_eq_getElem (by omega)⟩
  have f1:j < l.length:=by omega
  have hsn:=Qdg (fun o => decide (o.name = x.name)) hy
  simp -implicitDefEqProofs (disch:=first|omega|(simp only [go_sem,seval,hjk,f1,hy,Qh,Qi,QO];first|done|omega)) only [go_sem,seval,hjk,f1,hy,Qh,Qi,QO]
  by_cases hn:y.name = x.name
  ·have:=QeY (k:=k) (fun o => decide (o.name = x.name)) hy hjk (by simpa using hn)
   rw [QfB g1' g2 this] at hd
   simp -implicitDefEqProofs (disch:=first|omega|(simp only [go_sem,seval,hn];first|done|omega)) only [go_sem,seval,hn]
   (first|refine pfN hM ?_ ?_|refine pf0 hM ?_ ?_)
   ·simp -implicitDefEqProofs (disch:=first|omega|(simp only [go_sem,seval];first|done|omega)) only [go_sem,seval]
    rw [hs,hd];rfl
   ·(simp only [go_sem,seval]<;>omega)
  ·simp -implicitDefEqProofs (disch:=first|omega|(simp only [go_sem,seval,hn];first|done|omega)) only [go_sem,seval,hn]
   refine again' (j + 1) ⟨by omega,by rw [hsn,hany];simp [hn]⟩ (by omega) rfl rfl
 have hjk':j = k:=by omega
 subst hjk'
 simp -implicitDefEqProofs (disch:=first|omega|(simp only [go_sem,seval,hjk,Qh,Qi];first|done|omega)) only [go_sem,seval,hjk,Qh,Qi]
 refine Qm (α:=Nat) 0 (fun i => i ≤ j ∧ (l.take i).any (fun o => decide (Q1 x.at_ o.at_ < least * least)) = false) (fun _ => M ++ [.row true 3 0 [encTb x]])
  (fun i => [(1,.fp [.s (.string nm),.I least,.fs (l.map encTb)]),(3,.I j),(4,.op M.length 0 0 0),(6,.I i)]) (fun i => j - i) ⟨Nat.zero_le _,rfl⟩ rfl rfl ?_
 rintro i ⟨hi,hnear⟩
 by_cases hij:i < j
 ·obtain ⟨y,hy⟩:∃ y,l[i]? = some y:=⟨_,List.getElem?_eq_getElem (by omega)⟩
  have f1:i < l.length:=by omega
  have hsn:=Qdg (fun o => decide (Q1 x.at_ o.at_ < least * least)) hy
  have gy:=hpt i y hij hy
  simp -implicitDefEqProofs (disch:=first|omega|(simp only [go_sem,seval,hij,f1,hy,Qh,Qi];first|done|omega)) only [go_sem,seval,hij,f1,hy,Qh,Qi]
  refine Qa (Qf8 y.at_ x.at_ (ZQ gy) (ZQ gx) _) ?_
  rw [QhU]
  have hbd:=QbE (ZQ gx) (ZQ gy)
  simp -implicitDefEqProofs (disch:=first|omega|(simp only [go_sem,seval,Qh,Qi];first|done|omega)) only [go_sem,seval,Qh,Qi]
  by_cases hn:Q1 x.at_ y.at_ < least * least
  ·have:=QeY (k:=j) (fun o => decide (Q1 x.at_ o.at_ < least * least)) hy hij (by simpa using hn)
   rw [Qhn g1' g2 hany this] at hd
   simp -implicitDefEqProofs (disch:=first|omega|(simp only [go_sem,seval,hn];first|done|omega)) only [go_sem,seval,hn]
   (first|refine pfN hM ?_ ?_|refine pf0 hM ?_ ?_)
   ·simp -implicitDefEqProofs (disch:=first|omega|(simp only [go_sem,seval];first|done|omega)) only [go_sem,seval]
    rw [hs,hd];rfl
   ·(simp only [go_sem,seval]<;>omega)
  ·simp -implicitDefEqProofs (disch:=first|omega|(simp only [go_sem,seval,hn];first|done|omega)) only [go_sem,seval,hn]
   refine again' (i + 1) ⟨by omega,by rw [hsn,hnear];simp [hn]⟩ (by omega) rfl rfl
 have hij':i = j:=by omega
 subst hij'
 have h0:=QmK g1' g2 hany hnear
 rw [if_pos h0] at hd
 simp -implicitDefEqProofs (disch:=first|omega|(simp only [go_sem,seval,hij,Qh,Qi];first|done|omega)) only [go_sem,seval,hij,Qh,Qi]
 refine Qr hM rfl 0 (by simp) (by first|done|(simp only [go_sem,seval,QF] <;> first|done|(refine ⟨?_,?_⟩ <;> omega)|omega)) (Qv (by first|done|(simp only [go_sem,seval,QF] <;> first|done|(refine ⟨?_,?_⟩ <;> omega)|omega))) ?_
 simp -implicitDefEqProofs (disch:=first|omega|(simp only [go_sem,seval];first|done|omega)) only [go_sem,seval]
 exact again' (i + 1) ⟨by omega,by rw [hs,hd],hin1 h0⟩ (by omega) rfl rfl
theorem Za (s:Ste) (hl:s.tbs.length ≤ 1048576):Q X 53 [Qq s] (.I (Qx s)):=by
 obtain ⟨nm,least,l⟩:=s
 have e:Qx ⟨nm,least,l⟩ = if Qn nm = false then 8 else if ¬ rng least 1 1000 = 0 then 3 else if 64 < l.length then 5 else fst0 (tbL least l):=rfl
 rw [e]
 clear e
 simp only at hl
 have e:Qq ⟨nm,least,l⟩ = .agg [.s (.string nm),.I least,.fs (l.map encTb)]:=rfl
 rw [e]
 clear e
 intro M
 (refine Qd (cf:=L4.c53) rfl rfl fun hM hA => ?_;simp only [L4.c53,zO,zF,zT,zM,CX.i];rw [mk1 _ (by decide)];simp -implicitDefEqProofs (disch:=first|omega|(simp only [go_sem,seval];first|done|omega)) only [go_sem,seval])
 refine Qa (ZZ nm _) ?_
 simp -implicitDefEqProofs (disch:=first|omega|(simp only [go_sem,seval];first|done|omega)) only [go_sem,seval]
 refine Qa (Vi _ _ _ _) ?_
 simp -implicitDefEqProofs (disch:=first|omega|(simp only [go_sem,seval];first|done|omega)) only [go_sem,seval]
 refine Qa (QA _ _ _) ?_
 simp -implicitDefEqProofs (disch:=first|omega|(simp only [go_sem,seval];first|done|omega)) only [go_sem,seval]
 refine Qa (QJ [if Qn nm = false then 8 else 0,rng least 1 1000,if (64:Int) < l.length then 5 else 0] (by simp) _) ?_
 have hv:∀ n a b:Int,rng n a b = 0 ∨ rng n a b = 3:=by intro n a b;unfold rng;split <;> simp
 by_cases h1:Qn nm = false
 ·have e:fst0 [if Qn nm = false then 8 else 0,rng least 1 1000,if (64:Int) < l.length then 5 else 0] = 8:=by simp [fst0,h1]
  have f8:((8:Int) = 0) = False:=by decide
  rw [if_pos h1,e]
  simp -implicitDefEqProofs (disch:=first|omega|(simp only [go_sem,seval,f8];first|done|omega)) only [go_sem,seval,f8]
  (all_goals (first|refine pfN hM ?_ ?_|refine pf0 hM ?_ ?_);all_goals first|(simp only [go_sem,seval]<;>omega)|skip;all_goals (try simp -implicitDefEqProofs (disch:=first|omega|(simp only [go_sem,seval];first|done|omega)) only [go_sem,seval]))
 by_cases h2:rng least 1 1000 = 0
 case neg =>
  have h3:=(hv least 1 1000).resolve_left h2
  have e:fst0 [if Qn nm = false then 8 else 0,rng least 1 1000,if (64:Int) < l.length then 5 else 0] = 3:=by simp [fst0,h1,h3]
  have f8:((3:Int) = 0) = False:=by decide
  rw [if_neg h1,if_pos h2,e]
  simp -implicitDefEqProofs (disch:=first|omega|(simp only [go_sem,seval,f8];first|done|omega)) only [go_sem,seval,f8]
  (all_goals (first|refine pfN hM ?_ ?_|refine pf0 hM ?_ ?_);all_goals first|(simp only [go_sem,seval]<;>omega)|skip;all_goals (try simp -implicitDefEqProofs (disch:=first|omega|(simp only [go_sem,seval];first|done|omega)) only [go_sem,seval]))
 by_cases h3:64 < l.length
 ·have f3:(64:Int) < l.length:=by omega
  have e:fst0 [if Qn nm = false then 8 else 0,rng least 1 1000,if (64:Int) < l.length then 5 else 0] = 5:=by simp [fst0,h1,h2,f3]
  have f8:((5:Int) = 0) = False:=by decide
  rw [if_neg h1,if_neg (fun h => h h2),if_pos h3,e]
  simp -implicitDefEqProofs (disch:=first|omega|(simp only [go_sem,seval,f8];first|done|omega)) only [go_sem,seval,f8]
  (all_goals (first|refine pfN hM ?_ ?_|refine pf0 hM ?_ ?_);all_goals first|(simp only [go_sem,seval]<;>omega)|skip;all_goals (try simp -implicitDefEqProofs (disch:=first|omega|(simp only [go_sem,seval];first|done|omega)) only [go_sem,seval]))
 have f3:¬ (64:Int) < l.length:=by omega
 have e:fst0 [if Qn nm = false then 8 else 0,rng least 1 1000,if (64:Int) < l.length then 5 else 0] = 0:=by simp [fst0,h1,h2,f3]
 rw [if_neg h1,if_neg (fun h => h h2),if_neg h3,e]
 rw [ZR] at h2
 clear e
 simp -implicitDefEqProofs (disch:=first|omega|(simp only [go_sem,seval];first|done|omega)) only [go_sem,seval]
 have hsq:=sqBd (d:=least) (n:=1000) (by omega) (by omega) (by omega)
 refine Qm (α:=Nat) 0 (fun k => k ≤ l.length ∧ fst0 (tbL least l) = fst0 ((tbL least l).drop k) ∧ tbsIn least l k) (fun k => M ++ [.map (Ys (l.take k))])
  (fun k => [(1,.fp [.s (.string nm),.I least,.fs (l.map encTb)]),(4,.om M.length),(5,.I 0),(28,.fs (l.map encTb)),(29,.I l.length),(30,.I k)]) (fun k => l.length - k) ⟨Nat.zero_le _,rfl,Qd3⟩ rfl rfl ?_
 rintro k ⟨hk,hs,hin⟩
 by_cases hlt:k < l.length
 case neg =>
  simp -implicitDefEqProofs (disch:=first|omega|(simp only [go_sem,seval,hlt];first|done|omega)) only [go_sem,seval,hlt]
  (first|refine pfN hM ?_ ?_|refine pf0 hM ?_ ?_)
  ·simp -implicitDefEqProofs (disch:=first|omega|(simp only [go_sem,seval];first|done|omega)) only [go_sem,seval]
   rw [hs,List.drop_of_length_le (by rw [QiN];omega)];rfl
  ·(simp only [go_sem,seval]<;>omega)
 obtain ⟨x,hx⟩:∃ x,l[k]? = some x:=⟨_,List.getElem?_eq_getElem hlt⟩
 have hd:=V4 (tbL least l) k _ (Qe1 hx)
 have hpt:=fun (i:Nat) (t:Tb) (hi:i < k) (ht:l[i]? = some t) => QaJ hin hi ht
 have hin1:=Qei hin hx
 have hkn:=Qiz x.name (l.take k)
 have hfk:=QkF x.name (l.take k)
 simp -implicitDefEqProofs (disch:=first|omega|(simp only [go_sem,seval,hlt,hx,Qh,Qi];first|done|omega)) only [go_sem,seval,hlt,hx,Qh,Qi]
 refine Qa (ZZ _ _) ?_
 simp -implicitDefEqProofs (disch:=first|omega|(simp only [go_sem,seval,Qi];first|done|omega)) only [go_sem,seval,Qi]
 refine Qa (QcB x.at_ _) ?_
 simp -implicitDefEqProofs (disch:=first|omega|(simp only [go_sem,seval,Qi,Qgo,Qhj,JZ,hkn,hfk];first|done|omega)) only [go_sem,seval,Qi,Qgo,Qhj,JZ,hkn,hfk]
 refine Qa (QA _ _ _) ?_
 simp -implicitDefEqProofs (disch:=first|omega|(simp only [go_sem,seval,Qi];first|done|omega)) only [go_sem,seval,Qi]
 refine Qa (QJ [if Qn x.name = false then 8 else 0,ptE x.at_,if (l.take k).any (fun o => decide (o.name = x.name)) = true then 9 else 0] (by simp) _) ?_
 have bad:∀ (e:Int),e ≠ 0 → tbE least (l.take k) x = e → fst0 (tbL least l) = e:=by
  intro e h0 h1
  rw [hs,hd,h1,if_neg h0]
 by_cases g1:Qn x.name = false
 ·have e:fst0 [if Qn x.name = false then 8 else 0,ptE x.at_,if (l.take k).any (fun o => decide (o.name = x.name)) = true then 9 else 0] = 8:=by simp [fst0,g1]
  have f8:((8:Int) = 0) = False:=by decide
  rw [e]
  simp -implicitDefEqProofs (disch:=first|omega|(simp only [go_sem,seval,f8];first|done|omega)) only [go_sem,seval,f8]
  (first|refine pfN hM ?_ ?_|refine pf0 hM ?_ ?_)
  ·simp -implicitDefEqProofs (disch:=first|omega|(simp only [go_sem,seval];first|done|omega)) only [go_sem,seval]
   rw [bad 8 (by decide) (Qgb g1)]
  ·(simp only [go_sem,seval]<;>omega)
 have g1':Qn x.name = true:=by simpa using g1
 by_cases g2:ptE x.at_ = 0
 case neg =>
  have g3:=(ptE_v x.at_).resolve_left g2
  have e:fst0 [if Qn x.name = false then 8 else 0,ptE x.at_,if (l.take k).any (fun o => decide (o.name = x.name)) = true then 9 else 0] = 3:=by simp [fst0,g1,g3]
  have f8:((3:Int) = 0) = False:=by decide
  rw [e]
  simp -implicitDefEqProofs (disch:=first|omega|(simp only [go_sem,seval,f8];first|done|omega)) only [go_sem,seval,f8]
  (first|refine pfN hM ?_ ?_|refine pf0 hM ?_ ?_)
  ·simp -implicitDefEqProofs (disch:=first|omega|(simp only [go_sem,seval];first|done|omega)) only [go_sem,seval]
   rw [bad 3 (by decide) (QmC g1' g2)]
  ·(simp only [go_sem,seval]<;>omega)
 by_cases g3:(l.take k).any (fun o => decide (o.name = x.name)) = true
 ·have e:fst0 [if Qn x.name = false then 8 else 0,ptE x.at_,if (l.take k).any (fun o => decide (o.name = x.name)) = true then 9 else 0] = 9:=by rw [g3];simp [fst0,g1,g2]
  have f8:((9:Int) = 0) = False:=by decide
  rw [e]
  simp -implicitDefEqProofs (disch:=first|omega|(simp only [go_sem,seval,f8];first|done|omega)) only [go_sem,seval,f8]
  (first|refine pfN hM ?_ ?_|refine pf0 hM ?_ ?_)
  ·simp -implicitDefEqProofs (disch:=first|omega|(simp only [go_sem,seval];first|done|omega)) only [go_sem,seval]
   rw [bad 9 (by decide) (QfB g1' g2 g3)]
  ·(simp only [go_sem,seval]<;>omega)
 have g3':(l.take k).any (fun o => decide (o.name = x.name)) = false:=by simpa using g3
 have e:fst0 [if Qn x.name = false then 8 else 0,ptE x.at_,if (l.take k).any (fun o => decide (o.name = x.name)) = true then 9 else 0] = 0:=by rw [g3'];simp [fst0,g1,g2]
 rw [e]
 clear e
 have gx:=Qhm g2
 have hup:=QmV x (l.take k) g3'
 have hsz:=Zl l
 have hkl:(k ≤ l.length) = True:=eq_true hk
 have htk:List.take k (List.map encTb l) = (l.take k).map encTb:=by rw [List.map_take]
 have hlk:(l.take k).length = k:=by rw [List.length_take];omega
 have hsk:=Zl (l.take k)
 simp -implicitDefEqProofs (disch:=first|omega|(simp only [go_sem,seval,Qh,Qi,QhD,Qfo,JZ,hkn,hup,hsz,hkl,htk,hlk,List.drop_zero,Nat.sub_zero];first|done|omega)) only [go_sem,seval,Qh,Qi,QhD,Qfo,JZ,hkn,hup,hsz,hkl,htk,hlk,List.drop_zero,Nat.sub_zero]
 refine Qm (α:=Nat) 0 (fun i => i ≤ k ∧ (l.take i).any (fun o => decide (Q1 x.at_ o.at_ < least * least)) = false) (fun _ => M ++ [.map (Ys (l.take k ++ [x])),.row true 3 0 [encTb x]])
  (fun i => [(1,.fp [.s (.string nm),.I least,.fs (l.map encTb)]),(4,.om M.length),(5,.I 0),(7,.op (M.length + 1) 0 0 0),(28,.fs (l.map encTb)),(29,.I l.length),(30,.I k),(56,.fs ((l.take k).map encTb)),(57,.I k),(58,.I i)])
  (fun i => k - i) ⟨Nat.zero_le _,rfl⟩ rfl rfl ?_
 rintro i ⟨hi,hnear⟩
 by_cases hij:i < k
 ·obtain ⟨y,hy⟩:∃ y,l[i]? = some y:=⟨_,List.getElem?_eq_getElem (by omega)⟩
  have hy':(l.take k)[i]? = some y:=by rw [List.getElem?_take_of_lt hij];exact hy
  have f1:i < (l.take k).length:=by omega
  have hsn:=Qdg (fun o => decide (Q1 x.at_ o.at_ < least * least)) hy
  have gy:=hpt i y hij hy
  simp -implicitDefEqProofs (disch:=first|omega|(simp only [go_sem,seval,hij,f1,hy',hlk,Qh,Qi];first|done|omega)) only [go_sem,seval,hij,f1,hy',hlk,Qh,Qi]
  refine Qa (JH x.at_ y.at_ (ZQ gx) (ZQ gy) _) ?_
  simp -implicitDefEqProofs (disch:=first|omega|(simp only [go_sem,seval,Qh,Qi];first|done|omega)) only [go_sem,seval,Qh,Qi]
  by_cases hn:Q1 x.at_ y.at_ < least * least
  ·have hit:=QeY (k:=k) (fun o => decide (Q1 x.at_ o.at_ < least * least)) hy hij (by simpa using hn)
   simp -implicitDefEqProofs (disch:=first|omega|(simp only [go_sem,seval,hn];first|done|omega)) only [go_sem,seval,hn]
   (first|refine pfN hM ?_ ?_|refine pf0 hM ?_ ?_)
   ·simp -implicitDefEqProofs (disch:=first|omega|(simp only [go_sem,seval];first|done|omega)) only [go_sem,seval]
    rw [bad 15 (by decide) (Qhn g1' g2 g3' hit)]
   ·(simp only [go_sem,seval]<;>omega)
  ·simp -implicitDefEqProofs (disch:=first|omega|(simp only [go_sem,seval,hn,Qh,Qi];first|done|omega)) only [go_sem,seval,hn,Qh,Qi]
   refine Qr hM rfl 2 (by simp) (by first|done|(simp only [go_sem,seval,QF] <;> first|done|(refine ⟨?_,?_⟩ <;> omega)|omega)) (Qv (by first|done|(simp only [go_sem,seval,QF] <;> first|done|(refine ⟨?_,?_⟩ <;> omega)|omega))) ?_
   simp -implicitDefEqProofs (disch:=first|omega|(simp only [go_sem,seval];first|done|omega)) only [go_sem,seval]
   exact again' (i + 1) ⟨by omega,by rw [hsn,hnear];simp [hn]⟩ (by omega) rfl rfl
 have hij':i = k:=by omega
 subst hij'
 have h0:=QmK g1' g2 g3' hnear
 rw [if_pos h0] at hd
 simp -implicitDefEqProofs (disch:=first|omega|(simp only [go_sem,seval,hij,Qh,Qi];first|done|omega)) only [go_sem,seval,hij,Qh,Qi]
 refine Qr hM rfl 1 (by simp) (by first|done|(simp only [go_sem,seval,QF] <;> first|done|(refine ⟨?_,?_⟩ <;> omega)|omega)) (Qv (by first|done|(simp only [go_sem,seval,QF] <;> first|done|(refine ⟨?_,?_⟩ <;> omega)|omega))) ?_
 simp -implicitDefEqProofs (disch:=first|omega|(simp only [go_sem,seval];first|done|omega)) only [go_sem,seval]
 have hts:l.take (i + 1) = l.take i ++ [x]:=by
  obtain ⟨q1,q2⟩:=List.getElem?_eq_some_iff.1 hx
  rw [List.take_succ_eq_append_getElem q1,q2]
 exact again' (i + 1) ⟨by omega,by rw [hs,hd],hin1 h0⟩ (by omega) (by rw [hts]) rfl
end
end Go.Nac.L4
