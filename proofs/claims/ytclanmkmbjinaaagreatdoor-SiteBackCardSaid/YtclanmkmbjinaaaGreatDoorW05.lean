/- Series of chapter 1 in plain words: names, samples, gaps. -/
import Derived.Test.YtclanmkmbjinaaaGreatDoorW04
set_option linter.unusedVariables false
namespace Go.Nac
structure Spn where
 fr:Int
 to_:Int
 deriving DecidableEq
def Qb (x:Spn):PV:=.agg [.I x.fr,.I x.to_]
theorem Qe (x:Spn):Qb x = .agg [.I x.fr,.I x.to_]:=rfl
theorem Qj (x:Spn):(Qb x).cells = [.I x.fr,.I x.to_]:=nrfl rfl
theorem Qf {n:Nat} (l:List Spn):lowL n (l.map Qb) = True:=eq_true (Vp _ _ fun r => by simp [Qb,PV.low,lowL])
theorem Qbl (l:List Spn):(l.map Qb).all (Q7 2) = true:=by rw [List.all_eq_true];intro x hx;obtain ⟨y,_,rfl⟩:=List.mem_map.1 hx;rfl
theorem QbB (l:List Spn):sized 2 (l.map Qb) = true:=by unfold sized;rw [List.all_eq_true];intro x hx;obtain ⟨y,_,rfl⟩:=List.mem_map.1 hx;rfl
abbrev encF (b:Nat):PV:=.s (.float .f32 b)
theorem Q3 {n:Nat} (l:List Nat):lowL n (l.map encF) = True:=eq_true (Vp _ _ fun r => by simp [PV.low])
theorem Qp2 (l:List Nat):(l.map encF).all (Q7 1) = true:=by rw [List.all_eq_true];intro x hx;obtain ⟨y,_,rfl⟩:=List.mem_map.1 hx;rfl
structure Ser where
 name:ByteArray
 start:Int
 samples:List Nat
 gaps:List Spn
def Qt (x:Ser):PV:=.agg [.s (.string x.name),.I x.start,.fs (x.samples.map encF),.fs (x.gaps.map Qb)]
theorem Qg (x:Ser):Qt x = .agg [.s (.string x.name),.I x.start,.fs (x.samples.map encF),.fs (x.gaps.map Qb)]:=rfl
theorem VH (x:Ser):(Qt x).cells = [.s (.string x.name),.I x.start,.fs (x.samples.map encF),.fs (x.gaps.map Qb)]:=nrfl rfl
theorem Qie {n:Nat} (x:Ser):(Qt x).low n = True:=eq_true (by simp [Qt,PV.low,lowL,Q3,Qf])
def QB (c:Nat):Bool:=decide (97 ≤ c ∧ c ≤ 122) || decide (65 ≤ c ∧ c ≤ 90)
def chOk (i c:Nat):Bool:=QB c || (decide (i ≠ 0) && (decide (c = 95) || decide (48 ≤ c ∧ c ≤ 57)))
def chAt (s:ByteArray) (i:Nat):Nat:=(s[i]?.getD 0).toNat
def Qn (s:ByteArray):Bool:=decide (s.size ≠ 0) && decide (s.size ≤ 24) && (List.range s.size).all fun i => chOk i (chAt s i)
theorem Qz {s:ByteArray} {i:Nat} (h:i < s.size) (hc:chOk i (chAt s i) = false):Qn s = false:=by
 unfold Qn
 have:((List.range s.size).all fun i => chOk i (chAt s i)) = false:=by
  rw [List.all_eq_false];exact ⟨i,by simpa using h,by simp [hc]⟩
 rw [this,Bool.and_false]
theorem Qc3 {s:ByteArray} (h0:s.size ≠ 0) (h1:s.size ≤ 24) (h:∀ i,i < s.size → chOk i (chAt s i) = true):Qn s = true:=by
 unfold Qn
 have:((List.range s.size).all fun i => chOk i (chAt s i)) = true:=by
  rw [List.all_eq_true];intro i hi;exact h i (by simpa using hi)
 simp [this,h0,h1]
theorem QcW {s:ByteArray} (h0:s.size = 0):Qn s = false:=by simp [Qn,h0]
theorem QcN {s:ByteArray} (h0:24 < s.size):Qn s = false:=by simp [Qn];omega
def Vl (s:Spn):Int:=if s.fr < 0 ∨ s.to_ ≤ s.fr ∨ 40000 < s.to_ then 14 else 0
def QY (last:Int):List Spn → Int
 | [] => 0
 | s :: r => if Vl s = 0 then (if s.fr ≤ last then 11 else QY s.to_ r) else 14
def Qp (l:List Spn):Int:=if 1024 < l.length then 5 else QY (-1) l
def V2 (l:List Spn) (k:Nat):Int:=if k = 0 then -1 else match l[k - 1]? with|some s => s.to_|none => -1
theorem QiD (l:List Spn):V2 l 0 = -1:=rfl
theorem YK {l:List Spn} {k:Nat} {s:Spn} (h:l[k]? = some s):V2 l (k + 1) = s.to_:=by simp [V2,h]
theorem Qbd {l:List Spn} {k:Nat} {s:Spn} (h:l[k]? = some s) (last:Int):QY last (l.drop k) = if Vl s = 0 then (if s.fr ≤ last then 11 else QY s.to_ (l.drop (k + 1))) else 14:=by
 obtain ⟨h1,h2⟩:=List.getElem?_eq_some_iff.1 h
 rw [List.drop_eq_getElem_cons h1,h2,QY]
theorem QbN {l:List Spn} {k:Nat} (h:l.length ≤ k) (last:Int):QY last (l.drop k) = 0:=by
 rw [List.drop_eq_nil_of_le h];rfl
theorem JV {s:Spn} (h:Vl s = 0):0 ≤ s.fr ∧ s.fr < s.to_ ∧ s.to_ ≤ 40000:=by
 unfold Vl at h;split at h
 ·cases h
 ·omega
theorem QhZ {l:List Spn}:∀ {last:Int},QY last l = 0 → (∀ s:Spn,s ∈ l → 0 ≤ s.fr ∧ s.fr < s.to_ ∧ last < s.fr) ∧ ∀ s:Spn,s ∈ l → ∀ z:Spn,l.getLast? = some z → s.to_ ≤ z.to_:=by
 induction l with
 | nil => intro last _;exact ⟨fun s h => absurd h (by simp),fun s h => absurd h (by simp)⟩
 | cons a l ih =>
  intro last h
  rw [QY] at h
  split at h
  ·rename_i h0
   split at h
   ·cases h
   ·rename_i h1
    obtain ⟨g1,g2⟩:=ih h
    have ha:=JV h0
    refine ⟨fun s hs => ?_,fun s hs z hz => ?_⟩
    ·rcases List.mem_cons.1 hs with rfl|hs
     ·exact ⟨ha.1,ha.2.1,by omega⟩
     ·have:=g1 s hs;exact ⟨this.1,this.2.1,by omega⟩
    ·cases l with
     | nil => simp at hz hs;subst hz;subst hs;exact Int.le_refl _
     | cons b l =>
      have hz':(b :: l).getLast? = some z:=by simpa using hz
      rcases List.mem_cons.1 hs with rfl|hs
      ·have h3:=g2 b (by simp) z hz'
       have h4:=g1 b (by simp)
       omega
      ·exact g2 s hs z hz'
  ·cases h
def gapAt (g:List Spn) (i:Int):Bool:=g.any fun s => decide (s.fr ≤ i ∧ i < s.to_)
theorem Qkm (l:List Spn) (k:Nat) (s:Spn) (h:l[k]? = some s) (i:Int):gapAt (l.take (k + 1)) i = (gapAt (l.take k) i || decide (s.fr ≤ i ∧ i < s.to_)):=by
 obtain ⟨h1,h2⟩:=List.getElem?_eq_some_iff.1 h
 unfold gapAt
 rw [List.take_succ_eq_append_getElem h1,h2,List.any_append];simp
def Vw (l:List Nat) (g:List Spn):Int:=if (List.range l.length).any (fun i => nz (l.getD i 0) && gapAt g i) then 17 else 0
theorem Jh {l:List Nat} {g:List Spn} {i x:Nat} (h:l[i]? = some x) (h1:nz x = true) (h2:gapAt g i = true):Vw l g = 17:=by
 unfold Vw
 rw [if_pos]
 rw [List.any_eq_true]
 refine ⟨i,by simpa using (List.getElem?_eq_some_iff.1 h).1,?_⟩
 rw [List.getD_eq_getElem?_getD,h];simp [h1,h2]
theorem QhT {l:List Nat} {g:List Spn} (h:∀ (i x:Nat),l[i]? = some x → (nz x && gapAt g i) = false):Vw l g = 0:=by
 unfold Vw
 rw [if_neg]
 rw [Bool.not_eq_true,List.any_eq_false]
 intro i hi
 have hi:i < l.length:=by simpa using hi
 have:=h i _ (List.getElem?_eq_getElem hi)
 rw [List.getD_eq_getElem?_getD,List.getElem?_eq_getElem hi];simpa using this
def Vf (l:List Nat) (g:List Spn):Int:=match g.getLast? with|some z => if (l.length:Int) < z.to_ then 14 else 0|none => 0
def Ql (s:Ser):Int :=
 if Qn s.name = false then 8 else if ¬ rng s.start 0 999999999 = 0 then 3 else if 40000 < s.samples.length then 5 else
 if ¬ fst0 (s.samples.map smpE) = 0 then fst0 (s.samples.map smpE) else if ¬ Qp s.gaps = 0 then Qp s.gaps else
 if ¬ Vf s.samples s.gaps = 0 then 14 else Vw s.samples s.gaps
def Qtp (l:List Nat) (g:List Spn) (k:Nat):List Int:=((l.take k).zipIdx.filter fun p => !gapAt g p.2).map fun p => six p.1
end Go.Nac
namespace Go.Nac
theorem Qe0 (s:ByteArray):∀ (n i:Nat) (r:List UInt8),s.size - i ≤ n → r ≠ [] → ByteArray.toList.loop s i r ≠ []:=by
 intro n
 induction n with
 | zero =>
  intro i r h hr
  rw [ByteArray.toList.loop,if_neg (by omega)];simpa using hr
 | succ n ih =>
  intro i r h hr
  rw [ByteArray.toList.loop]
  split
  ·exact ih _ _ (by omega) (by simp)
  ·simpa using hr
theorem Qmf {s:ByteArray} (h:s.size ≠ 0):s.toList ≠ []:=by
 unfold ByteArray.toList
 rw [ByteArray.toList.loop,if_pos (by omega)]
 exact Qe0 s _ _ _ (Nat.le_refl _) (by simp)
theorem QdC {s:ByteArray} (h:s.size = 0):s.toList = []:=by
 unfold ByteArray.toList
 rw [ByteArray.toList.loop,if_neg (by omega)];rfl
theorem Qbc {s:ByteArray}:bin .neq (.s (.string s)) (.s (.string ⟨#[]⟩)) = some (.B (decide (s.size ≠ 0))):=by
 have e:(⟨#[]⟩:ByteArray).toList = []:=QdC rfl
 simp only [bin,Y5,Option.map_some,e]
 by_cases h:s.size = 0
 ·rw [QdC h];simp [h]
 ·have:=Qmf h
  cases hs:s.toList with
  | nil => exact absurd hs this
  | cons a l => simp [h]
theorem Qgx {s:ByteArray} {i:Nat} {u:UInt8} (h:s[i]? = some u):s.get! i = u:=by
 have hi:i < s.size:=by
  rcases Nat.lt_or_ge i s.size with h1|h1
  ·exact h1
  ·rw [getElem?_neg s i (by omega)] at h;cases h
 rw [getElem?_pos s i hi] at h
 cases h
 cases s with
 | mk bs => exact getElem!_pos bs i hi
theorem QhC {s:ByteArray} {i:Nat} (h:i < s.size):∃ u,s[i]? = some u:=⟨_,getElem?_pos s i h⟩
theorem Qfr {s:ByteArray} {i:Nat} {u:UInt8} (h:s[i]? = some u):chAt s i = u.toNat:=by unfold chAt;rw [h];rfl
theorem Qk6 {s:ByteArray} {i:Nat} {u:UInt8} (h:s[i]? = some u) (hu:u.toNat < 128):Utf8.decode s i = (u.toNat,1):=by
 unfold Utf8.decode
 simp only [Nat.add_zero,Qgx h]
 rw [if_pos hu]
theorem Qsy {s:ByteArray} {i:Nat} {u:UInt8} (h:s[i]? = some u) (hu:¬ u.toNat < 128):128 ≤ (Utf8.decode s i).1:=by
 unfold Utf8.decode
 simp only [Nat.add_zero,Qgx h]
 rw [if_neg hu]
 have e:Utf8.runeError = 65533:=rfl
 split
 ·split
  ·rename_i h1;exact h1
  ·rw [e];decide
 ·split
  ·split
   ·rename_i h1;simp only [ge_iff_le,Bool.and_eq_true,decide_eq_true_eq] at h1;exact Nat.le_trans (by decide) h1.1
   ·rw [e];decide
  ·split
   ·split
    ·rename_i h1;simp only [ge_iff_le,Bool.and_eq_true,decide_eq_true_eq] at h1;exact Nat.le_trans (by decide) h1.1
    ·rw [e];decide
   ·rw [e];decide
theorem QdX {s:ByteArray} {k:Nat} {u:UInt8} (h:s[k]? = some u):idxsV (.s (.string s)) (some k) = some (.s (.int .u8 u.toNat)):=by
 show (s[k]?).map _ = _
 rw [h];rfl
theorem QZ {F:Prog} {X:XRel} {f:FuncId} {args:List PV} {r:PV} {M M':List Blk} (h:X f args M r M'):ACall F X (.fn f) args M r M':=fun C hC => hC.2.2.1 f args M r M' h
section
variable {C:CallR} {K:(List Blk) → List PV → Prop} {M:List Blk} {t:List PV} {d:Option Nat} {os:List COper}
theorem Qfv {z:List Value} {ps:List (Nat × Nat × CX)}:wpOps C (⟨d,.fz (.build z ps),none⟩ :: os) K M t = b2 (Zm ((Q4 (z.map .s) (ps.map fun p => (p.1,p.2.1,ev t p.2.2))).map fun cs => (.agg cs,M))) (kont2 C os K t d):=r_fz rfl
theorem Qmm {i ver off len:Nat} {r:List PV}:Qw M (.os i ver off len :: r) = (frzR M i M[i]?).bind fun M => Qw M r:=by
 have:=QbU (M:=M) (i:=i) (ver:=ver) (off:=off) (len:=len)
 rw [← this]
 simp only [Qw]
 cases freeze M i <;> rfl
theorem fzs_s {v:Value} {r:List PV}:Qw M (.s v :: r) = Qw M r:=nrfl rfl
theorem QiZ:Qw M [] = some M:=nrfl rfl
end
end Go.Nac
namespace Go.Nac
def QQ (n:Nat) (g:List Spn) (k:Nat):List PV:=(List.range n).map fun (i:Nat) => PV.B (gapAt (g.take k) (i:Int))
def Zz (n:Nat) (g:List Spn) (k:Nat) (x:Spn) (j:Nat):List PV:=(List.range n).map fun (i:Nat) => PV.B (gapAt (g.take k) (i:Int) || decide (x.fr ≤ (i:Int) ∧ (i:Int) < (j:Int)))
theorem J3 (n:Nat) (g:List Spn) (k:Nat):(QQ n g k).length = n:=by simp [QQ]
theorem Jk (n:Nat) (g:List Spn) (k:Nat) (x:Spn) (j:Nat):(Zz n g k x j).length = n:=by simp [Zz]
theorem Vy {m:Nat} (n:Nat) (g:List Spn) (k:Nat):lowL m (QQ n g k) = True:=eq_true (Vp _ _ fun i => by simp [PV.low])
theorem QmR (n:Nat) (g:List Spn):QQ n g 0 = List.replicate n (PV.B false):=by
 apply List.ext_getElem?
 intro i
 simp only [QQ,List.getElem?_map,List.getElem?_replicate]
 by_cases h:i < n
 ·rw [List.getElem?_range h,if_pos h];rfl
 ·rw [List.getElem?_eq_none (by simpa using h),if_neg h];rfl
theorem QlU {n:Nat} {g:List Spn} {k:Nat} {x:Spn} {a:Nat} (h:x.fr = a):Zz n g k x a = QQ n g k:=by
 unfold Zz QQ
 refine List.map_congr_left fun i _ => ?_
 rw [h,decide_eq_false (by omega),Bool.or_false]
theorem QqY {n:Nat} {g:List Spn} {k:Nat} {x:Spn} {b:Nat} (hx:g[k]? = some x) (h:x.to_ = b):Zz n g k x b = QQ n g (k + 1):=by
 unfold Zz QQ
 refine List.map_congr_left fun i _ => ?_
 rw [Qkm g k x hx,h]
theorem Qco {n:Nat} {g:List Spn} {k:Nat} {x:Spn} {j i:Nat} (h:i < n):(Zz n g k x j)[i]? = some (.B (gapAt (g.take k) i || decide (x.fr ≤ (i:Int) ∧ (i:Int) < (j:Int)))):=by
 simp only [Zz,List.getElem?_map];rw [List.getElem?_range h];rfl
theorem QaK {n:Nat} {g:List Spn} {k:Nat} {i:Nat} (h:i < n):(QQ n g k)[i]? = some (.B (gapAt (g.take k) i)):=by
 simp only [QQ,List.getElem?_map];rw [List.getElem?_range h];rfl
theorem Qq3 {n:Nat} {g:List Spn} {k:Nat} {x:Spn} {j:Nat} (ha:x.fr ≤ j) (hj:j < n):(Zz n g k x j).set j (.B true) = Zz n g k x (j + 1):=by
 apply List.ext_getElem?
 intro i
 by_cases e:i = j
 ·subst e
  rw [List.getElem?_set_self (by rw [Jk];exact hj),Qco hj]
  rw [decide_eq_true (by omega),Bool.or_true]
 ·rw [List.getElem?_set_ne (Ne.symm e)]
  by_cases h:i < n
  ·rw [Qco h,Qco h]
   have e2:decide (x.fr ≤ (i:Int) ∧ (i:Int) < (j:Int)) = decide (x.fr ≤ (i:Int) ∧ (i:Int) < ((j + 1:Nat):Int)):=decide_eq_decide.2 (by omega)
   rw [e2]
  ·rw [List.getElem?_eq_none (by rw [Jk];omega),List.getElem?_eq_none (by rw [Jk];omega)]
def Ya (l:List Nat) (g:List Spn) (k:Nat):Prop:=∀ (i x:Nat),i < k → l[i]? = some x → (nz x && gapAt g i) = false
theorem Yp (l:List Nat) (g:List Spn):Ya l g 0:=fun i x h => absurd h (by omega)
theorem Vs {l:List Nat} {g:List Spn} {k x:Nat} (h:Ya l g k) (h1:l[k]? = some x) (h2:(nz x && gapAt g k) = false):Ya l g (k + 1):=by
 intro i y hi hy
 rcases Nat.lt_or_ge i k with h3|h3
 ·exact h i y h3 hy
 ·have:i = k:=by omega
  subst this;rw [h1] at hy;cases hy;exact h2
theorem YM {l:List Nat} {g:List Spn} {k:Nat} (h:Ya l g k) (hk:l.length ≤ k):Vw l g = 0 :=
 QhT fun i x hx => h i x (by have:=(List.getElem?_eq_some_iff.1 hx).1;omega) hx
def serA (s:Ser):Int:=fst0 [if Qn s.name = false then 8 else 0,rng s.start 0 999999999,if 40000 < s.samples.length then 5 else 0]
def serB (s:Ser):Int :=
 if ¬ fst0 (s.samples.map smpE) = 0 then fst0 (s.samples.map smpE) else if ¬ Qp s.gaps = 0 then Qp s.gaps else
 if ¬ Vf s.samples s.gaps = 0 then 14 else Vw s.samples s.gaps
theorem Qfw (n a b:Int):rng n a b = 0 ∨ rng n a b = 3:=by unfold rng;split <;> simp
theorem Qfj (s:Ser):Ql s = if serA s = 0 then serB s else serA s:=by
 unfold Ql serA serB
 simp only [fst0]
 rcases Qfw s.start 0 999999999 with h|h <;> cases hn:Qn s.name <;> by_cases hl:40000 < s.samples.length <;> simp [h,hl]
theorem QmB {s:Ser} (h:serA s = 0):Qn s.name = true ∧ rng s.start 0 999999999 = 0 ∧ s.samples.length ≤ 40000:=by
 unfold serA at h
 simp only [fst0] at h
 rcases Qfw s.start 0 999999999 with h1|h1 <;> cases hn:Qn s.name <;> by_cases hl:40000 < s.samples.length <;> simp [h1,hl,hn] at h ⊢ <;> omega
theorem Qi9 {l:List Nat} {g:List Spn} (h1:Qp g = 0) (h2:Vf l g = 0):∀ x:Spn,x ∈ g → 0 ≤ x.fr ∧ x.fr < x.to_ ∧ x.to_ ≤ l.length:=by
 unfold Qp at h1
 split at h1
 ·cases h1
 ·obtain ⟨g1,g2⟩:=QhZ h1
  intro x hx
  have h3:=g1 x hx
  refine ⟨h3.1,h3.2.1,?_⟩
  unfold Vf at h2
  cases hz:g.getLast? with
  | none => rw [List.getLast?_eq_none_iff] at hz;subst hz;cases hx
  | some z =>
   rw [hz] at h2
   simp only at h2
   have:=g2 x hx z hz
   split at h2
   ·cases h2
   ·omega
theorem QcQ {l:List Nat}:Vf l [] = 0:=rfl
theorem Qcd {l:List Nat} {g:List Spn} {z:Spn} (h:g[g.length - 1]? = some z):Vf l g = if (l.length:Int) < z.to_ then 14 else 0:=by
 unfold Vf
 rw [List.getLast?_eq_getElem?,h]
end Go.Nac
namespace Go.Nac
def bt (c:UInt8):PV:=.s (.int .u8 c.toNat)
theorem bt_eq (c:UInt8):bt c = .s (.int .u8 c.toNat):=rfl
theorem Qkf (l:List UInt8):QI ⟨l.toArray⟩ = l.map bt:=rfl
theorem Qa8 (l:List UInt8):strOf (l.map bt) = some ⟨l.toArray⟩:=Qc0 ⟨l.toArray⟩
theorem Qas {n:Nat} (l:List UInt8):lowL n (l.map bt) = True:=eq_true (Vp _ _ fun r => by simp [bt,PV.low])
theorem QaY (l:List UInt8):sized 1 (l.map bt) = true:=by unfold sized;rw [List.all_eq_true];intro x hx;obtain ⟨y,_,rfl⟩:=List.mem_map.1 hx;rfl
theorem u8_lt (c:UInt8):c.toNat < 256:=c.toNat_lt
def num4:List UInt8 → Nat
 | a :: b :: c :: d :: _ => ((a.toNat * 256 + b.toNat) * 256 + c.toNat) * 256 + d.toNat
 | _ => 0
theorem YF (l:List UInt8):num4 l < 4294967296:=by
 unfold num4
 split
 ·rename_i a b c d _
  have:=u8_lt a;have:=u8_lt b;have:=u8_lt c;have:=u8_lt d
  omega
 ·decide
theorem QeA {l:List UInt8} (h:4 ≤ l.length):∃ a b c d t,l = a :: b :: c :: d :: t:=by
 match l,h with
 | a :: b :: c :: d :: t,_ => exact ⟨a,b,c,d,t,rfl⟩
theorem Qcl {n b:Nat} (hn:n < 4294967296) (hb:b < 256):bin .or (.I ((n * 256:Nat):Int)) (.I (b:Int)) = some (.I ((n * 256 + b:Nat):Int)):=by
 rw [Qtc]
 have h1:(BitVec.ofInt IntKind.i64.bits ((n * 256:Nat):Int) ||| BitVec.ofInt IntKind.i64.bits (b:Int)).toNat = n * 256 + b:=by
  have e64:IntKind.i64.bits = 64:=rfl
  rw [e64,BitVec.ofInt_natCast,BitVec.ofInt_natCast,BitVec.toNat_or,BitVec.toNat_ofNat,BitVec.toNat_ofNat,Nat.mod_eq_of_lt (by omega),Nat.mod_eq_of_lt (by omega)]
  have:=Nat.shiftLeft_add_eq_or_of_lt (i:=8) (b:=b) (by omega) n
  rw [Nat.shiftLeft_eq] at this
  simpa using this.symm
 rw [h1,Qap ⟨by omega,by omega⟩]
def gapL (t:List UInt8) (k:Nat):List Spn:=(List.range k).map fun i => ⟨num4 (t.drop (8 * i)),num4 (t.drop (8 * i + 4))⟩
def smpL (t:List UInt8) (k:Nat):List Nat:=(List.range k).map fun i => num4 (t.drop (4 * i))
theorem Qfl (t:List UInt8) (k:Nat):gapL t (k + 1) = gapL t k ++ [⟨num4 (t.drop (8 * k)),num4 (t.drop (8 * k + 4))⟩]:=by unfold gapL;rw [List.range_succ,List.map_append];rfl
theorem YT (t:List UInt8) (k:Nat):smpL t (k + 1) = smpL t k ++ [num4 (t.drop (4 * k))]:=by unfold smpL;rw [List.range_succ,List.map_append];rfl
theorem QaZ (t:List UInt8) (k:Nat):(gapL t k).length = k:=by simp [gapL]
theorem Qa3 (t:List UInt8) (k:Nat):(smpL t k).length = k:=by simp [smpL]
def nmN (b:List UInt8):Nat:=((b[4]?).getD 0).toNat
def dBody (b:List UInt8):List UInt8:=b.drop (5 + nmN b)
def dTail (b:List UInt8):List UInt8:=(dBody b).drop 12
def dM (b:List UInt8):Nat:=num4 ((dBody b).drop 4)
def dG (b:List UInt8):Nat:=num4 ((dBody b).drop 8)
def dSer (b:List UInt8):Ser:=⟨⟨((b.drop 5).take (nmN b)).toArray⟩,num4 (dBody b),smpL ((dTail b).drop (8 * dG b)) (dM b),gapL (dTail b) (dG b)⟩
def dE0 (b:List UInt8):Int:=if 4000000 < b.length then 27 else if b.length < 5 then 29 else if b.take 4 ≠ [87,73,78,68] then 1 else 0
def dE (b:List UInt8):Int :=
 if dE0 b ≠ 0 then dE0 b else if b.length < 17 + nmN b then 29 else if (dTail b).length < 8 * dG b + 4 * dM b then 29 else if (dTail b).length ≠ 8 * dG b + 4 * dM b then 2 else
 if 2147483648 ∈ (dSer b).samples then 1 else Ql (dSer b)
def decS (b:List UInt8):Ser:=if dE b = 0 then dSer b else ⟨⟨#[]⟩,0,[],[]⟩
end Go.Nac
