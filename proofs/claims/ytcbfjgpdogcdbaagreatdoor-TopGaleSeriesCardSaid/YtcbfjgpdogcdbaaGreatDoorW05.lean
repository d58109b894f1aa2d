/- Strings: bytes and runes; calls of what is not of the program. -/
import Derived.Test.YtcbfjgpdogcdbaaGreatDoorW04
set_option linter.unusedVariables false
namespace Go.Nac
theorem Qc8 (s:ByteArray):∀ (n i:Nat) (r:List UInt8),s.size - i ≤ n → r ≠ [] → ByteArray.toList.loop s i r ≠ []:=by
 intro n
 induction n with
 | zero =>
  intro i r h hr
  rw [ByteArray.toList.loop,if_neg (by omega)];simpa using hr
 | succ n ih =>
  intro i r h hr
  rw [ByteArray.toList.loop]
  split
  ·exact ih _ _ (by omega) (by simp)
  ·simpa using hr
theorem QiC {s:ByteArray} (h:s.size ≠ 0):s.toList ≠ []:=by
 unfold ByteArray.toList
 rw [ByteArray.toList.loop,if_pos (by omega)]
 exact Qc8 s _ _ _ (Nat.le_refl _) (by simp)
theorem Qcr {s:ByteArray} (h:s.size = 0):s.toList = []:=by
 unfold ByteArray.toList
 rw [ByteArray.toList.loop,if_neg (by omega)];rfl
theorem J9 {s:ByteArray}:bin .neq (.s (.string s)) (.s (.string ⟨#[]⟩)) = some (.B (decide (s.size ≠ 0))):=by
 have e:(⟨#[]⟩:ByteArray).toList = []:=Qcr rfl
 simp only [bin,Yg,Option.map_some,e]
 by_cases h:s.size = 0
 ·rw [Qcr h];simp [h]
 ·have:=QiC h
  cases hs:s.toList with
  | nil => exact absurd hs this
  | cons a l => simp [h]
theorem Qd7 {s:ByteArray} {i:Nat} {u:UInt8} (h:s[i]? = some u):s.get! i = u:=by
 have hi:i < s.size:=by
  rcases Nat.lt_or_ge i s.size with h1|h1
  ·exact h1
  ·rw [getElem?_neg s i (by omega)] at h;cases h
 rw [getElem?_pos s i hi] at h
 cases h
 cases s with
 | mk bs => exact getElem!_pos bs i hi
theorem Qep {s:ByteArray} {i:Nat} (h:i < s.size):∃ u,s[i]? = some u:=⟨_,getElem?_pos s i h⟩
theorem Qdn {s:ByteArray} {i:Nat} {u:UInt8} (h:s[i]? = some u):chAt s i = u.toNat:=by unfold chAt;rw [h];rfl
theorem Qkg {s:ByteArray} {i:Nat} {u:UInt8} (h:s[i]? = some u) (hu:u.toNat < 128):Utf8.decode s i = (u.toNat,1):=by
 unfold Utf8.decode
 simp only [Nat.add_zero,Qd7 h]
 rw [if_pos hu]
theorem Qpd {s:ByteArray} {i:Nat} {u:UInt8} (h:s[i]? = some u) (hu:¬ u.toNat < 128):128 ≤ (Utf8.decode s i).1:=by
 unfold Utf8.decode
 simp only [Nat.add_zero,Qd7 h]
 rw [if_neg hu]
 have e:Utf8.runeError = 65533:=rfl
 split
 ·split
  ·rename_i h1;exact h1
  ·rw [e];decide
 ·split
  ·split
   ·rename_i h1;simp only [ge_iff_le,Bool.and_eq_true,decide_eq_true_eq] at h1;exact Nat.le_trans (by decide) h1.1
   ·rw [e];decide
  ·split
   ·split
    ·rename_i h1;simp only [ge_iff_le,Bool.and_eq_true,decide_eq_true_eq] at h1;exact Nat.le_trans (by decide) h1.1
    ·rw [e];decide
   ·rw [e];decide
theorem Qhd {s:ByteArray} {k:Nat} {u:UInt8} (h:s[k]? = some u):idxsV (.s (.string s)) (some k) = some (.s (.int .u8 u.toNat)):=by
 show (s[k]?).map _ = _
 rw [h];rfl
theorem VI {F:Prog} {X:XRel} {f:FuncId} {args:List PV} {r:PV} {M M':List Blk} (h:X f args M r M'):ACall F X (.fn f) args M r M':=fun C hC => hC.2.2.1 f args M r M' h
section
variable {C:CallR} {K:(List Blk) → List PV → Prop} {M:List Blk} {t:List PV} {d:Option Nat} {os:List COper}
theorem Qde {z:List Value} {ps:List (Nat × Nat × CX)}:wpOps C (⟨d,.fz (.build z ps),none⟩ :: os) K M t = b2 (V6 ((QT (z.map .s) (ps.map fun p => (p.1,p.2.1,ev t p.2.2))).map fun cs => (.agg cs,M))) (kont2 C os K t d):=r_fz rfl
theorem Qjb {i ver off len:Nat} {r:List PV}:Ql M (.os i ver off len :: r) = (frzR M i M[i]?).bind fun M => Ql M r:=by
 have:=QaB (M:=M) (i:=i) (ver:=ver) (off:=off) (len:=len)
 rw [← this]
 simp only [Ql]
 cases freeze M i <;> rfl
theorem fzs_s {v:Value} {r:List PV}:Ql M (.s v :: r) = Ql M r:=nrfl rfl
theorem QgY:Ql M [] = some M:=nrfl rfl
end
end Go.Nac
namespace Go.Nac
def QP (n:Nat) (g:List Spn) (k:Nat):List PV:=(List.range n).map fun (i:Nat) => PV.B (gapAt (g.take k) (i:Int))
def Zg (n:Nat) (g:List Spn) (k:Nat) (x:Spn) (j:Nat):List PV:=(List.range n).map fun (i:Nat) => PV.B (gapAt (g.take k) (i:Int) || decide (x.fr ≤ (i:Int) ∧ (i:Int) < (j:Int)))
theorem Jk (n:Nat) (g:List Spn) (k:Nat):(QP n g k).length = n:=by simp [QP]
theorem YD (n:Nat) (g:List Spn) (k:Nat) (x:Spn) (j:Nat):(Zg n g k x j).length = n:=by simp [Zg]
theorem Vy {m:Nat} (n:Nat) (g:List Spn) (k:Nat):lowL m (QP n g k) = True:=eq_true (VB _ _ fun i => by simp [PV.low])
theorem QjF (n:Nat) (g:List Spn):QP n g 0 = List.replicate n (PV.B false):=by
 apply List.ext_getElem?
 intro i
 simp only [QP,List.getElem?_map,List.getElem?_replicate]
 by_cases h:i < n
 ·rw [List.getElem?_range h,if_pos h];rfl
 ·rw [List.getElem?_eq_none (by simpa using h),if_neg h];rfl
theorem Qje {n:Nat} {g:List Spn} {k:Nat} {x:Spn} {a:Nat} (h:x.fr = a):Zg n g k x a = QP n g k:=by
 unfold Zg QP
 refine List.map_congr_left fun i _ => ?_
 rw [h,decide_eq_false (by omega),Bool.or_false]
theorem QoL {n:Nat} {g:List Spn} {k:Nat} {x:Spn} {b:Nat} (hx:g[k]? = some x) (h:x.to_ = b):Zg n g k x b = QP n g (k + 1):=by
 unfold Zg QP
 refine List.map_congr_left fun i _ => ?_
 rw [QhM g k x hx,h]
theorem QaV {n:Nat} {g:List Spn} {k:Nat} {x:Spn} {j i:Nat} (h:i < n):(Zg n g k x j)[i]? = some (.B (gapAt (g.take k) i || decide (x.fr ≤ (i:Int) ∧ (i:Int) < (j:Int)))):=by
 simp only [Zg,List.getElem?_map];rw [List.getElem?_range h];rfl
theorem QbC {n:Nat} {g:List Spn} {k:Nat} {i:Nat} (h:i < n):(QP n g k)[i]? = some (.B (gapAt (g.take k) i)):=by
 simp only [QP,List.getElem?_map];rw [List.getElem?_range h];rfl
theorem QmU {n:Nat} {g:List Spn} {k:Nat} {x:Spn} {j:Nat} (ha:x.fr ≤ j) (hj:j < n):(Zg n g k x j).set j (.B true) = Zg n g k x (j + 1):=by
 apply List.ext_getElem?
 intro i
 by_cases e:i = j
 ·subst e
  rw [List.getElem?_set_self (by rw [YD];exact hj),QaV hj]
  rw [decide_eq_true (by omega),Bool.or_true]
 ·rw [List.getElem?_set_ne (Ne.symm e)]
  by_cases h:i < n
  ·rw [QaV h,QaV h]
   have e2:decide (x.fr ≤ (i:Int) ∧ (i:Int) < (j:Int)) = decide (x.fr ≤ (i:Int) ∧ (i:Int) < ((j + 1:Nat):Int)):=decide_eq_decide.2 (by omega)
   rw [e2]
  ·rw [List.getElem?_eq_none (by rw [YD];omega),List.getElem?_eq_none (by rw [YD];omega)]
def ZD (l:List Nat) (g:List Spn) (k:Nat):Prop:=∀ (i x:Nat),i < k → l[i]? = some x → (nz x && gapAt g i) = false
theorem ZW (l:List Nat) (g:List Spn):ZD l g 0:=fun i x h => absurd h (by omega)
theorem Vh {l:List Nat} {g:List Spn} {k x:Nat} (h:ZD l g k) (h1:l[k]? = some x) (h2:(nz x && gapAt g k) = false):ZD l g (k + 1):=by
 intro i y hi hy
 rcases Nat.lt_or_ge i k with h3|h3
 ·exact h i y h3 hy
 ·have:i = k:=by omega
  subst this;rw [h1] at hy;cases hy;exact h2
theorem Yd {l:List Nat} {g:List Spn} {k:Nat} (h:ZD l g k) (hk:l.length ≤ k):Ve l g = 0 :=
 Qbo fun i x hx => h i x (by have:=(List.getElem?_eq_some_iff.1 hx).1;omega) hx
def serA (s:Ser):Int:=fst0 [if Qn s.name = false then 8 else 0,rng s.start 0 999999999,if 40000 < s.samples.length then 5 else 0]
def serB (s:Ser):Int :=
 if ¬ fst0 (s.samples.map smpE) = 0 then fst0 (s.samples.map smpE) else if ¬ Qm s.gaps = 0 then Qm s.gaps else
 if ¬ QU s.samples s.gaps = 0 then 14 else Ve s.samples s.gaps
theorem Qdm (n a b:Int):rng n a b = 0 ∨ rng n a b = 3:=by unfold rng;split <;> simp
theorem QaL (s:Ser):Qk s = if serA s = 0 then serB s else serA s:=by
 unfold Qk serA serB
 simp only [fst0]
 rcases Qdm s.start 0 999999999 with h|h <;> cases hn:Qn s.name <;> by_cases hl:40000 < s.samples.length <;> simp [h,hl]
theorem QdC {s:Ser} (h:serA s = 0):Qn s.name = true ∧ rng s.start 0 999999999 = 0 ∧ s.samples.length ≤ 40000:=by
 unfold serA at h
 simp only [fst0] at h
 rcases Qdm s.start 0 999999999 with h1|h1 <;> cases hn:Qn s.name <;> by_cases hl:40000 < s.samples.length <;> simp [h1,hl,hn] at h ⊢ <;> omega
theorem QcX {l:List Nat} {g:List Spn} (h1:Qm g = 0) (h2:QU l g = 0):∀ x:Spn,x ∈ g → 0 ≤ x.fr ∧ x.fr < x.to_ ∧ x.to_ ≤ l.length:=by
 unfold Qm at h1
 split at h1
 ·cases h1
 ·obtain ⟨g1,g2⟩:=Qgj h1
  intro x hx
  have h3:=g1 x hx
  refine ⟨h3.1,h3.2.1,?_⟩
  unfold QU at h2
  cases hz:g.getLast? with
  | none => rw [List.getLast?_eq_none_iff] at hz;subst hz;cases hx
  | some z =>
   rw [hz] at h2
   simp only at h2
   have:=g2 x hx z hz
   split at h2
   ·cases h2
   ·omega
theorem Qbk {l:List Nat}:QU l [] = 0:=rfl
theorem Qar {l:List Nat} {g:List Spn} {z:Spn} (h:g[g.length - 1]? = some z):QU l g = if (l.length:Int) < z.to_ then 14 else 0:=by
 unfold QU
 rw [List.getLast?_eq_getElem?,h]
end Go.Nac
namespace Go.Nac
def bt (c:UInt8):PV:=.s (.int .u8 c.toNat)
theorem bt_eq (c:UInt8):bt c = .s (.int .u8 c.toNat):=rfl
theorem QbF (l:List UInt8):strOf (l.map bt) = some ⟨l.toArray⟩:=Qbd ⟨l.toArray⟩
theorem YX {n:Nat} (l:List UInt8):lowL n (l.map bt) = True:=eq_true (VB _ _ fun r => by simp [bt,PV.low])
theorem QbI (l:List UInt8):sized 1 (l.map bt) = true:=by unfold sized;rw [List.all_eq_true];intro x hx;obtain ⟨y,_,rfl⟩:=List.mem_map.1 hx;rfl
theorem u8_lt (c:UInt8):c.toNat < 256:=c.toNat_lt
def num4:List UInt8 → Nat
 | a :: b :: c :: d :: _ => ((a.toNat * 256 + b.toNat) * 256 + c.toNat) * 256 + d.toNat
 | _ => 0
theorem Z7 (l:List UInt8):num4 l < 4294967296:=by
 unfold num4
 split
 ·rename_i a b c d _
  have:=u8_lt a;have:=u8_lt b;have:=u8_lt c;have:=u8_lt d
  omega
 ·decide
theorem Qc6 {l:List UInt8} (h:4 ≤ l.length):∃ a b c d t,l = a :: b :: c :: d :: t:=by
 match l,h with
 | a :: b :: c :: d :: t,_ => exact ⟨a,b,c,d,t,rfl⟩
theorem QaT {n b:Nat} (hn:n < 4294967296) (hb:b < 256):bin .or (.I ((n * 256:Nat):Int)) (.I (b:Int)) = some (.I ((n * 256 + b:Nat):Int)):=by
 rw [QpF]
 have h1:(BitVec.ofInt IntKind.i64.bits ((n * 256:Nat):Int) ||| BitVec.ofInt IntKind.i64.bits (b:Int)).toNat = n * 256 + b:=by
  have e64:IntKind.i64.bits = 64:=rfl
  rw [e64,BitVec.ofInt_natCast,BitVec.ofInt_natCast,BitVec.toNat_or,BitVec.toNat_ofNat,BitVec.toNat_ofNat,Nat.mod_eq_of_lt (by omega),Nat.mod_eq_of_lt (by omega)]
  have:=Nat.shiftLeft_add_eq_or_of_lt (i:=8) (b:=b) (by omega) n
  rw [Nat.shiftLeft_eq] at this
  simpa using this.symm
 rw [h1,YH ⟨by omega,by omega⟩]
def gapL (t:List UInt8) (k:Nat):List Spn:=(List.range k).map fun i => ⟨num4 (t.drop (8 * i)),num4 (t.drop (8 * i + 4))⟩
def smpL (t:List UInt8) (k:Nat):List Nat:=(List.range k).map fun i => num4 (t.drop (4 * i))
theorem QdD (t:List UInt8) (k:Nat):gapL t (k + 1) = gapL t k ++ [⟨num4 (t.drop (8 * k)),num4 (t.drop (8 * k + 4))⟩]:=by unfold gapL;rw [List.range_succ,List.map_append];rfl
theorem Yj (t:List UInt8) (k:Nat):smpL t (k + 1) = smpL t k ++ [num4 (t.drop (4 * k))]:=by unfold smpL;rw [List.range_succ,List.map_append];rfl
theorem J2 (t:List UInt8) (k:Nat):(gapL t k).length = k:=by simp [gapL]
theorem JN (t:List UInt8) (k:Nat):(smpL t k).length = k:=by simp [smpL]
def nmN (b:List UInt8):Nat:=((b[4]?).getD 0).toNat
def dBody (b:List UInt8):List UInt8:=b.drop (5 + nmN b)
def dTail (b:List UInt8):List UInt8:=(dBody b).drop 12
def dM (b:List UInt8):Nat:=num4 ((dBody b).drop 4)
def dG (b:List UInt8):Nat:=num4 ((dBody b).drop 8)
def dSer (b:List UInt8):Ser:=⟨⟨((b.drop 5).take (nmN b)).toArray⟩,num4 (dBody b),smpL ((dTail b).drop (8 * dG b)) (dM b),gapL (dTail b) (dG b)⟩
def dE0 (b:List UInt8):Int:=if 4000000 < b.length then 27 else if b.length < 5 then 29 else if b.take 4 ≠ [87,73,78,68] then 1 else 0
def dE (b:List UInt8):Int :=
 if dE0 b ≠ 0 then dE0 b else if b.length < 17 + nmN b then 29 else if (dTail b).length < 8 * dG b + 4 * dM b then 29 else if (dTail b).length ≠ 8 * dG b + 4 * dM b then 2 else
 if 2147483648 ∈ (dSer b).samples then 1 else Qk (dSer b)
def decS (b:List UInt8):Ser:=if dE b = 0 then dSer b else ⟨⟨#[]⟩,0,[],[]⟩
end Go.Nac
