/- What a stream of bytes reads as. -/
import Derived.Test.YtcbfjgpdogcdbaaGreatDoorW04
set_option linter.unusedVariables false
namespace Go.Nac
def bt (c:UInt8):PV:=.s (.int .u8 c.toNat)
theorem bt_eq (c:UInt8):bt c = .s (.int .u8 c.toNat):=rfl
theorem strOf_bt (l:List UInt8):strOf (l.map bt) = some ⟨l.toArray⟩:=strOf_bytes ⟨l.toArray⟩
theorem bt_low {n:Nat} (l:List UInt8):lowL n (l.map bt) = True:=eq_true (lowL_map _ _ fun r => by simp [bt,PV.low])
theorem bt_sized (l:List UInt8):sized 1 (l.map bt) = true:=by unfold sized;rw [List.all_eq_true];intro x hx;obtain ⟨y,_,rfl⟩:=List.mem_map.1 hx;rfl
theorem u8_lt (c:UInt8):c.toNat < 256:=c.toNat_lt
def num4:List UInt8 → Nat
  | a :: b :: c :: d :: _ => ((a.toNat * 256 + b.toNat) * 256 + c.toNat) * 256 + d.toNat
  | _ => 0
theorem num4_lt (l:List UInt8):num4 l < 4294967296:=by
  unfold num4
  split
  · rename_i a b c d _
    have:=u8_lt a;have:=u8_lt b;have:=u8_lt c;have:=u8_lt d
    omega
  · decide
theorem four_of {l:List UInt8} (h:4 ≤ l.length):∃ a b c d t,l = a :: b :: c :: d :: t:=by
  match l,h with
  | a :: b :: c :: d :: t,_ => exact ⟨a,b,c,d,t,rfl⟩
theorem or_byte {n b:Nat} (hn:n < 4294967296) (hb:b < 256):bin .or (.I ((n * 256:Nat):Int)) (.I (b:Int)) = some (.I ((n * 256 + b:Nat):Int)):=by
  rw [bin_or]
  have h1:(BitVec.ofInt IntKind.i64.bits ((n * 256:Nat):Int) ||| BitVec.ofInt IntKind.i64.bits (b:Int)).toNat = n * 256 + b:=by
    have e64:IntKind.i64.bits = 64:=rfl
    rw [e64,BitVec.ofInt_natCast,BitVec.ofInt_natCast,BitVec.toNat_or,BitVec.toNat_ofNat,BitVec.toNat_ofNat,Nat.mod_eq_of_lt (by omega),Nat.mod_eq_of_lt (by omega)]
    have:=Nat.shiftLeft_add_eq_or_of_lt (i:=8) (b:=b) (by omega) n
    rw [Nat.shiftLeft_eq] at this
    simpa using this.symm
  rw [h1,wrap_in ⟨by omega,by omega⟩]
def gapL (t:List UInt8) (k:Nat):List Spn:=(List.range k).map fun i => ⟨num4 (t.drop (8 * i)),num4 (t.drop (8 * i + 4))⟩
def smpL (t:List UInt8) (k:Nat):List Nat:=(List.range k).map fun i => num4 (t.drop (4 * i))
theorem gapL_snoc (t:List UInt8) (k:Nat):gapL t (k + 1) = gapL t k ++ [⟨num4 (t.drop (8 * k)),num4 (t.drop (8 * k + 4))⟩]:=by unfold gapL;rw [List.range_succ,List.map_append];rfl
theorem smpL_snoc (t:List UInt8) (k:Nat):smpL t (k + 1) = smpL t k ++ [num4 (t.drop (4 * k))]:=by unfold smpL;rw [List.range_succ,List.map_append];rfl
theorem gapL_len (t:List UInt8) (k:Nat):(gapL t k).length = k:=by simp [gapL]
theorem smpL_len (t:List UInt8) (k:Nat):(smpL t k).length = k:=by simp [smpL]
def nmN (b:List UInt8):Nat:=((b[4]?).getD 0).toNat
def dBody (b:List UInt8):List UInt8:=b.drop (5 + nmN b)
def dTail (b:List UInt8):List UInt8:=(dBody b).drop 12
def dM (b:List UInt8):Nat:=num4 ((dBody b).drop 4)
def dG (b:List UInt8):Nat:=num4 ((dBody b).drop 8)
def dSer (b:List UInt8):Ser:=⟨⟨((b.drop 5).take (nmN b)).toArray⟩,num4 (dBody b),smpL ((dTail b).drop (8 * dG b)) (dM b),gapL (dTail b) (dG b)⟩
def dE0 (b:List UInt8):Int:=if 4000000 < b.length then 27 else if b.length < 5 then 29 else if b.take 4 ≠ [87,73,78,68] then 1 else 0
def dE (b:List UInt8):Int :=
  if dE0 b ≠ 0 then dE0 b else if b.length < 17 + nmN b then 29 else if (dTail b).length < 8 * dG b + 4 * dM b then 29 else if (dTail b).length ≠ 8 * dG b + 4 * dM b then 2 else
  if 2147483648 ∈ (dSer b).samples then 1 else chkSer (dSer b)
def decS (b:List UInt8):Ser:=if dE b = 0 then dSer b else ⟨⟨#[]⟩,0,[],[]⟩
end Go.Nac
