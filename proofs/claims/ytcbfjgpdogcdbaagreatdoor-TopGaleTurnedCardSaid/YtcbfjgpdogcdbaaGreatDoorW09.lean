/- Series in streams and out of them. -/
import Derived.Test.YtcbfjgpdogcdbaaGreatDoorW08
set_option linter.unusedVariables false
namespace Go.Nac
open Ieee
def be8 (n:Nat):List UInt8:=[UInt8.ofNat (n / 16777216),UInt8.ofNat (n / 65536),UInt8.ofNat (n / 256),UInt8.ofNat n]
def fours (l:List Nat):List UInt8:=l.flatMap be8
theorem fours_cons (n:Nat) (l:List Nat):fours (n :: l) = be8 n ++ fours l:=rfl
theorem fours_app (a b:List Nat):fours (a ++ b) = fours a ++ fours b:=by unfold fours;rw [List.flatMap_append]
theorem fours_len (l:List Nat):(fours l).length = 4 * l.length:=by
  induction l with
  | nil => rfl
  | cons n l ih => rw [fours_cons,List.length_append,ih,List.length_cons];have:(be8 n).length = 4:=rfl;omega
theorem be8_bt (n:Nat):(be8 n).map bt = be4 n:=by
  have w:∀ z:Int,IntKind.u8.wrap z = z % 256:=fun _ => rfl
  have o:∀ a:Nat,((UInt8.ofNat a).toNat:Int) = ((a % 256:Nat):Int):=fun a => by rw [UInt8.toNat_ofNat']
  have f:∀ d:Nat,(n:Int).fdiv d = ((n / d:Nat):Int):=fun d => by rw [Int.fdiv_eq_ediv_of_nonneg _ (by omega)];rfl
  have f1:=f 16777216
  have f2:=f 65536
  have f3:=f 256
  unfold be8
  rw [be4_eq]
  simp only [List.map_cons,List.map_nil,bt_eq,o,w]
  have g1:(n:Int).fdiv 16777216 = ((n / 16777216:Nat):Int):=f1
  have g2:(n:Int).fdiv 65536 = ((n / 65536:Nat):Int):=f2
  have g3:(n:Int).fdiv 256 = ((n / 256:Nat):Int):=f3
  rw [g1,g2,g3]
  rfl
theorem fours_bt (l:List Nat):(fours l).map bt = putB (l.map fun n:Nat => (n:Int)):=by
  induction l with
  | nil => rfl
  | cons n l ih => rw [fours_cons,List.map_append,ih,be8_bt];rfl
theorem num4_be8 {n:Nat} (h:n < 4294967296) (r:List UInt8):num4 (be8 n ++ r) = n:=by
  show (((UInt8.ofNat (n / 16777216)).toNat * 256 + (UInt8.ofNat (n / 65536)).toNat) * 256 + (UInt8.ofNat (n / 256)).toNat) * 256 + (UInt8.ofNat n).toNat = n
  simp only [UInt8.toNat_ofNat']
  omega
theorem num4_app {l r:List UInt8} (h:4 ≤ l.length):num4 (l ++ r) = num4 l:=by
  obtain ⟨a,b,c,d,t,rfl⟩:=four_of h
  rfl
theorem fours_drop (l:List Nat) (i:Nat):(fours l).drop (4 * i) = fours (l.drop i):=by
  induction i generalizing l with
  | zero => rfl
  | succ i ih =>
    cases l with
    | nil => simp [fours]
    | cons n l =>
      rw [List.drop_succ_cons,← ih,fours_cons]
      have e:4 * (i + 1) = (be8 n).length + 4 * i:=by have:(be8 n).length = 4:=rfl;omega
      rw [e,List.drop_append]
      simp
theorem num4_fours {l:List Nat} {i n:Nat} (h:l[i]? = some n) (hn:n < 4294967296):num4 ((fours l).drop (4 * i)) = n:=by
  obtain ⟨h1,h2⟩:=List.getElem?_eq_some_iff.1 h
  rw [fours_drop,List.drop_eq_getElem_cons h1,h2,fours_cons,num4_be8 hn]
theorem smpL_fours {l:List Nat} {k:Nat} (hk:k ≤ l.length) (h:∀ n ∈ l,n < 4294967296):smpL (fours l) k = l.take k:=by
  induction k with
  | zero => rfl
  | succ k ih =>
    have h1:l[k]? = some l[k]:=List.getElem?_eq_getElem (by omega)
    rw [smpL_snoc,ih (by omega),num4_fours h1 (h _ (List.getElem_mem _)),List.take_succ_eq_append_getElem (by omega)]
def gpN (l:List Spn):List Nat:=l.flatMap fun g => [g.fr.toNat,g.to_.toNat]
def numsN (x:Ser):List Nat:=[x.start.toNat,x.samples.length,x.gaps.length] ++ (gpN x.gaps ++ x.samples.map plus0)
def encL (x:Ser):List UInt8:=[87,73,78,68,UInt8.ofNat x.name.size] ++ (x.name.data.toList ++ fours (numsN x))
theorem gpN_len (l:List Spn):(gpN l).length = 2 * l.length:=by
  induction l with
  | nil => rfl
  | cons a l ih =>
    have e:gpN (a :: l) = [a.fr.toNat,a.to_.toNat] ++ gpN l:=rfl
    rw [e,List.length_append,ih];simp;omega
theorem gpN_get:∀ (l:List Spn) (i:Nat) (g:Spn),l[i]? = some g → (gpN l)[2 * i]? = some g.fr.toNat ∧ (gpN l)[2 * i + 1]? = some g.to_.toNat
  | [],i,g,h => by simp at h
  | a :: l,0,g,h => by
    simp at h
    subst h
    exact ⟨rfl,rfl⟩
  | a :: l,i + 1,g,h => by
    have e:gpN (a :: l) = a.fr.toNat :: a.to_.toNat :: gpN l:=rfl
    rw [e]
    have:=gpN_get l i g (by simpa using h)
    rw [show 2 * (i + 1) = 2 * i + 1 + 1 by omega]
    simpa using this
theorem encL_len (x:Ser):(encL x).length = 17 + x.name.size + 8 * x.gaps.length + 4 * x.samples.length:=by
  unfold encL numsN
  simp only [List.length_append,fours_len,gpN_len,List.length_cons,List.length_nil,List.length_map,Lib.size_eq]
  omega
structure SerOk (x:Ser):Prop where
  chk:chkSer x = 0
  nm:x.name.size ≤ 24
  st:0 ≤ x.start ∧ x.start ≤ 999999999
  sl:x.samples.length ≤ 40000
  gl:x.gaps.length ≤ 1024
  sm:∀ y ∈ x.samples,smpE y = 0
  gp:∀ g ∈ x.gaps,0 ≤ g.fr ∧ g.fr < g.to_ ∧ g.to_ ≤ x.samples.length
theorem serN {x:Ser} (h:SerOk x):∀ n ∈ numsN x,n < 4294967296:=by
  obtain ⟨_,h1,h2,h3,h4,h5,h6⟩:=h
  intro n hn
  unfold numsN at hn
  rcases List.mem_append.1 hn with hn|hn
  · simp only [List.mem_cons,List.not_mem_nil,or_false] at hn
    rcases hn with rfl|rfl|rfl <;> omega
  · rcases List.mem_append.1 hn with hn|hn
    · unfold gpN at hn
      obtain ⟨g,hg,hn⟩:=List.mem_flatMap.1 hn
      have:=h6 g hg
      simp only [List.mem_cons,List.not_mem_nil,or_false] at hn
      rcases hn with rfl|rfl <;> omega
    · obtain ⟨y,_,rfl⟩:=List.mem_map.1 hn
      exact plus0_32 y
theorem encB_L {x:Ser} (h:SerOk x):encB x = (encL x).map bt:=by
  obtain ⟨_,h1,h2,h3,h4,h5,h6⟩:=h
  unfold encB hdrB encL numsN
  rw [List.map_append,List.map_append,fours_bt]
  have e1:(([87,73,78,68,UInt8.ofNat x.name.size]:List UInt8).map bt) = [u8 87,u8 73,u8 78,u8 68] ++ [u8 (IntKind.u8.wrap x.name.size)]:=by
    have o:((UInt8.ofNat x.name.size).toNat:Int) = IntKind.u8.wrap x.name.size:=by
      have w:∀ z:Int,IntKind.u8.wrap z = z % 256:=fun _ => rfl
      rw [w,UInt8.toNat_ofNat'];rfl
    simp only [List.map_cons,List.map_nil,bt_eq,o]
    rfl
  have e2:(x.name.data.toList.map bt) = bytesPV x.name:=rfl
  have e3:(gpN x.gaps).map (fun n:Nat => (n:Int)) = gapNs x.gaps:=by
    have:∀ l:List Spn,(∀ g ∈ l,0 ≤ g.fr ∧ g.fr < g.to_) → (gpN l).map (fun n:Nat => (n:Int)) = gapNs l:=by
      intro l
      induction l with
      | nil => intro _;rfl
      | cons a l ih =>
        intro hl
        have ha:=hl a (by simp)
        have e:gpN (a :: l) = [a.fr.toNat,a.to_.toNat] ++ gpN l:=rfl
        have e':gapNs (a :: l) = [a.fr,a.to_] ++ gapNs l:=rfl
        rw [e,e',List.map_append,ih fun g hg => hl g (by simp [hg])]
        simp only [List.map_cons,List.map_nil]
        rw [Int.toNat_of_nonneg (by omega),Int.toNat_of_nonneg (by omega)]
    exact this _ fun g hg => ⟨(h6 g hg).1,(h6 g hg).2.1⟩
  have e4:(x.samples.map plus0).map (fun n:Nat => (n:Int)) = bitNs x.samples:=by
    unfold bitNs
    rw [List.map_map]
    refine List.map_congr_left fun y _ => ?_
    have:=plus0_32 y
    show ((plus0 y:Nat):Int) = IntKind.i64.wrap ((plus0 y:Nat):Int)
    exact (wrap_in ⟨by omega,by omega⟩).symm
  rw [e1,e2,List.map_append,List.map_append,e3,e4,List.map_cons,List.map_cons,List.map_cons,List.map_nil,Int.toNat_of_nonneg h2.1]
  simp only [List.append_assoc]
theorem nz_plus0 {x:Nat} (h:smpE x = 0):nz (plus0 x) = nz x:=by
  obtain ⟨s,m,e,hr⟩:=smp_num h
  rw [plus0_form hr]
  have hx:nz x = (m != 0):=by unfold nz;rw [hr]
  rw [hx]
  by_cases hm:m = 0
  · rw [if_pos hm,hm];decide
  · rw [if_neg hm]
    obtain ⟨p1,p2,p3⟩:=read_single hr
    obtain ⟨k,l,h1,_,_⟩:=sread_nearest s (single24 hr) p2 p3
    unfold nz
    rw [h1]
    have hpos:0 < m * 2 ^ k:=Nat.mul_pos (by omega) (Nat.pow_pos (by decide))
    have g1:(m * 2 ^ k != 0) = true:=by simp;omega
    have g2:(m != 0) = true:=by simp [hm]
    simp only [g1,g2]
def serP (x:Ser):Ser:=⟨x.name,x.start,x.samples.map plus0,x.gaps⟩
theorem serP_chk {x:Ser} (h:SerOk x):chkSer (serP x) = 0:=by
  have h0:=h.chk
  have e1:(x.samples.map plus0).map smpE = x.samples.map smpE:=by
    rw [List.map_map]
    exact List.map_congr_left fun y hy => by rw [h.sm y hy];exact (plus0_val (h.sm y hy)).1
  have e2:chkLast (x.samples.map plus0) x.gaps = chkLast x.samples x.gaps:=by unfold chkLast;rw [List.length_map]
  have e3:chkGap (x.samples.map plus0) x.gaps = chkGap x.samples x.gaps:=by
    unfold chkGap
    rw [List.length_map]
    have:∀ i ∈ List.range x.samples.length,(nz ((x.samples.map plus0).getD i 0) && gapAt x.gaps i) = (nz (x.samples.getD i 0) && gapAt x.gaps i):=by
      intro i hi
      have hi2:i < x.samples.length:=List.mem_range.1 hi
      rw [List.getD_eq_getElem?_getD,List.getD_eq_getElem?_getD,List.getElem?_map,List.getElem?_eq_getElem hi2]
      simp only [Option.map_some,Option.getD_some]
      rw [nz_plus0 (h.sm _ (List.getElem_mem _))]
    rw [show ((List.range x.samples.length).any fun i => nz ((x.samples.map plus0).getD i 0) && gapAt x.gaps i) = ((List.range x.samples.length).any fun i => nz (x.samples.getD i 0) && gapAt x.gaps i) from by
      rw [Bool.eq_iff_iff,List.any_eq_true,List.any_eq_true]
      exact ⟨fun ⟨i,hi,hx⟩ => ⟨i,hi,by rw [← this i hi];exact hx⟩,fun ⟨i,hi,hx⟩ => ⟨i,hi,by rw [this i hi];exact hx⟩⟩]
  unfold chkSer at h0 ⊢
  unfold serP
  simp only [List.length_map,e1,e2,e3]
  exact h0
end Go.Nac
namespace Go.Nac
open Ieee
theorem encL_nm {x:Ser} (h:SerOk x) (r:List UInt8):nmN (encL x ++ r) = x.name.size ∧ (encL x ++ r).take 4 = [87,73,78,68]:=by
  refine ⟨?_,rfl⟩
  have e:nmN (encL x ++ r) = (UInt8.ofNat x.name.size).toNat:=rfl
  rw [e,UInt8.toNat_ofNat']
  have:=h.nm
  omega
theorem encL_body {x:Ser} (h:SerOk x) (r:List UInt8):dBody (encL x ++ r) = fours (numsN x) ++ r ∧ ((encL x ++ r).drop 5).take x.name.size = x.name.data.toList:=by
  have e:(encL x ++ r).drop 5 = x.name.data.toList ++ (fours (numsN x) ++ r):=by
    unfold encL
    simp
  have hl:x.name.data.toList.length = x.name.size:=(Lib.size_eq _).symm
  refine ⟨?_,?_⟩
  · unfold dBody
    rw [(encL_nm h r).1,← List.drop_drop,e,← hl,List.drop_left]
  · rw [e,← hl,List.take_left]
theorem num_first {x:Ser} (h:SerOk x) (r:List UInt8) {i n:Nat} (hi:(numsN x)[i]? = some n):num4 ((fours (numsN x) ++ r).drop (4 * i)) = n:=by
  obtain ⟨h1,h2⟩:=List.getElem?_eq_some_iff.1 hi
  have hn:n < 4294967296:=serN h n (List.mem_of_getElem? hi)
  rw [List.drop_append_of_le_length (by rw [fours_len];omega),num4_app (by rw [List.length_drop,fours_len];omega)]
  exact num4_fours hi hn
theorem encL_nums {x:Ser} (h:SerOk x) (r:List UInt8):num4 (dBody (encL x ++ r)) = x.start.toNat ∧ dM (encL x ++ r) = x.samples.length ∧ dG (encL x ++ r) = x.gaps.length:=by
  have hb:=(encL_body h r).1
  have h0:=num_first h r (i:=0) (n:=x.start.toNat) rfl
  have h1:=num_first h r (i:=1) (n:=x.samples.length) rfl
  have h2:=num_first h r (i:=2) (n:=x.gaps.length) rfl
  unfold dM dG
  rw [hb]
  exact ⟨h0,h1,h2⟩
theorem encL_tail {x:Ser} (h:SerOk x) (r:List UInt8):dTail (encL x ++ r) = fours (gpN x.gaps ++ x.samples.map plus0) ++ r:=by
  unfold dTail
  rw [(encL_body h r).1]
  have e:fours (numsN x) = fours [x.start.toNat,x.samples.length,x.gaps.length] ++ fours (gpN x.gaps ++ x.samples.map plus0):=by unfold numsN;rw [fours_app]
  rw [e,List.append_assoc]
  have hl:(fours [x.start.toNat,x.samples.length,x.gaps.length]).length = 12:=by rw [fours_len];rfl
  rw [← hl,List.drop_left]
theorem dE0_enc {x:Ser} (h:SerOk x) {b:List UInt8} (hb:5 ≤ b.length) (hb2:b.length ≤ 4000000) (h4:b.take 4 = [87,73,78,68]):dE0 b = 0:=by
  unfold dE0
  rw [if_neg (by omega),if_neg (by omega),if_neg (fun g => g h4)]
theorem SerOk.len {x:Ser} (h:SerOk x):(encL x).length ≤ 200000:=by
  rw [encL_len]
  have:=h.nm;have:=h.sl;have:=h.gl
  omega
theorem dSer_enc {x:Ser} (h:SerOk x):dSer (encL x) = serP x:=by
  have hr:=encL_nums h []
  have hb:=encL_body h []
  have ht:=encL_tail h []
  have hn:=(encL_nm h []).1
  simp only [List.append_nil] at hr hb ht hn
  unfold dSer serP
  have hN:=serN h
  have e1:smpL ((dTail (encL x)).drop (8 * dG (encL x))) (dM (encL x)) = x.samples.map plus0:=by
    rw [hr.2.1,hr.2.2,ht,fours_app]
    have hl:(fours (gpN x.gaps)).length = 8 * x.gaps.length:=by rw [fours_len,gpN_len];omega
    rw [← hl,List.drop_left]
    have:=smpL_fours (l:=x.samples.map plus0) (k:=x.samples.length) (by simp) (fun n hn => by obtain ⟨y,_,rfl⟩:=List.mem_map.1 hn;exact plus0_32 y)
    rw [this,List.take_of_length_le (by simp)]
  have e2:gapL (dTail (encL x)) (dG (encL x)) = x.gaps:=by
    rw [hr.2.2,ht]
    refine List.ext_getElem? fun i => ?_
    by_cases hi:i < x.gaps.length
    · obtain ⟨g,hg⟩:∃ g,x.gaps[i]? = some g:=⟨_,List.getElem?_eq_getElem hi⟩
      obtain ⟨g1,g2⟩:=gpN_get _ _ _ hg
      have hp:=h.gp g (List.mem_of_getElem? hg)
      have hsl:=h.sl
      have k1:(gpN x.gaps ++ x.samples.map plus0)[2 * i]? = some g.fr.toNat:=by rw [List.getElem?_append_left (by rw [gpN_len];omega)];exact g1
      have k2:(gpN x.gaps ++ x.samples.map plus0)[2 * i + 1]? = some g.to_.toNat:=by rw [List.getElem?_append_left (by rw [gpN_len];omega)];exact g2
      have n1:=num4_fours k1 (by omega)
      have n2:=num4_fours k2 (by omega)
      rw [hg]
      unfold gapL
      rw [List.getElem?_map,List.getElem?_range hi]
      simp only [Option.map_some]
      rw [show 8 * i = 4 * (2 * i) by omega,show 4 * (2 * i) + 4 = 4 * (2 * i + 1) by omega,n1,n2,Int.toNat_of_nonneg (by omega),Int.toNat_of_nonneg (by omega)]
    · rw [List.getElem?_eq_none (by rw [gapL_len];omega),List.getElem?_eq_none (by omega)]
  rw [e1,e2,hn,hb.2,hr.1,Int.toNat_of_nonneg h.st.1]
theorem enc_dec {x:Ser} (h:SerOk x):dE (encL x) = 0 ∧ decS (encL x) = serP x:=by
  have hr:=encL_nums h []
  have ht:=encL_tail h []
  have hn:=(encL_nm h [])
  simp only [List.append_nil] at hr ht hn
  have hl:=encL_len x
  have hE:dE (encL x) = 0:=by
    unfold dE
    rw [dE0_enc h (by omega) (by have:=h.len;omega) hn.2,if_neg (fun g => g rfl),hn.1,if_neg (by omega)]
    have tl:(dTail (encL x)).length = 8 * dG (encL x) + 4 * dM (encL x):=by
      rw [ht,hr.2.1,hr.2.2,fours_len,List.length_append,gpN_len,List.length_map];omega
    rw [if_neg (by omega),if_neg (fun g => g tl),dSer_enc h,if_neg,serP_chk h]
    intro hm
    obtain ⟨y,hy,e⟩:=List.mem_map.1 (show 2147483648 ∈ x.samples.map plus0 from hm)
    exact plus0_not (h.sm y hy) e
  refine ⟨hE,?_⟩
  unfold decS
  rw [if_pos hE,dSer_enc h]
end Go.Nac
namespace Go.Nac
open Ieee
def wordOf (z:Int):Nat:=if z = 0 then 0 else single.nearest (decide (z < 0)) z.natAbs (-1100)
end Go.Nac
set_option maxRecDepth 20000
namespace Go.Nac
def gaA:Ser:=⟨⟨#[119]⟩,5,[1065353216,1073741824,0],[⟨2,3⟩]⟩
def gaB:Ser:=⟨⟨#[119]⟩,8,[0,1082130432],[⟨0,1⟩]⟩
def gaD:Ser:=⟨⟨#[119]⟩,5,[1065353216,1073741824,0,0,1082130432],[⟨2,4⟩]⟩
def gaF:Ste:=⟨⟨#[102]⟩,2,[⟨⟨#[116,49]⟩,0,0⟩,⟨⟨#[116,50]⟩,2,1⟩]⟩
def gaG:Ste:=⟨⟨#[102]⟩,2,[⟨⟨#[116,49]⟩,0,0⟩,⟨⟨#[116,50]⟩,-1,2⟩]⟩
theorem ga_a:chkSer gaA = 0:=by decide +kernel
theorem ga_len:(encL gaA).length = 38:=by decide +kernel
theorem ga_p0:gaA.samples.map plus0 = gaA.samples:=by decide +kernel
theorem ga_p:serP gaA = gaA:=by unfold serP;rw [ga_p0]
theorem ga_d0:apdE gaA gaB = 0:=by decide +kernel
theorem ga_d1:apdG gaA gaB = [⟨2,4⟩]:=by decide +kernel
theorem ga_d:apdR gaA gaB = (gaD,0):=by
  unfold apdR apdS
  rw [if_neg (fun h => h ga_d0),ga_d1,if_neg (by decide)];rfl
theorem ga_sp:longK 1 (spTo 1082130432 (recOf gaD.samples gaD.gaps)) = [⟨0,2⟩,⟨4,5⟩]:=by decide +kernel
theorem ga_gok:chkSte gaG = 0:=by decide +kernel
theorem ga_print:steTxt gaG = ⟨#[115,105,116,101,32,102,32,50,10,116,117,114,98,105,110,101,32,116,49,32,48,32,48,10,116,117,114,98,105,110,101,32,116,50,32,45,49,32,50,10]⟩:=by decide +kernel
end Go.Nac
namespace Go.Nac
def dotP (x y p:Pt):Int:=(y.x - x.x) * p.x + (y.y - x.y) * p.y
theorem dot_trn (k:Nat) (x y p:Pt):dotP (trnN k x) (trnN k y) (trnN k p) = dotP x y p:=by
  induction k with
  | zero => rfl
  | succ k ih =>
    rw [← ih]
    unfold dotP
    simp only [trnN]
    have h:-(trnN k y).x - -(trnN k x).x = -((trnN k y).x - (trnN k x).x):=by omega
    rw [h,Int.neg_mul_neg,Int.add_comm]
theorem mul_unit {a b:Int} (ha:-2000 ≤ a ∧ a ≤ 2000) (hb:-1 ≤ b ∧ b ≤ 1):-2000 ≤ a * b ∧ a * b ≤ 2000:=by
  rcases (by omega:b = -1 ∨ b = 0 ∨ b = 1) with rfl|rfl|rfl <;> omega
theorem dot_bd {x y p:Pt} (hx:ptIn x) (hy:ptIn y) (hp:-1 ≤ p.x ∧ p.x ≤ 1 ∧ -1 ≤ p.y ∧ p.y ≤ 1):(-2000 ≤ (y.x - x.x) * p.x ∧ (y.x - x.x) * p.x ≤ 2000) ∧ (-2000 ≤ (y.y - x.y) * p.y ∧ (y.y - x.y) * p.y ≤ 2000):=by
  unfold ptIn at hx hy
  exact ⟨mul_unit (by omega) (by omega),mul_unit (by omega) (by omega)⟩
end Go.Nac
set_option linter.unusedSimpArgs false
set_option linter.unnecessarySimpa false
set_option maxRecDepth 10000
namespace Go.Nac.L5
attribute [local congr] b1_congr b2_congr Wp_congr wpOps_congr thenK_congr blockK_congr gK_congr cK_congr
section
variable {X:XRel}
theorem q_slices_Values (l:List Spn):Q X 71 [.fs (l.map encSpn)] (.fn (.func 92) [] [.fp [.fs (l.map encSpn)]]):=by
  intro M
  (refine ACall_fn (cf:=L5.c71) rfl rfl fun hM hA => ?_;simp only [L5.c71,zO,zF,zT];rw [mk1 _ (by decide)];simp -implicitDefEqProofs (disch:=first|omega|(simp only [go_sem,seval];first|done|omega)) only [go_sem,seval])
  (all_goals (first|refine post_fin ret_ok hM rfl ?_ ?_|refine post_fin0 ret_ok hM rfl ?_ ?_|refine post_fin normal_ok hM rfl ?_ ?_|refine post_fin0 normal_ok hM rfl ?_ ?_);all_goals first|(simp only [go_sem,seval,encSpn_low] <;> first|done|omega)|skip;all_goals (try simp -implicitDefEqProofs (disch:=first|omega|(simp only [go_sem,seval];first|done|omega)) only [go_sem,seval]))
theorem y_slices_Values (l:List Spn) (hl:l.length ≤ 1048576):Yields X 92 [.fp [.fs (l.map encSpn)]] (l.map encSpn):=by
  intro i N hN hy
  have hpl:(l.map encSpn).length = l.length:=by simp
  refine ACall_fn (cf:=c92) rfl rfl fun hM hA => ?_
  have hi:i < (N 0).length:=by simp only [lowL,PV.low] at hA;exact hA.1
  simp only [c92,zO,zF,zT]
  rw [mk2 _ (by decide)]
  simp -implicitDefEqProofs (disch:=first|omega|(simp only [go_sem,seval];first|done|omega)) only [go_sem,seval]
  refine loop_mk (α:=Nat) 0 (fun k => k ≤ l.length) (fun k => N k) (fun k => [(0,.yl i),(5,.fs (l.map encSpn)),(6,.I l.length),(7,.I k)]) (fun k => l.length - k) (Nat.zero_le _) rfl rfl ?_
  intro k hk
  have hk0:=hN k (by omega)
  by_cases hlt:k < l.length
  · obtain ⟨x,h1⟩:∃ x,l[k]? = some x:=⟨_,List.getElem?_eq_getElem hlt⟩
    have hp:(l.map encSpn)[k]? = some (encSpn x):=by simp [h1]
    have hk1:=hN (k + 1) (by omega)
    simp -implicitDefEqProofs (disch:=first|omega|(simp only [go_sem,seval,hlt,h1,encSpn_cells];first|done|omega)) only [go_sem,seval,hlt,h1,encSpn_cells]
    refine callP_l (hy k _ _ hp) ?_
    simp -implicitDefEqProofs (disch:=first|omega|(simp only [go_sem,seval];first|done|omega)) only [go_sem,seval]
    refine Wp_cut_at hk1.2 (by omega) 0 (by simp) lowM_nil (lowL_mk ?_) ?_
    · have:i < (N (k + 1)).length:=by omega
      simp only [go_sem,seval,this,Nat.add_zero,encSpn_low]
    · simp -implicitDefEqProofs (disch:=first|omega|(simp only [go_sem,seval];first|done|omega)) only [go_sem,seval]
      exact again' (k + 1) (by omega) (by omega) rfl rfl
  · simp -implicitDefEqProofs (disch:=first|omega|(simp only [go_sem,seval,hlt];first|done|omega)) only [go_sem,seval,hlt]
    have e:l.length = k:=by omega
    rw [e]
    refine post_fin0 normal_ok hk0.2 hk0.1.symm ?_ ?_
    · simp -implicitDefEqProofs (disch:=first|omega|(simp only [go_sem,seval];first|done|omega)) only [go_sem,seval]
      rfl
    · (simp only [go_sem,seval] <;> first|done|omega)
theorem o_AppendSeq {l:List Spn} {g:FuncId} {cap:List PV} (hl:l.length ≤ 1048576) (hg:Yields X g cap (l.map encSpn)) (M:List Blk) :
    ACall F X (.fn 103) [PV.nilS,.fn (.func g) [] cap] M (.os M.length l.length 0 l.length) (M ++ [.row true 2 l.length (l.map encSpn)]):=by
  refine ACall_own (cf:=c103) rfl rfl fun hM hA => ?_
  simp only [c103,zO,zF,zT]
  rw [mk2 _ (by decide)]
  have hcap:lowL M.length cap:=by simp only [lowL,PV.low] at hA;exact hA.2.1.2
  simp -implicitDefEqProofs (disch:=first|omega|(simp only [go_sem,seval];first|done|omega)) only [go_sem,seval]
  have htl:∀ k,k ≤ l.length → (l.take k).length = k:=fun k hk => by simp;omega
  refine range_iter hg (fun k => [.row true 1 0 [.os (M.length + 2) (l.take k).length 0 (l.take k).length],.row true 2 0 [],.row true 2 (l.take k).length ((l.take k).map encSpn)]) hM (by simp -implicitDefEqProofs (disch:=first|omega|(simp only [go_sem,seval];first|done|omega)) only [go_sem,seval]) (fun k => rfl) ?_ ?_ ?_ ?_
  · intro k _
    simp only [go_sem,seval,encSpn_low]
    try simp
  · refine (?_:lowL (M.length + (0 + 1 + 1 + 1)) _)
    simp only [go_sem,seval,lowL_mono (Nat.le_add_right M.length 3) cap hcap]
  · intro k x E L LB hx hE
    obtain ⟨y,h1,rfl⟩:∃ y,l[k]? = some y ∧ encSpn y = x:=by simpa using hx
    have hk:k < l.length:=(List.getElem?_eq_some_iff.1 h1).1
    have hs:(l.take (k + 1)) = l.take k ++ [y]:=by
      obtain ⟨h3,h4⟩:=List.getElem?_eq_some_iff.1 h1
      rw [List.take_succ_eq_append_getElem h3,h4]
    have ho:=htl k (by omega)
    simp only [hs]
    generalize l.take k = o at ho ⊢
    clear hs hx
    simp -implicitDefEqProofs (disch:=first|omega|(simp only [go_sem,seval,encSpn_cells];first|done|omega)) only [go_sem,seval,encSpn_cells]
    refine roundA (by rw [getMj];rfl) ?_
    have ho2:o.length ≤ 1048575:=by omega
    simp -implicitDefEqProofs (disch:=first|omega|(simp only [go_sem,seval,encSpn_cells];first|done|omega)) only [go_sem,seval,encSpn_cells]
    refine roundE [.row true 2 0 [.agg [.I y.fr,.I y.to_]]] ?_
    simp [encSpn]
  · simp -implicitDefEqProofs (disch:=first|omega|(simp only [go_sem,seval];first|done|omega)) only [go_sem,seval]
    refine own_fin ret_ok hM (j:=2) (xs:=l.map encSpn) (k:=2) (v:=l.length) (by simp -implicitDefEqProofs (disch:=first|omega|(simp only [go_sem,seval,Nat.min_self];first|done|omega)) only [go_sem,seval,Nat.min_self]) (by simp) ?_
    · (simp only [go_sem,seval,encSpn_low] <;> first|done|omega)
theorem o_Collect {l:List Spn} {g:FuncId} {cap:List PV} (hl:l.length ≤ 1048576) (hg:Yields X g cap (l.map encSpn)) (M:List Blk) :
    ACall F X (.fn 90) [.fn (.func g) [] cap] M (.os M.length l.length 0 l.length) (M ++ [.row true 2 l.length (l.map encSpn)]):=by
  refine ACall_own (cf:=c90) rfl rfl fun hM hA => ?_
  simp only [c90,zO,zF,zT]
  rw [mk1 _ (by decide)]
  simp -implicitDefEqProofs (disch:=first|omega|(simp only [go_sem,seval];first|done|omega)) only [go_sem,seval]
  refine callP_l (o_AppendSeq hl hg _) ?_
  simp -implicitDefEqProofs (disch:=first|omega|(simp only [go_sem,seval];first|done|omega)) only [go_sem,seval]
  refine own_fin ret_ok hM (j:=1) (xs:=l.map encSpn) (k:=2) (v:=l.length) (by simp -implicitDefEqProofs (disch:=first|omega|(simp only [go_sem,seval];first|done|omega)) only [go_sem,seval]) (by simp) ?_
  · (simp only [go_sem,seval,encSpn_low] <;> first|done|omega)
def SortX (X:XRel):Prop:=∀ (M:List Blk) (i ver:Nat) (d:List Spn),d.length ≤ 1048576 → M[i]? = some (.row true 2 ver (d.map encSpn)) →
  X 91 [.os i ver 0 d.length,.fn (.func 72) [] []] M (.tup []) (M.set i (.row true 2 ver ((srtL spnCmp d).map encSpn)))
theorem q_slices_SortedFunc (hS:SortX X) {l:List Spn} {g:FuncId} {cap:List PV} (hl:l.length ≤ 1048576) (hg:Yields X g cap (l.map encSpn)) :
    Q X 70 [.fn (.func g) [] cap,.fn (.func 72) [] []] (.fs ((srtL spnCmp l).map encSpn)):=by
  intro M
  (refine ACall_fn (cf:=L5.c70) rfl rfl fun hM hA => ?_;simp only [L5.c70,zO,zF,zT];rw [mk2 _ (by decide)];simp -implicitDefEqProofs (disch:=first|omega|(simp only [go_sem,seval];first|done|omega)) only [go_sem,seval])
  refine callP_l (o_Collect hl hg _) ?_
  simp -implicitDefEqProofs (disch:=first|omega|(simp only [go_sem,seval];first|done|omega)) only [go_sem,seval]
  refine callP_l (ACall_ext (hS _ _ _ l hl (by simp))) ?_
  have hsl:=srt_len l
  simp -implicitDefEqProofs (disch:=first|omega|(simp only [go_sem,seval,hsl];first|done|omega)) only [go_sem,seval,hsl]
  (first|refine post_fin ret_ok hM rfl ?_ ?_|refine post_fin0 ret_ok hM rfl ?_ ?_|refine post_fin normal_ok hM rfl ?_ ?_|refine post_fin0 normal_ok hM rfl ?_ ?_)
  · simp -implicitDefEqProofs (disch:=first|omega|(simp only [go_sem,seval,hsl];first|done|omega)) only [go_sem,seval,hsl]
  · (simp only [go_sem,seval,encSpn_low] <;> first|done|omega)
theorem q_site_canon (hS:SortX X) (l:List Spn) (hl:l.length ≤ 1000000):Q X 46 [.fs (l.map encSpn)] (.fs ((canonOf l).map encSpn)):=by
  intro M
  (refine ACall_fn (cf:=L5.c46) rfl rfl fun hM hA => ?_;simp only [L5.c46,zO,zF,zT];rw [mk1 _ (by decide)];simp -implicitDefEqProofs (disch:=first|omega|(simp only [go_sem,seval];first|done|omega)) only [go_sem,seval])
  refine callP_q (q_slices_Values l _) ?_
  simp -implicitDefEqProofs (disch:=first|omega|(simp only [go_sem,seval];first|done|omega)) only [go_sem,seval]
  refine callP_q (q_slices_SortedFunc hS (by omega) (y_slices_Values l (by omega)) _) ?_
  have hsl:=srt_len l
  unfold canonOf
  generalize srtL spnCmp l = d at hsl ⊢
  simp -implicitDefEqProofs (disch:=first|omega|(simp only [go_sem,seval,hsl];first|done|omega)) only [go_sem,seval,hsl]
  have hml:∀ k,k ≤ d.length → (canMerge (d.take k)).length ≤ k:=fun k hk => by have:=canMerge_len (d.take k);simp at this;omega
  refine loop_mk (α:=Nat) 0 (fun k => k ≤ d.length) (fun k => M ++ [.row true 2 0 [],.row true 2 (canMerge (d.take k)).length ((canMerge (d.take k)).map encSpn)])
    (fun k => [(4,.os (M.length + 1) (canMerge (d.take k)).length 0 (canMerge (d.take k)).length),(11,.fs (d.map encSpn)),(12,.I l.length),(13,.I k)]) (fun k => d.length - k) (Nat.zero_le _) rfl rfl ?_
  intro k hk
  by_cases hlt:k < d.length
  · obtain ⟨x,h1⟩:∃ x,d[k]? = some x:=⟨_,List.getElem?_eq_getElem hlt⟩
    have hs:=canMerge_snoc h1
    have ho:=hml k hk
    have again:∀ o:List Spn,canMerge (d.take (k + 1)) = o → Again 52 (fun k => k ≤ d.length) (fun k => M ++ [.row true 2 0 [],.row true 2 (canMerge (d.take k)).length ((canMerge (d.take k)).map encSpn)])
      (fun k => [(4,.os (M.length + 1) (canMerge (d.take k)).length 0 (canMerge (d.take k)).length),(11,.fs (d.map encSpn)),(12,.I l.length),(13,.I k)]) (fun k => d.length - k) k
      (M ++ [.row true 2 0 [],.row true 2 o.length (o.map encSpn)]) (mk 52 [(4,.os (M.length + 1) o.length 0 o.length),(11,.fs (d.map encSpn)),(12,.I l.length),(13,.I (k + 1))]):=by
      rintro o rfl
      exact again' (k + 1) (by omega) (by omega) rfl rfl
    rw [hs] at again
    clear hs
    generalize canMerge (d.take k) = o at ho again ⊢
    have f0:((k:Int) < l.length) = True:=eq_true (by omega)
    simp -implicitDefEqProofs (disch:=first|omega|(simp only [go_sem,seval,hlt,f0,h1,encSpn_cells];first|done|omega)) only [go_sem,seval,hlt,f0,h1,encSpn_cells]
    rcases (by omega:o.length = 0 ∨ 1 ≤ o.length) with h0|h0
    · have f1:((0:Int) < o.length) = False:=eq_false (by omega)
      simp -implicitDefEqProofs (disch:=first|omega|(simp only [go_sem,seval,f1,encSpn_cells];first|done|omega)) only [go_sem,seval,f1,encSpn_cells]
      refine Wp_cut_at hM rfl 2 (by simp) (by first|done|(simp only [go_sem,seval,encSpn_low] <;> first|done|(refine ⟨?_,?_⟩ <;> omega)|omega)) (lowL_mk (by first|done|(simp only [go_sem,seval,encSpn_low] <;> first|done|(refine ⟨?_,?_⟩ <;> omega)|omega))) ?_
      simp -implicitDefEqProofs (disch:=first|omega|(simp only [go_sem,seval];first|done|omega)) only [go_sem,seval]
      have:=again _ (canStep_0 h0)
      have ho:o = []:=List.eq_nil_of_length_eq_zero h0
      subst ho
      exact this
    · have f1:((0:Int) < o.length) = True:=eq_true (by omega)
      obtain ⟨p,g1⟩:∃ p,o[o.length - 1]? = some p:=⟨_,List.getElem?_eq_getElem (by omega)⟩
      have e1:(o.length:Int) - 1 = ((o.length - 1:Nat):Int):=by omega
      have l1:o.length - 1 < o.length:=by omega
      simp -implicitDefEqProofs (disch:=first|omega|(simp only [go_sem,seval,f1,e1,g1,l1,encSpn_cells];first|done|omega)) only [go_sem,seval,f1,e1,g1,l1,encSpn_cells]
      have eset:(o.map encSpn).set (o.length - 1) (.agg [.I p.fr,.I (max p.to_ x.to_)]) = (o.set (o.length - 1) ⟨p.fr,max p.to_ x.to_⟩).map encSpn:=by rw [List.map_set];rfl
      refine cK_cases ?_ ?_ <;> intro hc <;> (try simp only [decide_eq_true_eq,decide_eq_false_iff_not,Classical.not_not,Bool.not_eq_true,Bool.not_eq_true',Bool.not_eq_false',Bool.false_or,Bool.or_false,Bool.true_or,Bool.or_true,Bool.false_and,Bool.and_false,Bool.true_and,Bool.and_true] at hc) <;> simp -implicitDefEqProofs (disch:=first|omega|(simp only [go_sem,seval,f1,e1,g1,l1,encSpn_cells,encSpn_eq,eset,hc];first|done|omega)) only [go_sem,seval,f1,e1,g1,l1,encSpn_cells,encSpn_eq,eset,hc]
      · refine Wp_cut_at hM rfl 2 (by simp) (by first|done|(simp only [go_sem,seval,encSpn_low] <;> first|done|(refine ⟨?_,?_⟩ <;> omega)|omega)) (lowL_mk (by first|done|(simp only [go_sem,seval,encSpn_low] <;> first|done|(refine ⟨?_,?_⟩ <;> omega)|omega))) ?_
        simp -implicitDefEqProofs (disch:=first|omega|(simp only [go_sem,seval];first|done|omega)) only [go_sem,seval]
        have:=again _ (canStep_eq g1 hc)
        rw [List.length_set] at this
        exact this
      · refine Wp_cut_at hM rfl 2 (by simp) (by first|done|(simp only [go_sem,seval,encSpn_low] <;> first|done|(refine ⟨?_,?_⟩ <;> omega)|omega)) (lowL_mk (by first|done|(simp only [go_sem,seval,encSpn_low] <;> first|done|(refine ⟨?_,?_⟩ <;> omega)|omega))) ?_
        simp -implicitDefEqProofs (disch:=first|omega|(simp only [go_sem,seval];first|done|omega)) only [go_sem,seval]
        have:=again _ (canStep_new g1 (by omega))
        simpa [encSpn] using this
  · have f0:((k:Int) < l.length) = False:=eq_false (by omega)
    simp -implicitDefEqProofs (disch:=first|omega|(simp only [go_sem,seval,hlt,f0];first|done|omega)) only [go_sem,seval,hlt,f0]
    have e:d.take k = d:=List.take_of_length_le (by omega)
    (first|refine post_fin ret_ok hM rfl ?_ ?_|refine post_fin0 ret_ok hM rfl ?_ ?_|refine post_fin normal_ok hM rfl ?_ ?_|refine post_fin0 normal_ok hM rfl ?_ ?_)
    · simp -implicitDefEqProofs (disch:=first|omega|(simp only [go_sem,seval,e];first|done|omega)) only [go_sem,seval,e]
      rw [List.take_of_length_le (by simp)]
    · (simp only [go_sem,seval,encSpn_low] <;> first|done|omega)
def canonR (l:List Spn):List Spn:=pickOf (wantOf [1] l [])
def joinR (a b:List Spn):List Spn:=pickOf (wantOf [1,2,3] a b)
def meetR (a b:List Spn):List Spn:=pickOf (wantOf [3] a b)
def minusR (a b:List Spn):List Spn:=pickOf (wantOf [1] a b)
theorem q_ref01_SameSpans (a b:List Spn) (hl:a.length ≤ 1048576):Q X 17 [.fs (a.map encSpn),.fs (b.map encSpn)] (.B (decide (a = b))):=by
  intro M
  (refine ACall_fn (cf:=L5.c17) rfl rfl fun hM hA => ?_;simp only [L5.c17,zO,zF,zT];rw [mk2 _ (by decide)];simp -implicitDefEqProofs (disch:=first|omega|(simp only [go_sem,seval];first|done|omega)) only [go_sem,seval])
  refine cK_cases ?_ ?_ <;> intro hc <;> simp only [decide_eq_true_eq,decide_eq_false_iff_not,Classical.not_not] at hc
  · simp -implicitDefEqProofs (disch:=first|omega|(simp only [go_sem,seval];first|done|omega)) only [go_sem,seval]
    (first|refine post_fin ret_ok hM rfl ?_ ?_|refine post_fin0 ret_ok hM rfl ?_ ?_|refine post_fin normal_ok hM rfl ?_ ?_|refine post_fin0 normal_ok hM rfl ?_ ?_)
    · simp -implicitDefEqProofs (disch:=first|omega|(simp only [go_sem,seval];first|done|omega)) only [go_sem,seval]
      congr 2;symm;rw [decide_eq_false_iff_not];rintro rfl;exact hc rfl
    · (simp only [go_sem,seval] <;> first|done|omega)
  · simp -implicitDefEqProofs (disch:=first|omega|(simp only [go_sem,seval];first|done|omega)) only [go_sem,seval]
    have hc:b.length = a.length:=by omega
    refine loop_mk (α:=Nat) 0 (fun k => k ≤ a.length ∧ a.take k = b.take k) (fun k => M) (fun k => [(0,.fs (a.map encSpn)),(1,.fs (b.map encSpn)),(5,.I k)]) (fun k => a.length - k) ⟨Nat.zero_le _,rfl⟩ rfl rfl ?_
    rintro k ⟨hk,hs⟩
    by_cases hlt:k < a.length
    · obtain ⟨x,h1⟩:∃ x,a[k]? = some x:=⟨_,List.getElem?_eq_getElem hlt⟩
      obtain ⟨y,h2⟩:∃ y,b[k]? = some y:=⟨_,List.getElem?_eq_getElem (by omega)⟩
      simp -implicitDefEqProofs (disch:=first|omega|(simp only [go_sem,seval,hlt,h1,h2,encSpn_cells];first|done|omega)) only [go_sem,seval,hlt,h1,h2,encSpn_cells]
      refine cK_cases ?_ ?_ <;> intro he
      · simp -implicitDefEqProofs (disch:=first|omega|(simp only [go_sem,seval];first|done|omega)) only [go_sem,seval]
        (first|refine post_fin ret_ok hM rfl ?_ ?_|refine post_fin0 ret_ok hM rfl ?_ ?_|refine post_fin normal_ok hM rfl ?_ ?_|refine post_fin0 normal_ok hM rfl ?_ ?_)
        · simp -implicitDefEqProofs (disch:=first|omega|(simp only [go_sem,seval];first|done|omega)) only [go_sem,seval]
          congr 2;symm;rw [decide_eq_false_iff_not];rintro rfl
          rw [h1] at h2;cases h2;simp at he
        · (simp only [go_sem,seval] <;> first|done|omega)
      · simp -implicitDefEqProofs (disch:=first|omega|(simp only [go_sem,seval];first|done|omega)) only [go_sem,seval]
        have hxy:x = y:=by cases x;cases y;simp at he;simp [he]
        refine again' (k + 1) ⟨by omega,?_⟩ (by omega) rfl rfl
        have g1:=take_snoc (f:=id) h1;have g2:=take_snoc (f:=id) h2
        simp only [List.map_id] at g1 g2
        rw [g1,g2,hs,hxy]
    · simp -implicitDefEqProofs (disch:=first|omega|(simp only [go_sem,seval,hlt];first|done|omega)) only [go_sem,seval,hlt]
      (first|refine post_fin ret_ok hM rfl ?_ ?_|refine post_fin0 ret_ok hM rfl ?_ ?_|refine post_fin normal_ok hM rfl ?_ ?_|refine post_fin0 normal_ok hM rfl ?_ ?_)
      · simp -implicitDefEqProofs (disch:=first|omega|(simp only [go_sem,seval];first|done|omega)) only [go_sem,seval]
        congr 2;symm;rw [decide_eq_true_eq]
        rw [List.take_of_length_le (by omega),List.take_of_length_le (by omega)] at hs;exact hs
      · (simp only [go_sem,seval] <;> first|done|omega)
def zSpn:PV:=.agg [.I 0,.I 0]
def chkAny (l:List Spn):Int:=if 1024 < l.length then 5 else fst0 (l.map chkSpn)
theorem fst0_two {x y:Int} (h:fst0 [x,y] = 0):x = 0 ∧ y = 0:=by
  simp only [fst0] at h
  split at h
  · rename_i h1
    split at h
    · rename_i h2;exact ⟨h1,h2⟩
    · rename_i h2;exact absurd h h2
  · rename_i h1;exact absurd h h1
theorem q_site_apart (a b:Pt) (ha:ptW a) (hb:ptW b):Q X 78 [encPt a,encPt b] (.I (apartP a b)):=by
  intro M
  obtain ⟨⟨h1,h2⟩,h3,h4⟩:=apartP_bd ha hb
  unfold ptW at ha hb
  (refine ACall_fn (cf:=L5.c78) rfl rfl fun hM hA => ?_;simp only [L5.c78,zO,zF,zT];rw [mk2 _ (by decide)];simp -implicitDefEqProofs (disch:=first|omega|(simp only [go_sem,seval,encPt_eq];first|done|omega)) only [go_sem,seval,encPt_eq])
  (all_goals (first|refine post_fin ret_ok hM rfl ?_ ?_|refine post_fin0 ret_ok hM rfl ?_ ?_|refine post_fin normal_ok hM rfl ?_ ?_|refine post_fin0 normal_ok hM rfl ?_ ?_);all_goals first|(simp only [go_sem,seval] <;> first|done|omega)|skip;all_goals (try simp -implicitDefEqProofs (disch:=first|omega|(simp only [go_sem,seval];first|done|omega)) only [go_sem,seval]))
  all_goals rfl
theorem q_ref01_Apart (a b:Pt) (ha:ptW a) (hb:ptW b):Q X 30 [encPt a,encPt b] (.I (apartP a b)):=by
  intro M
  obtain ⟨⟨h1,h2⟩,h3,h4⟩:=apartP_bd ha hb
  unfold ptW at ha hb
  (refine ACall_fn (cf:=L5.c30) rfl rfl fun hM hA => ?_;simp only [L5.c30,zO,zF,zT];rw [mk2 _ (by decide)];simp -implicitDefEqProofs (disch:=first|omega|(simp only [go_sem,seval,encPt_eq];first|done|omega)) only [go_sem,seval,encPt_eq])
  (all_goals (first|refine post_fin ret_ok hM rfl ?_ ?_|refine post_fin0 ret_ok hM rfl ?_ ?_|refine post_fin normal_ok hM rfl ?_ ?_|refine post_fin0 normal_ok hM rfl ?_ ?_);all_goals first|(simp only [go_sem,seval] <;> first|done|omega)|skip;all_goals (try simp -implicitDefEqProofs (disch:=first|omega|(simp only [go_sem,seval];first|done|omega)) only [go_sem,seval]))
  all_goals rfl
theorem q_site_checkPlace (p:Pt):Q X 77 [encPt p] (.I (ptE p)):=by
  intro M
  (refine ACall_fn (cf:=L5.c77) rfl rfl fun hM hA => ?_;simp only [L5.c77,zO,zF,zT];rw [mk1 _ (by decide)];simp -implicitDefEqProofs (disch:=first|omega|(simp only [go_sem,seval,encPt_eq];first|done|omega)) only [go_sem,seval,encPt_eq])
  refine callP_q (q_site_within _ _ _ _) ?_
  simp -implicitDefEqProofs (disch:=first|omega|(simp only [go_sem,seval,encPt_eq];first|done|omega)) only [go_sem,seval,encPt_eq]
  refine callP_q (q_site_within _ _ _ _) ?_
  simp -implicitDefEqProofs (disch:=first|omega|(simp only [go_sem,seval,encPt_eq];first|done|omega)) only [go_sem,seval,encPt_eq]
  refine callP_q (q_site_first [rng p.x (-1000) 1000,rng p.y (-1000) 1000] (by simp) _) ?_
  have e:ptE p = fst0 [rng p.x (-1000) 1000,rng p.y (-1000) 1000]:=rfl
  rw [e]
  simp -implicitDefEqProofs (disch:=first|omega|(simp only [go_sem,seval];first|done|omega)) only [go_sem,seval]
  (all_goals (first|refine post_fin ret_ok hM rfl ?_ ?_|refine post_fin0 ret_ok hM rfl ?_ ?_|refine post_fin normal_ok hM rfl ?_ ?_|refine post_fin0 normal_ok hM rfl ?_ ?_);all_goals first|(simp only [go_sem,seval] <;> first|done|omega)|skip;all_goals (try simp -implicitDefEqProofs (disch:=first|omega|(simp only [go_sem,seval];first|done|omega)) only [go_sem,seval]))
theorem q_ref01_CheckPoint (p:Pt):Q X 29 [encPt p] (.I (ptE p)):=by
  intro M
  (refine ACall_fn (cf:=L5.c29) rfl rfl fun hM hA => ?_;simp only [L5.c29,zO,zF,zT];rw [mk1 _ (by decide)];simp -implicitDefEqProofs (disch:=first|omega|(simp only [go_sem,seval,encPt_eq];first|done|omega)) only [go_sem,seval,encPt_eq])
  refine callP_q (q_ref01_CheckRange _ _ _ _) ?_
  simp -implicitDefEqProofs (disch:=first|omega|(simp only [go_sem,seval,encPt_eq];first|done|omega)) only [go_sem,seval,encPt_eq]
  refine callP_q (q_ref01_CheckRange _ _ _ _) ?_
  simp -implicitDefEqProofs (disch:=first|omega|(simp only [go_sem,seval,encPt_eq];first|done|omega)) only [go_sem,seval,encPt_eq]
  refine callP_q (q_ref01_First [rng p.x (-1000) 1000,rng p.y (-1000) 1000] (by simp) _) ?_
  have e:ptE p = fst0 [rng p.x (-1000) 1000,rng p.y (-1000) 1000]:=rfl
  rw [e]
  simp -implicitDefEqProofs (disch:=first|omega|(simp only [go_sem,seval];first|done|omega)) only [go_sem,seval]
  (all_goals (first|refine post_fin ret_ok hM rfl ?_ ?_|refine post_fin0 ret_ok hM rfl ?_ ?_|refine post_fin normal_ok hM rfl ?_ ?_|refine post_fin0 normal_ok hM rfl ?_ ?_);all_goals first|(simp only [go_sem,seval] <;> first|done|omega)|skip;all_goals (try simp -implicitDefEqProofs (disch:=first|omega|(simp only [go_sem,seval];first|done|omega)) only [go_sem,seval]))
theorem q_site_checkTurns (n:Int):Q X 55 [.I n] (.I (rng n 0 3)):=by
  intro M
  (refine ACall_fn (cf:=L5.c55) rfl rfl fun hM hA => ?_;simp only [L5.c55,zO,zF,zT];rw [mk1 _ (by decide)];simp -implicitDefEqProofs (disch:=first|omega|(simp only [go_sem,seval];first|done|omega)) only [go_sem,seval])
  refine callP_q (q_site_within _ _ _ _) ?_
  simp -implicitDefEqProofs (disch:=first|omega|(simp only [go_sem,seval];first|done|omega)) only [go_sem,seval]
  (all_goals (first|refine post_fin ret_ok hM rfl ?_ ?_|refine post_fin0 ret_ok hM rfl ?_ ?_|refine post_fin normal_ok hM rfl ?_ ?_|refine post_fin0 normal_ok hM rfl ?_ ?_);all_goals first|(simp only [go_sem,seval] <;> first|done|omega)|skip;all_goals (try simp -implicitDefEqProofs (disch:=first|omega|(simp only [go_sem,seval];first|done|omega)) only [go_sem,seval]))
theorem q_ref01_CheckSite (s:Ste) (hl:s.tbs.length ≤ 1048576):Q X 19 [encSte s] (.I (chkSte s)):=by
  obtain ⟨nm,least,l⟩:=s
  have e:chkSte ⟨nm,least,l⟩ = if nameOk nm = false then 8 else if ¬ rng least 1 1000 = 0 then 3 else if 64 < l.length then 5 else fst0 (tbL least l):=rfl
  rw [e]
  clear e
  simp only at hl
  have e:encSte ⟨nm,least,l⟩ = .agg [.s (.string nm),.I least,.fs (l.map encTb)]:=rfl
  rw [e]
  clear e
  intro M
  (refine ACall_fn (cf:=L5.c19) rfl rfl fun hM hA => ?_;simp only [L5.c19,zO,zF,zT];rw [mk1 _ (by decide)];simp -implicitDefEqProofs (disch:=first|omega|(simp only [go_sem,seval];first|done|omega)) only [go_sem,seval])
  refine callP_q (q_ref01_IsName nm _) ?_
  simp -implicitDefEqProofs (disch:=first|omega|(simp only [go_sem,seval];first|done|omega)) only [go_sem,seval]
  by_cases h1:nameOk nm = false
  · rw [if_pos h1]
    simp -implicitDefEqProofs (disch:=first|omega|(simp only [go_sem,seval,h1];first|done|omega)) only [go_sem,seval,h1]
    (all_goals (first|refine post_fin ret_ok hM rfl ?_ ?_|refine post_fin0 ret_ok hM rfl ?_ ?_|refine post_fin normal_ok hM rfl ?_ ?_|refine post_fin0 normal_ok hM rfl ?_ ?_);all_goals first|(simp only [go_sem,seval] <;> first|done|omega)|skip;all_goals (try simp -implicitDefEqProofs (disch:=first|omega|(simp only [go_sem,seval];first|done|omega)) only [go_sem,seval]))
  have h1':nameOk nm = true:=by simpa using h1
  rw [if_neg h1]
  simp -implicitDefEqProofs (disch:=first|omega|(simp only [go_sem,seval,h1'];first|done|omega)) only [go_sem,seval,h1']
  refine callP_q (q_ref01_CheckRange _ _ _ _) ?_
  simp -implicitDefEqProofs (disch:=first|omega|(simp only [go_sem,seval];first|done|omega)) only [go_sem,seval]
  by_cases h2:rng least 1 1000 = 0
  case neg =>
    rw [if_pos h2]
    simp -implicitDefEqProofs (disch:=first|omega|(simp only [go_sem,seval,h2];first|done|omega)) only [go_sem,seval,h2]
    (all_goals (first|refine post_fin ret_ok hM rfl ?_ ?_|refine post_fin0 ret_ok hM rfl ?_ ?_|refine post_fin normal_ok hM rfl ?_ ?_|refine post_fin0 normal_ok hM rfl ?_ ?_);all_goals first|(simp only [go_sem,seval] <;> first|done|omega)|skip;all_goals (try simp -implicitDefEqProofs (disch:=first|omega|(simp only [go_sem,seval];first|done|omega)) only [go_sem,seval]))
  rw [if_neg (fun h => h h2)]
  simp -implicitDefEqProofs (disch:=first|omega|(simp only [go_sem,seval,h2];first|done|omega)) only [go_sem,seval,h2]
  rw [rng_ok] at h2
  by_cases h3:64 < l.length
  · have f3:((64:Int) < l.length) = True:=eq_true (by omega)
    rw [if_pos h3]
    simp -implicitDefEqProofs (disch:=first|omega|(simp only [go_sem,seval,f3];first|done|omega)) only [go_sem,seval,f3]
    (all_goals (first|refine post_fin ret_ok hM rfl ?_ ?_|refine post_fin0 ret_ok hM rfl ?_ ?_|refine post_fin normal_ok hM rfl ?_ ?_|refine post_fin0 normal_ok hM rfl ?_ ?_);all_goals first|(simp only [go_sem,seval] <;> first|done|omega)|skip;all_goals (try simp -implicitDefEqProofs (disch:=first|omega|(simp only [go_sem,seval];first|done|omega)) only [go_sem,seval]))
  have f3:((64:Int) < l.length) = False:=eq_false (by omega)
  rw [if_neg h3]
  simp -implicitDefEqProofs (disch:=first|omega|(simp only [go_sem,seval,f3];first|done|omega)) only [go_sem,seval,f3]
  have hsq:=sqBd (d:=least) (n:=1000) (by omega) (by omega) (by omega)
  refine loop_mk (α:=Nat) 0 (fun k => k ≤ l.length ∧ fst0 (tbL least l) = fst0 ((tbL least l).drop k) ∧ tbsIn least l k) (fun k => M)
    (fun k => [(1,.fp [.s (.string nm),.I least,.fs (l.map encTb)]),(3,.I k)]) (fun k => l.length - k) ⟨Nat.zero_le _,rfl,tbsIn_zero⟩ rfl rfl ?_
  rintro k ⟨hk,hs,hin⟩
  by_cases hlt:k < l.length
  case neg =>
    simp -implicitDefEqProofs (disch:=first|omega|(simp only [go_sem,seval,hlt];first|done|omega)) only [go_sem,seval,hlt]
    (first|refine post_fin ret_ok hM rfl ?_ ?_|refine post_fin0 ret_ok hM rfl ?_ ?_|refine post_fin normal_ok hM rfl ?_ ?_|refine post_fin0 normal_ok hM rfl ?_ ?_)
    · simp -implicitDefEqProofs (disch:=first|omega|(simp only [go_sem,seval];first|done|omega)) only [go_sem,seval]
      rw [hs,List.drop_of_length_le (by rw [tbL_len];omega)];rfl
    · (simp only [go_sem,seval] <;> first|done|omega)
  obtain ⟨x,hx⟩:∃ x,l[k]? = some x:=⟨_,List.getElem?_eq_getElem hlt⟩
  have hd:=fst0_drop (tbL least l) k _ (tbL_get hx)
  have hpt:=fun (i:Nat) (t:Tb) (hi:i < k) (ht:l[i]? = some t) => tbsIn_pt hin hi ht
  have hin1:=tbsIn_succ hin hx
  simp -implicitDefEqProofs (disch:=first|omega|(simp only [go_sem,seval,hlt,hx,encTb_cells,encTb_eq];first|done|omega)) only [go_sem,seval,hlt,hx,encTb_cells,encTb_eq]
  refine callP_q (q_ref01_IsName _ _) ?_
  simp -implicitDefEqProofs (disch:=first|omega|(simp only [go_sem,seval,encTb_eq];first|done|omega)) only [go_sem,seval,encTb_eq]
  by_cases g1:nameOk x.name = false
  · rw [tbE_name g1] at hd
    simp -implicitDefEqProofs (disch:=first|omega|(simp only [go_sem,seval,g1];first|done|omega)) only [go_sem,seval,g1]
    (first|refine post_fin ret_ok hM rfl ?_ ?_|refine post_fin0 ret_ok hM rfl ?_ ?_|refine post_fin normal_ok hM rfl ?_ ?_|refine post_fin0 normal_ok hM rfl ?_ ?_)
    · simp -implicitDefEqProofs (disch:=first|omega|(simp only [go_sem,seval];first|done|omega)) only [go_sem,seval]
      rw [hs,hd];rfl
    · (simp only [go_sem,seval] <;> first|done|omega)
  have g1':nameOk x.name = true:=by simpa using g1
  simp -implicitDefEqProofs (disch:=first|omega|(simp only [go_sem,seval,g1'];first|done|omega)) only [go_sem,seval,g1']
  refine callP_q (q_ref01_CheckPoint x.at_ _) ?_
  simp -implicitDefEqProofs (disch:=first|omega|(simp only [go_sem,seval,encTb_eq];first|done|omega)) only [go_sem,seval,encTb_eq]
  by_cases g2:ptE x.at_ = 0
  case neg =>
    rw [tbE_pt g1' g2] at hd
    simp -implicitDefEqProofs (disch:=first|omega|(simp only [go_sem,seval,g2];first|done|omega)) only [go_sem,seval,g2]
    (first|refine post_fin ret_ok hM rfl ?_ ?_|refine post_fin0 ret_ok hM rfl ?_ ?_|refine post_fin normal_ok hM rfl ?_ ?_|refine post_fin0 normal_ok hM rfl ?_ ?_)
    · simp -implicitDefEqProofs (disch:=first|omega|(simp only [go_sem,seval];first|done|omega)) only [go_sem,seval]
      rw [hs,hd];rfl
    · (simp only [go_sem,seval] <;> first|done|omega)
  have gx:=ptE_in g2
  simp -implicitDefEqProofs (disch:=first|omega|(simp only [go_sem,seval,g2,encTb_eq];first|done|omega)) only [go_sem,seval,g2,encTb_eq]
  refine loop_mk (α:=Nat) 0 (fun j => j ≤ k ∧ (l.take j).any (fun o => decide (o.name = x.name)) = false) (fun _ => M ++ [.row true 3 0 [encTb x]])
    (fun j => [(1,.fp [.s (.string nm),.I least,.fs (l.map encTb)]),(3,.I k),(4,.op M.length 0 0 0),(5,.I j)]) (fun j => k - j) ⟨Nat.zero_le _,rfl⟩ rfl rfl ?_
  rintro j ⟨hj,hany⟩
  by_cases hjk:j < k
  · obtain ⟨y,hy⟩:∃ y,l[j]? = some y:=⟨_,List.getElem?_eq_getElem (by omega)⟩
    have f1:j < l.length:=by omega
    have hsn:=any_snoc (fun o => decide (o.name = x.name)) hy
    simp -implicitDefEqProofs (disch:=first|omega|(simp only [go_sem,seval,hjk,f1,hy,encTb_cells,encTb_eq,bin_strEq];first|done|omega)) only [go_sem,seval,hjk,f1,hy,encTb_cells,encTb_eq,bin_strEq]
    by_cases hn:y.name = x.name
    · have:=any_hit (k:=k) (fun o => decide (o.name = x.name)) hy hjk (by simpa using hn)
      rw [tbE_twice g1' g2 this] at hd
      simp -implicitDefEqProofs (disch:=first|omega|(simp only [go_sem,seval,hn];first|done|omega)) only [go_sem,seval,hn]
      (first|refine post_fin ret_ok hM rfl ?_ ?_|refine post_fin0 ret_ok hM rfl ?_ ?_|refine post_fin normal_ok hM rfl ?_ ?_|refine post_fin0 normal_ok hM rfl ?_ ?_)
      · simp -implicitDefEqProofs (disch:=first|omega|(simp only [go_sem,seval];first|done|omega)) only [go_sem,seval]
        rw [hs,hd];rfl
      · (simp only [go_sem,seval] <;> first|done|omega)
    · simp -implicitDefEqProofs (disch:=first|omega|(simp only [go_sem,seval,hn];first|done|omega)) only [go_sem,seval,hn]
      refine again' (j + 1) ⟨by omega,by rw [hsn,hany];simp [hn]⟩ (by omega) rfl rfl
  have hjk':j = k:=by omega
  subst hjk'
  simp -implicitDefEqProofs (disch:=first|omega|(simp only [go_sem,seval,hjk,encTb_cells,encTb_eq];first|done|omega)) only [go_sem,seval,hjk,encTb_cells,encTb_eq]
  refine loop_mk (α:=Nat) 0 (fun i => i ≤ j ∧ (l.take i).any (fun o => decide (apartP x.at_ o.at_ < least * least)) = false) (fun _ => M ++ [.row true 3 0 [encTb x]])
    (fun i => [(1,.fp [.s (.string nm),.I least,.fs (l.map encTb)]),(3,.I j),(4,.op M.length 0 0 0),(6,.I i)]) (fun i => j - i) ⟨Nat.zero_le _,rfl⟩ rfl rfl ?_
  rintro i ⟨hi,hnear⟩
  by_cases hij:i < j
  · obtain ⟨y,hy⟩:∃ y,l[i]? = some y:=⟨_,List.getElem?_eq_getElem (by omega)⟩
    have f1:i < l.length:=by omega
    have hsn:=any_snoc (fun o => decide (apartP x.at_ o.at_ < least * least)) hy
    have gy:=hpt i y hij hy
    simp -implicitDefEqProofs (disch:=first|omega|(simp only [go_sem,seval,hij,f1,hy,encTb_cells,encTb_eq];first|done|omega)) only [go_sem,seval,hij,f1,hy,encTb_cells,encTb_eq]
    refine callP_q (q_ref01_Apart y.at_ x.at_ (ptIn_W gy) (ptIn_W gx) _) ?_
    rw [apartP_comm]
    have hbd:=apartP_bd (ptIn_W gx) (ptIn_W gy)
    simp -implicitDefEqProofs (disch:=first|omega|(simp only [go_sem,seval,encTb_cells,encTb_eq];first|done|omega)) only [go_sem,seval,encTb_cells,encTb_eq]
    by_cases hn:apartP x.at_ y.at_ < least * least
    · have:=any_hit (k:=j) (fun o => decide (apartP x.at_ o.at_ < least * least)) hy hij (by simpa using hn)
      rw [tbE_near g1' g2 hany this] at hd
      simp -implicitDefEqProofs (disch:=first|omega|(simp only [go_sem,seval,hn];first|done|omega)) only [go_sem,seval,hn]
      (first|refine post_fin ret_ok hM rfl ?_ ?_|refine post_fin0 ret_ok hM rfl ?_ ?_|refine post_fin normal_ok hM rfl ?_ ?_|refine post_fin0 normal_ok hM rfl ?_ ?_)
      · simp -implicitDefEqProofs (disch:=first|omega|(simp only [go_sem,seval];first|done|omega)) only [go_sem,seval]
        rw [hs,hd];rfl
      · (simp only [go_sem,seval] <;> first|done|omega)
    · simp -implicitDefEqProofs (disch:=first|omega|(simp only [go_sem,seval,hn];first|done|omega)) only [go_sem,seval,hn]
      refine again' (i + 1) ⟨by omega,by rw [hsn,hnear];simp [hn]⟩ (by omega) rfl rfl
  have hij':i = j:=by omega
  subst hij'
  have h0:=tbE_ok g1' g2 hany hnear
  rw [if_pos h0] at hd
  simp -implicitDefEqProofs (disch:=first|omega|(simp only [go_sem,seval,hij,encTb_cells,encTb_eq];first|done|omega)) only [go_sem,seval,hij,encTb_cells,encTb_eq]
  refine Wp_cut_at hM rfl 0 (by simp) (by first|done|(simp only [go_sem,seval,encTb_low] <;> first|done|(refine ⟨?_,?_⟩ <;> omega)|omega)) (lowL_mk (by first|done|(simp only [go_sem,seval,encTb_low] <;> first|done|(refine ⟨?_,?_⟩ <;> omega)|omega))) ?_
  simp -implicitDefEqProofs (disch:=first|omega|(simp only [go_sem,seval];first|done|omega)) only [go_sem,seval]
  exact again' (i + 1) ⟨by omega,by rw [hs,hd],hin1 h0⟩ (by omega) rfl rfl
theorem q_site_CheckSite (s:Ste) (hl:s.tbs.length ≤ 1048576):Q X 54 [encSte s] (.I (chkSte s)):=by
  obtain ⟨nm,least,l⟩:=s
  have e:chkSte ⟨nm,least,l⟩ = if nameOk nm = false then 8 else if ¬ rng least 1 1000 = 0 then 3 else if 64 < l.length then 5 else fst0 (tbL least l):=rfl
  rw [e]
  clear e
  simp only at hl
  have e:encSte ⟨nm,least,l⟩ = .agg [.s (.string nm),.I least,.fs (l.map encTb)]:=rfl
  rw [e]
  clear e
  intro M
  (refine ACall_fn (cf:=L5.c54) rfl rfl fun hM hA => ?_;simp only [L5.c54,zO,zF,zT];rw [mk1 _ (by decide)];simp -implicitDefEqProofs (disch:=first|omega|(simp only [go_sem,seval];first|done|omega)) only [go_sem,seval])
  refine callP_q (q_site_checkName nm _) ?_
  simp -implicitDefEqProofs (disch:=first|omega|(simp only [go_sem,seval];first|done|omega)) only [go_sem,seval]
  refine callP_q (q_site_within _ _ _ _) ?_
  simp -implicitDefEqProofs (disch:=first|omega|(simp only [go_sem,seval];first|done|omega)) only [go_sem,seval]
  refine callP_q (q_site_when _ _ _) ?_
  simp -implicitDefEqProofs (disch:=first|omega|(simp only [go_sem,seval];first|done|omega)) only [go_sem,seval]
  refine callP_q (q_site_first [if nameOk nm = false then 8 else 0,rng least 1 1000,if (64:Int) < l.length then 5 else 0] (by simp) _) ?_
  have hv:∀ n a b:Int,rng n a b = 0 ∨ rng n a b = 3:=by intro n a b;unfold rng;split <;> simp
  by_cases h1:nameOk nm = false
  · have e:fst0 [if nameOk nm = false then 8 else 0,rng least 1 1000,if (64:Int) < l.length then 5 else 0] = 8:=by simp [fst0,h1]
    have f8:((8:Int) = 0) = False:=by decide
    rw [if_pos h1,e]
    simp -implicitDefEqProofs (disch:=first|omega|(simp only [go_sem,seval,f8];first|done|omega)) only [go_sem,seval,f8]
    (all_goals (first|refine post_fin ret_ok hM rfl ?_ ?_|refine post_fin0 ret_ok hM rfl ?_ ?_|refine post_fin normal_ok hM rfl ?_ ?_|refine post_fin0 normal_ok hM rfl ?_ ?_);all_goals first|(simp only [go_sem,seval] <;> first|done|omega)|skip;all_goals (try simp -implicitDefEqProofs (disch:=first|omega|(simp only [go_sem,seval];first|done|omega)) only [go_sem,seval]))
  by_cases h2:rng least 1 1000 = 0
  case neg =>
    have h3:=(hv least 1 1000).resolve_left h2
    have e:fst0 [if nameOk nm = false then 8 else 0,rng least 1 1000,if (64:Int) < l.length then 5 else 0] = 3:=by simp [fst0,h1,h3]
    have f8:((3:Int) = 0) = False:=by decide
    rw [if_neg h1,if_pos h2,e]
    simp -implicitDefEqProofs (disch:=first|omega|(simp only [go_sem,seval,f8];first|done|omega)) only [go_sem,seval,f8]
    (all_goals (first|refine post_fin ret_ok hM rfl ?_ ?_|refine post_fin0 ret_ok hM rfl ?_ ?_|refine post_fin normal_ok hM rfl ?_ ?_|refine post_fin0 normal_ok hM rfl ?_ ?_);all_goals first|(simp only [go_sem,seval] <;> first|done|omega)|skip;all_goals (try simp -implicitDefEqProofs (disch:=first|omega|(simp only [go_sem,seval];first|done|omega)) only [go_sem,seval]))
  by_cases h3:64 < l.length
  · have f3:(64:Int) < l.length:=by omega
    have e:fst0 [if nameOk nm = false then 8 else 0,rng least 1 1000,if (64:Int) < l.length then 5 else 0] = 5:=by simp [fst0,h1,h2,f3]
    have f8:((5:Int) = 0) = False:=by decide
    rw [if_neg h1,if_neg (fun h => h h2),if_pos h3,e]
    simp -implicitDefEqProofs (disch:=first|omega|(simp only [go_sem,seval,f8];first|done|omega)) only [go_sem,seval,f8]
    (all_goals (first|refine post_fin ret_ok hM rfl ?_ ?_|refine post_fin0 ret_ok hM rfl ?_ ?_|refine post_fin normal_ok hM rfl ?_ ?_|refine post_fin0 normal_ok hM rfl ?_ ?_);all_goals first|(simp only [go_sem,seval] <;> first|done|omega)|skip;all_goals (try simp -implicitDefEqProofs (disch:=first|omega|(simp only [go_sem,seval];first|done|omega)) only [go_sem,seval]))
  have f3:¬ (64:Int) < l.length:=by omega
  have e:fst0 [if nameOk nm = false then 8 else 0,rng least 1 1000,if (64:Int) < l.length then 5 else 0] = 0:=by simp [fst0,h1,h2,f3]
  rw [if_neg h1,if_neg (fun h => h h2),if_neg h3,e]
  rw [rng_ok] at h2
  clear e
  simp -implicitDefEqProofs (disch:=first|omega|(simp only [go_sem,seval];first|done|omega)) only [go_sem,seval]
  have hsq:=sqBd (d:=least) (n:=1000) (by omega) (by omega) (by omega)
  refine loop_mk (α:=Nat) 0 (fun k => k ≤ l.length ∧ fst0 (tbL least l) = fst0 ((tbL least l).drop k) ∧ tbsIn least l k) (fun k => M ++ [.map (knownE (l.take k))])
    (fun k => [(1,.fp [.s (.string nm),.I least,.fs (l.map encTb)]),(4,.om M.length),(5,.I 0),(28,.fs (l.map encTb)),(29,.I l.length),(30,.I k)]) (fun k => l.length - k) ⟨Nat.zero_le _,rfl,tbsIn_zero⟩ rfl rfl ?_
  rintro k ⟨hk,hs,hin⟩
  by_cases hlt:k < l.length
  case neg =>
    simp -implicitDefEqProofs (disch:=first|omega|(simp only [go_sem,seval,hlt];first|done|omega)) only [go_sem,seval,hlt]
    (first|refine post_fin ret_ok hM rfl ?_ ?_|refine post_fin0 ret_ok hM rfl ?_ ?_|refine post_fin normal_ok hM rfl ?_ ?_|refine post_fin0 normal_ok hM rfl ?_ ?_)
    · simp -implicitDefEqProofs (disch:=first|omega|(simp only [go_sem,seval];first|done|omega)) only [go_sem,seval]
      rw [hs,List.drop_of_length_le (by rw [tbL_len];omega)];rfl
    · (simp only [go_sem,seval] <;> first|done|omega)
  obtain ⟨x,hx⟩:∃ x,l[k]? = some x:=⟨_,List.getElem?_eq_getElem hlt⟩
  have hd:=fst0_drop (tbL least l) k _ (tbL_get hx)
  have hpt:=fun (i:Nat) (t:Tb) (hi:i < k) (ht:l[i]? = some t) => tbsIn_pt hin hi ht
  have hin1:=tbsIn_succ hin hx
  have hkn:=knownE_like x.name (l.take k)
  have hfk:=find_known x.name (l.take k)
  simp -implicitDefEqProofs (disch:=first|omega|(simp only [go_sem,seval,hlt,hx,encTb_cells,encTb_eq];first|done|omega)) only [go_sem,seval,hlt,hx,encTb_cells,encTb_eq]
  refine callP_q (q_site_checkName _ _) ?_
  simp -implicitDefEqProofs (disch:=first|omega|(simp only [go_sem,seval,encTb_eq];first|done|omega)) only [go_sem,seval,encTb_eq]
  refine callP_q (q_site_checkPlace x.at_ _) ?_
  simp -implicitDefEqProofs (disch:=first|omega|(simp only [go_sem,seval,encTb_eq,lookV_om,lookB_no,keyOk_str,hkn,hfk];first|done|omega)) only [go_sem,seval,encTb_eq,lookV_om,lookB_no,keyOk_str,hkn,hfk]
  refine callP_q (q_site_when _ _ _) ?_
  simp -implicitDefEqProofs (disch:=first|omega|(simp only [go_sem,seval,encTb_eq];first|done|omega)) only [go_sem,seval,encTb_eq]
  refine callP_q (q_site_first [if nameOk x.name = false then 8 else 0,ptE x.at_,if (l.take k).any (fun o => decide (o.name = x.name)) = true then 9 else 0] (by simp) _) ?_
  have bad:∀ (e:Int),e ≠ 0 → tbE least (l.take k) x = e → fst0 (tbL least l) = e:=by
    intro e h0 h1
    rw [hs,hd,h1,if_neg h0]
  by_cases g1:nameOk x.name = false
  · have e:fst0 [if nameOk x.name = false then 8 else 0,ptE x.at_,if (l.take k).any (fun o => decide (o.name = x.name)) = true then 9 else 0] = 8:=by simp [fst0,g1]
    have f8:((8:Int) = 0) = False:=by decide
    rw [e]
    simp -implicitDefEqProofs (disch:=first|omega|(simp only [go_sem,seval,f8];first|done|omega)) only [go_sem,seval,f8]
    (first|refine post_fin ret_ok hM rfl ?_ ?_|refine post_fin0 ret_ok hM rfl ?_ ?_|refine post_fin normal_ok hM rfl ?_ ?_|refine post_fin0 normal_ok hM rfl ?_ ?_)
    · simp -implicitDefEqProofs (disch:=first|omega|(simp only [go_sem,seval];first|done|omega)) only [go_sem,seval]
      rw [bad 8 (by decide) (tbE_name g1)]
    · (simp only [go_sem,seval] <;> first|done|omega)
  have g1':nameOk x.name = true:=by simpa using g1
  by_cases g2:ptE x.at_ = 0
  case neg =>
    have g3:=(ptE_v x.at_).resolve_left g2
    have e:fst0 [if nameOk x.name = false then 8 else 0,ptE x.at_,if (l.take k).any (fun o => decide (o.name = x.name)) = true then 9 else 0] = 3:=by simp [fst0,g1,g3]
    have f8:((3:Int) = 0) = False:=by decide
    rw [e]
    simp -implicitDefEqProofs (disch:=first|omega|(simp only [go_sem,seval,f8];first|done|omega)) only [go_sem,seval,f8]
    (first|refine post_fin ret_ok hM rfl ?_ ?_|refine post_fin0 ret_ok hM rfl ?_ ?_|refine post_fin normal_ok hM rfl ?_ ?_|refine post_fin0 normal_ok hM rfl ?_ ?_)
    · simp -implicitDefEqProofs (disch:=first|omega|(simp only [go_sem,seval];first|done|omega)) only [go_sem,seval]
      rw [bad 3 (by decide) (tbE_pt g1' g2)]
    · (simp only [go_sem,seval] <;> first|done|omega)
  by_cases g3:(l.take k).any (fun o => decide (o.name = x.name)) = true
  · have e:fst0 [if nameOk x.name = false then 8 else 0,ptE x.at_,if (l.take k).any (fun o => decide (o.name = x.name)) = true then 9 else 0] = 9:=by rw [g3];simp [fst0,g1,g2]
    have f8:((9:Int) = 0) = False:=by decide
    rw [e]
    simp -implicitDefEqProofs (disch:=first|omega|(simp only [go_sem,seval,f8];first|done|omega)) only [go_sem,seval,f8]
    (first|refine post_fin ret_ok hM rfl ?_ ?_|refine post_fin0 ret_ok hM rfl ?_ ?_|refine post_fin normal_ok hM rfl ?_ ?_|refine post_fin0 normal_ok hM rfl ?_ ?_)
    · simp -implicitDefEqProofs (disch:=first|omega|(simp only [go_sem,seval];first|done|omega)) only [go_sem,seval]
      rw [bad 9 (by decide) (tbE_twice g1' g2 g3)]
    · (simp only [go_sem,seval] <;> first|done|omega)
  have g3':(l.take k).any (fun o => decide (o.name = x.name)) = false:=by simpa using g3
  have e:fst0 [if nameOk x.name = false then 8 else 0,ptE x.at_,if (l.take k).any (fun o => decide (o.name = x.name)) = true then 9 else 0] = 0:=by rw [g3'];simp [fst0,g1,g2]
  rw [e]
  clear e
  have gx:=ptE_in g2
  have hup:=upd_known x (l.take k) g3'
  have hsz:=encTb_sized l
  have hkl:(k ≤ l.length) = True:=eq_true hk
  have htk:List.take k (List.map encTb l) = (l.take k).map encTb:=by rw [List.map_take]
  have hlk:(l.take k).length = k:=by rw [List.length_take];omega
  have hsk:=encTb_sized (l.take k)
  simp -implicitDefEqProofs (disch:=first|omega|(simp only [go_sem,seval,encTb_cells,encTb_eq,mupdO_om,mupdB_map,keyOk_str,hkn,hup,hsz,hkl,htk,hlk,List.drop_zero,Nat.sub_zero];first|done|omega)) only [go_sem,seval,encTb_cells,encTb_eq,mupdO_om,mupdB_map,keyOk_str,hkn,hup,hsz,hkl,htk,hlk,List.drop_zero,Nat.sub_zero]
  refine loop_mk (α:=Nat) 0 (fun i => i ≤ k ∧ (l.take i).any (fun o => decide (apartP x.at_ o.at_ < least * least)) = false) (fun _ => M ++ [.map (knownE (l.take k ++ [x])),.row true 3 0 [encTb x]])
    (fun i => [(1,.fp [.s (.string nm),.I least,.fs (l.map encTb)]),(4,.om M.length),(5,.I 0),(7,.op (M.length + 1) 0 0 0),(28,.fs (l.map encTb)),(29,.I l.length),(30,.I k),(56,.fs ((l.take k).map encTb)),(57,.I k),(58,.I i)])
    (fun i => k - i) ⟨Nat.zero_le _,rfl⟩ rfl rfl ?_
  rintro i ⟨hi,hnear⟩
  by_cases hij:i < k
  · obtain ⟨y,hy⟩:∃ y,l[i]? = some y:=⟨_,List.getElem?_eq_getElem (by omega)⟩
    have hy':(l.take k)[i]? = some y:=by rw [List.getElem?_take_of_lt hij];exact hy
    have f1:i < (l.take k).length:=by omega
    have hsn:=any_snoc (fun o => decide (apartP x.at_ o.at_ < least * least)) hy
    have gy:=hpt i y hij hy
    simp -implicitDefEqProofs (disch:=first|omega|(simp only [go_sem,seval,hij,f1,hy',hlk,encTb_cells,encTb_eq];first|done|omega)) only [go_sem,seval,hij,f1,hy',hlk,encTb_cells,encTb_eq]
    refine callP_q (q_site_apart x.at_ y.at_ (ptIn_W gx) (ptIn_W gy) _) ?_
    simp -implicitDefEqProofs (disch:=first|omega|(simp only [go_sem,seval,encTb_cells,encTb_eq];first|done|omega)) only [go_sem,seval,encTb_cells,encTb_eq]
    by_cases hn:apartP x.at_ y.at_ < least * least
    · have hit:=any_hit (k:=k) (fun o => decide (apartP x.at_ o.at_ < least * least)) hy hij (by simpa using hn)
      simp -implicitDefEqProofs (disch:=first|omega|(simp only [go_sem,seval,hn];first|done|omega)) only [go_sem,seval,hn]
      (first|refine post_fin ret_ok hM rfl ?_ ?_|refine post_fin0 ret_ok hM rfl ?_ ?_|refine post_fin normal_ok hM rfl ?_ ?_|refine post_fin0 normal_ok hM rfl ?_ ?_)
      · simp -implicitDefEqProofs (disch:=first|omega|(simp only [go_sem,seval];first|done|omega)) only [go_sem,seval]
        rw [bad 15 (by decide) (tbE_near g1' g2 g3' hit)]
      · (simp only [go_sem,seval] <;> first|done|omega)
    · simp -implicitDefEqProofs (disch:=first|omega|(simp only [go_sem,seval,hn,encTb_cells,encTb_eq];first|done|omega)) only [go_sem,seval,hn,encTb_cells,encTb_eq]
      refine Wp_cut_at hM rfl 2 (by simp) (by first|done|(simp only [go_sem,seval,encTb_low] <;> first|done|(refine ⟨?_,?_⟩ <;> omega)|omega)) (lowL_mk (by first|done|(simp only [go_sem,seval,encTb_low] <;> first|done|(refine ⟨?_,?_⟩ <;> omega)|omega))) ?_
      simp -implicitDefEqProofs (disch:=first|omega|(simp only [go_sem,seval];first|done|omega)) only [go_sem,seval]
      exact again' (i + 1) ⟨by omega,by rw [hsn,hnear];simp [hn]⟩ (by omega) rfl rfl
  have hij':i = k:=by omega
  subst hij'
  have h0:=tbE_ok g1' g2 g3' hnear
  rw [if_pos h0] at hd
  simp -implicitDefEqProofs (disch:=first|omega|(simp only [go_sem,seval,hij,encTb_cells,encTb_eq];first|done|omega)) only [go_sem,seval,hij,encTb_cells,encTb_eq]
  refine Wp_cut_at hM rfl 1 (by simp) (by first|done|(simp only [go_sem,seval,encTb_low] <;> first|done|(refine ⟨?_,?_⟩ <;> omega)|omega)) (lowL_mk (by first|done|(simp only [go_sem,seval,encTb_low] <;> first|done|(refine ⟨?_,?_⟩ <;> omega)|omega))) ?_
  simp -implicitDefEqProofs (disch:=first|omega|(simp only [go_sem,seval];first|done|omega)) only [go_sem,seval]
  have hts:l.take (i + 1) = l.take i ++ [x]:=by
    obtain ⟨q1,q2⟩:=List.getElem?_eq_some_iff.1 hx
    rw [List.take_succ_eq_append_getElem q1,q2]
  exact again' (i + 1) ⟨by omega,by rw [hs,hd],hin1 h0⟩ (by omega) (by rw [hts]) rfl
theorem q_site_TurnSite_1 (p:Pt) (n:Nat) (hp:ptIn p) (hn:n ≤ 1000) (M:List Blk):ACall F X (.fn 57) [encPt p,.fp [.I n]] M (encPt (trnN n p)) M:=by
  (refine ACall_fn (cf:=L5.c57) rfl rfl fun hM hA => ?_;simp only [L5.c57,zO,zF,zT];rw [mk2 _ (by decide)];simp -implicitDefEqProofs (disch:=first|omega|(simp only [go_sem,seval,encPt_eq];first|done|omega)) only [go_sem,seval,encPt_eq])
  refine loop_mk (α:=Nat) 0 (fun k => k ≤ n) (fun k => M ++ [.row true 2 0 [encPt (trnN k p)],.row true 2 0 [encPt ⟨0,0⟩]]) (fun k => [(2,.op M.length 0 0 0),(3,.op (M.length + 1) 0 0 0),(4,.I n),(5,.I k)]) (fun k => n - k) (Nat.zero_le _) rfl rfl ?_
  intro k hk
  have hw:=trnN_W hp k
  unfold ptIn at hw
  by_cases hlt:k < n
  · simp -implicitDefEqProofs (disch:=first|omega|(simp only [go_sem,seval,hlt,encPt_eq];first|done|omega)) only [go_sem,seval,hlt,encPt_eq]
    exact again' (k + 1) (by omega) (by omega) rfl rfl
  have hkk:k = n:=by omega
  subst hkk
  simp -implicitDefEqProofs (disch:=first|omega|(simp only [go_sem,seval,hlt,encPt_eq];first|done|omega)) only [go_sem,seval,hlt,encPt_eq]
  (all_goals (first|refine post_fin ret_ok hM rfl ?_ ?_|refine post_fin0 ret_ok hM rfl ?_ ?_|refine post_fin normal_ok hM rfl ?_ ?_|refine post_fin0 normal_ok hM rfl ?_ ?_);all_goals first|(simp only [go_sem,seval] <;> first|done|omega)|skip;all_goals (try simp -implicitDefEqProofs (disch:=first|omega|(simp only [go_sem,seval,encPt_eq];first|done|omega)) only [go_sem,seval,encPt_eq]))
theorem q_site_moved {g:FuncId} {cap:List PV} {f:Pt → Pt} (s:Ste) (hl:s.tbs.length ≤ 1048576) (hg:∀ t ∈ s.tbs,∀ M:List Blk,ACall F X (.fn g) (encPt t.at_ :: cap) M (encPt (f t.at_)) M) :
    Q X 56 [encSte s,.fn (.func g) [] cap] (encSte ⟨s.name,s.least,s.tbs.map (mvT f)⟩):=by
  obtain ⟨nm,least,l⟩:=s
  simp only at hl hg ⊢
  have e:encSte ⟨nm,least,l⟩ = .agg [.s (.string nm),.I least,.fs (l.map encTb)]:=rfl
  rw [e]
  clear e
  intro M
  (refine ACall_fn (cf:=L5.c56) rfl rfl fun hM hA => ?_;simp only [L5.c56,zO,zF,zT];rw [mk2 _ (by decide)];simp -implicitDefEqProofs (disch:=first|omega|(simp only [go_sem,seval];first|done|omega)) only [go_sem,seval])
  have okl:=encTb_ok l
  simp -implicitDefEqProofs (disch:=first|omega|(simp only [go_sem,seval,r_copy,copyO_os,copyR_all,okl,List.length_map,List.length_replicate];first|done|omega)) only [go_sem,seval,r_copy,copyO_os,copyR_all,okl,List.length_map,List.length_replicate]
  refine loop_mk (α:=Nat) 0 (fun k => k ≤ l.length) (fun k => M ++ [.row true 3 0 [encSte ⟨nm,least,l⟩],.row true 3 0 [zSte],.row true 3 0 ((mvK f l k).map encTb)])
    (fun k => [(1,.fn (.func g) [] cap),(2,.op M.length 0 0 0),(4,.op (M.length + 1) 0 0 0),(5,.os (M.length + 2) 0 0 l.length),(16,.I l.length),(17,.I k)]) (fun k => l.length - k) (Nat.zero_le _) ?_ rfl ?_
  · rw [mvK_zero];rfl
  intro k hk
  by_cases hlt:k < l.length
  · obtain ⟨x,hx⟩:∃ x,l[k]? = some x:=⟨_,List.getElem?_eq_getElem hlt⟩
    have hgx:=hg x (List.mem_of_getElem? hx)
    have hmx:=mvK_get (f:=f) hx
    have hml:=mvK_len f l k
    have hms:=mvK_set (f:=f) hx
    simp -implicitDefEqProofs (disch:=first|omega|(simp only [go_sem,seval,hlt,hmx,hml,encTb_cells,encTb_eq];first|done|omega)) only [go_sem,seval,hlt,hmx,hml,encTb_cells,encTb_eq]
    refine callP_q (hgx _) ?_
    have hms':((mvK f l k).map encTb).set k (PV.agg [.s (.string x.name),.I (f x.at_).x,.I (f x.at_).y]) = (mvK f l (k + 1)).map encTb:=by
      rw [← hms,List.map_set];rfl
    simp -implicitDefEqProofs (disch:=first|omega|(simp only [go_sem,seval,hlt,hmx,hml,encTb_cells,encTb_eq,encPt_eq,hms'];first|done|omega)) only [go_sem,seval,hlt,hmx,hml,encTb_cells,encTb_eq,encPt_eq,hms']
    have hca:lowL (M.length + 3) cap = True:=eq_true (lowL_mono (by omega) _ hA.2.1.2)
    refine Wp_cut_at hM rfl 3 (by simp) (by first|done|(simp only [go_sem,seval,encTb_low,encSte_low1,zSte_low,hca] <;> first|done|(refine ⟨?_,?_⟩ <;> omega)|omega)) (lowL_mk (by first|done|(simp only [go_sem,seval,encTb_low,encSte_low1,zSte_low,hca] <;> first|done|(refine ⟨?_,?_⟩ <;> omega)|omega))) ?_
    simp -implicitDefEqProofs (disch:=first|omega|(simp only [go_sem,seval];first|done|omega)) only [go_sem,seval]
    exact again' (k + 1) (by omega) (by omega) rfl rfl
  have hkk:k = l.length:=by omega
  subst hkk
  rw [mvK_all f l (Nat.le_refl _)]
  have hz:zSte = .agg [.s (.string ⟨#[]⟩),.I 0,.s (.slice none 0 0)]:=rfl
  have hlw:∀ n:Nat,lowL n (List.map (fun x => encTb (mvT f x)) l) = True:=fun n => eq_true (lowL_map _ _ fun r => by simp [encTb,mvT,PV.low,lowL])
  simp -implicitDefEqProofs (disch:=first|omega|(simp only [go_sem,seval,hlt,List.length_map,encSte_eq,hz,encTb_sized];first|done|omega)) only [go_sem,seval,hlt,List.length_map,encSte_eq,hz,encTb_sized]
  (all_goals (first|refine post_fin ret_ok hM rfl ?_ ?_|refine post_fin0 ret_ok hM rfl ?_ ?_|refine post_fin normal_ok hM rfl ?_ ?_|refine post_fin0 normal_ok hM rfl ?_ ?_);all_goals first|(simp only [go_sem,seval,hlw] <;> first|done|omega)|skip;all_goals (try simp -implicitDefEqProofs (disch:=first|omega|(simp only [go_sem,seval];first|done|omega)) only [go_sem,seval]))
def turnE (s:Ste) (q:Int):Int:=fst0 [chkSte s,rng q 0 3]
def s0:Ste:=⟨⟨#[]⟩,0,[]⟩
theorem encS0:encSte s0 = .agg [.s (.string ⟨#[]⟩),.I 0,.fs []]:=rfl
def mvS (f:Pt → Pt) (s:Ste):Ste:=⟨s.name,s.least,s.tbs.map (mvT f)⟩
theorem all_pt {s:Ste} (h:chkSte s = 0):∀ t ∈ s.tbs,ptIn t.at_:=by
  intro t ht
  obtain ⟨i,hi,h2⟩:=List.mem_iff_getElem.1 ht
  exact tbsIn_pt (chkSte_in h).2.2.2 hi (List.getElem?_eq_some_iff.2 ⟨hi,h2⟩)
theorem q_site_TurnSite (s:Ste) (q:Int) (hl:s.tbs.length ≤ 1048576):Q X 21 [encSte s,.I q] (.tup [encSte (if turnE s q = 0 then mvS (trnN q.toNat) s else s0),.I (turnE s q)]):=by
  have hC:=q_site_CheckSite (X:=X) s hl
  have hq:=q_site_first (X:=X) [chkSte s,rng q 0 3] (by simp)
  have hz:turnE s q = 0 → chkSte s = 0 ∧ rng q 0 3 = 0:=fst0_two
  have hm:chkSte s = 0 ∧ rng q 0 3 = 0 → Q X 56 [encSte s,.fn (.func 57) [] [.fp [.I q]]] (encSte (mvS (trnN q.toNat) s)):=by
    rintro ⟨h1,h2⟩
    rw [rng_ok] at h2
    obtain ⟨n,rfl⟩:∃ n:Nat,q = n:=⟨q.toNat,by omega⟩
    exact q_site_moved s hl (fun t ht M => q_site_TurnSite_1 t.at_ n (all_pt h1 t ht) (by omega) M)
  have e:turnE s q = fst0 [chkSte s,rng q 0 3]:=rfl
  rw [← e] at hq
  clear e
  generalize turnE s q = e at hq hz ⊢
  have es:=encSte_eq s
  have ls:=encSte_low1 (n:=0) s
  have lt:=fun n => encSte_low1 (n:=n) (mvS (trnN q.toNat) s)
  have et:=encSte_eq (mvS (trnN q.toNat) s)
  intro M
  (refine ACall_fn (cf:=L5.c21) rfl rfl fun hM hA => ?_;simp only [L5.c21,zO,zF,zT];rw [mk2 _ (by decide)];simp -implicitDefEqProofs (disch:=first|omega|(simp only [go_sem,seval,es];first|done|omega)) only [go_sem,seval,es])
  refine callP_q (hC _) ?_
  simp -implicitDefEqProofs (disch:=first|omega|(simp only [go_sem,seval,es];first|done|omega)) only [go_sem,seval,es]
  refine callP_q (q_site_checkTurns q _) ?_
  simp -implicitDefEqProofs (disch:=first|omega|(simp only [go_sem,seval];first|done|omega)) only [go_sem,seval]
  refine callP_q (hq _) ?_
  by_cases h0:e = 0
  case neg =>
    rw [if_neg h0]
    simp -implicitDefEqProofs (disch:=first|omega|(simp only [go_sem,seval,h0,encS0];first|done|omega)) only [go_sem,seval,h0,encS0]
    (all_goals (first|refine post_fin ret_ok hM rfl ?_ ?_|refine post_fin0 ret_ok hM rfl ?_ ?_|refine post_fin normal_ok hM rfl ?_ ?_|refine post_fin0 normal_ok hM rfl ?_ ?_);all_goals first|(simp only [go_sem,seval] <;> first|done|omega)|skip;all_goals (try simp -implicitDefEqProofs (disch:=first|omega|(simp only [go_sem,seval];first|done|omega)) only [go_sem,seval]))
  subst h0
  rw [if_pos rfl]
  have hm:=hm (hz rfl)
  generalize mvS (trnN q.toNat) s = s' at lt et hm ⊢
  simp -implicitDefEqProofs (disch:=first|omega|(simp only [go_sem,seval,es];first|done|omega)) only [go_sem,seval,es]
  refine callP_q (hm _) ?_
  simp -implicitDefEqProofs (disch:=first|omega|(simp only [go_sem,seval,encSte_eq];first|done|omega)) only [go_sem,seval,encSte_eq]
  (all_goals (first|refine post_fin ret_ok hM rfl ?_ ?_|refine post_fin0 ret_ok hM rfl ?_ ?_|refine post_fin normal_ok hM rfl ?_ ?_|refine post_fin0 normal_ok hM rfl ?_ ?_);all_goals first|(simp only [go_sem,seval,encTb_low] <;> first|done|omega)|skip;all_goals (try simp -implicitDefEqProofs (disch:=first|omega|(simp only [go_sem,seval,encSte_eq];first|done|omega)) only [go_sem,seval,encSte_eq]))
def stepL:List Pt:=[⟨0,-1⟩,⟨-1,-1⟩,⟨-1,0⟩,⟨-1,1⟩,⟨0,1⟩,⟨1,1⟩,⟨1,0⟩,⟨1,-1⟩]
def stepOf (n:Int):Pt:=if rng n 0 7 = 0 then stepL.getD n.toNat ⟨0,0⟩ else ⟨0,0⟩
theorem q_site_Step (n:Int):Q X 25 [.I n] (.tup [encPt (stepOf n),.I (rng n 0 7)]):=by
  intro M
  (refine ACall_fn (cf:=L5.c25) rfl rfl fun hM hA => ?_;simp only [L5.c25,zO,zF,zT];rw [mk1 _ (by decide)];simp -implicitDefEqProofs (disch:=first|omega|(simp only [go_sem,seval];first|done|omega)) only [go_sem,seval])
  refine callP_q (q_site_within n 0 7 _) ?_
  by_cases h:rng n 0 7 = 0
  case neg =>
    have e:stepOf n = ⟨0,0⟩:=if_neg h
    rw [e]
    simp -implicitDefEqProofs (disch:=first|omega|(simp only [go_sem,seval,h];first|done|omega)) only [go_sem,seval,h]
    (all_goals (first|refine post_fin ret_ok hM rfl ?_ ?_|refine post_fin0 ret_ok hM rfl ?_ ?_|refine post_fin normal_ok hM rfl ?_ ?_|refine post_fin0 normal_ok hM rfl ?_ ?_);all_goals first|(simp only [go_sem,seval] <;> first|done|omega)|skip;all_goals (try simp -implicitDefEqProofs (disch:=first|omega|(simp only [go_sem,seval,encPt_eq];first|done|omega)) only [go_sem,seval,encPt_eq]))
  have h1:=rng_ok.1 h
  rcases (by omega:n = 0 ∨ n = 1 ∨ n = 2 ∨ n = 3 ∨ n = 4 ∨ n = 5 ∨ n = 6 ∨ n = 7) with rfl|rfl|rfl|rfl|rfl|rfl|rfl|rfl
  · have e:stepOf 0 = ⟨0,-1⟩:=by decide
    rw [e,h]
    simp -implicitDefEqProofs (disch:=first|omega|(simp only [go_sem,seval];first|done|omega)) only [go_sem,seval]
    (all_goals (first|refine post_fin ret_ok hM rfl ?_ ?_|refine post_fin0 ret_ok hM rfl ?_ ?_|refine post_fin normal_ok hM rfl ?_ ?_|refine post_fin0 normal_ok hM rfl ?_ ?_);all_goals first|(simp only [go_sem,seval] <;> first|done|omega)|skip;all_goals (try simp -implicitDefEqProofs (disch:=first|omega|(simp only [go_sem,seval,encPt_eq];first|done|omega)) only [go_sem,seval,encPt_eq]))
  · have e:stepOf 1 = ⟨-1,-1⟩:=by decide
    rw [e,h]
    simp -implicitDefEqProofs (disch:=first|omega|(simp only [go_sem,seval];first|done|omega)) only [go_sem,seval]
    (all_goals (first|refine post_fin ret_ok hM rfl ?_ ?_|refine post_fin0 ret_ok hM rfl ?_ ?_|refine post_fin normal_ok hM rfl ?_ ?_|refine post_fin0 normal_ok hM rfl ?_ ?_);all_goals first|(simp only [go_sem,seval] <;> first|done|omega)|skip;all_goals (try simp -implicitDefEqProofs (disch:=first|omega|(simp only [go_sem,seval,encPt_eq];first|done|omega)) only [go_sem,seval,encPt_eq]))
  · have e:stepOf 2 = ⟨-1,0⟩:=by decide
    rw [e,h]
    simp -implicitDefEqProofs (disch:=first|omega|(simp only [go_sem,seval];first|done|omega)) only [go_sem,seval]
    (all_goals (first|refine post_fin ret_ok hM rfl ?_ ?_|refine post_fin0 ret_ok hM rfl ?_ ?_|refine post_fin normal_ok hM rfl ?_ ?_|refine post_fin0 normal_ok hM rfl ?_ ?_);all_goals first|(simp only [go_sem,seval] <;> first|done|omega)|skip;all_goals (try simp -implicitDefEqProofs (disch:=first|omega|(simp only [go_sem,seval,encPt_eq];first|done|omega)) only [go_sem,seval,encPt_eq]))
  · have e:stepOf 3 = ⟨-1,1⟩:=by decide
    rw [e,h]
    simp -implicitDefEqProofs (disch:=first|omega|(simp only [go_sem,seval];first|done|omega)) only [go_sem,seval]
    (all_goals (first|refine post_fin ret_ok hM rfl ?_ ?_|refine post_fin0 ret_ok hM rfl ?_ ?_|refine post_fin normal_ok hM rfl ?_ ?_|refine post_fin0 normal_ok hM rfl ?_ ?_);all_goals first|(simp only [go_sem,seval] <;> first|done|omega)|skip;all_goals (try simp -implicitDefEqProofs (disch:=first|omega|(simp only [go_sem,seval,encPt_eq];first|done|omega)) only [go_sem,seval,encPt_eq]))
  · have e:stepOf 4 = ⟨0,1⟩:=by decide
    rw [e,h]
    simp -implicitDefEqProofs (disch:=first|omega|(simp only [go_sem,seval];first|done|omega)) only [go_sem,seval]
    (all_goals (first|refine post_fin ret_ok hM rfl ?_ ?_|refine post_fin0 ret_ok hM rfl ?_ ?_|refine post_fin normal_ok hM rfl ?_ ?_|refine post_fin0 normal_ok hM rfl ?_ ?_);all_goals first|(simp only [go_sem,seval] <;> first|done|omega)|skip;all_goals (try simp -implicitDefEqProofs (disch:=first|omega|(simp only [go_sem,seval,encPt_eq];first|done|omega)) only [go_sem,seval,encPt_eq]))
  · have e:stepOf 5 = ⟨1,1⟩:=by decide
    rw [e,h]
    simp -implicitDefEqProofs (disch:=first|omega|(simp only [go_sem,seval];first|done|omega)) only [go_sem,seval]
    (all_goals (first|refine post_fin ret_ok hM rfl ?_ ?_|refine post_fin0 ret_ok hM rfl ?_ ?_|refine post_fin normal_ok hM rfl ?_ ?_|refine post_fin0 normal_ok hM rfl ?_ ?_);all_goals first|(simp only [go_sem,seval] <;> first|done|omega)|skip;all_goals (try simp -implicitDefEqProofs (disch:=first|omega|(simp only [go_sem,seval,encPt_eq];first|done|omega)) only [go_sem,seval,encPt_eq]))
  · have e:stepOf 6 = ⟨1,0⟩:=by decide
    rw [e,h]
    simp -implicitDefEqProofs (disch:=first|omega|(simp only [go_sem,seval];first|done|omega)) only [go_sem,seval]
    (all_goals (first|refine post_fin ret_ok hM rfl ?_ ?_|refine post_fin0 ret_ok hM rfl ?_ ?_|refine post_fin normal_ok hM rfl ?_ ?_|refine post_fin0 normal_ok hM rfl ?_ ?_);all_goals first|(simp only [go_sem,seval] <;> first|done|omega)|skip;all_goals (try simp -implicitDefEqProofs (disch:=first|omega|(simp only [go_sem,seval,encPt_eq];first|done|omega)) only [go_sem,seval,encPt_eq]))
  · have e:stepOf 7 = ⟨1,-1⟩:=by decide
    rw [e,h]
    simp -implicitDefEqProofs (disch:=first|omega|(simp only [go_sem,seval];first|done|omega)) only [go_sem,seval]
    (all_goals (first|refine post_fin ret_ok hM rfl ?_ ?_|refine post_fin0 ret_ok hM rfl ?_ ?_|refine post_fin normal_ok hM rfl ?_ ?_|refine post_fin0 normal_ok hM rfl ?_ ?_);all_goals first|(simp only [go_sem,seval] <;> first|done|omega)|skip;all_goals (try simp -implicitDefEqProofs (disch:=first|omega|(simp only [go_sem,seval,encPt_eq];first|done|omega)) only [go_sem,seval,encPt_eq]))
def stepC:List PV:=[.I 0,.I (-1),.I (-1),.I (-1),.I (-1),.I 0,.I (-1),.I 1,.I 0,.I 1,.I 1,.I 1,.I 1,.I 0,.I 1,.I (-1)]
theorem q_site_CheckRose (r:Rse) (hl:r.length = 408):Q X 64 [encRs r] (.I (chkRse r)):=by
  have hc:=cells_mk hl
  have e:encRs r = .agg (r.map .I):=rfl
  rw [e]
  clear e
  generalize r.map PV.I = cs at hc ⊢
  generalize (fun k => (blk r k).map PV.I) = bk at hc
  intro M
  have hz:=z408_I
  have heq:=hc.eq z408 List.length_replicate
  have hzl:(z408.map PV.I).length = 408:=by rw [List.length_map];exact List.length_replicate
  generalize z408.map PV.I = zz at hz heq hzl
  have h51:(List.replicate 51 (Value.int .i64 0)).length = 51:=List.length_replicate
  generalize hz5:List.replicate 51 (Value.int .i64 0) = z5 at h51
  have h5d:(List.map PV.s z5).drop 51 = []:=List.drop_of_length_le (by rw [List.length_map,h51];omega)
  have hcl:=hc.len
  have hct:=hc.tk
  have hvw:=hc.vw
  (refine ACall_fn (cf:=L5.c64) rfl rfl fun hM hA => ?_;simp only [L5.c64,zO,zF,zT];rw [mk1 _ (by decide)];simp -implicitDefEqProofs (disch:=first|omega|(simp only [go_sem,seval,-List.reduceReplicate,hz,hz5,hcl,hct,hzl,hvw,eqsV_agg,heq];first|done|omega)) only [go_sem,seval,-List.reduceReplicate,hz,hz5,hcl,hct,hzl,hvw,eqsV_agg,heq])
  by_cases h0:r = z408
  · have h1:chkRse r = 0:=by rw [h0];exact chkRse_z
    have f0:(r = z408) = True:=eq_true h0
    rw [h1]
    simp -implicitDefEqProofs (disch:=first|omega|(simp only [go_sem,seval,-List.reduceReplicate,f0];first|done|omega)) only [go_sem,seval,-List.reduceReplicate,f0]
    (all_goals (first|refine post_fin ret_ok hM rfl ?_ ?_|refine post_fin0 ret_ok hM rfl ?_ ?_|refine post_fin normal_ok hM rfl ?_ ?_|refine post_fin0 normal_ok hM rfl ?_ ?_);all_goals first|(simp only [go_sem,seval,-List.reduceReplicate] <;> first|done|omega)|skip;all_goals (try simp -implicitDefEqProofs (disch:=first|omega|(simp only [go_sem,seval,-List.reduceReplicate];first|done|omega)) only [go_sem,seval,-List.reduceReplicate]))
  have f0:(r = z408) = False:=eq_false h0
  simp -implicitDefEqProofs (disch:=first|omega|(simp only [go_sem,seval,-List.reduceReplicate,f0,hcl,hct];first|done|omega)) only [go_sem,seval,-List.reduceReplicate,f0,hcl,hct]
  refine loop_mk (α:=Nat) 0 (fun k => k ≤ 8 ∧ chkRse r = fst0 ((r.map fun n => rng n 0 40000).drop (k * 51))) (fun _ => M) (fun k => [(11,.agg cs),(12,.I k)]) (fun k => 8 - k) ⟨by decide,by simp [chkRse]⟩ rfl rfl ?_
  rintro k ⟨hk,hs⟩
  by_cases hlt:k < 8
  case neg =>
    have f1:((k:Int) < 8) = False:=eq_false (by omega)
    simp -implicitDefEqProofs (disch:=first|omega|(simp only [go_sem,seval,-List.reduceReplicate,f1];first|done|omega)) only [go_sem,seval,-List.reduceReplicate,f1]
    (first|refine post_fin ret_ok hM rfl ?_ ?_|refine post_fin0 ret_ok hM rfl ?_ ?_|refine post_fin normal_ok hM rfl ?_ ?_|refine post_fin0 normal_ok hM rfl ?_ ?_)
    · simp -implicitDefEqProofs (disch:=first|omega|(simp only [go_sem,seval,-List.reduceReplicate];first|done|omega)) only [go_sem,seval,-List.reduceReplicate]
      rw [hs,List.drop_of_length_le (by rw [List.length_map,hl];omega)];rfl
    · (simp only [go_sem,seval,-List.reduceReplicate] <;> first|done|omega)
  have f1:((k:Int) < 8) = True:=eq_true (by omega)
  have hix:=hc.idx k hlt
  have hbl:=hc.blen k hlt
  have hbt:=hc.btk k hlt
  have hbo:=hc.bone k
  have hbb:=hc.bvw k
  simp -implicitDefEqProofs (disch:=first|omega|(simp only [go_sem,seval,-List.reduceReplicate,f1,hix,hz5,h51,hbl,hbt,hbo,hbb,putE_agg,List.length_map,h5d,List.append_nil];first|done|omega)) only [go_sem,seval,-List.reduceReplicate,f1,hix,hz5,h51,hbl,hbt,hbo,hbb,putE_agg,List.length_map,h5d,List.append_nil]
  refine loop_mk (α:=Nat) 0 (fun v => v ≤ 51 ∧ chkRse r = fst0 ((r.map fun n => rng n 0 40000).drop (k * 51 + v))) (fun _ => M ++ [.row true 51 0 [.agg (bk k)]]) (fun v => [(11,.agg cs),(12,.I k),(15,.agg (bk k)),(16,.I v)]) (fun v => 51 - v) ⟨by decide,hs⟩ rfl rfl ?_
  rintro v ⟨hv,hs2⟩
  by_cases hvl:v < 51
  · have f2:((v:Int) < 51) = True:=eq_true (by omega)
    obtain ⟨x,hx⟩:∃ x,r[k * 51 + v]? = some x:=⟨_,List.getElem?_eq_getElem (by omega)⟩
    have hbi:=hc.bidx k v x hlt hvl hx
    have hd:=fst0_drop (r.map fun n => rng n 0 40000) (k * 51 + v) (rng x 0 40000) (by rw [List.getElem?_map,hx];rfl)
    simp -implicitDefEqProofs (disch:=first|omega|(simp only [go_sem,seval,-List.reduceReplicate,f2,hbi];first|done|omega)) only [go_sem,seval,-List.reduceReplicate,f2,hbi]
    refine callP_q (q_site_within _ _ _ _) ?_
    by_cases hg:rng x 0 40000 = 0
    · rw [if_pos hg] at hd
      simp -implicitDefEqProofs (disch:=first|omega|(simp only [go_sem,seval,-List.reduceReplicate,hg];first|done|omega)) only [go_sem,seval,-List.reduceReplicate,hg]
      exact again' (v + 1) ⟨by omega,by rw [hs2,hd];rfl⟩ (by omega) rfl rfl
    · rw [if_neg hg] at hd
      simp -implicitDefEqProofs (disch:=first|omega|(simp only [go_sem,seval,-List.reduceReplicate,hg];first|done|omega)) only [go_sem,seval,-List.reduceReplicate,hg]
      (first|refine post_fin ret_ok hM rfl ?_ ?_|refine post_fin0 ret_ok hM rfl ?_ ?_|refine post_fin normal_ok hM rfl ?_ ?_|refine post_fin0 normal_ok hM rfl ?_ ?_)
      · simp -implicitDefEqProofs (disch:=first|omega|(simp only [go_sem,seval,-List.reduceReplicate];first|done|omega)) only [go_sem,seval,-List.reduceReplicate]
        rw [hs2,hd]
      · (simp only [go_sem,seval,-List.reduceReplicate] <;> first|done|omega)
  have f2:((v:Int) < 51) = False:=eq_false (by omega)
  have hv51:v = 51:=by omega
  subst hv51
  have hlo:=hc.low
  have hbw:=hc.blow
  simp -implicitDefEqProofs (disch:=first|omega|(simp only [go_sem,seval,-List.reduceReplicate,f2];first|done|omega)) only [go_sem,seval,-List.reduceReplicate,f2]
  refine Wp_cut_at hM rfl 0 (by simp) (by first|done|(simp only [go_sem,seval,-List.reduceReplicate,hlo,hbw] <;> first|done|(refine ⟨?_,?_⟩ <;> omega)|omega)) (lowL_mk (by first|done|(simp only [go_sem,seval,-List.reduceReplicate,hlo,hbw] <;> first|done|(refine ⟨?_,?_⟩ <;> omega)|omega))) ?_
  simp -implicitDefEqProofs (disch:=first|omega|(simp only [go_sem,seval,-List.reduceReplicate];first|done|omega)) only [go_sem,seval,-List.reduceReplicate]
  exact again' (k + 1) ⟨by omega,by rw [hs2,Nat.succ_mul]⟩ (by omega) rfl rfl
def trnE (r:Rse) (q:Int):Int:=fst0 [chkRse r,rng q 0 3]
theorem q_site_TurnRose (r:Rse) (q:Int) (hl:r.length = 408):Q X 26 [encRs r,.I q] (.tup [encRs (if trnE r q = 0 then trnR r q.toNat 8 else z408),.I (trnE r q)]):=by
  have hC:=q_site_CheckRose (X:=X) r hl
  have hq:=q_site_first (X:=X) [chkRse r,rng q 0 3] (by simp)
  have hz:trnE r q = 0 → chkRse r = 0 ∧ rng q 0 3 = 0:=fst0_two
  have e:trnE r q = fst0 [chkRse r,rng q 0 3]:=rfl
  rw [← e] at hq
  clear e
  generalize trnE r q = e at hq hz ⊢
  have hc:=cells_mk hl
  have e1:encRs r = .agg (r.map .I):=rfl
  rw [e1] at hC ⊢
  clear e1
  have hbk:∀ k:Nat,(fun k => (blk r k).map PV.I) k = (blk r k).map PV.I:=fun _ => rfl
  generalize r.map PV.I = cs at hc hC ⊢
  generalize (fun k => (blk r k).map PV.I) = bk at hc hbk
  intro M
  have hzz:List.replicate 408 (Value.int .i64 0) = z408.map (Value.int .i64):=by unfold z408;rw [List.map_replicate]
  have hz51:(List.replicate 51 (Value.int .i64 0)).length = 51:=List.length_replicate
  generalize hz5:List.replicate 51 (Value.int .i64 0) = z5 at hz51
  have h5d:(List.map PV.s z5).drop 51 = []:=List.drop_of_length_le (by rw [List.length_map,hz51];omega)
  have hcl:=hc.len
  have hct:=hc.tk
  have hvw:=hc.vw
  have hzI:=z408_I
  have hzl:(List.map PV.I z408).length = 408:=by rw [List.length_map];exact List.length_replicate
  have hzv:=fun M => view1_ints M z408
  have hzo:=ones_I z408
  have hzw:=fun m:Nat => encI_lowm (n:=m) z408
  generalize hZ:List.map PV.I z408 = Z at hzI hzl hzv hzo hzw
  (refine ACall_fn (cf:=L5.c26) rfl rfl fun hM hA => ?_;simp only [L5.c26,zO,zF,zT];rw [mk2 _ (by decide)];simp -implicitDefEqProofs (disch:=first|omega|(simp only [go_sem,seval,-List.reduceReplicate,hzI,hcl,hct,hvw,hzl];first|done|omega)) only [go_sem,seval,-List.reduceReplicate,hzI,hcl,hct,hvw,hzl])
  refine callP_q (hC _) ?_
  simp -implicitDefEqProofs (disch:=first|omega|(simp only [go_sem,seval,-List.reduceReplicate];first|done|omega)) only [go_sem,seval,-List.reduceReplicate]
  refine callP_q (q_site_checkTurns q _) ?_
  simp -implicitDefEqProofs (disch:=first|omega|(simp only [go_sem,seval,-List.reduceReplicate];first|done|omega)) only [go_sem,seval,-List.reduceReplicate]
  refine callP_q (hq _) ?_
  by_cases h0:e = 0
  case neg =>
    have e1:encRs z408 = .agg Z:=by rw [← hZ];rfl
    have hzd:Z.drop 408 = []:=List.drop_of_length_le (by omega)
    have hzt:Z.take 408 = Z:=List.take_of_length_le (by omega)
    rw [if_neg h0,e1]
    simp -implicitDefEqProofs (disch:=first|omega|(simp only [go_sem,seval,-List.reduceReplicate,h0,hzI,hzl,putE_agg,hzo,hzd,hzv,List.append_nil,hzt];first|done|omega)) only [go_sem,seval,-List.reduceReplicate,h0,hzI,hzl,putE_agg,hzo,hzd,hzv,List.append_nil,hzt]
    have hzx:∀ (n:Nat) (M:List Blk),List.map (out1 n M) Z = Z:=by rw [← hZ];exact fun n M => out1_ints n M _
    (first|refine post_fin ret_ok hM rfl ?_ ?_|refine post_fin0 ret_ok hM rfl ?_ ?_|refine post_fin normal_ok hM rfl ?_ ?_|refine post_fin0 normal_ok hM rfl ?_ ?_)
    · simp -implicitDefEqProofs (disch:=first|omega|(simp only [go_sem,seval,-List.reduceReplicate,hzt,hzx];first|done|omega)) only [go_sem,seval,-List.reduceReplicate,hzt,hzx]
    · (simp only [go_sem,seval,-List.reduceReplicate,hzw,hzt,hzx] <;> first|done|omega)
  subst h0
  obtain ⟨g1,g2⟩:=hz rfl
  rw [rng_ok] at g2
  obtain ⟨n,rfl⟩:∃ n:Nat,q = n:=⟨q.toNat,by omega⟩
  rw [if_pos rfl,Int.toNat_natCast]
  have ht:=tells_mk hl n
  have e1:encRs (trnR r n 8) = .agg ((fun k => (trnR r n k).map PV.I) 8):=rfl
  have e2:(fun k => (trnR r n k).map PV.I) 0 = Z:=hZ
  have e3:(fun k => (blk r k).map PV.I) = bk:=by funext k;exact (hbk k).symm
  rw [e1]
  rw [e3] at ht
  clear e1 e3
  generalize (fun k => (trnR r n k).map PV.I) = tk at ht e2 ⊢
  have h2n:(2:Int) * n = ((2 * n:Nat):Int):=by omega
  simp -implicitDefEqProofs (disch:=first|omega|(simp only [go_sem,seval,-List.reduceReplicate,hzI,hzl,hct,hcl,hvw];first|done|omega)) only [go_sem,seval,-List.reduceReplicate,hzI,hzl,hct,hcl,hvw]
  refine loop_mk (α:=Nat) 0 (fun k => k ≤ 8) (fun k => M ++ [.row true 408 0 [.agg Z],.row true 408 0 [.agg (tk k)]]) (fun k => [(1,.I n),(4,.op M.length 0 0 0),(7,.op (M.length + 1) 0 0 0),(20,.agg cs),(21,.I k)]) (fun k => 8 - k) (by decide) (by rw [e2]) rfl ?_
  intro k hk
  have hlo:=hc.low
  have hbw:=hc.blow
  have htw:=ht.low
  have htl:=ht.len k hk
  have hto:=ht.one k
  have htv:=ht.vw
  by_cases hlt:k < 8
  case neg =>
    have f1:((k:Int) < 8) = False:=eq_false (by omega)
    have hk8:k = 8:=by omega
    subst hk8
    have htk:(tk 8).take 408 = tk 8:=List.take_of_length_le (by omega)
    have hzd:Z.drop 408 = []:=List.drop_of_length_le (by omega)
    have hto2:=ht.ow 8
    simp -implicitDefEqProofs (disch:=first|omega|(simp only [go_sem,seval,-List.reduceReplicate,f1,htl,hto,htv,htk,putE_agg,hzl,hzd,List.append_nil];first|done|omega)) only [go_sem,seval,-List.reduceReplicate,f1,htl,hto,htv,htk,putE_agg,hzl,hzd,List.append_nil]
    (first|refine post_fin ret_ok hM rfl ?_ ?_|refine post_fin0 ret_ok hM rfl ?_ ?_|refine post_fin normal_ok hM rfl ?_ ?_|refine post_fin0 normal_ok hM rfl ?_ ?_)
    · simp -implicitDefEqProofs (disch:=first|omega|(simp only [go_sem,seval,-List.reduceReplicate,htk,hto2];first|done|omega)) only [go_sem,seval,-List.reduceReplicate,htk,hto2]
    · (simp only [go_sem,seval,-List.reduceReplicate,htw,htk,hto2] <;> first|done|omega)
  have f1:((k:Int) < 8) = True:=eq_true (by omega)
  have hix:=hc.idx k hlt
  have hbl:=hc.blen k hlt
  have hbt:=hc.btk k hlt
  have hbo:=hc.bone k
  have hbb:=hc.bvw k
  have hstp:=ht.stp k hlt
  unfold setRange at hstp
  rw [hbl,List.append_assoc] at hstp
  have h8:(k + 2 * n) % 8 < 8:=Nat.mod_lt _ (by decide)
  have f80:((8:Int) = 0) = False:=by decide
  have hmd:Int.tmod ((k:Int) + 2 * (n:Int)) 8 = (((k + 2 * n) % 8:Nat):Int):=by
    rw [h2n,← Int.natCast_add];rfl
  have h8t:((k + 2 * n) % 8 < 8) = True:=eq_true h8
  have hlen2:((k + 2 * n) % 8 * 51 + 51 ≤ 408) = True:=eq_true (by omega)
  simp -implicitDefEqProofs (disch:=first|omega|(simp only [go_sem,seval,-List.reduceReplicate,f1,hix,hz5,hz51,hbl,hbt,hbo,hbb,putE_agg,List.length_map,h5d,List.append_nil,f80,hmd,h8t,hlen2,hstp];first|done|omega)) only [go_sem,seval,-List.reduceReplicate,f1,hix,hz5,hz51,hbl,hbt,hbo,hbb,putE_agg,List.length_map,h5d,List.append_nil,f80,hmd,h8t,hlen2,hstp]
  have hlo:=hc.low
  refine Wp_cut_at hM rfl 2 (by simp) (by first|done|(simp only [go_sem,seval,-List.reduceReplicate,hlo,hbw,htw,hzw] <;> first|done|(refine ⟨?_,?_⟩ <;> omega)|omega)) (lowL_mk (by first|done|(simp only [go_sem,seval,-List.reduceReplicate,hlo,hbw,htw,hzw] <;> first|done|(refine ⟨?_,?_⟩ <;> omega)|omega))) ?_
  simp -implicitDefEqProofs (disch:=first|omega|(simp only [go_sem,seval,-List.reduceReplicate];first|done|omega)) only [go_sem,seval,-List.reduceReplicate]
  exact again' (k + 1) (by omega) (by omega) rfl rfl
abbrev Yields2 (X:XRel):=Yields2F F X
def serIn (s:Ser):Prop:=s.samples.length ≤ 40000 ∧ s.gaps.length ≤ 1048576 ∧ ∀ x:Spn,x ∈ s.gaps → 0 ≤ x.fr ∧ x.fr < x.to_ ∧ x.to_ ≤ s.samples.length
theorem q_site_recorded (s:Ser):Q X 49 [encSer s] (.fn (.func 75) [] [.fp (encSer s).cells]):=by
  intro M
  (refine ACall_fn (cf:=L5.c49) rfl rfl fun hM hA => ?_;simp only [L5.c49,zO,zF,zT];rw [mk1 _ (by decide)];simp -implicitDefEqProofs (disch:=first|omega|(simp only [go_sem,seval,encSer_eq];first|done|omega)) only [go_sem,seval,encSer_eq])
  (all_goals (first|refine post_fin ret_ok hM rfl ?_ ?_|refine post_fin0 ret_ok hM rfl ?_ ?_|refine post_fin normal_ok hM rfl ?_ ?_|refine post_fin0 normal_ok hM rfl ?_ ?_);all_goals first|(simp only [go_sem,seval,encF_low,encSpn_low] <;> first|done|omega)|skip;all_goals (try simp -implicitDefEqProofs (disch:=first|omega|(simp only [go_sem,seval];first|done|omega)) only [go_sem,seval]))
theorem rec_run (s:Ser) (hs:serIn s) {i:Nat} {N:Nat → List Blk} {m:Nat} (hm:m ≤ (recP s.samples s.gaps).length) (hN:∀ k,k ≤ m → (N k).length = (N 0).length ∧ lowM (N k).length (N k))
    (hy:∀ k x E,k < m → (recP s.samples s.gaps)[k]? = some x → ACall F X (.yl i) [x.1,x.2] (N k ++ E) (.B true) (N (k + 1) ++ E)) {Ne:List Blk}
    (he:(m = (recP s.samples s.gaps).length ∧ Ne = N m) ∨ ∃ x,(recP s.samples s.gaps)[m]? = some x ∧ (Ne.length = (N 0).length ∧ lowM Ne.length Ne) ∧ ∀ E,ACall F X (.yl i) [x.1,x.2] (N m ++ E) (.B false) (Ne ++ E)) :
    ACall F X (.fn 75) (.yl i :: [.fp (encSer s).cells]) (N 0) (.tup []) Ne:=by
  have hmi:=q_site_missing (X:=X) s hs.1 hs.2.1 hs.2.2
  obtain ⟨nm,st,l,g⟩:=s
  simp only at hm hy he hmi
  have hs1:l.length ≤ 40000:=hs.1
  clear hs
  refine ACall_fn (cf:=c75) rfl rfl fun hM hA => ?_
  have hi:i < (N 0).length:=by simp only [lowL,PV.low] at hA;exact hA.1
  simp only [c75,zO,zF,zT]
  rw [mk2 _ (by decide)]
  simp -implicitDefEqProofs (disch:=first|omega|(simp only [go_sem,seval,encSer_cells];first|done|omega)) only [go_sem,seval,encSer_cells]
  refine callP_q (hmi _) ?_
  have hgl:(goneRow l.length g g.length).length = l.length:=by simp [goneRow]
  simp -implicitDefEqProofs (disch:=first|omega|(simp only [go_sem,seval,encSer_cells];first|done|omega)) only [go_sem,seval,encSer_cells]
  have hbase:recK l g 0 = []:=by simp [recK]
  have hall:(recP l g).length = (recK l g l.length).length:=recP_len l g
  have hNl:∀ k,k ≤ m → lowM (N 0).length (N k):=fun k hk => by have:=hN k hk;rw [← this.1];exact this.2
  refine loop_mk (α:=Nat) 0 (fun k => k ≤ l.length ∧ (recK l g k).length ≤ m) (fun k => N (recK l g k).length)
    (fun k => [(0,.yl i),(3,.fs (goneRow l.length g g.length)),(9,.fs (l.map encF)),(10,.I l.length),(11,.I k)]) (fun k => l.length - k) ⟨Nat.zero_le _,by rw [hbase];exact Nat.zero_le _⟩ (by rw [hbase];rfl) rfl ?_
  rintro k ⟨hk,hkm⟩
  have hgw:=goneRow_low (m:=(N 0).length) l.length g g.length
  by_cases hlt:k < l.length
  case neg =>
    have hkk:k = l.length:=by omega
    subst hkk
    have e:Ne = N m:=by
      rcases he with ⟨_,h⟩|⟨x,h,_⟩
      · exact h
      · have:=(List.getElem?_eq_some_iff.1 h).1;omega
    have e2:(recK l g l.length).length = m:=by
      rcases he with ⟨h,_⟩|⟨x,h,_⟩
      · omega
      · have:=(List.getElem?_eq_some_iff.1 h).1;omega
    rw [e2,e]
    have hk0:=hN m (Nat.le_refl _)
    simp -implicitDefEqProofs (disch:=first|omega|(simp only [go_sem,seval,hlt];first|done|omega)) only [go_sem,seval,hlt]
    refine post_fin0 normal_ok hk0.2 hk0.1.symm ?_ ?_
    · simp -implicitDefEqProofs (disch:=first|omega|(simp only [go_sem,seval];first|done|omega)) only [go_sem,seval]
      rfl
    · (simp only [go_sem,seval] <;> first|done|omega)
  obtain ⟨x,hx⟩:∃ x,l[k]? = some x:=⟨_,List.getElem?_eq_getElem hlt⟩
  have hgg:(goneRow l.length g g.length)[k]? = some (.B (gapAt g k)):=by rw [gone_get hlt,List.take_length]
  have hsn:=recK_snoc (g:=g) hx
  have hk0:=hN _ hkm
  by_cases hg:gapAt g k = true
  · rw [hg] at hgg
    rw [if_pos hg,List.append_nil] at hsn
    simp -implicitDefEqProofs (disch:=first|omega|(simp only [go_sem,seval,hlt,hx,hgg,hgl];first|done|omega)) only [go_sem,seval,hlt,hx,hgg,hgl]
    refine Wp_cutZ hk0.2 hk0.1.symm (lowL_mk ?_) ?_
    · have:i < (N (recK l g k).length).length:=by omega
      simp only [go_sem,seval,this,Nat.add_zero,encF_low,goneRow_low]
    · simp -implicitDefEqProofs (disch:=first|omega|(simp only [go_sem,seval];first|done|omega)) only [go_sem,seval]
      exact again' (k + 1) ⟨by omega,by rw [hsn];exact hkm⟩ (by omega) (by rw [hsn]) rfl
  have hg':gapAt g k = false:=by simpa using hg
  rw [hg'] at hgg
  rw [if_neg hg] at hsn
  have hp:=recP_get hx hg'
  have hsl:(recK l g (k + 1)).length = (recK l g k).length + 1:=by rw [hsn,List.length_append];rfl
  by_cases hcm:(recK l g k).length < m
  · have hk1:=hN ((recK l g k).length + 1) (by omega)
    have hy':=hy _ _ [] hcm hp
    rw [List.append_nil,List.append_nil] at hy'
    simp -implicitDefEqProofs (disch:=first|omega|(simp only [go_sem,seval,hlt,hx,hgg,hgl];first|done|omega)) only [go_sem,seval,hlt,hx,hgg,hgl]
    refine callP_l hy' ?_
    simp -implicitDefEqProofs (disch:=first|omega|(simp only [go_sem,seval];first|done|omega)) only [go_sem,seval]
    refine Wp_cutZ hk1.2 hk1.1.symm (lowL_mk ?_) ?_
    · have:i < (N ((recK l g k).length + 1)).length:=by omega
      simp only [go_sem,seval,this,Nat.add_zero,encF_low,goneRow_low]
    · simp -implicitDefEqProofs (disch:=first|omega|(simp only [go_sem,seval];first|done|omega)) only [go_sem,seval]
      exact again' (k + 1) ⟨by omega,by omega⟩ (by omega) (by rw [hsl]) rfl
  have hcm':(recK l g k).length = m:=by omega
  rcases he with ⟨h1,_⟩|⟨y,h1,h2,h3⟩
  · have:=(List.getElem?_eq_some_iff.1 hp).1;omega
  rw [hcm'] at hp
  rw [hp] at h1
  cases h1
  have h3':=h3 []
  rw [List.append_nil,List.append_nil] at h3'
  rw [hcm']
  simp -implicitDefEqProofs (disch:=first|omega|(simp only [go_sem,seval,hlt,hx,hgg,hgl];first|done|omega)) only [go_sem,seval,hlt,hx,hgg,hgl]
  refine callP_l h3' ?_
  simp -implicitDefEqProofs (disch:=first|omega|(simp only [go_sem,seval];first|done|omega)) only [go_sem,seval]
  refine post_fin0 ret_ok h2.2 h2.1.symm ?_ ?_
  · simp -implicitDefEqProofs (disch:=first|omega|(simp only [go_sem,seval];first|done|omega)) only [go_sem,seval]
    rfl
  · (simp only [go_sem,seval] <;> first|done|omega)
theorem y_recorded (s:Ser) (hs:serIn s):Yields2 X 75 [.fp (encSer s).cells] (recP s.samples s.gaps):=by
  intro i N m hm hN hy
  exact ⟨fun h => rec_run s hs hm hN hy (.inl ⟨h,rfl⟩),fun x N' hx hN' hf => rec_run s hs hm hN hy (.inr ⟨x,hx,hN',hf⟩)⟩
theorem serIn_of {s:Ser} (h:chkSer s = 0):serIn s ∧ (∀ x ∈ s.samples,smpE x = 0):=by
  obtain ⟨nm,st,l,g⟩:=s
  unfold chkSer at h
  simp only at h
  split at h
  · cases h
  · split at h
    · cases h
    · split at h
      · cases h
      · rename_i h3
        split at h
        · rename_i h4;exact absurd h h4
        · rename_i h4
          split at h
          · rename_i h5;exact absurd h h5
          · rename_i h5
            split at h
            · cases h
            · rename_i h6
              have h5:chkSpns g = 0:=Decidable.of_not_not h5
              have h6:chkLast l g = 0:=Decidable.of_not_not h6
              have h4:fst0 (l.map smpE) = 0:=Decidable.of_not_not h4
              refine ⟨⟨by simp only;omega,?_,gaps_in h5 h6⟩,?_⟩
              · have:=(chkSpns_in h5).2;simp only;omega
              · intro x hx
                exact fst0_in0 h4 _ (List.mem_map.2 ⟨x,hx,rfl⟩)
theorem rec_mem {l:List Nat} {g:List Spn} {p:Nat × Nat} (h:p ∈ recOf l g):p.2 ∈ l ∧ p.1 < l.length:=by
  unfold recOf recK at h
  obtain ⟨q,hq,rfl⟩:=List.mem_map.1 h
  have hq:=(List.mem_filter.1 hq).1
  rw [List.take_length] at hq
  obtain ⟨i,hi,h2⟩:=List.mem_iff_getElem.1 hq
  rw [List.getElem_zipIdx] at h2
  rw [← h2]
  simp only [Nat.zero_add]
  rw [List.length_zipIdx] at hi
  exact ⟨List.getElem_mem _,hi⟩
def sumE (s:Ser):Int:=if chkSer s = 0 then (if (sttTo (recOf s.samples s.gaps)).count = 0 then 12 else 0) else chkSer s
def sumOf (s:Ser):Stt:=if chkSer s = 0 then sttTo (recOf s.samples s.gaps) else st0
def spellE (s:Ser) (lv:Nat) (n:Int):Int:=fst0 [chkSer s,smpE lv,rng n 1 40000]
def spellL (s:Ser) (lv:Nat) (n:Int):List Spn:=longK n (spTo lv (recOf s.samples s.gaps))
def spellR (s:Ser) (lv:Nat) (n:Int):List Spn × Int :=
  if spellE s lv n = 0 then (if 1024 < (spellL s lv n).length then ([],5) else (spellL s lv n,0)) else ([],spellE s lv n)
theorem q_site_Spells (s:Ser) (lv:Nat) (n:Int) (hl:s.samples.length ≤ 1048576) (hgl:s.gaps.length ≤ 1048576):Q X 14 [encSer s,encF lv,.I n] (.tup [.fs ((spellR s lv n).1.map encSpn),.I (spellR s lv n).2]):=by
  intro M
  have e:=encSer_eq s
  (refine ACall_fn (cf:=L5.c14) rfl rfl fun hM hA => ?_;simp only [L5.c14,zO,zF,zT];rw [mk3 _ (by decide)];simp -implicitDefEqProofs (disch:=first|omega|(simp only [go_sem,seval,e];first|done|omega)) only [go_sem,seval,e])
  refine callP_q (q_site_CheckSeries s hl hgl _) ?_
  simp -implicitDefEqProofs (disch:=first|omega|(simp only [go_sem,seval];first|done|omega)) only [go_sem,seval]
  refine callP_q (q_site_CheckSample lv _) ?_
  simp -implicitDefEqProofs (disch:=first|omega|(simp only [go_sem,seval];first|done|omega)) only [go_sem,seval]
  refine callP_q (q_site_within _ _ _ _) ?_
  simp -implicitDefEqProofs (disch:=first|omega|(simp only [go_sem,seval];first|done|omega)) only [go_sem,seval]
  have hq:=q_site_first (X:=X) [chkSer s,smpE lv,rng n 1 40000] (by simp) M
  have e1:spellE s lv n = fst0 [chkSer s,smpE lv,rng n 1 40000]:=rfl
  rw [← e1] at hq
  refine callP_q hq ?_
  unfold spellR
  by_cases h0:spellE s lv n = 0
  case neg =>
    rw [if_neg h0]
    generalize spellE s lv n = ee at h0
    simp -implicitDefEqProofs (disch:=first|omega|(simp only [go_sem,seval,h0];first|done|omega)) only [go_sem,seval,h0]
    (all_goals (first|refine post_fin ret_ok hM rfl ?_ ?_|refine post_fin0 ret_ok hM rfl ?_ ?_|refine post_fin normal_ok hM rfl ?_ ?_|refine post_fin0 normal_ok hM rfl ?_ ?_);all_goals first|(simp only [go_sem,seval] <;> first|done|omega)|skip;all_goals (try simp -implicitDefEqProofs (disch:=first|omega|(simp only [go_sem,seval];first|done|omega)) only [go_sem,seval]))
  rw [if_pos h0,h0]
  rw [e1] at h0
  have g0:=fst0_in0 h0
  have g1:=g0 (chkSer s) (by simp)
  have g2:=g0 (smpE lv) (by simp)
  have g3:=g0 (rng n 1 40000) (by simp)
  obtain ⟨hin,hsm⟩:=serIn_of g1
  rw [rng_ok] at g3
  simp -implicitDefEqProofs (disch:=first|omega|(simp only [go_sem,seval,e];first|done|omega)) only [go_sem,seval,e]
  refine callP_q (q_site_recorded s _) ?_
  have hrec:∀ p ∈ recOf s.samples s.gaps,smpE p.2 = 0:=fun p hp => hsm _ (rec_mem hp).1
  have hrl:(recOf s.samples s.gaps).length ≤ 40000:=Nat.le_trans (rec_len _ _ _) hin.1
  have hidx:∀ p ∈ recOf s.samples s.gaps,p.1 < 40000:=fun p hp => Nat.lt_of_lt_of_le (rec_mem hp).2 hin.1
  have hlen:=recP_len s.samples s.gaps
  have hy:=y_recorded (X:=X) s hin
  have hsn:=fun (k:Nat) (p:Nat × Nat) (hp:(recOf s.samples s.gaps)[k]? = some p) => spTo_snoc (lv:=lv) hp
  have hspl:=fun k:Nat => spTo_len lv ((recOf s.samples s.gaps).take k)
  simp -implicitDefEqProofs (disch:=first|omega|(simp only [go_sem,seval];first|done|omega)) only [go_sem,seval]
  refine range_pairs hy (fun k => [.row true 1 0 [.os (M.length + 2) (spTo lv ((recOf s.samples s.gaps).take k)).length 0 (spTo lv ((recOf s.samples s.gaps).take k)).length],.row true 2 0 [],.row true 2 (spTo lv ((recOf s.samples s.gaps).take k)).length ((spTo lv ((recOf s.samples s.gaps).take k)).map encSpn)]) (recP s.samples s.gaps).length (Nat.le_refl _) hM (by simp -implicitDefEqProofs (disch:=first|omega|(simp only [go_sem,seval];first|done|omega)) only [go_sem,seval]) (fun k => rfl) ?_ ?_ ?_ ?_
  · intro k _
    simp only [go_sem,seval,encSpn_low]
    try simp
  · refine (?_:lowL (M.length + (0 + 1 + 1 + 1)) _)
    simp only [go_sem,seval,encSer_eq,encF_low,encSpn_low]
    try simp
  · intro k x E L LB hk hx hE
    obtain ⟨p,hp,rfl⟩:∃ p,(recOf s.samples s.gaps)[k]? = some p ∧ (PV.I p.1,encF p.2) = x:=by
      unfold recP at hx;rw [List.getElem?_map] at hx;exact Option.map_eq_some_iff.1 hx
    have hk':k < (recOf s.samples s.gaps).length:=by omega
    have hxs:=hrec p (List.mem_of_getElem? hp)
    have hxi:=hidx p (List.mem_of_getElem? hp)
    have hss:=hsn k p hp
    have hol:=hspl k
    have htl:((recOf s.samples s.gaps).take k).length = k:=by rw [List.length_take];omega
    simp only [hss]
    generalize spTo lv ((recOf s.samples s.gaps).take k) = o at hol ⊢
    obtain ⟨j,y⟩:=p
    simp only at hxs hxi ⊢
    clear hss hx hsn
    have hgt:=s_gtr_smp hxs g2
    simp -implicitDefEqProofs (disch:=first|omega|(simp only [go_sem,seval,encSpn_eq];first|done|omega)) only [go_sem,seval,encSpn_eq]
    refine roundB (by rw [getMj];rfl) ?_
    by_cases hab:aboveB y lv = true
    · rw [splStep_above hab]
      rw [hab] at hgt
      simp -implicitDefEqProofs (disch:=first|omega|(simp only [go_sem,seval,hgt,encSpn_eq];first|done|omega)) only [go_sem,seval,hgt,encSpn_eq]
      exact roundX [] (by simp)
    have hab':aboveB y lv = false:=by simpa using hab
    rw [hab'] at hgt
    simp -implicitDefEqProofs (disch:=first|omega|(simp only [go_sem,seval,hgt,encSpn_eq];first|done|omega)) only [go_sem,seval,hgt,encSpn_eq]
    have hol1:o.length ≤ 40000:=by omega
    clear hspl hy hidx hrec hE
    rcases (by omega:o.length = 0 ∨ 1 ≤ o.length) with h0|h0
    · have ho:o = []:=List.eq_nil_of_length_eq_zero h0
      subst ho
      rw [splStep_nil hab']
      simp -implicitDefEqProofs (disch:=first|omega|(simp only [go_sem,seval,List.length_nil,Int.lt_irrefl];first|done|omega)) only [go_sem,seval,List.length_nil,Int.lt_irrefl]
      refine roundX [] ?_
      simp [encSpn]
    · have f1:((0:Int) < o.length) = True:=eq_true (by omega)
      obtain ⟨z,g1⟩:∃ z,o[o.length - 1]? = some z:=⟨_,List.getElem?_eq_getElem (by omega)⟩
      have e1:(o.length:Int) - 1 = ((o.length - 1:Nat):Int):=by omega
      have l1:o.length - 1 < o.length:=by omega
      have eset:(o.map encSpn).set (o.length - 1) (.agg [.I z.fr,.I ((j:Int) + 1)]) = (o.set (o.length - 1) ⟨z.fr,(j:Int) + 1⟩).map encSpn:=by rw [List.map_set];rfl
      by_cases hc:z.to_ = j
      · have hst:=splStep_ext hab' g1 hc
        rw [hst]
        simp -implicitDefEqProofs (disch:=first|omega|(simp only [go_sem,seval,f1,e1,g1,l1,hc,encSpn_cells,encSpn_eq,eset];first|done|omega)) only [go_sem,seval,f1,e1,g1,l1,hc,encSpn_cells,encSpn_eq,eset]
        refine roundX [] ?_
        simp
      · have hst:=splStep_new hab' g1 hc
        rw [hst]
        simp -implicitDefEqProofs (disch:=first|omega|(simp only [go_sem,seval,f1,e1,g1,l1,hc,encSpn_cells,encSpn_eq,eset];first|done|omega)) only [go_sem,seval,f1,e1,g1,l1,hc,encSpn_cells,encSpn_eq,eset]
        refine roundX [] ?_
        simp [encSpn]
  · refine .inl ⟨rfl,?_⟩
    have hall:(recOf s.samples s.gaps).take (recP s.samples s.gaps).length = recOf s.samples s.gaps:=List.take_of_length_le (by omega)
    rw [hall]
    have hL:spellL s lv n = longK n (spTo lv (recOf s.samples s.gaps)):=rfl
    rw [hL]
    have hin2:spIn 40000 (spTo lv (recOf s.samples s.gaps)):=spTo_in hidx
    have hsl:=spTo_len lv (recOf s.samples s.gaps)
    generalize spTo lv (recOf s.samples s.gaps) = all at hin2 hsl ⊢
    have hlk:=fun k:Nat => longK_len n (all.take k)
    simp -implicitDefEqProofs (disch:=first|omega|(simp only [go_sem,seval];first|done|omega)) only [go_sem,seval]
    refine loop_mk (α:=Nat) 0 (fun k => k ≤ all.length) (fun k => M ++ [.row true 1 0 [.os (M.length + 2) all.length 0 all.length],.row true 2 (longK n (all.take k)).length ((longK n (all.take k)).map encSpn),.row true 2 all.length (all.map encSpn)])
      (fun k => [(2,.I n),(10,.os (M.length + 1) (longK n (all.take k)).length 0 (longK n (all.take k)).length),(62,.os (M.length + 2) all.length 0 all.length),(63,.I all.length),(64,.I k)]) (fun k => all.length - k) (Nat.zero_le _) rfl rfl ?_
    intro k hk
    have hkk:=hlk k
    have htl:(all.take k).length = k:=by rw [List.length_take];omega
    by_cases hlt:k < all.length
    · obtain ⟨z,hz⟩:∃ z,all[k]? = some z:=⟨_,List.getElem?_eq_getElem hlt⟩
      have hzi:=hin2 z (List.mem_of_getElem? hz)
      have hsn2:=longK_snoc (least:=n) hz
      have again:∀ o:List Spn,longK n (all.take (k + 1)) = o → Again 84 (fun k => k ≤ all.length) (fun k => M ++ [.row true 1 0 [.os (M.length + 2) all.length 0 all.length],.row true 2 (longK n (all.take k)).length ((longK n (all.take k)).map encSpn),.row true 2 all.length (all.map encSpn)])
        (fun k => [(2,.I n),(10,.os (M.length + 1) (longK n (all.take k)).length 0 (longK n (all.take k)).length),(62,.os (M.length + 2) all.length 0 all.length),(63,.I all.length),(64,.I k)]) (fun k => all.length - k) k
        (M ++ [.row true 1 0 [.os (M.length + 2) all.length 0 all.length],.row true 2 o.length (o.map encSpn),.row true 2 all.length (all.map encSpn)]) (mk 84 [(2,.I n),(10,.os (M.length + 1) o.length 0 o.length),(62,.os (M.length + 2) all.length 0 all.length),(63,.I all.length),(64,.I (k + 1))]):=by
        rintro o rfl
        exact again' (k + 1) (by omega) (by omega) rfl rfl
      rw [hsn2] at again
      generalize longK n (all.take k) = o at hkk again ⊢
      simp -implicitDefEqProofs (disch:=first|omega|(simp only [go_sem,seval,hlt,hz,encSpn_cells,encSpn_eq];first|done|omega)) only [go_sem,seval,hlt,hz,encSpn_cells,encSpn_eq]
      by_cases hc:n ≤ z.to_ - z.fr
      · rw [if_pos hc] at again
        simp -implicitDefEqProofs (disch:=first|omega|(simp only [go_sem,seval,hc,encSpn_cells,encSpn_eq];first|done|omega)) only [go_sem,seval,hc,encSpn_cells,encSpn_eq]
        refine Wp_cut_at hM rfl 3 (by simp) (by first|done|(simp only [go_sem,seval,encSpn_low] <;> first|done|(refine ⟨?_,?_⟩ <;> omega)|omega)) (lowL_mk (by first|done|(simp only [go_sem,seval,encSpn_low] <;> first|done|(refine ⟨?_,?_⟩ <;> omega)|omega))) ?_
        simp -implicitDefEqProofs (disch:=first|omega|(simp only [go_sem,seval];first|done|omega)) only [go_sem,seval]
        have:=again _ rfl
        simpa [encSpn] using this
      · rw [if_neg hc,List.append_nil] at again
        simp -implicitDefEqProofs (disch:=first|omega|(simp only [go_sem,seval,hc,encSpn_cells,encSpn_eq];first|done|omega)) only [go_sem,seval,hc,encSpn_cells,encSpn_eq]
        refine Wp_cut_at hM rfl 3 (by simp) (by first|done|(simp only [go_sem,seval,encSpn_low] <;> first|done|(refine ⟨?_,?_⟩ <;> omega)|omega)) (lowL_mk (by first|done|(simp only [go_sem,seval,encSpn_low] <;> first|done|(refine ⟨?_,?_⟩ <;> omega)|omega))) ?_
        simp -implicitDefEqProofs (disch:=first|omega|(simp only [go_sem,seval];first|done|omega)) only [go_sem,seval]
        exact again _ rfl
    have hkk2:k = all.length:=by omega
    subst hkk2
    rw [List.take_length]
    have hll:=longK_len n all
    generalize longK n all = out at hll
    by_cases hbig:1024 < out.length
    · have f1:((1024:Int) < out.length) = True:=eq_true (by omega)
      rw [if_pos hbig]
      simp -implicitDefEqProofs (disch:=first|omega|(simp only [go_sem,seval,hlt,f1];first|done|omega)) only [go_sem,seval,hlt,f1]
      (all_goals (first|refine post_fin ret_ok hM rfl ?_ ?_|refine post_fin0 ret_ok hM rfl ?_ ?_|refine post_fin normal_ok hM rfl ?_ ?_|refine post_fin0 normal_ok hM rfl ?_ ?_);all_goals first|(simp only [go_sem,seval] <;> first|done|omega)|skip;all_goals (try simp -implicitDefEqProofs (disch:=first|omega|(simp only [go_sem,seval];first|done|omega)) only [go_sem,seval]))
    · have f1:((1024:Int) < out.length) = False:=eq_false (by omega)
      rw [if_neg hbig]
      simp -implicitDefEqProofs (disch:=first|omega|(simp only [go_sem,seval,hlt,f1];first|done|omega)) only [go_sem,seval,hlt,f1]
      (all_goals (first|refine post_fin ret_ok hM rfl ?_ ?_|refine post_fin0 ret_ok hM rfl ?_ ?_|refine post_fin normal_ok hM rfl ?_ ?_|refine post_fin0 normal_ok hM rfl ?_ ?_);all_goals first|(simp only [go_sem,seval,encSpn_low] <;> first|done|omega)|skip;all_goals (try simp -implicitDefEqProofs (disch:=first|omega|(simp only [go_sem,seval];first|done|omega)) only [go_sem,seval]))
def ItoaX (X:XRel):Prop:=∀ (n:Int) (M:List Blk),-9223372036854775808 ≤ n → n ≤ 9223372036854775807 → X 60 [.I n] M (.s (.string (itoaB n))) M
def encStr (s:ByteArray):PV:=.s (.string s)
def JoinX (X:XRel):Prop:=∀ (l:List ByteArray) (M:List Blk),l.length ≤ 64 → (∀ s ∈ l,s.size ≤ 200) → X 61 [.fs (l.map encStr),.s (.string ⟨#[]⟩)] M (.s (.string (joinB l))) M
theorem itoaB_size (n:Int) (h0:-9223372036854775808 ≤ n) (h1:n ≤ 9223372036854775807):(itoaB n).size ≤ 21:=by
  have:=Lib.itoa_length_le n h0 h1
  show (Lib.itoa n).toArray.size ≤ 21
  simpa using this
theorem nameOk_size {s:ByteArray} (h:nameOk s = true):s.size ≤ 24:=by
  unfold nameOk at h
  simp only [Bool.and_eq_true,decide_eq_true_eq] at h
  exact h.1.2
theorem sz_turbine:(⟨#[116,117,114,98,105,110,101,32]⟩:ByteArray).size = 8:=rfl
theorem sz_sp:(⟨#[32]⟩:ByteArray).size = 1:=rfl
theorem sz_nl:(⟨#[10]⟩:ByteArray).size = 1:=rfl
theorem sz_site:(⟨#[115,105,116,101,32]⟩:ByteArray).size = 5:=rfl
theorem tbTxt_size {t:Tb} (h:nameOk t.name = true) (hp:ptIn t.at_):(tbTxt t).size ≤ 200:=by
  have h1:=nameOk_size h
  unfold ptIn at hp
  have hp1:-1000 ≤ t.x ∧ t.x ≤ 1000 ∧ -1000 ≤ t.y ∧ t.y ≤ 1000:=hp
  have h2:=itoaB_size t.x (by omega) (by omega)
  have h3:=itoaB_size t.y (by omega) (by omega)
  unfold tbTxt
  simp only [ByteArray.size_append,sz_turbine,sz_sp,sz_nl]
  omega
theorem q_site_Print_1 (hI:ItoaX X) (t:Tb) (h:nameOk t.name = true) (hp:ptIn t.at_):Q X 59 [encTb t] (.s (.string (tbTxt t))):=by
  intro M
  have h1:=nameOk_size h
  unfold ptIn at hp
  have hp1:-1000 ≤ t.x ∧ t.x ≤ 1000 ∧ -1000 ≤ t.y ∧ t.y ≤ 1000:=hp
  have h2:=itoaB_size t.x (by omega) (by omega)
  have h3:=itoaB_size t.y (by omega) (by omega)
  have e:tbTxt t = (((((⟨#[116,117,114,98,105,110,101,32]⟩:ByteArray) ++ t.name) ++ ⟨#[32]⟩) ++ itoaB t.x) ++ ⟨#[32]⟩) ++ itoaB t.y ++ ⟨#[10]⟩:=rfl
  rw [e]
  (refine ACall_fn (cf:=L5.c59) rfl rfl fun hM hA => ?_;simp only [L5.c59,zO,zF,zT];rw [mk1 _ (by decide)];simp -implicitDefEqProofs (disch:=first|omega|(simp only [go_sem,seval,encTb_eq,bin_addS,ByteArray.size_append,sz_turbine,sz_sp,sz_nl];first|done|omega)) only [go_sem,seval,encTb_eq,bin_addS,ByteArray.size_append,sz_turbine,sz_sp,sz_nl])
  refine callP_q (ACall_ext (hI t.x _ (by omega) (by omega))) ?_
  simp -implicitDefEqProofs (disch:=first|omega|(simp only [go_sem,seval,encTb_eq,bin_addS,ByteArray.size_append,sz_turbine,sz_sp,sz_nl];first|done|omega)) only [go_sem,seval,encTb_eq,bin_addS,ByteArray.size_append,sz_turbine,sz_sp,sz_nl]
  refine callP_q (ACall_ext (hI t.y _ (by omega) (by omega))) ?_
  simp -implicitDefEqProofs (disch:=first|omega|(simp only [go_sem,seval,bin_addS,ByteArray.size_append,sz_turbine,sz_sp,sz_nl];first|done|omega)) only [go_sem,seval,bin_addS,ByteArray.size_append,sz_turbine,sz_sp,sz_nl]
  (all_goals (first|refine post_fin ret_ok hM rfl ?_ ?_|refine post_fin0 ret_ok hM rfl ?_ ?_|refine post_fin normal_ok hM rfl ?_ ?_|refine post_fin0 normal_ok hM rfl ?_ ?_);all_goals first|(simp only [go_sem,seval] <;> first|done|omega)|skip;all_goals (try simp -implicitDefEqProofs (disch:=first|omega|(simp only [go_sem,seval];first|done|omega)) only [go_sem,seval]))
theorem q_site_mapped_str {g:FuncId} {f:Tb → ByteArray} (l:List Tb) (hl:l.length ≤ 1000000) (hg:∀ x ∈ l,Q X g [encTb x] (.s (.string (f x)))):Q X 58 [.fs (l.map encTb),.fn (.func g) [] []] (.fs ((l.map f).map encStr)):=by
  intro M
  (refine ACall_fn (cf:=L5.c58) rfl rfl fun hM hA => ?_;simp only [L5.c58,zO,zF,zT];rw [mk2 _ (by decide)];simp -implicitDefEqProofs (disch:=first|omega|(simp only [go_sem,seval];first|done|omega)) only [go_sem,seval])
  refine loop_mk (α:=Nat) 0 (fun k => k ≤ l.length) (fun k => M ++ [.row true 1 k (((l.take k).map f).map encStr)])
    (fun k => [(1,.fn (.func g) [] []),(5,.os M.length k 0 k),(8,.fs (l.map encTb)),(9,.I l.length),(10,.I k)]) (fun k => l.length - k) (Nat.zero_le _) rfl rfl ?_
  have hlw:∀ (n:Nat) (L:List Tb),lowL n (List.map (fun x => encStr (f x)) L) = True:=fun n L => eq_true (lowL_map _ _ fun r => by simp [encStr,PV.low])
  have hls:∀ (n:Nat) (x:Tb),(encStr (f x)).low n = True:=fun n x => eq_true (by simp [encStr,PV.low])
  intro k hk
  by_cases hlt:k < l.length
  · obtain ⟨x,h1⟩:∃ x,l[k]? = some x:=⟨_,List.getElem?_eq_getElem hlt⟩
    have h2:k = ((l.take k).map f).length:=by simp;omega
    have h2':(l.take k).length = k:=by simp;omega
    simp -implicitDefEqProofs (disch:=first|omega|(simp only [go_sem,seval,hlt,h1,encTb_cells];first|done|omega)) only [go_sem,seval,hlt,h1,encTb_cells]
    refine callP_l (hg x (List.mem_of_getElem? h1) _) ?_
    simp -implicitDefEqProofs (disch:=first|omega|(simp only [go_sem,seval,encTb_cells];first|done|omega)) only [go_sem,seval,encTb_cells]
    refine Wp_cut_at hM rfl 1 (by simp) (by first|done|(simp only [go_sem,seval,hlw,hls,encTb_low] <;> first|done|(refine ⟨?_,?_⟩ <;> omega)|omega)) (lowL_mk (by first|done|(simp only [go_sem,seval,hlw,hls,encTb_low] <;> first|done|(refine ⟨?_,?_⟩ <;> omega)|omega))) ?_
    simp -implicitDefEqProofs (disch:=first|omega|(simp only [go_sem,seval];first|done|omega)) only [go_sem,seval]
    refine again' (k + 1) (by omega) (by omega) ?_ rfl
    have h3:=take_snoc (f:=fun x => encStr (f x)) h1
    rw [h3];rfl
  · simp -implicitDefEqProofs (disch:=first|omega|(simp only [go_sem,seval,hlt];first|done|omega)) only [go_sem,seval,hlt]
    (first|refine post_fin ret_ok hM rfl ?_ ?_|refine post_fin0 ret_ok hM rfl ?_ ?_|refine post_fin normal_ok hM rfl ?_ ?_|refine post_fin0 normal_ok hM rfl ?_ ?_)
    · simp -implicitDefEqProofs (disch:=first|omega|(simp only [go_sem,seval];first|done|omega)) only [go_sem,seval]
      rw [List.take_of_length_le (by omega)]
    · (simp only [go_sem,seval,hlw] <;> first|done|omega)
theorem q_site_Print (hI:ItoaX X) (hJ:JoinX X) (s:Ste) (hl:s.tbs.length ≤ 1048576):Q X 23 [encSte s] (.tup [.s (.string (if chkSte s = 0 then steTxt s else ⟨#[]⟩)),.I (chkSte s)]):=by
  intro M
  have es:=encSte_eq s
  (refine ACall_fn (cf:=L5.c23) rfl rfl fun hM hA => ?_;simp only [L5.c23,zO,zF,zT];rw [mk1 _ (by decide)];simp -implicitDefEqProofs (disch:=first|omega|(simp only [go_sem,seval,es];first|done|omega)) only [go_sem,seval,es])
  refine callP_q (q_site_CheckSite s hl _) ?_
  by_cases h0:chkSte s = 0
  case neg =>
    rw [if_neg h0]
    generalize chkSte s = ee at h0
    simp -implicitDefEqProofs (disch:=first|omega|(simp only [go_sem,seval,h0];first|done|omega)) only [go_sem,seval,h0]
    (all_goals (first|refine post_fin ret_ok hM rfl ?_ ?_|refine post_fin0 ret_ok hM rfl ?_ ?_|refine post_fin normal_ok hM rfl ?_ ?_|refine post_fin0 normal_ok hM rfl ?_ ?_);all_goals first|(simp only [go_sem,seval] <;> first|done|omega)|skip;all_goals (try simp -implicitDefEqProofs (disch:=first|omega|(simp only [go_sem,seval];first|done|omega)) only [go_sem,seval]))
  rw [if_pos h0,h0]
  obtain ⟨hn,hle,hln,hin⟩:=chkSte_in h0
  have hpt:=all_pt h0
  have hnm:∀ t ∈ s.tbs,nameOk t.name = true:=by
    intro t ht
    obtain ⟨i,hi,h2⟩:=List.mem_iff_getElem.1 ht
    exact (tbE_parts (hin i t hi (List.getElem?_eq_some_iff.2 ⟨hi,h2⟩))).1
  simp -implicitDefEqProofs (disch:=first|omega|(simp only [go_sem,seval,es];first|done|omega)) only [go_sem,seval,es]
  refine callP_q (q_site_mapped_str s.tbs (by omega) (fun x hx => q_site_Print_1 hI x (hnm x hx) (hpt x hx)) _) ?_
  have h1:=nameOk_size hn
  have h2:=itoaB_size s.least (by omega) (by omega)
  simp -implicitDefEqProofs (disch:=first|omega|(simp only [go_sem,seval,bin_addS,ByteArray.size_append,sz_site,sz_sp,sz_nl];first|done|omega)) only [go_sem,seval,bin_addS,ByteArray.size_append,sz_site,sz_sp,sz_nl]
  refine callP_q (ACall_ext (hI s.least _ (by omega) (by omega))) ?_
  simp -implicitDefEqProofs (disch:=first|omega|(simp only [go_sem,seval,bin_addS,ByteArray.size_append,sz_site,sz_sp,sz_nl];first|done|omega)) only [go_sem,seval,bin_addS,ByteArray.size_append,sz_site,sz_sp,sz_nl]
  have hj:=hJ (s.tbs.map tbTxt) M (by rw [List.length_map];exact hln) (by
    intro u hu
    obtain ⟨t,ht,rfl⟩:=List.mem_map.1 hu
    exact tbTxt_size (hnm t ht) (hpt t ht))
  rw [List.map_map] at hj
  have hjs:(joinB (s.tbs.map tbTxt)).size ≤ 100000:=joinB_size (by rw [List.length_map];exact hln) (by
    intro u hu
    obtain ⟨t,ht,rfl⟩:=List.mem_map.1 hu
    exact tbTxt_size (hnm t ht) (hpt t ht))
  refine callP_q (ACall_ext hj) ?_
  have e:steTxt s = ((((⟨#[115,105,116,101,32]⟩:ByteArray) ++ s.name) ++ ⟨#[32]⟩) ++ itoaB s.least ++ ⟨#[10]⟩) ++ joinB (s.tbs.map tbTxt):=rfl
  rw [e]
  simp -implicitDefEqProofs (disch:=first|omega|(simp only [go_sem,seval,bin_addS,ByteArray.size_append,sz_site,sz_sp,sz_nl];first|done|omega)) only [go_sem,seval,bin_addS,ByteArray.size_append,sz_site,sz_sp,sz_nl]
  (all_goals (first|refine post_fin ret_ok hM rfl ?_ ?_|refine post_fin0 ret_ok hM rfl ?_ ?_|refine post_fin normal_ok hM rfl ?_ ?_|refine post_fin0 normal_ok hM rfl ?_ ?_);all_goals first|(simp only [go_sem,seval] <;> first|done|omega)|skip;all_goals (try simp -implicitDefEqProofs (disch:=first|omega|(simp only [go_sem,seval];first|done|omega)) only [go_sem,seval]))
end
end Go.Nac.L5
