/- Strings: bytes and runes; calls of what is not of the program. -/
import Derived.Test.YtclanmkmbjinaaaGreatDoorW04
set_option linter.unusedVariables false
namespace Go.Nac
theorem toList_loop_ne (s:ByteArray):∀ (n i:Nat) (r:List UInt8),s.size - i ≤ n → r ≠ [] → ByteArray.toList.loop s i r ≠ []:=by
  intro n
  induction n with
  | zero =>
    intro i r h hr
    rw [ByteArray.toList.loop,if_neg (by omega)];simpa using hr
  | succ n ih =>
    intro i r h hr
    rw [ByteArray.toList.loop]
    split
    · exact ih _ _ (by omega) (by simp)
    · simpa using hr
theorem toList_ne {s:ByteArray} (h:s.size ≠ 0):s.toList ≠ []:=by
  unfold ByteArray.toList
  rw [ByteArray.toList.loop,if_pos (by omega)]
  exact toList_loop_ne s _ _ _ (Nat.le_refl _) (by simp)
theorem toList_nil {s:ByteArray} (h:s.size = 0):s.toList = []:=by
  unfold ByteArray.toList
  rw [ByteArray.toList.loop,if_neg (by omega)];rfl
theorem bin_neq_empty {s:ByteArray}:bin .neq (.s (.string s)) (.s (.string ⟨#[]⟩)) = some (.B (decide (s.size ≠ 0))):=by
  have e:(⟨#[]⟩:ByteArray).toList = []:=toList_nil rfl
  simp only [bin,binStr,Option.map_some,e]
  by_cases h:s.size = 0
  · rw [toList_nil h];simp [h]
  · have:=toList_ne h
    cases hs:s.toList with
    | nil => exact absurd hs this
    | cons a l => simp [h]
theorem get_bang {s:ByteArray} {i:Nat} {u:UInt8} (h:s[i]? = some u):s.get! i = u:=by
  have hi:i < s.size:=by
    rcases Nat.lt_or_ge i s.size with h1|h1
    · exact h1
    · rw [getElem?_neg s i (by omega)] at h;cases h
  rw [getElem?_pos s i hi] at h
  cases h
  cases s with
  | mk bs => exact getElem!_pos bs i hi
theorem get_some {s:ByteArray} {i:Nat} (h:i < s.size):∃ u,s[i]? = some u:=⟨_,getElem?_pos s i h⟩
theorem chAt_some {s:ByteArray} {i:Nat} {u:UInt8} (h:s[i]? = some u):chAt s i = u.toNat:=by unfold chAt;rw [h];rfl
theorem dec_lo {s:ByteArray} {i:Nat} {u:UInt8} (h:s[i]? = some u) (hu:u.toNat < 128):Utf8.decode s i = (u.toNat,1):=by
  unfold Utf8.decode
  simp only [Nat.add_zero,get_bang h]
  rw [if_pos hu]
theorem dec_hi {s:ByteArray} {i:Nat} {u:UInt8} (h:s[i]? = some u) (hu:¬ u.toNat < 128):128 ≤ (Utf8.decode s i).1:=by
  unfold Utf8.decode
  simp only [Nat.add_zero,get_bang h]
  rw [if_neg hu]
  have e:Utf8.runeError = 65533:=rfl
  split
  · split
    · rename_i h1;exact h1
    · rw [e];decide
  · split
    · split
      · rename_i h1;simp only [ge_iff_le,Bool.and_eq_true,decide_eq_true_eq] at h1;exact Nat.le_trans (by decide) h1.1
      · rw [e];decide
    · split
      · split
        · rename_i h1;simp only [ge_iff_le,Bool.and_eq_true,decide_eq_true_eq] at h1;exact Nat.le_trans (by decide) h1.1
        · rw [e];decide
      · rw [e];decide
theorem idxsV_some {s:ByteArray} {k:Nat} {u:UInt8} (h:s[k]? = some u):idxsV (.s (.string s)) (some k) = some (.s (.int .u8 u.toNat)):=by
  show (s[k]?).map _ = _
  rw [h];rfl
theorem ACall_ext {F:Prog} {X:XRel} {f:FuncId} {args:List PV} {r:PV} {M M':List Blk} (h:X f args M r M'):ACall F X (.fn f) args M r M':=fun C hC => hC.2.2.1 f args M r M' h
section
variable {C:CallR} {K:(List Blk) → List PV → Prop} {M:List Blk} {t:List PV} {d:Option Nat} {os:List COper}
theorem r_fzbuild {z:List Value} {ps:List (Nat × Nat × CX)}:wpOps C (⟨d,.fz (.build z ps),none⟩ :: os) K M t = b2 (freezeO ((fillParts (z.map .s) (ps.map fun p => (p.1,p.2.1,ev t p.2.2))).map fun cs => (.agg cs,M))) (kont2 C os K t d):=r_fz rfl
theorem fzs_os {i ver off len:Nat} {r:List PV}:freezeAll M (.os i ver off len :: r) = (frzR M i M[i]?).bind fun M => freezeAll M r:=by
  have:=freezeAll_os (M:=M) (i:=i) (ver:=ver) (off:=off) (len:=len)
  rw [← this]
  simp only [freezeAll]
  cases freeze M i <;> rfl
theorem fzs_s {v:Value} {r:List PV}:freezeAll M (.s v :: r) = freezeAll M r:=nrfl rfl
theorem fzs_nil:freezeAll M [] = some M:=nrfl rfl
end
end Go.Nac
namespace Go.Nac
def goneRow (n:Nat) (g:List Spn) (k:Nat):List PV:=(List.range n).map fun (i:Nat) => PV.B (gapAt (g.take k) (i:Int))
def innRow (n:Nat) (g:List Spn) (k:Nat) (x:Spn) (j:Nat):List PV:=(List.range n).map fun (i:Nat) => PV.B (gapAt (g.take k) (i:Int) || decide (x.fr ≤ (i:Int) ∧ (i:Int) < (j:Int)))
theorem goneRow_len (n:Nat) (g:List Spn) (k:Nat):(goneRow n g k).length = n:=by simp [goneRow]
theorem innRow_len (n:Nat) (g:List Spn) (k:Nat) (x:Spn) (j:Nat):(innRow n g k x j).length = n:=by simp [innRow]
theorem goneRow_low {m:Nat} (n:Nat) (g:List Spn) (k:Nat):lowL m (goneRow n g k) = True:=eq_true (lowL_map _ _ fun i => by simp [PV.low])
theorem gone_zero (n:Nat) (g:List Spn):goneRow n g 0 = List.replicate n (PV.B false):=by
  apply List.ext_getElem?
  intro i
  simp only [goneRow,List.getElem?_map,List.getElem?_replicate]
  by_cases h:i < n
  · rw [List.getElem?_range h,if_pos h];rfl
  · rw [List.getElem?_eq_none (by simpa using h),if_neg h];rfl
theorem inn_start {n:Nat} {g:List Spn} {k:Nat} {x:Spn} {a:Nat} (h:x.fr = a):innRow n g k x a = goneRow n g k:=by
  unfold innRow goneRow
  refine List.map_congr_left fun i _ => ?_
  rw [h,decide_eq_false (by omega),Bool.or_false]
theorem inn_end {n:Nat} {g:List Spn} {k:Nat} {x:Spn} {b:Nat} (hx:g[k]? = some x) (h:x.to_ = b):innRow n g k x b = goneRow n g (k + 1):=by
  unfold innRow goneRow
  refine List.map_congr_left fun i _ => ?_
  rw [gapAt_snoc g k x hx,h]
theorem inn_get {n:Nat} {g:List Spn} {k:Nat} {x:Spn} {j i:Nat} (h:i < n):(innRow n g k x j)[i]? = some (.B (gapAt (g.take k) i || decide (x.fr ≤ (i:Int) ∧ (i:Int) < (j:Int)))):=by
  simp only [innRow,List.getElem?_map];rw [List.getElem?_range h];rfl
theorem gone_get {n:Nat} {g:List Spn} {k:Nat} {i:Nat} (h:i < n):(goneRow n g k)[i]? = some (.B (gapAt (g.take k) i)):=by
  simp only [goneRow,List.getElem?_map];rw [List.getElem?_range h];rfl
theorem inn_set {n:Nat} {g:List Spn} {k:Nat} {x:Spn} {j:Nat} (ha:x.fr ≤ j) (hj:j < n):(innRow n g k x j).set j (.B true) = innRow n g k x (j + 1):=by
  apply List.ext_getElem?
  intro i
  by_cases e:i = j
  · subst e
    rw [List.getElem?_set_self (by rw [innRow_len];exact hj),inn_get hj]
    rw [decide_eq_true (by omega),Bool.or_true]
  · rw [List.getElem?_set_ne (Ne.symm e)]
    by_cases h:i < n
    · rw [inn_get h,inn_get h]
      have e2:decide (x.fr ≤ (i:Int) ∧ (i:Int) < (j:Int)) = decide (x.fr ≤ (i:Int) ∧ (i:Int) < ((j + 1:Nat):Int)):=decide_eq_decide.2 (by omega)
      rw [e2]
    · rw [List.getElem?_eq_none (by rw [innRow_len];omega),List.getElem?_eq_none (by rw [innRow_len];omega)]
def gapFree (l:List Nat) (g:List Spn) (k:Nat):Prop:=∀ (i x:Nat),i < k → l[i]? = some x → (nz x && gapAt g i) = false
theorem gapFree_zero (l:List Nat) (g:List Spn):gapFree l g 0:=fun i x h => absurd h (by omega)
theorem gapFree_succ {l:List Nat} {g:List Spn} {k x:Nat} (h:gapFree l g k) (h1:l[k]? = some x) (h2:(nz x && gapAt g k) = false):gapFree l g (k + 1):=by
  intro i y hi hy
  rcases Nat.lt_or_ge i k with h3|h3
  · exact h i y h3 hy
  · have:i = k:=by omega
    subst this;rw [h1] at hy;cases hy;exact h2
theorem gapFree_end {l:List Nat} {g:List Spn} {k:Nat} (h:gapFree l g k) (hk:l.length ≤ k):chkGap l g = 0 :=
  chkGap_good fun i x hx => h i x (by have:=(List.getElem?_eq_some_iff.1 hx).1;omega) hx
def serA (s:Ser):Int:=fst0 [if nameOk s.name = false then 8 else 0,rng s.start 0 999999999,if 40000 < s.samples.length then 5 else 0]
def serB (s:Ser):Int :=
  if ¬ fst0 (s.samples.map smpE) = 0 then fst0 (s.samples.map smpE) else if ¬ chkSpns s.gaps = 0 then chkSpns s.gaps else
  if ¬ chkLast s.samples s.gaps = 0 then 14 else chkGap s.samples s.gaps
theorem rng_cases (n a b:Int):rng n a b = 0 ∨ rng n a b = 3:=by unfold rng;split <;> simp
theorem chkSer_eq (s:Ser):chkSer s = if serA s = 0 then serB s else serA s:=by
  unfold chkSer serA serB
  simp only [fst0]
  rcases rng_cases s.start 0 999999999 with h|h <;> cases hn:nameOk s.name <;> by_cases hl:40000 < s.samples.length <;> simp [h,hl]
theorem serA_zero {s:Ser} (h:serA s = 0):nameOk s.name = true ∧ rng s.start 0 999999999 = 0 ∧ s.samples.length ≤ 40000:=by
  unfold serA at h
  simp only [fst0] at h
  rcases rng_cases s.start 0 999999999 with h1|h1 <;> cases hn:nameOk s.name <;> by_cases hl:40000 < s.samples.length <;> simp [h1,hl,hn] at h ⊢ <;> omega
theorem gaps_in {l:List Nat} {g:List Spn} (h1:chkSpns g = 0) (h2:chkLast l g = 0):∀ x:Spn,x ∈ g → 0 ≤ x.fr ∧ x.fr < x.to_ ∧ x.to_ ≤ l.length:=by
  unfold chkSpns at h1
  split at h1
  · cases h1
  · obtain ⟨g1,g2⟩:=chkSpnsF_ok h1
    intro x hx
    have h3:=g1 x hx
    refine ⟨h3.1,h3.2.1,?_⟩
    unfold chkLast at h2
    cases hz:g.getLast? with
    | none => rw [List.getLast?_eq_none_iff] at hz;subst hz;cases hx
    | some z =>
      rw [hz] at h2
      simp only at h2
      have:=g2 x hx z hz
      split at h2
      · cases h2
      · omega
theorem chkLast_nil {l:List Nat}:chkLast l [] = 0:=rfl
theorem chkLast_some {l:List Nat} {g:List Spn} {z:Spn} (h:g[g.length - 1]? = some z):chkLast l g = if (l.length:Int) < z.to_ then 14 else 0:=by
  unfold chkLast
  rw [List.getLast?_eq_getElem?,h]
end Go.Nac
