/- Which quarters are gone, cell by cell; the errors of series in steps. -/
import Derived.Test.YtclanmkmbjinaaaGreatDoorW04
set_option linter.unusedVariables false
namespace Go.Nac
def goneRow (n:Nat) (g:List Spn) (k:Nat):List PV:=(List.range n).map fun (i:Nat) => PV.B (gapAt (g.take k) (i:Int))
def innRow (n:Nat) (g:List Spn) (k:Nat) (x:Spn) (j:Nat):List PV:=(List.range n).map fun (i:Nat) => PV.B (gapAt (g.take k) (i:Int) || decide (x.fr ≤ (i:Int) ∧ (i:Int) < (j:Int)))
theorem goneRow_len (n:Nat) (g:List Spn) (k:Nat):(goneRow n g k).length = n:=by simp [goneRow]
theorem innRow_len (n:Nat) (g:List Spn) (k:Nat) (x:Spn) (j:Nat):(innRow n g k x j).length = n:=by simp [innRow]
theorem goneRow_low {m:Nat} (n:Nat) (g:List Spn) (k:Nat):lowL m (goneRow n g k) = True:=eq_true (lowL_map _ _ fun i => by simp [PV.low])
theorem gone_zero (n:Nat) (g:List Spn):goneRow n g 0 = List.replicate n (PV.B false):=by
  apply List.ext_getElem?
  intro i
  simp only [goneRow,List.getElem?_map,List.getElem?_replicate]
  by_cases h:i < n
  · rw [List.getElem?_range h,if_pos h];rfl
  · rw [List.getElem?_eq_none (by simpa using h),if_neg h];rfl
theorem inn_start {n:Nat} {g:List Spn} {k:Nat} {x:Spn} {a:Nat} (h:x.fr = a):innRow n g k x a = goneRow n g k:=by
  unfold innRow goneRow
  refine List.map_congr_left fun i _ => ?_
  rw [h,decide_eq_false (by omega),Bool.or_false]
theorem inn_end {n:Nat} {g:List Spn} {k:Nat} {x:Spn} {b:Nat} (hx:g[k]? = some x) (h:x.to_ = b):innRow n g k x b = goneRow n g (k + 1):=by
  unfold innRow goneRow
  refine List.map_congr_left fun i _ => ?_
  rw [gapAt_snoc g k x hx,h]
theorem inn_get {n:Nat} {g:List Spn} {k:Nat} {x:Spn} {j i:Nat} (h:i < n):(innRow n g k x j)[i]? = some (.B (gapAt (g.take k) i || decide (x.fr ≤ (i:Int) ∧ (i:Int) < (j:Int)))):=by
  simp only [innRow,List.getElem?_map];rw [List.getElem?_range h];rfl
theorem gone_get {n:Nat} {g:List Spn} {k:Nat} {i:Nat} (h:i < n):(goneRow n g k)[i]? = some (.B (gapAt (g.take k) i)):=by
  simp only [goneRow,List.getElem?_map];rw [List.getElem?_range h];rfl
theorem inn_set {n:Nat} {g:List Spn} {k:Nat} {x:Spn} {j:Nat} (ha:x.fr ≤ j) (hj:j < n):(innRow n g k x j).set j (.B true) = innRow n g k x (j + 1):=by
  apply List.ext_getElem?
  intro i
  by_cases e:i = j
  · subst e
    rw [List.getElem?_set_self (by rw [innRow_len];exact hj),inn_get hj]
    rw [decide_eq_true (by omega),Bool.or_true]
  · rw [List.getElem?_set_ne (Ne.symm e)]
    by_cases h:i < n
    · rw [inn_get h,inn_get h]
      have e2:decide (x.fr ≤ (i:Int) ∧ (i:Int) < (j:Int)) = decide (x.fr ≤ (i:Int) ∧ (i:Int) < ((j + 1:Nat):Int)):=decide_eq_decide.2 (by omega)
      rw [e2]
    · rw [List.getElem?_eq_none (by rw [innRow_len];omega),List.getElem?_eq_none (by rw [innRow_len];omega)]
def gapFree (l:List Nat) (g:List Spn) (k:Nat):Prop:=∀ (i x:Nat),i < k → l[i]? = some x → (nz x && gapAt g i) = false
theorem gapFree_zero (l:List Nat) (g:List Spn):gapFree l g 0:=fun i x h => absurd h (by omega)
theorem gapFree_succ {l:List Nat} {g:List Spn} {k x:Nat} (h:gapFree l g k) (h1:l[k]? = some x) (h2:(nz x && gapAt g k) = false):gapFree l g (k + 1):=by
  intro i y hi hy
  rcases Nat.lt_or_ge i k with h3|h3
  · exact h i y h3 hy
  · have:i = k:=by omega
    subst this;rw [h1] at hy;cases hy;exact h2
theorem gapFree_end {l:List Nat} {g:List Spn} {k:Nat} (h:gapFree l g k) (hk:l.length ≤ k):chkGap l g = 0 :=
  chkGap_good fun i x hx => h i x (by have:=(List.getElem?_eq_some_iff.1 hx).1;omega) hx
def serA (s:Ser):Int:=fst0 [if nameOk s.name = false then 8 else 0,rng s.start 0 999999999,if 40000 < s.samples.length then 5 else 0]
def serB (s:Ser):Int :=
  if ¬ fst0 (s.samples.map smpE) = 0 then fst0 (s.samples.map smpE) else if ¬ chkSpns s.gaps = 0 then chkSpns s.gaps else
  if ¬ chkLast s.samples s.gaps = 0 then 14 else chkGap s.samples s.gaps
theorem rng_cases (n a b:Int):rng n a b = 0 ∨ rng n a b = 3:=by unfold rng;split <;> simp
theorem chkSer_eq (s:Ser):chkSer s = if serA s = 0 then serB s else serA s:=by
  unfold chkSer serA serB
  simp only [fst0]
  rcases rng_cases s.start 0 999999999 with h|h <;> cases hn:nameOk s.name <;> by_cases hl:40000 < s.samples.length <;> simp [h,hl]
theorem serA_zero {s:Ser} (h:serA s = 0):nameOk s.name = true ∧ rng s.start 0 999999999 = 0 ∧ s.samples.length ≤ 40000:=by
  unfold serA at h
  simp only [fst0] at h
  rcases rng_cases s.start 0 999999999 with h1|h1 <;> cases hn:nameOk s.name <;> by_cases hl:40000 < s.samples.length <;> simp [h1,hl,hn] at h ⊢ <;> omega
theorem gaps_in {l:List Nat} {g:List Spn} (h1:chkSpns g = 0) (h2:chkLast l g = 0):∀ x:Spn,x ∈ g → 0 ≤ x.fr ∧ x.fr < x.to_ ∧ x.to_ ≤ l.length:=by
  unfold chkSpns at h1
  split at h1
  · cases h1
  · obtain ⟨g1,g2⟩:=chkSpnsF_ok h1
    intro x hx
    have h3:=g1 x hx
    refine ⟨h3.1,h3.2.1,?_⟩
    unfold chkLast at h2
    cases hz:g.getLast? with
    | none => rw [List.getLast?_eq_none_iff] at hz;subst hz;cases hx
    | some z =>
      rw [hz] at h2
      simp only at h2
      have:=g2 x hx z hz
      split at h2
      · cases h2
      · omega
theorem chkLast_nil {l:List Nat}:chkLast l [] = 0:=rfl
theorem chkLast_some {l:List Nat} {g:List Spn} {z:Spn} (h:g[g.length - 1]? = some z):chkLast l g = if (l.length:Int) < z.to_ then 14 else 0:=by
  unfold chkLast
  rw [List.getLast?_eq_getElem?,h]
end Go.Nac
namespace Go.Nac
def bt (c:UInt8):PV:=.s (.int .u8 c.toNat)
def num4:List UInt8 → Nat
  | a :: b :: c :: d :: _ => ((a.toNat * 256 + b.toNat) * 256 + c.toNat) * 256 + d.toNat
  | _ => 0
def gapL (t:List UInt8) (k:Nat):List Spn:=(List.range k).map fun i => ⟨num4 (t.drop (8 * i)),num4 (t.drop (8 * i + 4))⟩
def smpL (t:List UInt8) (k:Nat):List Nat:=(List.range k).map fun i => num4 (t.drop (4 * i))
def nmN (b:List UInt8):Nat:=((b[4]?).getD 0).toNat
def dBody (b:List UInt8):List UInt8:=b.drop (5 + nmN b)
def dTail (b:List UInt8):List UInt8:=(dBody b).drop 12
def dM (b:List UInt8):Nat:=num4 ((dBody b).drop 4)
def dG (b:List UInt8):Nat:=num4 ((dBody b).drop 8)
def dSer (b:List UInt8):Ser:=⟨⟨((b.drop 5).take (nmN b)).toArray⟩,num4 (dBody b),smpL ((dTail b).drop (8 * dG b)) (dM b),gapL (dTail b) (dG b)⟩
def dE0 (b:List UInt8):Int:=if 4000000 < b.length then 27 else if b.length < 5 then 29 else if b.take 4 ≠ [87,73,78,68] then 1 else 0
def dE (b:List UInt8):Int :=
  if dE0 b ≠ 0 then dE0 b else if b.length < 17 + nmN b then 29 else if (dTail b).length < 8 * dG b + 4 * dM b then 29 else if (dTail b).length ≠ 8 * dG b + 4 * dM b then 2 else
  if 2147483648 ∈ (dSer b).samples then 1 else chkSer (dSer b)
def decS (b:List UInt8):Ser:=if dE b = 0 then dSer b else ⟨⟨#[]⟩,0,[],[]⟩
end Go.Nac
