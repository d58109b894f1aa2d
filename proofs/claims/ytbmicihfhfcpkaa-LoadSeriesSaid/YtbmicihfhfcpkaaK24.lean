import Derived.Test.YtbmicihfhfcpkaaK16
import Derived.Test.YtbmicihfhfcpkaaP14
set_option linter.unusedVariables false
set_option linter.unusedSimpArgs false
set_option linter.unusedSectionVars false
set_option maxRecDepth 10000
namespace Go.Nac
open Ieee
theorem f64_read (b : Nat) : FloatKind.f64.decode b = double.read b := rfl
theorem f32_read (b : Nat) : FloatKind.f32.decode b = single.read b := rfl
theorem s_ff {x : Nat} {s : Bool} {m : Nat} {e : Int} (h : single.read x = .number s m e) : sopV (.ff .f64) [.s (.float .f32 x)] = some (.s (.float .f64 (double.nearest s m e))) := by
  obtain ⟨h1, h2, h3⟩ := read_single h
  obtain ⟨k, l, g1, _, _⟩ := read_nearest s h1 (show (-1074 : Int) ≤ e by omega) (by omega)
  have e1 : (FloatKind.f64.decode (FloatKind.f64.encode (.number s m e))).isInfinity = false := by
    show (double.read (double.nearest s m e)).isInfinity = false
    rw [g1]; rfl
  simp only [sopV, f32_read, h]
  rw [if_neg (by decide), if_neg (by rw [e1]; decide)]; rfl
theorem s_ff_nan {x : Nat} {s : Bool} {t : Nat} (h : single.read x = .nan s t) : sopV (.ff .f64) [.s (.float .f32 x)] = some (.nan .f64) := by
  simp only [sopV, f32_read, h]; rfl
theorem s_ff_inf {x : Nat} {s : Bool} (h : single.read x = .infinity s) : sopV (.ff .f64) [.s (.float .f32 x)] = some (.s (.float .f64 (double.word s double.infRung))) := by
  simp only [sopV, f32_read, h]; rfl
theorem s_sub {s : Bool} {m : Nat} {e : Int} (h1 : m < 2 ^ 53) (h2 : -1074 ≤ e) (h3 : e ≤ 970) : sopV (.fbin .sub) [.s (.float .f64 (double.nearest s m e)), .s (.float .f64 (double.nearest s m e))] = some (.s (.float .f64 0)) := by
  obtain ⟨k, l, g1, _, _⟩ := read_nearest s h1 h2 h3
  have : FloatKind.f64.format.sub (double.nearest s m e) (double.nearest s m e) = some 0 := sub_same g1
  simp only [sopV, if_true, fArith, this]
theorem s_neq0 : sopV (.fbin .neq) [.s (.float .f64 0), .s (.float .f64 0)] = some (.B false) := sopV_cmp rfl (by show fCmp .neq (double.order 0 0) = _; rw [order_zero]; rfl)
theorem s_nan_sub : sopV (.fbin .sub) [.nan .f64, .nan .f64] = some (.nan .f64) := by simp [sopV, fKind, fArith, show (FloatKind.f64.format.sub 0 0).isSome = true from by decide]
theorem s_nan_neq {c : Nat} : sopV (.fbin .neq) [.nan .f64, .s (.float .f64 c)] = some (.B true) := by simp [sopV, fKind, fArith, fCmp]
theorem x_inf_sub (s : Bool) : double.sub (double.word s double.infRung) (double.word s double.infRung) = none := by cases s <;> decide
theorem x_inf_mul (s : Bool) : double.mul c16 (double.word s double.infRung) = some (double.word s double.infRung) := by cases s <;> decide
theorem s_inf_sub (s : Bool) : sopV (.fbin .sub) [.s (.float .f64 (double.word s double.infRung)), .s (.float .f64 (double.word s double.infRung))] = some (.nan .f64) := by
  have : FloatKind.f64.format.sub (double.word s double.infRung) (double.word s double.infRung) = none := x_inf_sub s
  simp only [sopV, if_true, fArith, this]
theorem s_inf_mul (s : Bool) : sopV (.fbin .mul) [.s (.float .f64 c16), .s (.float .f64 (double.word s double.infRung))] = some (.s (.float .f64 (double.word s double.infRung))) := by
  have : FloatKind.f64.format.mul c16 (double.word s double.infRung) = some (double.word s double.infRung) := x_inf_mul s
  simp only [sopV, if_true, fArith, this]
theorem s_nan_mul : sopV (.fbin .mul) [.s (.float .f64 c16), .nan .f64] = some (.nan .f64) := by simp [sopV, fKind, fArith, show (FloatKind.f64.format.mul 0 0).isSome = true from by decide]
section
variable {s : Bool} {m : Nat} {p : Int} (h1 : m < 2 ^ 53) (h2 : -1074 ≤ p) (h3 : p ≤ 966)
include h1 h2 h3
theorem s_mul : sopV (.fbin .mul) [.s (.float .f64 c16), .s (.float .f64 (double.nearest s m p))] = some (.s (.float .f64 (double.nearest s m (p + 4)))) := by
  have : FloatKind.f64.format.mul c16 (double.nearest s m p) = some (double.nearest s m (p + 4)) := (mul16 h1 h2 (by omega)).1
  simp only [sopV, if_true, fArith, this]
theorem s_mul' : sopV (.fbin .mul) [.s (.float .f64 (double.nearest s m p)), .s (.float .f64 c16)] = some (.s (.float .f64 (double.nearest s m (p + 4)))) := by
  have : FloatKind.f64.format.mul (double.nearest s m p) c16 = some (double.nearest s m (p + 4)) := (mul16 h1 h2 (by omega)).2
  simp only [sopV, if_true, fArith, this]
theorem fV_16 : fV s m (p + 4) = fV s m p * 16 := by
  unfold fV
  rw [show (p + 4 + 1100).toNat = (p + 1100).toNat + 4 from by omega, signed_mul]; rfl
theorem s_cmp {op : BinOp} {c n : Nat} {t : Bool} {j : Int} {r : Bool} (hc : double.read c = .number t n j) (hj : -1100 ≤ j) (ha : ∀ a b, fArith op .f64 a b = none) (h : fCmp op (some (compare (fV s m p) (fV t n j))) = some r) :
    sopV (.fbin op) [.s (.float .f64 (double.nearest s m p)), .s (.float .f64 c)] = some (.B r) := by
  have : FloatKind.f64.format.order (double.nearest s m p) c = some (compare (fV s m p) (fV t n j)) := order_const h1 h2 (by omega) hc hj
  exact sopV_cmp (ha _ _) (by rw [this]; exact h)
end
theorem cmp_lss {a b : Int} : fCmp .lss (some (compare a b)) = some (decide (a < b)) := by
  simp only [fCmp, Option.some.injEq]; rw [Bool.eq_iff_iff]; simp [cmp_lt]
theorem cmp_gtr {a b : Int} : fCmp .gtr (some (compare a b)) = some (decide (b < a)) := by
  simp only [fCmp, Option.some.injEq]; rw [Bool.eq_iff_iff]; simp [cmp_gt]
theorem cmp_neq {a b : Int} : fCmp .neq (some (compare a b)) = some (decide (a ≠ b)) := by
  simp only [fCmp, Option.some.injEq]; rw [Bool.eq_iff_iff]; simp [cmp_eq]
theorem fV_c (t : Bool) (k : Nat) (j p : Int) (h : j + k = p) (hj : -1100 ≤ j) : fV t (2 ^ k) j = fV t 1 p := by
  have := fV_pow t 1 k h hj
  rwa [Nat.one_mul] at this
theorem fV_m4 (t : Bool) : fV t 1 15 = fV t 1 11 * 16 := by
  rw [show (15 : Int) = 11 + 4 from rfl]
  exact fV_16 (by decide) (by decide) (by decide)
theorem fV_lim (t : Bool) : fV t 32768 0 = fV t 1 15 := fV_c t 15 0 15 (by decide) (by decide)
section
variable {s : Bool} {m : Nat} {p : Int} (h1 : m < 2 ^ 53) (h2 : -1070 ≤ p) (h3 : p ≤ 966)
include h1 h2 h3
theorem s_lo : sopV (.fbin .lss) [.s (.float .f64 (double.nearest s m p)), .s (.float .f64 13898108450065350656)] = some (.B (decide (fV s m p < fV true 32768 0))) :=
  s_cmp h1 (by omega) h3 (t := true) (n := 2 ^ 52) (j := -37) (by decide) (by decide) (fun _ _ => rfl) (by rw [cmp_lss, fV_c true 52 (-37) 15 (by decide) (by decide), fV_lim])
theorem s_hi : sopV (.fbin .gtr) [.s (.float .f64 (double.nearest s m p)), .s (.float .f64 4674736413210574848)] = some (.B (decide (fV false 32768 0 < fV s m p))) :=
  s_cmp h1 (by omega) h3 (t := false) (n := 2 ^ 52) (j := -37) (by decide) (by decide) (fun _ _ => rfl) (by rw [cmp_gtr, fV_c false 52 (-37) 15 (by decide) (by decide), fV_lim])
theorem s_lo' : sopV (.fbin .lss) [.s (.float .f64 (double.nearest s m p)), .s (.float .f64 13880094051555868672)] = some (.B (decide (fV s m (p + 4) < fV true 32768 0))) :=
  s_cmp h1 (by omega) h3 (t := true) (n := 2 ^ 52) (j := -41) (by decide) (by decide) (fun _ _ => rfl) (by
    rw [cmp_lss, fV_c true 52 (-41) 11 (by decide) (by decide), fV_lim, fV_m4, fV_16 h1 (by omega) h3]
    exact congrArg some (decide_eq_decide.2 (by omega)))
theorem s_hi' : sopV (.fbin .gtr) [.s (.float .f64 (double.nearest s m p)), .s (.float .f64 4656722014701092864)] = some (.B (decide (fV false 32768 0 < fV s m (p + 4)))) :=
  s_cmp h1 (by omega) h3 (t := false) (n := 2 ^ 52) (j := -41) (by decide) (by decide) (fun _ _ => rfl) (by
    rw [cmp_gtr, fV_c false 52 (-41) 11 (by decide) (by decide), fV_lim, fV_m4, fV_16 h1 (by omega) h3]
    exact congrArg some (decide_eq_decide.2 (by omega)))
theorem s_fi (hr : -9223372036854775808 ≤ fTr s m p ∧ fTr s m p ≤ 9223372036854775807) : sopV (.fi .i64) [.s (.float .f64 (double.nearest s m p))] = some (.I (fTr s m p)) := by
  have := toInt_nearest (s := s) h1 (show -1074 ≤ p by omega) (by omega)
  simp only [sopV, f64_read, this]
  rw [if_pos (by exact hr)]
theorem s_eqi {n : Int} (hn : n = fTr s m p) (hs : n.natAbs < 2 ^ 53) : sopV (.fbin .neq) [.s (.float .f64 (FloatKind.f64.nearest n)), .s (.float .f64 (double.nearest s m p))] = some (.B (!fWhole s m p)) := by
  have h : FloatKind.f64.format.order (FloatKind.f64.nearest n) (double.nearest s m p) = some (compare (fV (decide (n < 0)) n.natAbs 0) (fV s m p)) := order_nearest hs (by decide) (by decide) h1 (by omega) (by omega)
  refine sopV_cmp rfl ?_
  rw [h, cmp_neq, fV_int, hn]
  unfold fWhole
  by_cases hc : fTr s m p * 2 ^ uE = fV s m p <;> simp [hc]
theorem s_eqf {k : Nat} {l : Int} (hkl : l + k = p) (hl : -1074 ≤ l) (hs : fFl s (m * 2 ^ k) l < 2 ^ 53) : sopV (.fbin .neq) [.s (.float .f64 (double.nearest s (fFl s (m * 2 ^ k) l) 0)), .s (.float .f64 (double.nearest s m p))] = some (.B (!fWhole s m p)) := by
  have h : FloatKind.f64.format.order (double.nearest s (fFl s (m * 2 ^ k) l) 0) (double.nearest s m p) = some (compare (fV s (fFl s (m * 2 ^ k) l) 0) (fV s m p)) := order_nearest hs (by decide) (by decide) h1 (by omega) (by omega)
  refine sopV_cmp rfl ?_
  rw [h, cmp_neq, ← fV_pow s m k hkl (by omega)]
  unfold fWhole
  rw [← fV_pow s m k hkl (by omega), ← tr_pow s m k hkl]
  have := floor_whole (s := s) (m := m * 2 ^ k) (p := l) (by omega)
  by_cases hc : fTr s (m * 2 ^ k) l * 2 ^ uE = fV s (m * 2 ^ k) l
  · simp [hc, this.2 hc]
  · have h2 : ¬ fV s (fFl s (m * 2 ^ k) l) 0 = fV s (m * 2 ^ k) l := fun h => hc (this.1 h)
    simp only [ne_eq, hc, h2, not_false_eq_true, decide_true, decide_false, Bool.not_false]
end
theorem s_nz {x : Nat} : sopV (.fbin .neq) [.s (.float .f32 x), .s (.float .f32 0)] = some (.B (nz x)) := by
  refine sopV_cmp rfl ?_
  have h0 : single.read 0 = .number false 0 (-149) := by decide
  show fCmp .neq ((single.read x).order (single.read 0)) = _
  rw [h0]
  unfold nz
  cases hr : single.read x with
  | nan s t => rfl
  | infinity s => cases s <;> rfl
  | number s m e =>
    show fCmp .neq (some (compare (signed s m (e - min e (-149)).toNat) (signed false 0 (-149 - min e (-149)).toNat))) = _
    rw [cmp_neq]
    simp only [signed_eq, Bool.false_eq_true, if_false, Nat.zero_mul]
    generalize (e - min e (-149)).toNat = u
    have hu : 0 < 2 ^ u := Nat.pow_pos (by decide)
    congr 1
    by_cases hm : m = 0
    · subst hm; simp
    · have : m * 2 ^ u ≠ 0 := Nat.mul_ne_zero hm (by omega)
      have e1 : ((m * 2 ^ u : Nat) : Int) ≠ 0 := by exact_mod_cast this
      have e2 : -((m * 2 ^ u : Nat) : Int) ≠ 0 := by omega
      cases s
      · simp only [Bool.false_eq_true, if_false]; rw [decide_eq_true (by exact_mod_cast e1)]; simp [hm]
      · simp only [if_true]; rw [decide_eq_true (by exact_mod_cast e2)]; simp [hm]
end Go.Nac
set_option linter.unusedVariables false
namespace Go.Nac
theorem toList_loop_ne (s : ByteArray) : ∀ (n i : Nat) (r : List UInt8), s.size - i ≤ n → r ≠ [] → ByteArray.toList.loop s i r ≠ [] := by
  intro n
  induction n with
  | zero =>
    intro i r h hr
    rw [ByteArray.toList.loop, if_neg (by omega)]; simpa using hr
  | succ n ih =>
    intro i r h hr
    rw [ByteArray.toList.loop]
    split
    · exact ih _ _ (by omega) (by simp)
    · simpa using hr
theorem toList_ne {s : ByteArray} (h : s.size ≠ 0) : s.toList ≠ [] := by
  unfold ByteArray.toList
  rw [ByteArray.toList.loop, if_pos (by omega)]
  exact toList_loop_ne s _ _ _ (Nat.le_refl _) (by simp)
theorem toList_nil {s : ByteArray} (h : s.size = 0) : s.toList = [] := by
  unfold ByteArray.toList
  rw [ByteArray.toList.loop, if_neg (by omega)]; rfl
theorem bin_neq_empty {s : ByteArray} : bin .neq (.s (.string s)) (.s (.string ⟨#[]⟩)) = some (.B (decide (s.size ≠ 0))) := by
  have e : (⟨#[]⟩ : ByteArray).toList = [] := toList_nil rfl
  simp only [bin, binStr, Option.map_some, e]
  by_cases h : s.size = 0
  · rw [toList_nil h]; simp [h]
  · have := toList_ne h
    cases hs : s.toList with
    | nil => exact absurd hs this
    | cons a l => simp [h]
theorem get_bang {s : ByteArray} {i : Nat} {u : UInt8} (h : s[i]? = some u) : s.get! i = u := by
  have hi : i < s.size := by
    rcases Nat.lt_or_ge i s.size with h1 | h1
    · exact h1
    · rw [getElem?_neg s i (by omega)] at h; cases h
  rw [getElem?_pos s i hi] at h
  cases h
  cases s with
  | mk bs => exact getElem!_pos bs i hi
theorem get_some {s : ByteArray} {i : Nat} (h : i < s.size) : ∃ u, s[i]? = some u := ⟨_, getElem?_pos s i h⟩
theorem chAt_some {s : ByteArray} {i : Nat} {u : UInt8} (h : s[i]? = some u) : chAt s i = u.toNat := by unfold chAt; rw [h]; rfl
theorem dec_lo {s : ByteArray} {i : Nat} {u : UInt8} (h : s[i]? = some u) (hu : u.toNat < 128) : Utf8.decode s i = (u.toNat, 1) := by
  unfold Utf8.decode
  simp only [Nat.add_zero, get_bang h]
  rw [if_pos hu]
theorem dec_hi {s : ByteArray} {i : Nat} {u : UInt8} (h : s[i]? = some u) (hu : ¬ u.toNat < 128) : 128 ≤ (Utf8.decode s i).1 := by
  unfold Utf8.decode
  simp only [Nat.add_zero, get_bang h]
  rw [if_neg hu]
  have e : Utf8.runeError = 65533 := rfl
  split
  · split
    · rename_i h1; exact h1
    · rw [e]; decide
  · split
    · split
      · rename_i h1; simp only [ge_iff_le, Bool.and_eq_true, decide_eq_true_eq] at h1; exact Nat.le_trans (by decide) h1.1
      · rw [e]; decide
    · split
      · split
        · rename_i h1; simp only [ge_iff_le, Bool.and_eq_true, decide_eq_true_eq] at h1; exact Nat.le_trans (by decide) h1.1
        · rw [e]; decide
      · rw [e]; decide
theorem idxsV_some {s : ByteArray} {k : Nat} {u : UInt8} (h : s[k]? = some u) : idxsV (.s (.string s)) (some k) = some (.s (.int .u8 u.toNat)) := by
  show (s[k]?).map _ = _
  rw [h]; rfl
theorem ACall_ext {F : Prog} {X : FuncId → List PV → PV → Prop} {f : FuncId} {args : List PV} {r : PV} (h : X f args r) (M : List Blk) : ACall F X (.fn f) args M r M := fun C hC => hC.2.2.1 f args M r h
section
variable {C : CallR} {K : (List Blk) → List PV → Prop} {M : List Blk} {t : List PV} {d : Option Nat} {os : List COper}
theorem r_fzbuild {z : List Value} {ps : List (Nat × Nat × CX)} : wpOps C (⟨d, .fz (.build z ps), none⟩ :: os) K M t = b2 (freezeO ((fillParts (z.map .s) (ps.map fun p => (p.1, p.2.1, ev t p.2.2))).map fun cs => (.agg cs, M))) (kont2 C os K t d) := r_fz rfl
theorem fzs_os {i ver off len : Nat} {r : List PV} : freezeAll M (.os i ver off len :: r) = (frzR M i M[i]?).bind fun M => freezeAll M r := by
  have := freezeAll_os (M := M) (i := i) (ver := ver) (off := off) (len := len)
  rw [← this]
  simp only [freezeAll]
  cases freeze M i <;> rfl
theorem fzs_s {v : Value} {r : List PV} : freezeAll M (.s v :: r) = freezeAll M r := nrfl rfl
theorem fzs_nil : freezeAll M [] = some M := nrfl rfl
end
end Go.Nac

