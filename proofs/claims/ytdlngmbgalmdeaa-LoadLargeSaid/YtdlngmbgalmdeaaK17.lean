import Derived.Test.YtdlngmbgalmdeaaK16
namespace Go.Nac
structure Rev where
  at_ : Int
  ld : Int
  deriving DecidableEq
def encRev (x : Rev) : PV := .agg [.I x.at_, .I x.ld]
theorem encRev_eq (x : Rev) : encRev x = .agg [.I x.at_, .I x.ld] := nrfl rfl
theorem encRev_cells (x : Rev) : (encRev x).cells = [.I x.at_, .I x.ld] := nrfl rfl
theorem encRev_low1 {n : Nat} (x : Rev) : (encRev x).low n = True := eq_true (by simp [encRev, PV.low, lowL])
theorem encRev_low {n : Nat} (l : List Rev) : lowL n (l.map encRev) = True := eq_true (lowL_map _ _ fun r => by simp [encRev, PV.low, lowL])
theorem encRev_ok (l : List Rev) : (l.map encRev).all (okElem 2) = true := by rw [List.all_eq_true]; intro x hx; obtain ⟨y, _, rfl⟩ := List.mem_map.1 hx; rfl
theorem encRev_sized (l : List Rev) : sized 2 (l.map encRev) = true := by unfold sized; rw [List.all_eq_true]; intro x hx; obtain ⟨y, _, rfl⟩ := List.mem_map.1 hx; rfl
structure Cyc where
  from_ : Int
  to_ : Int
  lo : Int
  hi : Int
  deriving DecidableEq
def encCyc (x : Cyc) : PV := .agg [.I x.from_, .I x.to_, .I x.lo, .I x.hi]
theorem encCyc_cells (x : Cyc) : (encCyc x).cells = [.I x.from_, .I x.to_, .I x.lo, .I x.hi] := nrfl rfl
theorem encCyc_low1 {n : Nat} (x : Cyc) : (encCyc x).low n = True := eq_true (by simp [encCyc, PV.low, lowL])
theorem encCyc_low {n : Nat} (l : List Cyc) : lowL n (l.map encCyc) = True := eq_true (lowL_map _ _ fun r => by simp [encCyc, PV.low, lowL])
structure Life where
  cap : Int
  exp : Int
  deriving DecidableEq
def encLife (x : Life) : PV := .agg [.I x.cap, .I x.exp]
theorem encLife_eq (x : Life) : encLife x = .agg [.I x.cap, .I x.exp] := nrfl rfl
theorem encLife_cells (x : Life) : (encLife x).cells = [.I x.cap, .I x.exp] := nrfl rfl
theorem encLife_low1 {n : Nat} (x : Life) : (encLife x).low n = True := eq_true (by simp [encLife, PV.low, lowL])
theorem encLife_low {n : Nat} (l : List Life) : lowL n (l.map encLife) = True := eq_true (lowL_map _ _ fun r => by simp [encLife, PV.low, lowL])
structure Cls where
  num : Int
  cnt : Int
  deriving DecidableEq
def encCls (x : Cls) : PV := .agg [.I x.num, .I x.cnt]
theorem encCls_low1 {n : Nat} (x : Cls) : (encCls x).low n = True := eq_true (by simp [encCls, PV.low, lowL])
structure Pnt where
  x : Int
  y : Int
  deriving DecidableEq
def encPnt (x : Pnt) : PV := .agg [.I x.x, .I x.y]
theorem encPnt_cells (x : Pnt) : (encPnt x).cells = [.I x.x, .I x.y] := nrfl rfl
theorem encPnt_low1 {n : Nat} (x : Pnt) : (encPnt x).low n = True := eq_true (by simp [encPnt, PV.low, lowL])
theorem encPnt_low {n : Nat} (l : List Pnt) : lowL n (l.map encPnt) = True := eq_true (lowL_map _ _ fun r => by simp [encPnt, PV.low, lowL])
theorem encPnt_ok (l : List Pnt) : (l.map encPnt).all (okElem 2) = true := by rw [List.all_eq_true]; intro x hx; obtain ⟨y, _, rfl⟩ := List.mem_map.1 hx; rfl
theorem encPnt_sized (l : List Pnt) : sized 2 (l.map encPnt) = true := by unfold sized; rw [List.all_eq_true]; intro x hx; obtain ⟨y, _, rfl⟩ := List.mem_map.1 hx; rfl
theorem encI_low {n : Nat} (l : List Int) : lowL n (l.map PV.I) = True := eq_true (lowL_map _ _ fun r => by simp [PV.low])
theorem encI_ok (l : List Int) : (l.map PV.I).all (okElem 1) = true := by rw [List.all_eq_true]; intro x hx; obtain ⟨y, _, rfl⟩ := List.mem_map.1 hx; rfl
end Go.Nac

