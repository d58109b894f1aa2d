/-
  DERIVED: THE SHELF's CONTRACTS AT THIS DUMP, IN PLAIN WORDS (tools/lay-plain.mjs out of 'TryShelf.lean', which tools/lay-shelf.mjs wrote): THE SAME DECLARATIONS UNDER THE SAME NAMES: 'import', 'namespace', 'open', 'def', 'theorem' AND NOTHING ELSE: no command of the shelf's: FOR A HAND-IN. Each laying: the table of numbers ('.._ren') and one theorem, a field a fact of the dump's own or the kernel's comparison; each contract: ONE APPLICATION.
-/
import Derived.Test.YtbmicihfhfcpkaaW09
import Derived.Shelf.SlSortCmp.WholeK
import Derived.Test.YtbmicihfhfcpkaaProg
import Derived.Test.YtbmicihfhfcpkaaChecked
import Derived.KernelRfl
import Derived.Test.YtbmicihfhfcpkaaRows
namespace Go.Proofs
open Go.Shelf
def Try.sortCls_ren:Go.Shelf.Ren:=⟨fun|6 => 53|15 => 84|14 => 83|28 => 108|29 => 109|20 => 100|21 => 101|22 => 102|23 => 103|24 => 104|25 => 105|26 => 106|27 => 107|46 => 115|47 => 116|48 => 117|49 => 118|50 => 119|57 => 123|n => n,fun|22 => 41|24 => 59|25 => 106|3 => 3|39 => 136|0 => 0|53 => 158|55 => 160|4 => 4|46 => 151|45 => 150|50 => 155|5 => 5|9 => 9|66 => 163|70 => 167|76 => 173|77 => 174|n => n,fun|n => n⟩
theorem Try.sortCls:Go.Proofs.SlLaysF0.n6 Try.prog Try.sortCls_ren:={
 mixed:=by kernel_rfl
 f6:=⟨Try.f53.name,by decide,Try.func53.trans (congrArg some (by kernel_rfl))⟩
 f14:=⟨Try.f83.name,by decide,Try.func83.trans (congrArg some (by kernel_rfl))⟩
 f15:=Try.func84.trans (congrArg some (by kernel_rfl))
 f20:=⟨Try.f100.name,by decide,Try.func100.trans (congrArg some (by kernel_rfl))⟩
 f21:=⟨Try.f101.name,by decide,Try.func101.trans (congrArg some (by kernel_rfl))⟩
 f22:=⟨Try.f102.name,by decide,Try.func102.trans (congrArg some (by kernel_rfl))⟩
 f23:=⟨Try.f103.name,by decide,Try.func103.trans (congrArg some (by kernel_rfl))⟩
 f24:=⟨Try.f104.name,by decide,Try.func104.trans (congrArg some (by kernel_rfl))⟩
 f25:=⟨Try.f105.name,by decide,Try.func105.trans (congrArg some (by kernel_rfl))⟩
 f26:=⟨Try.f106.name,by decide,Try.func106.trans (congrArg some (by kernel_rfl))⟩
 f27:=⟨Try.f107.name,by decide,Try.func107.trans (congrArg some (by kernel_rfl))⟩
 f28:=Try.func108.trans (congrArg some (by kernel_rfl))
 f29:=Try.func109.trans (congrArg some (by kernel_rfl))
 f46:=⟨Try.f115.name,by decide,Try.func115.trans (congrArg some (by kernel_rfl))⟩
 f47:=Try.func116.trans (congrArg some (by kernel_rfl))
 f48:=Try.func117.trans (congrArg some (by kernel_rfl))
 f49:=⟨Try.f118.name,by decide,Try.func118.trans (congrArg some (by kernel_rfl))⟩
 f50:=⟨Try.f119.name,by decide,Try.func119.trans (congrArg some (by kernel_rfl))⟩
 f57:=⟨Try.f123.name,by decide,Try.func123.trans (congrArg some (by kernel_rfl))⟩
 t0:=Try.underlying0
 a0:=Try.isAgg0
 z0:=Try.sizeOf0
 v0:=Try.zeroValue0
 t3:=Try.underlying3
 a3:=Try.isAgg3
 z3:=Try.sizeOf3
 v3:=Try.zeroValue3
 t4:=Try.underlying4
 a4:=Try.isAgg4
 z4:=Try.sizeOf4
 v4:=Try.zeroValue4
 t5:=Try.underlying5
 a5:=Try.isAgg5
 z5:=Try.sizeOf5
 v5:=Try.zeroValue5
 t9:=Try.underlying9
 a9:=Try.isAgg9
 z9:=Try.sizeOf9
 v9:=Try.zeroValue9
 t22:=Try.underlying41
 a22:=Try.isAgg41
 z22:=Try.sizeOf41
 v22:=Try.zeroValue41
 t25:=Try.underlying106
 a25:=Try.isAgg106
 z25:=Try.sizeOf106
 v25:=Try.zeroValue106
 t39:=Try.underlying136
 a39:=Try.isAgg136
 z39:=Try.sizeOf136
 v39:=Try.zeroValue136
 t45:=Try.underlying150
 a45:=Try.isAgg150
 z45:=Try.sizeOf150
 v45:=Try.zeroValue150
 t46:=Try.underlying151
 a46:=Try.isAgg151
 z46:=Try.sizeOf151
 v46:=Try.zeroValue151
 t50:=Try.underlying155
 a50:=Try.isAgg155
 z50:=Try.sizeOf155
 v50:=Try.zeroValue155
 t53:=Try.underlying158
 a53:=Try.isAgg158
 z53:=Try.sizeOf158
 v53:=Try.zeroValue158
 t55:=Try.underlying160
 a55:=Try.isAgg160
 z55:=Try.sizeOf160
 v55:=Try.zeroValue160
 t66:=Try.underlying163
 a66:=Try.isAgg163
 z66:=Try.sizeOf163
 v66:=Try.zeroValue163
 t70:=Try.underlying167
 a70:=Try.isAgg167
 z70:=Try.sizeOf167
 v70:=Try.zeroValue167
 t76:=Try.underlying173
 a76:=Try.isAgg173
 z76:=Try.sizeOf173
 v76:=Try.zeroValue173
 t77:=Try.underlying174
 a77:=Try.isAgg174
 z77:=Try.sizeOf174
 v77:=Try.zeroValue174 }
end Go.Proofs
set_option maxRecDepth 100000
namespace Go.Proofs.Ytbmicihfhfcpkaa
open Go.Nac
abbrev env9:Env:=⟨fun _ => none,False⟩
theorem ok4 :@okFn env9 Try.prog 4 L9.c4 = true:=by kernel_rfl
theorem ok5 :@okFn env9 Try.prog 5 L9.c5 = true:=by kernel_rfl
theorem ok10 :@okFn env9 Try.prog 10 L9.c10 = true:=by kernel_rfl
theorem ok11 :@okFn env9 Try.prog 11 L9.c11 = true:=by kernel_rfl
theorem ok12 :@okFn env9 Try.prog 12 L9.c12 = true:=by kernel_rfl
theorem ok13 :@okFn env9 Try.prog 13 L9.c13 = true:=by kernel_rfl
theorem ok14 :@okFn env9 Try.prog 14 L9.c14 = true:=by kernel_rfl
theorem ok15 :@okFn env9 Try.prog 15 L9.c15 = true:=by kernel_rfl
theorem ok16 :@okFn env9 Try.prog 16 L9.c16 = true:=by kernel_rfl
theorem ok17 :@okFn env9 Try.prog 17 L9.c17 = true:=by kernel_rfl
theorem ok18 :@okFn env9 Try.prog 18 L9.c18 = true:=by kernel_rfl
theorem ok19 :@okFn env9 Try.prog 19 L9.c19 = true:=by kernel_rfl
theorem ok20 :@okFn env9 Try.prog 20 L9.c20 = true:=by kernel_rfl
theorem ok21 :@okFn env9 Try.prog 21 L9.c21 = true:=by kernel_rfl
theorem ok22 :@okFn env9 Try.prog 22 L9.c22 = true:=by kernel_rfl
theorem ok23 :@okFn env9 Try.prog 23 L9.c23 = true:=by kernel_rfl
theorem ok24 :@okFn env9 Try.prog 24 L9.c24 = true:=by kernel_rfl
theorem ok25 :@okFn env9 Try.prog 25 L9.c25 = true:=by kernel_rfl
theorem ok26 :@okFn env9 Try.prog 26 L9.c26 = true:=by kernel_rfl
theorem ok27 :@okFn env9 Try.prog 27 L9.c27 = true:=by kernel_rfl
theorem ok28 :@okFn env9 Try.prog 28 L9.c28 = true:=by kernel_rfl
theorem ok29 :@okFn env9 Try.prog 29 L9.c29 = true:=by kernel_rfl
theorem ok30 :@okFn env9 Try.prog 30 L9.c30 = true:=by kernel_rfl
theorem ok31 :@okFn env9 Try.prog 31 L9.c31 = true:=by kernel_rfl
theorem ok32 :@okFn env9 Try.prog 32 L9.c32 = true:=by kernel_rfl
theorem ok33 :@okFn env9 Try.prog 33 L9.c33 = true:=by kernel_rfl
theorem ok34 :@okFn env9 Try.prog 34 L9.c34 = true:=by kernel_rfl
theorem ok35 :@okFn env9 Try.prog 35 L9.c35 = true:=by kernel_rfl
theorem ok36 :@okFn env9 Try.prog 36 L9.c36 = true:=by kernel_rfl
theorem ok37 :@okFn env9 Try.prog 37 L9.c37 = true:=by kernel_rfl
theorem ok38 :@okFn env9 Try.prog 38 L9.c38 = true:=by kernel_rfl
theorem ok39 :@okFn env9 Try.prog 39 L9.c39 = true:=by kernel_rfl
theorem ok40 :@okFn env9 Try.prog 40 L9.c40 = true:=by kernel_rfl
theorem ok41 :@okFn env9 Try.prog 41 L9.c41 = true:=by kernel_rfl
theorem ok44 :@okFn env9 Try.prog 44 L9.c44 = true:=by kernel_rfl
theorem ok50 :@okFn env9 Try.prog 50 L9.c50 = true:=by kernel_rfl
theorem ok51 :@okFn env9 Try.prog 51 L9.c51 = true:=by kernel_rfl
theorem ok52 :@okFn env9 Try.prog 52 L9.c52 = true:=by kernel_rfl
theorem ok54 :@okFn env9 Try.prog 54 L9.c54 = true:=by kernel_rfl
theorem ok55 :@okFn env9 Try.prog 55 L9.c55 = true:=by kernel_rfl
theorem ok56 :@okFn env9 Try.prog 56 L9.c56 = true:=by kernel_rfl
theorem ok57 :@okFn env9 Try.prog 57 L9.c57 = true:=by kernel_rfl
theorem ok58 :@okFn env9 Try.prog 58 L9.c58 = true:=by kernel_rfl
theorem ok59 :@okFn env9 Try.prog 59 L9.c59 = true:=by kernel_rfl
theorem ok60 :@okFn env9 Try.prog 60 L9.c60 = true:=by kernel_rfl
theorem ok61 :@okFn env9 Try.prog 61 L9.c61 = true:=by kernel_rfl
theorem ok62 :@okFn env9 Try.prog 62 L9.c62 = true:=by kernel_rfl
theorem ok63 :@okFn env9 Try.prog 63 L9.c63 = true:=by kernel_rfl
theorem ok64 :@okFn env9 Try.prog 64 L9.c64 = true:=by kernel_rfl
theorem ok65 :@okFn env9 Try.prog 65 L9.c65 = true:=by kernel_rfl
theorem ok66 :@okFn env9 Try.prog 66 L9.c66 = true:=by kernel_rfl
theorem ok67 :@okFn env9 Try.prog 67 L9.c67 = true:=by kernel_rfl
theorem ok68 :@okFn env9 Try.prog 68 L9.c68 = true:=by kernel_rfl
theorem ok69 :@okFn env9 Try.prog 69 L9.c69 = true:=by kernel_rfl
theorem ok70 :@okFn env9 Try.prog 70 L9.c70 = true:=by kernel_rfl
theorem ok71 :@okFn env9 Try.prog 71 L9.c71 = true:=by kernel_rfl
theorem ok72 :@okFn env9 Try.prog 72 L9.c72 = true:=by kernel_rfl
theorem ok73 :@okFn env9 Try.prog 73 L9.c73 = true:=by kernel_rfl
theorem ok85 :@okFn env9 Try.prog 85 L9.c85 = true:=by kernel_rfl
theorem ok86 :@okFn env9 Try.prog 86 L9.c86 = true:=by kernel_rfl
theorem ok87 :@okFn env9 Try.prog 87 L9.c87 = true:=by kernel_rfl
theorem ok88 :@okFn env9 Try.prog 88 L9.c88 = true:=by kernel_rfl
theorem ok89 :@okFn env9 Try.prog 89 L9.c89 = true:=by kernel_rfl
theorem ok90 :@okFn env9 Try.prog 90 L9.c90 = true:=by kernel_rfl
theorem ok91 :@okFn env9 Try.prog 91 L9.c91 = true:=by kernel_rfl
theorem ok92 :@okFn env9 Try.prog 92 L9.c92 = true:=by kernel_rfl
theorem ok93 :@okFn env9 Try.prog 93 L9.c93 = true:=by kernel_rfl
theorem ok94 :@okFn env9 Try.prog 94 L9.c94 = true:=by kernel_rfl
theorem ok95 :@okFn env9 Try.prog 95 L9.c95 = true:=by kernel_rfl
theorem ok110 :@okFn env9 Try.prog 110 L9.c110 = true:=by kernel_rfl
theorem ok111 :@okFn env9 Try.prog 111 L9.c111 = true:=by kernel_rfl
theorem ok112 :@okFn env9 Try.prog 112 L9.c112 = true:=by kernel_rfl
end Go.Proofs.Ytbmicihfhfcpkaa
set_option linter.unusedVariables false
namespace Go.Proofs.Ytbmicihfhfcpkaa.U
open Go.Nac Go.Shelf Go.RowKit
theorem mixed:Try.prog.follows .mixedOrders = true:=by kernel_rfl
def XS (f:FuncId) (args:List PV) (M:List Blk) (r:PV) (M':List Blk):Prop :=
 f = 53 ∧ ∃ (i ver:Nat) (d:List Spn),d.length ≤ 1048576 ∧ M[i]? = some (.row true 2 ver (d.map Qh)) ∧ args = [.os i ver 0 d.length,.fn (.func 54) [] []] ∧ r = .tup [] ∧ M' = M.set i (.row true 2 ver ((srtL Vj d).map Qh))
theorem sortX:L9.SortX XS:=fun M i ver d h1 h2 => ⟨rfl,i,ver,d,h1,h2,rfl,rfl,rfl⟩
theorem okC:∀ f cf,L9.Fc f = some cf → @okFn env0 Try.prog f cf = true:=by
 intro f cf h
 unfold L9.Fc at h
 split at h
 ·cases h;kernel_rfl
 ·cases h;kernel_rfl
 ·cases h;kernel_rfl
 ·cases h
theorem xsOk:∀ f args M r M',XS f args M r M' → @Conc env9 Try.prog (.fn f) args M r M':=by
 letI:=env9
 rintro f args M r M' ⟨rfl,i,ver,d,h1,h2,rfl,rfl,rfl⟩
 have hc:CmpAt Try.prog 54 spnV Vj:=Qn7 mixed okC rfl (fun x v hv => by simp [spnV] at hv;rcases hv with rfl|rfl <;> rfl) (fun x y => L9.qc_compare x y [])
 exact QhI Try.sortCls (k:=2) Try.isAgg59 Try.sizeOf59 (enc:=spnV) (fun _ => rfl) (fun x v hv => by simp [spnV] at hv;rcases hv with rfl|rfl <;> rfl) (fun x v hv => by simp [spnV] at hv;rcases hv with rfl|rfl <;> rfl) Qbx (g:=54) (enters_of Try.func54 (by kernel_rfl) rfl) hc (by kernel_rfl) (by omega) h2
theorem okF:∀ f cf,L9.F f = some cf → @okFn env9 Try.prog f cf = true:=by
 intro f cf h
 unfold L9.F at h
 split at h
 ·cases h;exact ok4
 ·cases h;exact ok5
 ·cases h;exact ok10
 ·cases h;exact ok11
 ·cases h;exact ok12
 ·cases h;exact ok13
 ·cases h;exact ok14
 ·cases h;exact ok15
 ·cases h;exact ok16
 ·cases h;exact ok17
 ·cases h;exact ok18
 ·cases h;exact ok19
 ·cases h;exact ok20
 ·cases h;exact ok21
 ·cases h;exact ok22
 ·cases h;exact ok23
 ·cases h;exact ok24
 ·cases h;exact ok25
 ·cases h;exact ok26
 ·cases h;exact ok27
 ·cases h;exact ok28
 ·cases h;exact ok29
 ·cases h;exact ok30
 ·cases h;exact ok31
 ·cases h;exact ok32
 ·cases h;exact ok33
 ·cases h;exact ok34
 ·cases h;exact ok35
 ·cases h;exact ok36
 ·cases h;exact ok37
 ·cases h;exact ok38
 ·cases h;exact ok39
 ·cases h;exact ok40
 ·cases h;exact ok41
 ·cases h;exact ok44
 ·cases h;exact ok50
 ·cases h;exact ok51
 ·cases h;exact ok52
 ·cases h;exact ok54
 ·cases h;exact ok55
 ·cases h;exact ok56
 ·cases h;exact ok57
 ·cases h;exact ok58
 ·cases h;exact ok59
 ·cases h;exact ok60
 ·cases h;exact ok61
 ·cases h;exact ok62
 ·cases h;exact ok63
 ·cases h;exact ok64
 ·cases h;exact ok65
 ·cases h;exact ok66
 ·cases h;exact ok67
 ·cases h;exact ok68
 ·cases h;exact ok69
 ·cases h;exact ok70
 ·cases h;exact ok71
 ·cases h;exact ok72
 ·cases h;exact ok73
 ·cases h;exact ok85
 ·cases h;exact ok86
 ·cases h;exact ok87
 ·cases h;exact ok88
 ·cases h;exact ok89
 ·cases h;exact ok90
 ·cases h;exact ok91
 ·cases h;exact ok92
 ·cases h;exact ok93
 ·cases h;exact ok94
 ·cases h;exact ok95
 ·cases h;exact ok110
 ·cases h;exact ok111
 ·cases h;exact ok112
 ·cases h
end Go.Proofs.Ytbmicihfhfcpkaa.U
