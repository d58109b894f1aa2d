/- The library's texts at this program. -/
import Derived.Test.YtcbfjgpdogcdbaaGreatDoorW10
import Derived.Shelf.Strings.OnBuilder
import Derived.Shelf.LaysM
import Derived.Shelf.Strconv.Itoa3
import Derived.Shelf.SlSortCmp.WholeK
import Derived.Test.YtcbfjgpdogcdbaaGreatDoorProg
import Derived.Test.YtcbfjgpdogcdbaaGreatDoorChecked
import Derived.KernelRfl
import Derived.Test.YtcbfjgpdogcdbaaGreatDoorRows
import Derived.Lay
import Derived.Stop.LaidErr
import Derived.Shelf.Vars
import Derived.Test.YtcbfjgpdogcdbaaGreatDoorCards
import Derived.Test.YtcbfjgpdogcdbaaGreatDoorTie
import Derived.WalkKit
import Derived.ProofKit
import Derived.OpenShut
import Derived.ShutString
import Derived.ChangeOld
import Derived.Below
import Derived.SizedLaws
import Derived.LaidMore
import Derived.Stop.Joined
import Derived.SevenTiedAt
import Derived.MakeChecks
namespace Go.Proofs
open Go.Shelf
def Tryz.lays156_ren:Go.Shelf.Ren:=⟨fun|156 => 61|165 => 80|166 => 81|169 => 82|240 => 95|241 => 96|276 => 110|277 => 111|n => n,fun|31 => 122|9 => 9|3 => 3|4 => 4|0 => 0|20 => 20|72 => 153|76 => 157|70 => 151|37 => 36|75 => 156|127 => 172|164 => 185|5 => 5|80 => 159|n => n,fun|n => n⟩
theorem Tryz.lays156:Go.Proofs.Lays.n156 Tryz.prog Tryz.lays156_ren:={
 mixed:=by kernel_rfl
 f156:=Tryz.func61.trans (congrArg some (by kernel_rfl))
 f165:=Tryz.func80.trans (congrArg some (by kernel_rfl))
 f166:=Tryz.func81.trans (congrArg some (by kernel_rfl))
 f169:=Tryz.func82.trans (congrArg some (by kernel_rfl))
 f240:=Tryz.func95.trans (congrArg some (by kernel_rfl))
 f241:=Tryz.func96.trans (congrArg some (by kernel_rfl))
 f276:=Tryz.func110.trans (congrArg some (by kernel_rfl))
 f277:=Tryz.func111.trans (congrArg some (by kernel_rfl))
 t0:=Tryz.underlying0
 a0:=Tryz.isAgg0
 z0:=Tryz.sizeOf0
 v0:=Tryz.zeroValue0
 t3:=Tryz.underlying3
 a3:=Tryz.isAgg3
 z3:=Tryz.sizeOf3
 v3:=Tryz.zeroValue3
 t4:=Tryz.underlying4
 a4:=Tryz.isAgg4
 z4:=Tryz.sizeOf4
 v4:=Tryz.zeroValue4
 t9:=Tryz.underlying9
 a9:=Tryz.isAgg9
 z9:=Tryz.sizeOf9
 v9:=Tryz.zeroValue9
 t20:=Tryz.underlying20
 a20:=Tryz.isAgg20
 z20:=Tryz.sizeOf20
 v20:=Tryz.zeroValue20
 t31:=Tryz.underlying122
 a31:=Tryz.isAgg122
 z31:=Tryz.sizeOf122
 v31:=Tryz.zeroValue122
 t37:=Tryz.underlying36
 a37:=Tryz.isAgg36
 z37:=Tryz.sizeOf36
 v37:=Tryz.zeroValue36
 t70:=Tryz.underlying151
 a70:=Tryz.isAgg151
 z70:=Tryz.sizeOf151
 v70:=Tryz.zeroValue151
 t72:=Tryz.underlying153
 a72:=Tryz.isAgg153
 z72:=Tryz.sizeOf153
 v72:=Tryz.zeroValue153
 t75:=Tryz.underlying156
 a75:=Tryz.isAgg156
 z75:=Tryz.sizeOf156
 v75:=Tryz.zeroValue156
 t76:=Tryz.underlying157
 a76:=Tryz.isAgg157
 z76:=Tryz.sizeOf157
 v76:=Tryz.zeroValue157
 t127:=Tryz.underlying172
 a127:=Tryz.isAgg172
 z127:=Tryz.sizeOf172
 v127:=Tryz.zeroValue172
 t164:=Tryz.underlying185
 a164:=Tryz.isAgg185
 z164:=Tryz.sizeOf185
 v164:=Tryz.zeroValue185 }
theorem Tryz.Builder_Extra_156:Builder.Extra Tryz.prog Tryz.lays156_ren:={
 sizeBuilder:=by kernel_rfl
 liesBuilder:=by kernel_rfl
 t5:=Tryz.underlying5
 a5:=Tryz.isAgg5
 z5:=Tryz.sizeOf5
 v5:=Tryz.zeroValue5
 infoByte:=by kernel_rfl
 cellsByte:=by kernel_rfl
 sizeByte:=by kernel_rfl
 neB5:=by decide }
def Tryz.laysM171_ren:Go.Shelf.Ren:=⟨fun|171 => 60|243 => 79|246 => 94|283 => 106|284 => 107|285 => 108|286 => 109|129 => 134|317 => 135|318 => 136|319 => 137|320 => 138|337 => 158|338 => 159|n => n,fun|3 => 3|9 => 9|2 => 2|4 => 4|171 => 179|0 => 0|53 => 180|37 => 36|5 => 5|173 => 183|212 => 206|51 => 97|20 => 20|213 => 207|46 => 95|232 => 238|233 => 239|n => n,fun|17 => 3|18 => 6|19 => 7|n => n⟩
theorem Tryz.laysM171:Go.Proofs.LaysM.n171 Tryz.prog Tryz.laysM171_ren:={
 mixed:=by kernel_rfl
 f129:=Tryz.func134.trans (congrArg some (by kernel_rfl))
 f171:=Tryz.func60.trans (congrArg some (by kernel_rfl))
 f243:=Tryz.func79.trans (congrArg some (by kernel_rfl))
 f246:=Tryz.func94.trans (congrArg some (by kernel_rfl))
 f283:=Tryz.func106.trans (congrArg some (by kernel_rfl))
 f284:=Tryz.func107.trans (congrArg some (by kernel_rfl))
 f285:=Tryz.func108.trans (congrArg some (by kernel_rfl))
 f286:=Tryz.func109.trans (congrArg some (by kernel_rfl))
 f317:=Tryz.func135.trans (congrArg some (by kernel_rfl))
 f318:=Tryz.func136.trans (congrArg some (by kernel_rfl))
 f319:=Tryz.func137.trans (congrArg some (by kernel_rfl))
 f320:=Tryz.func138.trans (congrArg some (by kernel_rfl))
 f337:=Tryz.func158.trans (congrArg some (by kernel_rfl))
 f338:=Tryz.func159.trans (congrArg some (by kernel_rfl))
 t0:=Tryz.underlying0
 a0:=Tryz.isAgg0
 z0:=Tryz.sizeOf0
 v0:=Tryz.zeroValue0
 t2:=Tryz.underlying2
 a2:=Tryz.isAgg2
 z2:=Tryz.sizeOf2
 v2:=Tryz.zeroValue2
 t3:=Tryz.underlying3
 a3:=Tryz.isAgg3
 z3:=Tryz.sizeOf3
 v3:=Tryz.zeroValue3
 t4:=Tryz.underlying4
 a4:=Tryz.isAgg4
 z4:=Tryz.sizeOf4
 v4:=Tryz.zeroValue4
 t5:=Tryz.underlying5
 a5:=Tryz.isAgg5
 z5:=Tryz.sizeOf5
 v5:=Tryz.zeroValue5
 t9:=Tryz.underlying9
 a9:=Tryz.isAgg9
 z9:=Tryz.sizeOf9
 v9:=Tryz.zeroValue9
 t20:=Tryz.underlying20
 a20:=Tryz.isAgg20
 z20:=Tryz.sizeOf20
 v20:=Tryz.zeroValue20
 t37:=Tryz.underlying36
 a37:=Tryz.isAgg36
 z37:=Tryz.sizeOf36
 v37:=Tryz.zeroValue36
 t46:=Tryz.underlying95
 a46:=Tryz.isAgg95
 z46:=Tryz.sizeOf95
 v46:=Tryz.zeroValue95
 t51:=Tryz.underlying97
 a51:=Tryz.isAgg97
 z51:=Tryz.sizeOf97
 v51:=Tryz.zeroValue97
 t53:=Tryz.underlying180
 a53:=Tryz.isAgg180
 z53:=Tryz.sizeOf180
 v53:=Tryz.zeroValue180
 t171:=Tryz.underlying179
 a171:=Tryz.isAgg179
 z171:=Tryz.sizeOf179
 v171:=Tryz.zeroValue179
 t173:=Tryz.underlying183
 a173:=Tryz.isAgg183
 z173:=Tryz.sizeOf183
 v173:=Tryz.zeroValue183
 t212:=Tryz.underlying206
 a212:=Tryz.isAgg206
 z212:=Tryz.sizeOf206
 v212:=Tryz.zeroValue206
 t213:=Tryz.underlying207
 a213:=Tryz.isAgg207
 z213:=Tryz.sizeOf207
 t232:=Tryz.underlying238
 a232:=Tryz.isAgg238
 z232:=Tryz.sizeOf238
 v232:=Tryz.zeroValue238
 t233:=Tryz.underlying239
 a233:=Tryz.isAgg239
 z233:=Tryz.sizeOf239
 v233:=Tryz.zeroValue239
 g17:=by kernel_rfl
 g18:=by kernel_rfl
 g19:=by kernel_rfl
 i0:=by kernel_rfl
 i2:=by kernel_rfl
 i3:=by kernel_rfl
 i4:=by kernel_rfl
 i5:=by kernel_rfl
 i9:=by kernel_rfl
 i20:=by kernel_rfl
 i37:=by kernel_rfl
 i46:=by kernel_rfl
 i51:=by kernel_rfl
 i53:=by kernel_rfl
 i171:=by kernel_rfl
 i173:=by kernel_rfl
 i212:=by kernel_rfl
 i232:=by kernel_rfl
 i233:=by kernel_rfl
 m17:=by kernel_rfl
 m18:=by kernel_rfl
 m19:=by kernel_rfl }
def Tryz.sortSpn_ren:Go.Shelf.Ren:=⟨fun|6 => 91|15 => 105|14 => 104|28 => 133|29 => 134|20 => 125|21 => 126|22 => 127|23 => 128|24 => 129|25 => 130|26 => 131|27 => 132|46 => 153|47 => 154|48 => 155|49 => 156|50 => 157|57 => 168|n => n,fun|22 => 23|24 => 35|25 => 144|3 => 3|39 => 95|0 => 0|53 => 97|55 => 180|4 => 4|46 => 198|45 => 197|50 => 202|5 => 5|9 => 9|66 => 221|70 => 225|76 => 235|77 => 236|n => n,fun|n => n⟩
theorem Tryz.sortSpn:Go.Proofs.SlLaysF0.n6 Tryz.prog Tryz.sortSpn_ren:={
 mixed:=by kernel_rfl
 f6:=⟨Tryz.f91.name,by decide,Tryz.func91.trans (congrArg some (by kernel_rfl))⟩
 f14:=⟨Tryz.f104.name,by decide,Tryz.func104.trans (congrArg some (by kernel_rfl))⟩
 f15:=Tryz.func105.trans (congrArg some (by kernel_rfl))
 f20:=⟨Tryz.f125.name,by decide,Tryz.func125.trans (congrArg some (by kernel_rfl))⟩
 f21:=⟨Tryz.f126.name,by decide,Tryz.func126.trans (congrArg some (by kernel_rfl))⟩
 f22:=⟨Tryz.f127.name,by decide,Tryz.func127.trans (congrArg some (by kernel_rfl))⟩
 f23:=⟨Tryz.f128.name,by decide,Tryz.func128.trans (congrArg some (by kernel_rfl))⟩
 f24:=⟨Tryz.f129.name,by decide,Tryz.func129.trans (congrArg some (by kernel_rfl))⟩
 f25:=⟨Tryz.f130.name,by decide,Tryz.func130.trans (congrArg some (by kernel_rfl))⟩
 f26:=⟨Tryz.f131.name,by decide,Tryz.func131.trans (congrArg some (by kernel_rfl))⟩
 f27:=⟨Tryz.f132.name,by decide,Tryz.func132.trans (congrArg some (by kernel_rfl))⟩
 f28:=Tryz.func133.trans (congrArg some (by kernel_rfl))
 f29:=Tryz.func134.trans (congrArg some (by kernel_rfl))
 f46:=⟨Tryz.f153.name,by decide,Tryz.func153.trans (congrArg some (by kernel_rfl))⟩
 f47:=Tryz.func154.trans (congrArg some (by kernel_rfl))
 f48:=Tryz.func155.trans (congrArg some (by kernel_rfl))
 f49:=⟨Tryz.f156.name,by decide,Tryz.func156.trans (congrArg some (by kernel_rfl))⟩
 f50:=⟨Tryz.f157.name,by decide,Tryz.func157.trans (congrArg some (by kernel_rfl))⟩
 f57:=⟨Tryz.f168.name,by decide,Tryz.func168.trans (congrArg some (by kernel_rfl))⟩
 t0:=Tryz.underlying0
 a0:=Tryz.isAgg0
 z0:=Tryz.sizeOf0
 v0:=Tryz.zeroValue0
 t3:=Tryz.underlying3
 a3:=Tryz.isAgg3
 z3:=Tryz.sizeOf3
 v3:=Tryz.zeroValue3
 t4:=Tryz.underlying4
 a4:=Tryz.isAgg4
 z4:=Tryz.sizeOf4
 v4:=Tryz.zeroValue4
 t5:=Tryz.underlying5
 a5:=Tryz.isAgg5
 z5:=Tryz.sizeOf5
 v5:=Tryz.zeroValue5
 t9:=Tryz.underlying9
 a9:=Tryz.isAgg9
 z9:=Tryz.sizeOf9
 v9:=Tryz.zeroValue9
 t22:=Tryz.underlying23
 a22:=Tryz.isAgg23
 z22:=Tryz.sizeOf23
 v22:=Tryz.zeroValue23
 t25:=Tryz.underlying144
 a25:=Tryz.isAgg144
 z25:=Tryz.sizeOf144
 v25:=Tryz.zeroValue144
 t39:=Tryz.underlying95
 a39:=Tryz.isAgg95
 z39:=Tryz.sizeOf95
 v39:=Tryz.zeroValue95
 t45:=Tryz.underlying197
 a45:=Tryz.isAgg197
 z45:=Tryz.sizeOf197
 v45:=Tryz.zeroValue197
 t46:=Tryz.underlying198
 a46:=Tryz.isAgg198
 z46:=Tryz.sizeOf198
 v46:=Tryz.zeroValue198
 t50:=Tryz.underlying202
 a50:=Tryz.isAgg202
 z50:=Tryz.sizeOf202
 v50:=Tryz.zeroValue202
 t53:=Tryz.underlying97
 a53:=Tryz.isAgg97
 z53:=Tryz.sizeOf97
 v53:=Tryz.zeroValue97
 t55:=Tryz.underlying180
 a55:=Tryz.isAgg180
 z55:=Tryz.sizeOf180
 v55:=Tryz.zeroValue180
 t66:=Tryz.underlying221
 a66:=Tryz.isAgg221
 z66:=Tryz.sizeOf221
 v66:=Tryz.zeroValue221
 t70:=Tryz.underlying225
 a70:=Tryz.isAgg225
 z70:=Tryz.sizeOf225
 v70:=Tryz.zeroValue225
 t76:=Tryz.underlying235
 a76:=Tryz.isAgg235
 z76:=Tryz.sizeOf235
 v76:=Tryz.zeroValue235
 t77:=Tryz.underlying236
 a77:=Tryz.isAgg236
 z77:=Tryz.sizeOf236
 v77:=Tryz.zeroValue236 }
end Go.Proofs
set_option maxRecDepth 100000
namespace Go.Proofs.YtcbfjgpdogcdbaaGreatDoor
open Go.Nac
abbrev envT:Env:=⟨fun|3 => some (Go.Lib.pow10Tab.map (.int .u64))|_ => none,False⟩
theorem ok3:@okFn envT Tryz.prog 3 L6.c3 = true:=by kernel_rfl
theorem ok5:@okFn envT Tryz.prog 5 L6.c5 = true:=by kernel_rfl
theorem ok6:@okFn envT Tryz.prog 6 L6.c6 = true:=by kernel_rfl
theorem ok7:@okFn envT Tryz.prog 7 L6.c7 = true:=by kernel_rfl
theorem ok8:@okFn envT Tryz.prog 8 L6.c8 = true:=by kernel_rfl
theorem ok9:@okFn envT Tryz.prog 9 L6.c9 = true:=by kernel_rfl
theorem ok10:@okFn envT Tryz.prog 10 L6.c10 = true:=by kernel_rfl
theorem ok11:@okFn envT Tryz.prog 11 L6.c11 = true:=by kernel_rfl
theorem ok12:@okFn envT Tryz.prog 12 L6.c12 = true:=by kernel_rfl
theorem ok13:@okFn envT Tryz.prog 13 L6.c13 = true:=by kernel_rfl
theorem ok14:@okFn envT Tryz.prog 14 L6.c14 = true:=by kernel_rfl
theorem ok15:@okFn envT Tryz.prog 15 L6.c15 = true:=by kernel_rfl
theorem ok16:@okFn envT Tryz.prog 16 L6.c16 = true:=by kernel_rfl
theorem ok17:@okFn envT Tryz.prog 17 L6.c17 = true:=by kernel_rfl
theorem ok21:@okFn envT Tryz.prog 21 L6.c21 = true:=by kernel_rfl
theorem ok23:@okFn envT Tryz.prog 23 L6.c23 = true:=by kernel_rfl
theorem ok31:@okFn envT Tryz.prog 31 L6.c31 = true:=by kernel_rfl
theorem ok32:@okFn envT Tryz.prog 32 L6.c32 = true:=by kernel_rfl
theorem ok33:@okFn envT Tryz.prog 33 L6.c33 = true:=by kernel_rfl
theorem ok34:@okFn envT Tryz.prog 34 L6.c34 = true:=by kernel_rfl
theorem ok35:@okFn envT Tryz.prog 35 L6.c35 = true:=by kernel_rfl
theorem ok36:@okFn envT Tryz.prog 36 L6.c36 = true:=by kernel_rfl
theorem ok37:@okFn envT Tryz.prog 37 L6.c37 = true:=by kernel_rfl
theorem ok38:@okFn envT Tryz.prog 38 L6.c38 = true:=by kernel_rfl
theorem ok40:@okFn envT Tryz.prog 40 L6.c40 = true:=by kernel_rfl
theorem ok41:@okFn envT Tryz.prog 41 L6.c41 = true:=by kernel_rfl
theorem ok42:@okFn envT Tryz.prog 42 L6.c42 = true:=by kernel_rfl
theorem ok43:@okFn envT Tryz.prog 43 L6.c43 = true:=by kernel_rfl
theorem ok45:@okFn envT Tryz.prog 45 L6.c45 = true:=by kernel_rfl
theorem ok46:@okFn envT Tryz.prog 46 L6.c46 = true:=by kernel_rfl
theorem ok47:@okFn envT Tryz.prog 47 L6.c47 = true:=by kernel_rfl
theorem ok48:@okFn envT Tryz.prog 48 L6.c48 = true:=by kernel_rfl
theorem ok49:@okFn envT Tryz.prog 49 L6.c49 = true:=by kernel_rfl
theorem ok50:@okFn envT Tryz.prog 50 L6.c50 = true:=by kernel_rfl
theorem ok51:@okFn envT Tryz.prog 51 L6.c51 = true:=by kernel_rfl
theorem ok52:@okFn envT Tryz.prog 52 L6.c52 = true:=by kernel_rfl
theorem ok53:@okFn envT Tryz.prog 53 L6.c53 = true:=by kernel_rfl
theorem ok54:@okFn envT Tryz.prog 54 L6.c54 = true:=by kernel_rfl
theorem ok55:@okFn envT Tryz.prog 55 L6.c55 = true:=by kernel_rfl
theorem ok56:@okFn envT Tryz.prog 56 L6.c56 = true:=by kernel_rfl
theorem ok57:@okFn envT Tryz.prog 57 L6.c57 = true:=by kernel_rfl
theorem ok58:@okFn envT Tryz.prog 58 L6.c58 = true:=by kernel_rfl
theorem ok59:@okFn envT Tryz.prog 59 L6.c59 = true:=by kernel_rfl
theorem ok65:@okFn envT Tryz.prog 65 L6.c65 = true:=by kernel_rfl
theorem ok66:@okFn envT Tryz.prog 66 L6.c66 = true:=by kernel_rfl
theorem ok67:@okFn envT Tryz.prog 67 L6.c67 = true:=by kernel_rfl
theorem ok68:@okFn envT Tryz.prog 68 L6.c68 = true:=by kernel_rfl
theorem ok69:@okFn envT Tryz.prog 69 L6.c69 = true:=by kernel_rfl
theorem ok70:@okFn envT Tryz.prog 70 L6.c70 = true:=by kernel_rfl
theorem ok71:@okFn envT Tryz.prog 71 L6.c71 = true:=by kernel_rfl
theorem ok72:@okFn envT Tryz.prog 72 L6.c72 = true:=by kernel_rfl
theorem ok73:@okFn envT Tryz.prog 73 L6.c73 = true:=by kernel_rfl
theorem ok74:@okFn envT Tryz.prog 74 L6.c74 = true:=by kernel_rfl
theorem ok75:@okFn envT Tryz.prog 75 L6.c75 = true:=by kernel_rfl
theorem ok76:@okFn envT Tryz.prog 76 L6.c76 = true:=by kernel_rfl
theorem ok77:@okFn envT Tryz.prog 77 L6.c77 = true:=by kernel_rfl
theorem ok78:@okFn envT Tryz.prog 78 L6.c78 = true:=by kernel_rfl
theorem ok87:@okFn envT Tryz.prog 87 L6.c87 = true:=by kernel_rfl
theorem ok88:@okFn envT Tryz.prog 88 L6.c88 = true:=by kernel_rfl
theorem ok89:@okFn envT Tryz.prog 89 L6.c89 = true:=by kernel_rfl
theorem ok90:@okFn envT Tryz.prog 90 L6.c90 = true:=by kernel_rfl
theorem ok92:@okFn envT Tryz.prog 92 L6.c92 = true:=by kernel_rfl
theorem ok93:@okFn envT Tryz.prog 93 L6.c93 = true:=by kernel_rfl
theorem ok103:@okFn envT Tryz.prog 103 L6.c103 = true:=by kernel_rfl
end Go.Proofs.YtcbfjgpdogcdbaaGreatDoor
set_option linter.unusedVariables false
namespace Go.Proofs.YtcbfjgpdogcdbaaGreatDoor
open Go.Nac Go.Shelf
theorem mixed:Tryz.prog.follows .mixedOrders = true:=by kernel_rfl
def XS (f:FuncId) (args:List PV) (M:List Blk) (r:PV) (M':List Blk):Prop :=
 (f = 91 ∧ ∃ (i ver:Nat) (d:List Spn),d.length ≤ 1048576 ∧ M[i]? = some (.row true 2 ver (d.map Qa)) ∧ args = [.os i ver 0 d.length,.fn (.func 72) [] []] ∧ r = .tup [] ∧ M' = M.set i (.row true 2 ver ((srtL Q0 d).map Qa))) ∨
 (f = 60 ∧ M' = M ∧ ∃ n:Int,-9223372036854775808 ≤ n ∧ n ≤ 9223372036854775807 ∧ args = [.I n] ∧ r = .s (.string (itoaB n))) ∨
 (f = 61 ∧ M' = M ∧ ∃ l:List ByteArray,l.length ≤ 64 ∧ (∀ s ∈ l,s.size ≤ 200) ∧ args = [.fs (l.map L6.encStr),.s (.string ⟨#[]⟩)] ∧ r = .s (.string (joinB l))) ∨
 (f = 39 ∧ M' = M ∧ ∃ b:Nat,args = [.s (.float .f32 b)] ∧ r = .s (.int .u32 b)) ∨
 (f = 101 ∧ M' = M ∧ ∃ (x:Nat) (s:Bool) (m:Nat) (l:Int),Ieee.double.read x = .number s m l ∧ args = [.s (.float .f64 x)] ∧ r = .s (.float .f64 (Ieee.double.write ((Ieee.double.read x).integral .down)))) ∨
 (f = 44 ∧ M' = M ∧ ∃ u:Nat,args = [.s (.int .u32 u)] ∧ r = .s (.float .f32 u))
theorem sortX:L6.SortX XS:=fun M i ver d h1 h2 => .inl ⟨rfl,i,ver,d,h1,h2,rfl,rfl,rfl⟩
theorem itoaX:L6.ItoaX XS:=fun n M h1 h2 => .inr (.inl ⟨rfl,rfl,n,h1,h2,rfl,rfl⟩)
theorem joinX:L6.JoinX XS:=fun l M h1 h2 => .inr (.inr (.inl ⟨rfl,rfl,l,h1,h2,rfl,rfl⟩))
theorem Qit:L6.FbitsX XS:=fun b M => .inr (.inr (.inr (.inl ⟨rfl,rfl,b,rfl,rfl⟩)))
theorem Qpr:L6.FloorX XS:=fun x s m l M h => .inr (.inr (.inr (.inr (.inl ⟨rfl,rfl,x,s,m,l,h,rfl,rfl⟩))))
theorem Qjt:L6.FrombX XS:=fun u M => .inr (.inr (.inr (.inr (.inr ⟨rfl,rfl,u,rfl,rfl⟩))))
theorem okC:∀ f cf,L6.Fc f = some cf → @okFn env0 Tryz.prog f cf = true:=by
 intro f cf h
 unfold L6.Fc at h
 split at h
 ·cases h;kernel_rfl
 ·cases h;kernel_rfl
 ·cases h;kernel_rfl
 ·cases h
theorem xsOk:∀ f args M r M',XS f args M r M' → @Conc envT Tryz.prog (.fn f) args M r M':=by
 letI:=envT
 rintro f args M r M' (⟨rfl,i,ver,d,h1,h2,rfl,rfl,rfl⟩|⟨rfl,rfl,n,h1,h2,rfl,rfl⟩|⟨rfl,rfl,l,h1,h2,rfl,rfl⟩|⟨rfl,rfl,b,rfl,rfl⟩|⟨rfl,rfl,x,s,m0,l,h,rfl,rfl⟩|⟨rfl,rfl,u,rfl,rfl⟩)
 ·have hc:CmpAt Tryz.prog 72 spnV Q0:=Qqd mixed okC rfl (fun x v hv => by simp [spnV] at hv;rcases hv with rfl|rfl <;> rfl) (fun x y => L6.qc_canon x y [])
  exact Qjs Tryz.sortSpn (k:=2) Tryz.isAgg35 Tryz.sizeOf35 (enc:=spnV) (fun _ => rfl) (fun x v hv => by simp [spnV] at hv;rcases hv with rfl|rfl <;> rfl) (fun x v hv => by simp [spnV] at hv;rcases hv with rfl|rfl <;> rfl) Qb4 (g:=72) (enters_of Tryz.func72 (by kernel_rfl) rfl) hc (by kernel_rfl) (by omega) h2
 ·exact Qj8 Tryz.laysM171 (by kernel_rfl) (enters_of Tryz.func60 (by kernel_rfl) rfl) (g:=3) (by kernel_rfl) rfl h1 h2
 ·have hz:=Qco h1 h2
  have e:(joinB l).size = (Lib.join (l.map (·.data.toList)) []).length:=by unfold joinB;rw [show (⟨(Lib.join (l.map (·.data.toList)) []).toArray⟩:ByteArray).size = (Lib.join (l.map (·.data.toList)) []).toArray.size from rfl,List.size_toArray]
  exact QiN Tryz.lays156 Tryz.Builder_Extra_156 (fun h => h) (by kernel_rfl) (enters_of Tryz.func61 (by kernel_rfl) rfl) (xs:=l) (sep:=⟨#[]⟩) (by omega) (by show (Lib.join (l.map (·.data.toList)) []).length ≤ _;omega)
 ·exact Qhv Tryz.func39 (by kernel_rfl) (by kernel_rfl) (by kernel_rfl) rfl b _
 ·exact QhC Tryz.func101 (by kernel_rfl) (by kernel_rfl) (by kernel_rfl) rfl h _
 ·exact QdO Tryz.func44 (by kernel_rfl) (by kernel_rfl) (by kernel_rfl) rfl u _
end Go.Proofs.YtcbfjgpdogcdbaaGreatDoor
namespace Go.Proofs.YtcbfjgpdogcdbaaGreatDoor
open Go.ChangeShapes Go.WideShapes Go.ChangeAt Go.RowKit Go.Nac
def lst : List (String × DataW Unit) := [("math/bits.deBruijn32tab", Rows.laid_math_bits_deBruijn32tab), ("math/bits.deBruijn64tab", Rows.laid_math_bits_deBruijn64tab), ("internal/strconv.uint64pow10", Rows.laid_internal_strconv_uint64pow10)]
noncomputable def door (os:Os):World:=World.laidAll Tryz.prog os lst
theorem QkG (os:Os) (args:Array Value):laidMetH Tryz.prog lst ((door os).forCall (fun _ _ => 0) ⟨#[],args,[]⟩).memory:=by
 rw [MakeChecks.laidMetH_plain _ _ _ (by kernel_rfl)]
 exact laidMet_laidAll args (by kernel_rfl) (by kernel_rfl)
theorem gPow : Tryz.prog.globalNamed "internal/strconv.uint64pow10" = some 3 := by kernel_rfl
theorem tPow:(Tryz.prog.globals[3]?).map (·.type) = some 206:=by kernel_rfl
theorem QmN {g n:Nat} {a b:List MemPlace} (h:0 < n):MemPlace.cell g 0 ∈ MemPlace.row ⟨g,0,none⟩ n ++ a ++ b:=by
 refine List.mem_append.2 (.inl (List.mem_append.2 (.inl ?_)))
 exact List.mem_map.2 ⟨0,List.mem_range.2 h,rfl⟩
theorem QmO {W:World} (h:laidMetH Tryz.prog lst W):∀ g cs,@Env.glb envT g = some cs → ∃ el,W.heap[g]? = some (.cells cs.toArray el (0,0)):=by
 rw [MakeChecks.laidMetH_plain _ _ _ (by kernel_rfl)] at h
 obtain ⟨ps,⟨g0,t0,cs0,f0,p0,q0,_,_,_,_,⟨g1,t1,cs1,f1,p1,q1,_,_,_,_,⟨g2,t2,cs2,f2,p2,q2,hg2,ht2,hv2,hd2,hq2,e2⟩,e1⟩,e0⟩,_,hp⟩:=h
 obtain rfl:=Option.some.inj (gPow.symm.trans hg2)
 obtain rfl:=Option.some.inj (tPow.symm.trans ht2)
 have c2:cs2.toList = Go.Lib.pow10Tab.map (.int .u64):=QlQ (zs:=Go.Lib.pow10Tab) Tryz.underlying206 Tryz.underlying180 (by kernel_rfl) (by kernel_rfl) rfl hd2
 have z2:0 < cs2.size:=by rw [← Array.length_toList,c2];decide
 have m2:MemPlace.cell 3 0 ∈ q1:=by rw [e2];exact QmN z2
 have n2:MemPlace.cell 3 0 ∈ ps:=by
  rw [e0];refine List.mem_append.2 (.inr ?_)
  rw [e1];exact List.mem_append.2 (.inr m2)
 have h3:=Qk7 gPow hv2 (hp 3 0 n2).1
 intro g cs hg
 rcases g with _|_|_|_|g
 ·cases hg
 ·cases hg
 ·cases hg
 ·cases hg
  have:cs2 = (Go.Lib.pow10Tab.map (.int .u64)).toArray:=by rw [← c2]
  rw [this] at h3;exact h3
 ·cases hg
theorem okF:∀ f cf,L6.F f = some cf → @okFn envT Tryz.prog f cf = true:=by
 intro f cf h
 unfold L6.F at h
 split at h
 ·cases h;exact ok3
 ·cases h;exact ok5
 ·cases h;exact ok6
 ·cases h;exact ok7
 ·cases h;exact ok8
 ·cases h;exact ok9
 ·cases h;exact ok10
 ·cases h;exact ok11
 ·cases h;exact ok12
 ·cases h;exact ok13
 ·cases h;exact ok14
 ·cases h;exact ok15
 ·cases h;exact ok16
 ·cases h;exact ok17
 ·cases h;exact ok21
 ·cases h;exact ok23
 ·cases h;exact ok31
 ·cases h;exact ok32
 ·cases h;exact ok33
 ·cases h;exact ok34
 ·cases h;exact ok35
 ·cases h;exact ok36
 ·cases h;exact ok37
 ·cases h;exact ok38
 ·cases h;exact ok40
 ·cases h;exact ok41
 ·cases h;exact ok42
 ·cases h;exact ok43
 ·cases h;exact ok45
 ·cases h;exact ok46
 ·cases h;exact ok47
 ·cases h;exact ok48
 ·cases h;exact ok49
 ·cases h;exact ok50
 ·cases h;exact ok51
 ·cases h;exact ok52
 ·cases h;exact ok53
 ·cases h;exact ok54
 ·cases h;exact ok55
 ·cases h;exact ok56
 ·cases h;exact ok57
 ·cases h;exact ok58
 ·cases h;exact ok59
 ·cases h;exact ok65
 ·cases h;exact ok66
 ·cases h;exact ok67
 ·cases h;exact ok68
 ·cases h;exact ok69
 ·cases h;exact ok70
 ·cases h;exact ok71
 ·cases h;exact ok72
 ·cases h;exact ok73
 ·cases h;exact ok74
 ·cases h;exact ok75
 ·cases h;exact ok76
 ·cases h;exact ok77
 ·cases h;exact ok78
 ·cases h;exact ok87
 ·cases h;exact ok88
 ·cases h;exact ok89
 ·cases h;exact ok90
 ·cases h;exact ok92
 ·cases h;exact ok93
 ·cases h;exact ok103
 ·cases h
end Go.Proofs.YtcbfjgpdogcdbaaGreatDoor
