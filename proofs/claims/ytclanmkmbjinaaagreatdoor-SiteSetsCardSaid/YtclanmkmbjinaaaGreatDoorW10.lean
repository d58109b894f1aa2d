/- The library's texts at this program. -/
import Derived.Test.YtclanmkmbjinaaaGreatDoorW09
import Derived.Shelf.Strings.OnBuilder
import Derived.Shelf.LaysM
import Derived.Shelf.Strconv.Itoa3
import Derived.Shelf.SlSortCmp.WholeK
import Derived.Test.YtclanmkmbjinaaaGreatDoorProg
import Derived.Test.YtclanmkmbjinaaaGreatDoorChecked
import Derived.KernelRfl
import Derived.Test.YtclanmkmbjinaaaGreatDoorRows
import Derived.Test.YtclanmkmbjinaaaGreatDoorCards
import Derived.Test.YtclanmkmbjinaaaGreatDoorTie
import Derived.WalkKit
import Derived.ProofKit
import Derived.OpenShut
import Derived.ShutString
import Derived.ChangeOld
import Derived.Below
import Derived.SizedLaws
import Derived.LaidMore
import Derived.Stop.Joined
import Derived.SevenTiedAt
import Derived.MakeChecks
namespace Go.Proofs
open Go.Shelf
def Tryz.lays156_ren:Go.Shelf.Ren:=⟨fun|156 => 141|165 => 158|166 => 159|169 => 160|240 => 173|241 => 174|276 => 189|277 => 190|n => n,fun|31 => 149|9 => 9|3 => 3|4 => 4|0 => 0|20 => 20|72 => 217|76 => 221|70 => 215|37 => 133|75 => 220|127 => 238|164 => 252|5 => 5|80 => 223|n => n,fun|n => n⟩
theorem Tryz.lays156:Go.Proofs.Lays.n156 Tryz.prog Tryz.lays156_ren:={
  mixed:=by kernel_rfl
  f156:=Tryz.func141.trans (congrArg some (by kernel_rfl))
  f165:=Tryz.func158.trans (congrArg some (by kernel_rfl))
  f166:=Tryz.func159.trans (congrArg some (by kernel_rfl))
  f169:=Tryz.func160.trans (congrArg some (by kernel_rfl))
  f240:=Tryz.func173.trans (congrArg some (by kernel_rfl))
  f241:=Tryz.func174.trans (congrArg some (by kernel_rfl))
  f276:=Tryz.func189.trans (congrArg some (by kernel_rfl))
  f277:=Tryz.func190.trans (congrArg some (by kernel_rfl))
  t0:=Tryz.underlying0
  a0:=Tryz.isAgg0
  z0:=Tryz.sizeOf0
  v0:=Tryz.zeroValue0
  t3:=Tryz.underlying3
  a3:=Tryz.isAgg3
  z3:=Tryz.sizeOf3
  v3:=Tryz.zeroValue3
  t4:=Tryz.underlying4
  a4:=Tryz.isAgg4
  z4:=Tryz.sizeOf4
  v4:=Tryz.zeroValue4
  t9:=Tryz.underlying9
  a9:=Tryz.isAgg9
  z9:=Tryz.sizeOf9
  v9:=Tryz.zeroValue9
  t20:=Tryz.underlying20
  a20:=Tryz.isAgg20
  z20:=Tryz.sizeOf20
  v20:=Tryz.zeroValue20
  t31:=Tryz.underlying149
  a31:=Tryz.isAgg149
  z31:=Tryz.sizeOf149
  v31:=Tryz.zeroValue149
  t37:=Tryz.underlying133
  a37:=Tryz.isAgg133
  z37:=Tryz.sizeOf133
  v37:=Tryz.zeroValue133
  t70:=Tryz.underlying215
  a70:=Tryz.isAgg215
  z70:=Tryz.sizeOf215
  v70:=Tryz.zeroValue215
  t72:=Tryz.underlying217
  a72:=Tryz.isAgg217
  z72:=Tryz.sizeOf217
  v72:=Tryz.zeroValue217
  t75:=Tryz.underlying220
  a75:=Tryz.isAgg220
  z75:=Tryz.sizeOf220
  v75:=Tryz.zeroValue220
  t76:=Tryz.underlying221
  a76:=Tryz.isAgg221
  z76:=Tryz.sizeOf221
  v76:=Tryz.zeroValue221
  t127:=Tryz.underlying238
  a127:=Tryz.isAgg238
  z127:=Tryz.sizeOf238
  v127:=Tryz.zeroValue238
  t164:=Tryz.underlying252
  a164:=Tryz.isAgg252
  z164:=Tryz.sizeOf252
  v164:=Tryz.zeroValue252 }
theorem Tryz.Builder_Extra_156:Builder.Extra Tryz.prog Tryz.lays156_ren:={
  sizeBuilder:=by kernel_rfl
  liesBuilder:=by kernel_rfl
  t5:=Tryz.underlying5
  a5:=Tryz.isAgg5
  z5:=Tryz.sizeOf5
  v5:=Tryz.zeroValue5
  infoByte:=by kernel_rfl
  cellsByte:=by kernel_rfl
  sizeByte:=by kernel_rfl
  neB5:=by decide }
def Tryz.laysM171_ren:Go.Shelf.Ren:=⟨fun|171 => 140|243 => 157|246 => 172|283 => 185|284 => 186|285 => 187|286 => 188|129 => 210|317 => 215|318 => 216|319 => 217|320 => 218|337 => 235|338 => 236|n => n,fun|3 => 3|9 => 9|2 => 2|4 => 4|171 => 246|0 => 0|53 => 247|37 => 133|5 => 5|173 => 250|212 => 269|51 => 186|20 => 20|213 => 270|46 => 184|232 => 298|233 => 299|n => n,fun|17 => 3|18 => 6|19 => 7|n => n⟩
theorem Tryz.laysM171:Go.Proofs.LaysM.n171 Tryz.prog Tryz.laysM171_ren:={
  mixed:=by kernel_rfl
  f129:=Tryz.func210.trans (congrArg some (by kernel_rfl))
  f171:=Tryz.func140.trans (congrArg some (by kernel_rfl))
  f243:=Tryz.func157.trans (congrArg some (by kernel_rfl))
  f246:=Tryz.func172.trans (congrArg some (by kernel_rfl))
  f283:=Tryz.func185.trans (congrArg some (by kernel_rfl))
  f284:=Tryz.func186.trans (congrArg some (by kernel_rfl))
  f285:=Tryz.func187.trans (congrArg some (by kernel_rfl))
  f286:=Tryz.func188.trans (congrArg some (by kernel_rfl))
  f317:=Tryz.func215.trans (congrArg some (by kernel_rfl))
  f318:=Tryz.func216.trans (congrArg some (by kernel_rfl))
  f319:=Tryz.func217.trans (congrArg some (by kernel_rfl))
  f320:=Tryz.func218.trans (congrArg some (by kernel_rfl))
  f337:=Tryz.func235.trans (congrArg some (by kernel_rfl))
  f338:=Tryz.func236.trans (congrArg some (by kernel_rfl))
  t0:=Tryz.underlying0
  a0:=Tryz.isAgg0
  z0:=Tryz.sizeOf0
  v0:=Tryz.zeroValue0
  t2:=Tryz.underlying2
  a2:=Tryz.isAgg2
  z2:=Tryz.sizeOf2
  v2:=Tryz.zeroValue2
  t3:=Tryz.underlying3
  a3:=Tryz.isAgg3
  z3:=Tryz.sizeOf3
  v3:=Tryz.zeroValue3
  t4:=Tryz.underlying4
  a4:=Tryz.isAgg4
  z4:=Tryz.sizeOf4
  v4:=Tryz.zeroValue4
  t5:=Tryz.underlying5
  a5:=Tryz.isAgg5
  z5:=Tryz.sizeOf5
  v5:=Tryz.zeroValue5
  t9:=Tryz.underlying9
  a9:=Tryz.isAgg9
  z9:=Tryz.sizeOf9
  v9:=Tryz.zeroValue9
  t20:=Tryz.underlying20
  a20:=Tryz.isAgg20
  z20:=Tryz.sizeOf20
  v20:=Tryz.zeroValue20
  t37:=Tryz.underlying133
  a37:=Tryz.isAgg133
  z37:=Tryz.sizeOf133
  v37:=Tryz.zeroValue133
  t46:=Tryz.underlying184
  a46:=Tryz.isAgg184
  z46:=Tryz.sizeOf184
  v46:=Tryz.zeroValue184
  t51:=Tryz.underlying186
  a51:=Tryz.isAgg186
  z51:=Tryz.sizeOf186
  v51:=Tryz.zeroValue186
  t53:=Tryz.underlying247
  a53:=Tryz.isAgg247
  z53:=Tryz.sizeOf247
  v53:=Tryz.zeroValue247
  t171:=Tryz.underlying246
  a171:=Tryz.isAgg246
  z171:=Tryz.sizeOf246
  v171:=Tryz.zeroValue246
  t173:=Tryz.underlying250
  a173:=Tryz.isAgg250
  z173:=Tryz.sizeOf250
  v173:=Tryz.zeroValue250
  t212:=Tryz.underlying269
  a212:=Tryz.isAgg269
  z212:=Tryz.sizeOf269
  v212:=Tryz.zeroValue269
  t213:=Tryz.underlying270
  a213:=Tryz.isAgg270
  z213:=Tryz.sizeOf270
  t232:=Tryz.underlying298
  a232:=Tryz.isAgg298
  z232:=Tryz.sizeOf298
  v232:=Tryz.zeroValue298
  t233:=Tryz.underlying299
  a233:=Tryz.isAgg299
  z233:=Tryz.sizeOf299
  v233:=Tryz.zeroValue299
  g17:=by kernel_rfl
  g18:=by kernel_rfl
  g19:=by kernel_rfl
  i0:=by kernel_rfl
  i2:=by kernel_rfl
  i3:=by kernel_rfl
  i4:=by kernel_rfl
  i5:=by kernel_rfl
  i9:=by kernel_rfl
  i20:=by kernel_rfl
  i37:=by kernel_rfl
  i46:=by kernel_rfl
  i51:=by kernel_rfl
  i53:=by kernel_rfl
  i171:=by kernel_rfl
  i173:=by kernel_rfl
  i212:=by kernel_rfl
  i232:=by kernel_rfl
  i233:=by kernel_rfl
  m17:=by kernel_rfl
  m18:=by kernel_rfl
  m19:=by kernel_rfl }
def Tryz.sortSpn_ren:Go.Shelf.Ren:=⟨fun|6 => 166|15 => 181|14 => 180|28 => 209|29 => 210|20 => 201|21 => 202|22 => 203|23 => 204|24 => 205|25 => 206|26 => 207|27 => 208|46 => 230|47 => 231|48 => 232|49 => 233|50 => 234|57 => 241|n => n,fun|22 => 24|24 => 23|25 => 210|3 => 3|39 => 184|0 => 0|53 => 186|55 => 247|4 => 4|46 => 260|45 => 259|50 => 203|5 => 5|9 => 9|66 => 283|70 => 287|76 => 295|77 => 296|n => n,fun|n => n⟩
theorem Tryz.sortSpn:Go.Proofs.SlLaysF0.n6 Tryz.prog Tryz.sortSpn_ren:={
  mixed:=by kernel_rfl
  f6:=⟨Tryz.f166.name,by decide,Tryz.func166.trans (congrArg some (by kernel_rfl))⟩
  f14:=⟨Tryz.f180.name,by decide,Tryz.func180.trans (congrArg some (by kernel_rfl))⟩
  f15:=Tryz.func181.trans (congrArg some (by kernel_rfl))
  f20:=⟨Tryz.f201.name,by decide,Tryz.func201.trans (congrArg some (by kernel_rfl))⟩
  f21:=⟨Tryz.f202.name,by decide,Tryz.func202.trans (congrArg some (by kernel_rfl))⟩
  f22:=⟨Tryz.f203.name,by decide,Tryz.func203.trans (congrArg some (by kernel_rfl))⟩
  f23:=⟨Tryz.f204.name,by decide,Tryz.func204.trans (congrArg some (by kernel_rfl))⟩
  f24:=⟨Tryz.f205.name,by decide,Tryz.func205.trans (congrArg some (by kernel_rfl))⟩
  f25:=⟨Tryz.f206.name,by decide,Tryz.func206.trans (congrArg some (by kernel_rfl))⟩
  f26:=⟨Tryz.f207.name,by decide,Tryz.func207.trans (congrArg some (by kernel_rfl))⟩
  f27:=⟨Tryz.f208.name,by decide,Tryz.func208.trans (congrArg some (by kernel_rfl))⟩
  f28:=Tryz.func209.trans (congrArg some (by kernel_rfl))
  f29:=Tryz.func210.trans (congrArg some (by kernel_rfl))
  f46:=⟨Tryz.f230.name,by decide,Tryz.func230.trans (congrArg some (by kernel_rfl))⟩
  f47:=Tryz.func231.trans (congrArg some (by kernel_rfl))
  f48:=Tryz.func232.trans (congrArg some (by kernel_rfl))
  f49:=⟨Tryz.f233.name,by decide,Tryz.func233.trans (congrArg some (by kernel_rfl))⟩
  f50:=⟨Tryz.f234.name,by decide,Tryz.func234.trans (congrArg some (by kernel_rfl))⟩
  f57:=⟨Tryz.f241.name,by decide,Tryz.func241.trans (congrArg some (by kernel_rfl))⟩
  t0:=Tryz.underlying0
  a0:=Tryz.isAgg0
  z0:=Tryz.sizeOf0
  v0:=Tryz.zeroValue0
  t3:=Tryz.underlying3
  a3:=Tryz.isAgg3
  z3:=Tryz.sizeOf3
  v3:=Tryz.zeroValue3
  t4:=Tryz.underlying4
  a4:=Tryz.isAgg4
  z4:=Tryz.sizeOf4
  v4:=Tryz.zeroValue4
  t5:=Tryz.underlying5
  a5:=Tryz.isAgg5
  z5:=Tryz.sizeOf5
  v5:=Tryz.zeroValue5
  t9:=Tryz.underlying9
  a9:=Tryz.isAgg9
  z9:=Tryz.sizeOf9
  v9:=Tryz.zeroValue9
  t22:=Tryz.underlying24
  a22:=Tryz.isAgg24
  z22:=Tryz.sizeOf24
  v22:=Tryz.zeroValue24
  t25:=Tryz.underlying210
  a25:=Tryz.isAgg210
  z25:=Tryz.sizeOf210
  v25:=Tryz.zeroValue210
  t39:=Tryz.underlying184
  a39:=Tryz.isAgg184
  z39:=Tryz.sizeOf184
  v39:=Tryz.zeroValue184
  t45:=Tryz.underlying259
  a45:=Tryz.isAgg259
  z45:=Tryz.sizeOf259
  v45:=Tryz.zeroValue259
  t46:=Tryz.underlying260
  a46:=Tryz.isAgg260
  z46:=Tryz.sizeOf260
  v46:=Tryz.zeroValue260
  t50:=Tryz.underlying203
  a50:=Tryz.isAgg203
  z50:=Tryz.sizeOf203
  v50:=Tryz.zeroValue203
  t53:=Tryz.underlying186
  a53:=Tryz.isAgg186
  z53:=Tryz.sizeOf186
  v53:=Tryz.zeroValue186
  t55:=Tryz.underlying247
  a55:=Tryz.isAgg247
  z55:=Tryz.sizeOf247
  v55:=Tryz.zeroValue247
  t66:=Tryz.underlying283
  a66:=Tryz.isAgg283
  z66:=Tryz.sizeOf283
  v66:=Tryz.zeroValue283
  t70:=Tryz.underlying287
  a70:=Tryz.isAgg287
  z70:=Tryz.sizeOf287
  v70:=Tryz.zeroValue287
  t76:=Tryz.underlying295
  a76:=Tryz.isAgg295
  z76:=Tryz.sizeOf295
  v76:=Tryz.zeroValue295
  t77:=Tryz.underlying296
  a77:=Tryz.isAgg296
  z77:=Tryz.sizeOf296
  v77:=Tryz.zeroValue296 }
end Go.Proofs
set_option maxRecDepth 100000
namespace Go.Proofs.YtclanmkmbjinaaaGreatDoor
open Go.Nac
abbrev envT:Env:=⟨fun|0 => some [.int .i64 0,.int .i64 (-1),.int .i64 (-1),.int .i64 (-1),.int .i64 (-1),.int .i64 0,.int .i64 (-1),.int .i64 1,.int .i64 0,.int .i64 1,.int .i64 1,.int .i64 1,.int .i64 1,.int .i64 0,.int .i64 1,.int .i64 (-1)]|3 => some (Go.Lib.pow10Tab.map (.int .u64))|_ => none,False⟩
theorem ok3:@okFn envT Tryz.prog 3 L4.c3 = true:=by kernel_rfl
theorem ok4:@okFn envT Tryz.prog 4 L4.c4 = true:=by kernel_rfl
theorem ok5:@okFn envT Tryz.prog 5 L4.c5 = true:=by kernel_rfl
theorem ok16:@okFn envT Tryz.prog 16 L4.c16 = true:=by kernel_rfl
theorem ok17:@okFn envT Tryz.prog 17 L4.c17 = true:=by kernel_rfl
theorem ok18:@okFn envT Tryz.prog 18 L4.c18 = true:=by kernel_rfl
theorem ok19:@okFn envT Tryz.prog 19 L4.c19 = true:=by kernel_rfl
theorem ok20:@okFn envT Tryz.prog 20 L4.c20 = true:=by kernel_rfl
theorem ok21:@okFn envT Tryz.prog 21 L4.c21 = true:=by kernel_rfl
theorem ok23:@okFn envT Tryz.prog 23 L4.c23 = true:=by kernel_rfl
theorem ok26:@okFn envT Tryz.prog 26 L4.c26 = true:=by kernel_rfl
theorem ok27:@okFn envT Tryz.prog 27 L4.c27 = true:=by kernel_rfl
theorem ok28:@okFn envT Tryz.prog 28 L4.c28 = true:=by kernel_rfl
theorem ok29:@okFn envT Tryz.prog 29 L4.c29 = true:=by kernel_rfl
theorem ok31:@okFn envT Tryz.prog 31 L4.c31 = true:=by kernel_rfl
theorem ok32:@okFn envT Tryz.prog 32 L4.c32 = true:=by kernel_rfl
theorem ok33:@okFn envT Tryz.prog 33 L4.c33 = true:=by kernel_rfl
theorem ok34:@okFn envT Tryz.prog 34 L4.c34 = true:=by kernel_rfl
theorem ok35:@okFn envT Tryz.prog 35 L4.c35 = true:=by kernel_rfl
theorem ok36:@okFn envT Tryz.prog 36 L4.c36 = true:=by kernel_rfl
theorem ok37:@okFn envT Tryz.prog 37 L4.c37 = true:=by kernel_rfl
theorem ok39:@okFn envT Tryz.prog 39 L4.c39 = true:=by kernel_rfl
theorem ok42:@okFn envT Tryz.prog 42 L4.c42 = true:=by kernel_rfl
theorem ok44:@okFn envT Tryz.prog 44 L4.c44 = true:=by kernel_rfl
theorem ok53:@okFn envT Tryz.prog 53 L4.c53 = true:=by kernel_rfl
theorem ok57:@okFn envT Tryz.prog 57 L4.c57 = true:=by kernel_rfl
theorem ok58:@okFn envT Tryz.prog 58 L4.c58 = true:=by kernel_rfl
theorem ok61:@okFn envT Tryz.prog 61 L4.c61 = true:=by kernel_rfl
theorem ok62:@okFn envT Tryz.prog 62 L4.c62 = true:=by kernel_rfl
theorem ok64:@okFn envT Tryz.prog 64 L4.c64 = true:=by kernel_rfl
theorem ok66:@okFn envT Tryz.prog 66 L4.c66 = true:=by kernel_rfl
theorem ok71:@okFn envT Tryz.prog 71 L4.c71 = true:=by kernel_rfl
theorem ok76:@okFn envT Tryz.prog 76 L4.c76 = true:=by kernel_rfl
theorem ok79:@okFn envT Tryz.prog 79 L4.c79 = true:=by kernel_rfl
theorem ok81:@okFn envT Tryz.prog 81 L4.c81 = true:=by kernel_rfl
theorem ok88:@okFn envT Tryz.prog 88 L4.c88 = true:=by kernel_rfl
theorem ok92:@okFn envT Tryz.prog 92 L4.c92 = true:=by kernel_rfl
theorem ok97:@okFn envT Tryz.prog 97 L4.c97 = true:=by kernel_rfl
theorem ok98:@okFn envT Tryz.prog 98 L4.c98 = true:=by kernel_rfl
theorem ok99:@okFn envT Tryz.prog 99 L4.c99 = true:=by kernel_rfl
theorem ok100:@okFn envT Tryz.prog 100 L4.c100 = true:=by kernel_rfl
theorem ok101:@okFn envT Tryz.prog 101 L4.c101 = true:=by kernel_rfl
theorem ok102:@okFn envT Tryz.prog 102 L4.c102 = true:=by kernel_rfl
theorem ok103:@okFn envT Tryz.prog 103 L4.c103 = true:=by kernel_rfl
theorem ok104:@okFn envT Tryz.prog 104 L4.c104 = true:=by kernel_rfl
theorem ok105:@okFn envT Tryz.prog 105 L4.c105 = true:=by kernel_rfl
theorem ok106:@okFn envT Tryz.prog 106 L4.c106 = true:=by kernel_rfl
theorem ok107:@okFn envT Tryz.prog 107 L4.c107 = true:=by kernel_rfl
theorem ok108:@okFn envT Tryz.prog 108 L4.c108 = true:=by kernel_rfl
theorem ok109:@okFn envT Tryz.prog 109 L4.c109 = true:=by kernel_rfl
theorem ok110:@okFn envT Tryz.prog 110 L4.c110 = true:=by kernel_rfl
theorem ok111:@okFn envT Tryz.prog 111 L4.c111 = true:=by kernel_rfl
theorem ok112:@okFn envT Tryz.prog 112 L4.c112 = true:=by kernel_rfl
theorem ok113:@okFn envT Tryz.prog 113 L4.c113 = true:=by kernel_rfl
theorem ok114:@okFn envT Tryz.prog 114 L4.c114 = true:=by kernel_rfl
theorem ok115:@okFn envT Tryz.prog 115 L4.c115 = true:=by kernel_rfl
theorem ok121:@okFn envT Tryz.prog 121 L4.c121 = true:=by kernel_rfl
theorem ok122:@okFn envT Tryz.prog 122 L4.c122 = true:=by kernel_rfl
theorem ok123:@okFn envT Tryz.prog 123 L4.c123 = true:=by kernel_rfl
theorem ok124:@okFn envT Tryz.prog 124 L4.c124 = true:=by kernel_rfl
theorem ok128:@okFn envT Tryz.prog 128 L4.c128 = true:=by kernel_rfl
theorem ok131:@okFn envT Tryz.prog 131 L4.c131 = true:=by kernel_rfl
theorem ok138:@okFn envT Tryz.prog 138 L4.c138 = true:=by kernel_rfl
theorem ok139:@okFn envT Tryz.prog 139 L4.c139 = true:=by kernel_rfl
theorem ok146:@okFn envT Tryz.prog 146 L4.c146 = true:=by kernel_rfl
theorem ok147:@okFn envT Tryz.prog 147 L4.c147 = true:=by kernel_rfl
theorem ok148:@okFn envT Tryz.prog 148 L4.c148 = true:=by kernel_rfl
theorem ok149:@okFn envT Tryz.prog 149 L4.c149 = true:=by kernel_rfl
theorem ok150:@okFn envT Tryz.prog 150 L4.c150 = true:=by kernel_rfl
theorem ok151:@okFn envT Tryz.prog 151 L4.c151 = true:=by kernel_rfl
theorem ok152:@okFn envT Tryz.prog 152 L4.c152 = true:=by kernel_rfl
theorem ok153:@okFn envT Tryz.prog 153 L4.c153 = true:=by kernel_rfl
theorem ok165:@okFn envT Tryz.prog 165 L4.c165 = true:=by kernel_rfl
theorem ok167:@okFn envT Tryz.prog 167 L4.c167 = true:=by kernel_rfl
theorem ok168:@okFn envT Tryz.prog 168 L4.c168 = true:=by kernel_rfl
theorem ok179:@okFn envT Tryz.prog 179 L4.c179 = true:=by kernel_rfl
end Go.Proofs.YtclanmkmbjinaaaGreatDoor
set_option linter.unusedVariables false
namespace Go.Proofs.YtclanmkmbjinaaaGreatDoor
open Go.Nac Go.Shelf
theorem mixed:Tryz.prog.follows .mixedOrders = true:=by kernel_rfl
def XS (f:FuncId) (args:List PV) (M:List Blk) (r:PV) (M':List Blk):Prop :=
  (f = 166 ∧ ∃ (i ver:Nat) (d:List Spn),d.length ≤ 1048576 ∧ M[i]? = some (.row true 2 ver (d.map encSpn)) ∧ args = [.os i ver 0 d.length,.fn (.func 148) [] []] ∧ r = .tup [] ∧ M' = M.set i (.row true 2 ver ((srtL spnCmp d).map encSpn))) ∨
  (f = 140 ∧ M' = M ∧ ∃ n:Int,-9223372036854775808 ≤ n ∧ n ≤ 9223372036854775807 ∧ args = [.I n] ∧ r = .s (.string (itoaB n))) ∨
  (f = 141 ∧ M' = M ∧ ∃ l:List ByteArray,l.length ≤ 64 ∧ (∀ s ∈ l,s.size ≤ 200) ∧ args = [.fs (l.map L4.encStr),.s (.string ⟨#[]⟩)] ∧ r = .s (.string (joinB l))) ∨
  (f = 132 ∧ M' = M ∧ ∃ b:Nat,args = [.s (.float .f32 b)] ∧ r = .s (.int .u32 b)) ∨
  (f = 154 ∧ M' = M ∧ ∃ (x:Nat) (s:Bool) (m:Nat) (l:Int),Ieee.double.read x = .number s m l ∧ args = [.s (.float .f64 x)] ∧ r = .s (.float .f64 (Ieee.double.write ((Ieee.double.read x).integral .down))))
theorem sortX:L4.SortX XS:=fun M i ver d h1 h2 => .inl ⟨rfl,i,ver,d,h1,h2,rfl,rfl,rfl⟩
theorem itoaX:L4.ItoaX XS:=fun n M h1 h2 => .inr (.inl ⟨rfl,rfl,n,h1,h2,rfl,rfl⟩)
theorem joinX:L4.JoinX XS:=fun l M h1 h2 => .inr (.inr (.inl ⟨rfl,rfl,l,h1,h2,rfl,rfl⟩))
theorem fbitsX:L4.FbitsX XS:=fun b M => .inr (.inr (.inr (.inl ⟨rfl,rfl,b,rfl,rfl⟩)))
theorem okC:∀ f cf,L4.Fc f = some cf → @okFn env0 Tryz.prog f cf = true:=by
  intro f cf h
  unfold L4.Fc at h
  split at h
  · cases h;kernel_rfl
  · cases h;kernel_rfl
  · cases h;kernel_rfl
  · cases h
theorem xsOk:∀ f args M r M',XS f args M r M' → @Conc envT Tryz.prog (.fn f) args M r M':=by
  letI:=envT
  rintro f args M r M' (⟨rfl,i,ver,d,h1,h2,rfl,rfl,rfl⟩|⟨rfl,rfl,n,h1,h2,rfl,rfl⟩|⟨rfl,rfl,l,h1,h2,rfl,rfl⟩|⟨rfl,rfl,b,rfl,rfl⟩|⟨rfl,rfl,x,s,m,l,h,rfl,rfl⟩)
  · have hc:CmpAt Tryz.prog 148 spnV spnCmp:=cmp_at mixed okC rfl (fun x v hv => by simp [spnV] at hv;rcases hv with rfl|rfl <;> rfl) (fun x y => L4.qc_canon x y [])
    exact sort_conc Tryz.sortSpn (k:=2) Tryz.isAgg23 Tryz.sizeOf23 (enc:=spnV) (fun _ => rfl) (fun x v hv => by simp [spnV] at hv;rcases hv with rfl|rfl <;> rfl) (fun x v hv => by simp [spnV] at hv;rcases hv with rfl|rfl <;> rfl) spnCmp_swo (g:=148) (enters_of Tryz.func148 (by kernel_rfl) rfl) hc (by kernel_rfl) (by omega) h2
  · exact itoa_conc Tryz.laysM171 (by kernel_rfl) (enters_of Tryz.func140 (by kernel_rfl) rfl) (g:=3) (by kernel_rfl) rfl h1 h2
  · have hz:=joinB_size h1 h2
    have e:(joinB l).size = (Lib.join (l.map (·.data.toList)) []).length:=by unfold joinB;rw [show (⟨(Lib.join (l.map (·.data.toList)) []).toArray⟩:ByteArray).size = (Lib.join (l.map (·.data.toList)) []).toArray.size from rfl,List.size_toArray]
    exact join_conc Tryz.lays156 Tryz.Builder_Extra_156 (fun h => h) (by kernel_rfl) (enters_of Tryz.func141 (by kernel_rfl) rfl) (xs:=l) (sep:=⟨#[]⟩) (by omega) (by show (Lib.join (l.map (·.data.toList)) []).length ≤ _;omega)
  · exact fbits_conc Tryz.func132 (by kernel_rfl) (by kernel_rfl) (by kernel_rfl) rfl b _
  · exact floor_conc Tryz.func154 (by kernel_rfl) (by kernel_rfl) (by kernel_rfl) rfl h _
end Go.Proofs.YtclanmkmbjinaaaGreatDoor
namespace Go.Proofs.YtclanmkmbjinaaaGreatDoor
open Go.ChangeShapes Go.WideShapes Go.ChangeAt Go.RowKit Go.Nac
def lst : List (String × DataW Unit) := [("math/bits.deBruijn32tab", Rows.laid_math_bits_deBruijn32tab), ("math/bits.deBruijn64tab", Rows.laid_math_bits_deBruijn64tab), ("internal/strconv.uint64pow10", Rows.laid_internal_strconv_uint64pow10), ("nacelle/site.steps", Rows.laid_nacelle_site_steps)]
theorem door_met (os:Os) (args:Array Value):laidMetH Tryz.prog lst ((World.doorLaid Tryz.prog 85 os).forCall (fun _ _ => 0) ⟨#[],args,[]⟩).memory:=by
  rw [MakeChecks.laidMetH_plain _ _ _ (by kernel_rfl)]
  exact laidMet_of_run' 8 (by kernel_rfl) (by kernel_rfl)
theorem gPow : Tryz.prog.globalNamed "internal/strconv.uint64pow10" = some 3 := by kernel_rfl
theorem gStep : Tryz.prog.globalNamed "nacelle/site.steps" = some 0 := by kernel_rfl
theorem tPow:(Tryz.prog.globals[3]?).map (·.type) = some 269:=by kernel_rfl
theorem tStep:(Tryz.prog.globals[0]?).map (·.type) = some 173:=by kernel_rfl
def stepZ:List (Int × Int):=[(0,-1),(-1,-1),(-1,0),(-1,1),(0,1),(1,1),(1,0),(1,-1)]
theorem mem_row {g n:Nat} {a b:List MemPlace} (h:0 < n):MemPlace.cell g 0 ∈ MemPlace.row ⟨g,0,none⟩ n ++ a ++ b:=by
  refine List.mem_append.2 (.inl (List.mem_append.2 (.inl ?_)))
  exact List.mem_map.2 ⟨0,List.mem_range.2 h,rfl⟩
theorem of_laid {W:World} (h:laidMetH Tryz.prog lst W):∀ g cs,@Env.glb envT g = some cs → ∃ el,W.heap[g]? = some (.cells cs.toArray el (0,0)):=by
  rw [MakeChecks.laidMetH_plain _ _ _ (by kernel_rfl)] at h
  obtain ⟨ps,⟨g0,t0,cs0,f0,p0,q0,_,_,_,_,⟨g1,t1,cs1,f1,p1,q1,_,_,_,_,⟨g2,t2,cs2,f2,p2,q2,hg2,ht2,hv2,hd2,⟨g3,t3,cs3,f3,p3,q3,hg3,ht3,hv3,hd3,hq3,e3⟩,e2⟩,e1⟩,e0⟩,_,hp⟩:=h
  obtain rfl:=Option.some.inj (gPow.symm.trans hg2)
  obtain rfl:=Option.some.inj (gStep.symm.trans hg3)
  obtain rfl:=Option.some.inj (tPow.symm.trans ht2)
  obtain rfl:=Option.some.inj (tStep.symm.trans ht3)
  have c2:cs2.toList = Go.Lib.pow10Tab.map (.int .u64):=lit_ints (zs:=Go.Lib.pow10Tab) Tryz.underlying269 Tryz.underlying247 (by kernel_rfl) (by kernel_rfl) rfl hd2
  have c3:cs3.toList = stepZ.flatMap fun z => [.int .i64 z.1,.int .i64 z.2]:=lit_pairs (zs:=stepZ) Tryz.underlying173 Tryz.underlying51 (by kernel_rfl) (by kernel_rfl) ⟨rfl,by kernel_rfl,Tryz.underlying3⟩ ⟨rfl,by kernel_rfl,Tryz.underlying3⟩ rfl hd3
  have z2:0 < cs2.size:=by rw [← Array.length_toList,c2];decide
  have z3:0 < cs3.size:=by rw [← Array.length_toList,c3];decide
  have m3:MemPlace.cell 0 0 ∈ q2:=by rw [e3];exact mem_row z3
  have m2:MemPlace.cell 3 0 ∈ q1:=by rw [e2];exact mem_row z2
  have n3:MemPlace.cell 0 0 ∈ ps:=by
    rw [e0];refine List.mem_append.2 (.inr ?_)
    rw [e1];refine List.mem_append.2 (.inr ?_)
    rw [e2];exact List.mem_append.2 (.inr m3)
  have n2:MemPlace.cell 3 0 ∈ ps:=by
    rw [e0];refine List.mem_append.2 (.inr ?_)
    rw [e1];exact List.mem_append.2 (.inr m2)
  have h3:=var_heap gPow hv2 (hp 3 0 n2).1
  have h0:=var_heap gStep hv3 (hp 0 0 n3).1
  intro g cs hg
  rcases g with _|_|_|_|g
  · cases hg
    have:cs3 = (stepZ.flatMap fun z => [.int .i64 z.1,.int .i64 z.2]).toArray:=by rw [← c3]
    rw [this] at h0;exact h0
  · cases hg
  · cases hg
  · cases hg
    have:cs2 = (Go.Lib.pow10Tab.map (.int .u64)).toArray:=by rw [← c2]
    rw [this] at h3;exact h3
  · cases hg
theorem okF:∀ f cf,L4.F f = some cf → @okFn envT Tryz.prog f cf = true:=by
  intro f cf h
  unfold L4.F at h
  split at h
  · cases h;exact ok3
  · cases h;exact ok4
  · cases h;exact ok5
  · cases h;exact ok16
  · cases h;exact ok17
  · cases h;exact ok18
  · cases h;exact ok19
  · cases h;exact ok20
  · cases h;exact ok21
  · cases h;exact ok23
  · cases h;exact ok26
  · cases h;exact ok27
  · cases h;exact ok28
  · cases h;exact ok29
  · cases h;exact ok31
  · cases h;exact ok32
  · cases h;exact ok33
  · cases h;exact ok34
  · cases h;exact ok35
  · cases h;exact ok36
  · cases h;exact ok37
  · cases h;exact ok39
  · cases h;exact ok42
  · cases h;exact ok44
  · cases h;exact ok53
  · cases h;exact ok57
  · cases h;exact ok58
  · cases h;exact ok61
  · cases h;exact ok62
  · cases h;exact ok64
  · cases h;exact ok66
  · cases h;exact ok71
  · cases h;exact ok76
  · cases h;exact ok79
  · cases h;exact ok81
  · cases h;exact ok88
  · cases h;exact ok92
  · cases h;exact ok97
  · cases h;exact ok98
  · cases h;exact ok99
  · cases h;exact ok100
  · cases h;exact ok101
  · cases h;exact ok102
  · cases h;exact ok103
  · cases h;exact ok104
  · cases h;exact ok105
  · cases h;exact ok106
  · cases h;exact ok107
  · cases h;exact ok108
  · cases h;exact ok109
  · cases h;exact ok110
  · cases h;exact ok111
  · cases h;exact ok112
  · cases h;exact ok113
  · cases h;exact ok114
  · cases h;exact ok115
  · cases h;exact ok121
  · cases h;exact ok122
  · cases h;exact ok123
  · cases h;exact ok124
  · cases h;exact ok128
  · cases h;exact ok131
  · cases h;exact ok138
  · cases h;exact ok139
  · cases h;exact ok146
  · cases h;exact ok147
  · cases h;exact ok148
  · cases h;exact ok149
  · cases h;exact ok150
  · cases h;exact ok151
  · cases h;exact ok152
  · cases h;exact ok153
  · cases h;exact ok165
  · cases h;exact ok167
  · cases h;exact ok168
  · cases h;exact ok179
  · cases h
end Go.Proofs.YtclanmkmbjinaaaGreatDoor
