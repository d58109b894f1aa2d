/- The library's texts at this program: cuts, splits, prefixes, numbers. -/
import Derived.Test.YtcbfjgpdogcdbaaGreatDoorW12
import Derived.Shelf.Strings.Cut
import Derived.Shelf.Strings.Split
import Derived.Shelf.Strings.Prefix
import Derived.Shelf.Strconv.AtoiAll
import Derived.Test.YtcbfjgpdogcdbaaGreatDoorProg
import Derived.Test.YtcbfjgpdogcdbaaGreatDoorChecked
import Derived.KernelRfl
import Derived.Test.YtcbfjgpdogcdbaaGreatDoorRows
import Derived.Lay
import Derived.Stop.LaidErr
import Derived.Shelf.Vars
import Derived.Test.YtcbfjgpdogcdbaaGreatDoorCards
import Derived.Test.YtcbfjgpdogcdbaaGreatDoorTie
import Derived.WalkKit
import Derived.ProofKit
import Derived.OpenShut
import Derived.ShutString
import Derived.ChangeOld
import Derived.Below
import Derived.SizedLaws
import Derived.LaidMore
import Derived.Stop.Joined
import Derived.SevenTiedAt
import Derived.MakeChecks
namespace Go.Proofs
open Go.Shelf
def Tryz.lays145_ren:Go.Shelf.Ren:=⟨fun|145 => 62|220 => 83|219 => 97|217 => 112|225 => 113|224 => 114|267 => 115|266 => 139|314 => 140|n => n,fun|9 => 9|4 => 4|59 => 127|3 => 3|5 => 5|46 => 95|146 => 208|51 => 97|n => n,fun|1 => 2|n => n⟩
theorem Tryz.lays145:Go.Proofs.Lays.n145 Tryz.prog Tryz.lays145_ren:={
  mixed:=by kernel_rfl
  f145:=Tryz.func62.trans (congrArg some (by kernel_rfl))
  f217:=Tryz.func112.trans (congrArg some (by kernel_rfl))
  f219:=Tryz.func97.trans (congrArg some (by kernel_rfl))
  f220:=Tryz.func83.trans (congrArg some (by kernel_rfl))
  f224:=Tryz.func114.trans (congrArg some (by kernel_rfl))
  f225:=Tryz.func113.trans (congrArg some (by kernel_rfl))
  f266:=Tryz.func139.trans (congrArg some (by kernel_rfl))
  f267:=Tryz.func115.trans (congrArg some (by kernel_rfl))
  f314:=Tryz.func140.trans (congrArg some (by kernel_rfl))
  t3:=Tryz.underlying3
  a3:=Tryz.isAgg3
  z3:=Tryz.sizeOf3
  v3:=Tryz.zeroValue3
  t4:=Tryz.underlying4
  a4:=Tryz.isAgg4
  z4:=Tryz.sizeOf4
  v4:=Tryz.zeroValue4
  t5:=Tryz.underlying5
  a5:=Tryz.isAgg5
  z5:=Tryz.sizeOf5
  v5:=Tryz.zeroValue5
  t9:=Tryz.underlying9
  a9:=Tryz.isAgg9
  z9:=Tryz.sizeOf9
  v9:=Tryz.zeroValue9
  t46:=Tryz.underlying95
  a46:=Tryz.isAgg95
  z46:=Tryz.sizeOf95
  v46:=Tryz.zeroValue95
  t51:=Tryz.underlying97
  a51:=Tryz.isAgg97
  z51:=Tryz.sizeOf97
  v51:=Tryz.zeroValue97
  t59:=Tryz.underlying127
  a59:=Tryz.isAgg127
  z59:=Tryz.sizeOf127
  v59:=Tryz.zeroValue127
  t146:=Tryz.underlying208
  a146:=Tryz.isAgg208
  z146:=Tryz.sizeOf208
  v146:=Tryz.zeroValue208
  g1:=by kernel_rfl }
def Tryz.lays146_ren:Go.Shelf.Ren:=⟨fun|146 => 84|221 => 98|268 => 116|138 => 117|143 => 118|195 => 141|197 => 142|218 => 143|219 => 97|260 => 160|217 => 112|225 => 113|224 => 114|267 => 115|266 => 139|314 => 140|n => n,fun|9 => 9|31 => 122|3 => 3|4 => 4|0 => 0|105 => 211|21 => 21|5 => 5|46 => 95|119 => 240|139 => 243|138 => 242|146 => 208|51 => 97|n => n,fun|1 => 2|3 => 8|4 => 9|n => n⟩
theorem Tryz.lays146:Go.Proofs.Lays.n146 Tryz.prog Tryz.lays146_ren:={
  mixed:=by kernel_rfl
  f138:=Tryz.func117.trans (congrArg some (by kernel_rfl))
  f143:=Tryz.func118.trans (congrArg some (by kernel_rfl))
  f146:=Tryz.func84.trans (congrArg some (by kernel_rfl))
  f195:=Tryz.func141.trans (congrArg some (by kernel_rfl))
  f197:=Tryz.func142.trans (congrArg some (by kernel_rfl))
  f217:=Tryz.func112.trans (congrArg some (by kernel_rfl))
  f218:=Tryz.func143.trans (congrArg some (by kernel_rfl))
  f219:=Tryz.func97.trans (congrArg some (by kernel_rfl))
  f221:=Tryz.func98.trans (congrArg some (by kernel_rfl))
  f224:=Tryz.func114.trans (congrArg some (by kernel_rfl))
  f225:=Tryz.func113.trans (congrArg some (by kernel_rfl))
  f260:=Tryz.func160.trans (congrArg some (by kernel_rfl))
  f266:=Tryz.func139.trans (congrArg some (by kernel_rfl))
  f267:=Tryz.func115.trans (congrArg some (by kernel_rfl))
  f268:=Tryz.func116.trans (congrArg some (by kernel_rfl))
  f314:=Tryz.func140.trans (congrArg some (by kernel_rfl))
  t0:=Tryz.underlying0
  a0:=Tryz.isAgg0
  z0:=Tryz.sizeOf0
  v0:=Tryz.zeroValue0
  t3:=Tryz.underlying3
  a3:=Tryz.isAgg3
  z3:=Tryz.sizeOf3
  v3:=Tryz.zeroValue3
  t4:=Tryz.underlying4
  a4:=Tryz.isAgg4
  z4:=Tryz.sizeOf4
  v4:=Tryz.zeroValue4
  t5:=Tryz.underlying5
  a5:=Tryz.isAgg5
  z5:=Tryz.sizeOf5
  v5:=Tryz.zeroValue5
  t9:=Tryz.underlying9
  a9:=Tryz.isAgg9
  z9:=Tryz.sizeOf9
  v9:=Tryz.zeroValue9
  t21:=Tryz.underlying21
  a21:=Tryz.isAgg21
  z21:=Tryz.sizeOf21
  v21:=Tryz.zeroValue21
  t31:=Tryz.underlying122
  a31:=Tryz.isAgg122
  z31:=Tryz.sizeOf122
  v31:=Tryz.zeroValue122
  t46:=Tryz.underlying95
  a46:=Tryz.isAgg95
  z46:=Tryz.sizeOf95
  v46:=Tryz.zeroValue95
  t51:=Tryz.underlying97
  a51:=Tryz.isAgg97
  z51:=Tryz.sizeOf97
  v51:=Tryz.zeroValue97
  t105:=Tryz.underlying211
  a105:=Tryz.isAgg211
  z105:=Tryz.sizeOf211
  v105:=Tryz.zeroValue211
  t119:=Tryz.underlying240
  a119:=Tryz.isAgg240
  z119:=Tryz.sizeOf240
  t138:=Tryz.underlying242
  a138:=Tryz.isAgg242
  z138:=Tryz.sizeOf242
  v138:=Tryz.zeroValue242
  t139:=Tryz.underlying243
  a139:=Tryz.isAgg243
  z139:=Tryz.sizeOf243
  v139:=Tryz.zeroValue243
  t146:=Tryz.underlying208
  a146:=Tryz.isAgg208
  z146:=Tryz.sizeOf208
  v146:=Tryz.zeroValue208
  g1:=by kernel_rfl
  g3:=by kernel_rfl
  g4:=by kernel_rfl }
def Tryz.lays101_ren:Go.Shelf.Ren:=⟨fun|101 => 100|208 => 121|206 => 149|n => n,fun|9 => 9|4 => 4|3 => 3|n => n,fun|n => n⟩
theorem Tryz.lays101:Go.Proofs.Lays.n101 Tryz.prog Tryz.lays101_ren:={
  mixed:=by kernel_rfl
  f101:=Tryz.func100.trans (congrArg some (by kernel_rfl))
  f206:=Tryz.func149.trans (congrArg some (by kernel_rfl))
  f208:=Tryz.func121.trans (congrArg some (by kernel_rfl))
  t3:=Tryz.underlying3
  a3:=Tryz.isAgg3
  z3:=Tryz.sizeOf3
  v3:=Tryz.zeroValue3
  t4:=Tryz.underlying4
  a4:=Tryz.isAgg4
  z4:=Tryz.sizeOf4
  v4:=Tryz.zeroValue4
  t9:=Tryz.underlying9
  a9:=Tryz.isAgg9
  z9:=Tryz.sizeOf9
  v9:=Tryz.zeroValue9 }
def Tryz.laysC172_ren:Go.Shelf.Ren:=⟨fun|172 => 99|244 => 119|245 => 120|247 => 144|279 => 145|280 => 146|281 => 147|282 => 148|287 => 161|316 => 162|171 => 60|205 => 163|321 => 169|322 => 170|243 => 79|246 => 94|283 => 106|284 => 107|285 => 108|286 => 109|129 => 134|317 => 135|318 => 136|319 => 137|320 => 138|337 => 158|338 => 159|n => n,fun|9 => 9|3 => 3|75 => 156|76 => 157|4 => 4|5 => 5|167 => 213|37 => 36|0 => 0|85 => 214|2 => 2|168 => 216|53 => 180|175 => 227|46 => 95|210 => 231|127 => 172|145 => 247|143 => 245|21 => 21|171 => 179|173 => 183|212 => 206|51 => 97|20 => 20|213 => 207|232 => 238|233 => 239|80 => 159|n => n,fun|15 => 4|16 => 5|17 => 3|18 => 6|19 => 7|n => n⟩
theorem Tryz.laysC172:Go.Proofs.LaysC.n172 Tryz.prog Tryz.laysC172_ren:={
  mixed:=by kernel_rfl
  f129:=Tryz.func134.trans (congrArg some (by kernel_rfl))
  f171:=Tryz.func60.trans (congrArg some (by kernel_rfl))
  f172:=Tryz.func99.trans (congrArg some (by kernel_rfl))
  f205:=Tryz.func163.trans (congrArg some (by kernel_rfl))
  f243:=Tryz.func79.trans (congrArg some (by kernel_rfl))
  f244:=Tryz.func119.trans (congrArg some (by kernel_rfl))
  f245:=Tryz.func120.trans (congrArg some (by kernel_rfl))
  f246:=Tryz.func94.trans (congrArg some (by kernel_rfl))
  f247:=Tryz.func144.trans (congrArg some (by kernel_rfl))
  f279:=Tryz.func145.trans (congrArg some (by kernel_rfl))
  f280:=Tryz.func146.trans (congrArg some (by kernel_rfl))
  f281:=Tryz.func147.trans (congrArg some (by kernel_rfl))
  f282:=Tryz.func148.trans (congrArg some (by kernel_rfl))
  f283:=Tryz.func106.trans (congrArg some (by kernel_rfl))
  f284:=Tryz.func107.trans (congrArg some (by kernel_rfl))
  f285:=Tryz.func108.trans (congrArg some (by kernel_rfl))
  f286:=Tryz.func109.trans (congrArg some (by kernel_rfl))
  f287:=Tryz.func161.trans (congrArg some (by kernel_rfl))
  f316:=Tryz.func162.trans (congrArg some (by kernel_rfl))
  f317:=Tryz.func135.trans (congrArg some (by kernel_rfl))
  f318:=Tryz.func136.trans (congrArg some (by kernel_rfl))
  f319:=Tryz.func137.trans (congrArg some (by kernel_rfl))
  f320:=Tryz.func138.trans (congrArg some (by kernel_rfl))
  f321:=Tryz.func169.trans (congrArg some (by kernel_rfl))
  f322:=Tryz.func170.trans (congrArg some (by kernel_rfl))
  f337:=Tryz.func158.trans (congrArg some (by kernel_rfl))
  f338:=Tryz.func159.trans (congrArg some (by kernel_rfl))
  t0:=Tryz.underlying0
  a0:=Tryz.isAgg0
  z0:=Tryz.sizeOf0
  v0:=Tryz.zeroValue0
  t2:=Tryz.underlying2
  a2:=Tryz.isAgg2
  z2:=Tryz.sizeOf2
  v2:=Tryz.zeroValue2
  t3:=Tryz.underlying3
  a3:=Tryz.isAgg3
  z3:=Tryz.sizeOf3
  v3:=Tryz.zeroValue3
  t4:=Tryz.underlying4
  a4:=Tryz.isAgg4
  z4:=Tryz.sizeOf4
  v4:=Tryz.zeroValue4
  t5:=Tryz.underlying5
  a5:=Tryz.isAgg5
  z5:=Tryz.sizeOf5
  v5:=Tryz.zeroValue5
  t9:=Tryz.underlying9
  a9:=Tryz.isAgg9
  z9:=Tryz.sizeOf9
  v9:=Tryz.zeroValue9
  t20:=Tryz.underlying20
  a20:=Tryz.isAgg20
  z20:=Tryz.sizeOf20
  v20:=Tryz.zeroValue20
  t21:=Tryz.underlying21
  a21:=Tryz.isAgg21
  z21:=Tryz.sizeOf21
  v21:=Tryz.zeroValue21
  t37:=Tryz.underlying36
  a37:=Tryz.isAgg36
  z37:=Tryz.sizeOf36
  v37:=Tryz.zeroValue36
  t46:=Tryz.underlying95
  a46:=Tryz.isAgg95
  z46:=Tryz.sizeOf95
  v46:=Tryz.zeroValue95
  t51:=Tryz.underlying97
  a51:=Tryz.isAgg97
  z51:=Tryz.sizeOf97
  v51:=Tryz.zeroValue97
  t53:=Tryz.underlying180
  a53:=Tryz.isAgg180
  z53:=Tryz.sizeOf180
  v53:=Tryz.zeroValue180
  t75:=Tryz.underlying156
  a75:=Tryz.isAgg156
  z75:=Tryz.sizeOf156
  v75:=Tryz.zeroValue156
  t76:=Tryz.underlying157
  a76:=Tryz.isAgg157
  z76:=Tryz.sizeOf157
  v76:=Tryz.zeroValue157
  t85:=Tryz.underlying214
  a85:=Tryz.isAgg214
  z85:=Tryz.sizeOf214
  v85:=Tryz.zeroValue214
  t127:=Tryz.underlying172
  a127:=Tryz.isAgg172
  z127:=Tryz.sizeOf172
  v127:=Tryz.zeroValue172
  t143:=Tryz.underlying245
  a143:=Tryz.isAgg245
  z143:=Tryz.sizeOf245
  v143:=Tryz.zeroValue245
  t145:=Tryz.underlying247
  a145:=Tryz.isAgg247
  z145:=Tryz.sizeOf247
  v145:=Tryz.zeroValue247
  t167:=Tryz.underlying213
  a167:=Tryz.isAgg213
  z167:=Tryz.sizeOf213
  v167:=Tryz.zeroValue213
  t168:=Tryz.underlying216
  a168:=Tryz.isAgg216
  z168:=Tryz.sizeOf216
  v168:=Tryz.zeroValue216
  t171:=Tryz.underlying179
  a171:=Tryz.isAgg179
  z171:=Tryz.sizeOf179
  v171:=Tryz.zeroValue179
  t173:=Tryz.underlying183
  a173:=Tryz.isAgg183
  z173:=Tryz.sizeOf183
  v173:=Tryz.zeroValue183
  t175:=Tryz.underlying227
  a175:=Tryz.isAgg227
  z175:=Tryz.sizeOf227
  v175:=Tryz.zeroValue227
  t210:=Tryz.underlying231
  a210:=Tryz.isAgg231
  z210:=Tryz.sizeOf231
  v210:=Tryz.zeroValue231
  t212:=Tryz.underlying206
  a212:=Tryz.isAgg206
  z212:=Tryz.sizeOf206
  v212:=Tryz.zeroValue206
  t213:=Tryz.underlying207
  a213:=Tryz.isAgg207
  z213:=Tryz.sizeOf207
  t232:=Tryz.underlying238
  a232:=Tryz.isAgg238
  z232:=Tryz.sizeOf238
  v232:=Tryz.zeroValue238
  t233:=Tryz.underlying239
  a233:=Tryz.isAgg239
  z233:=Tryz.sizeOf239
  v233:=Tryz.zeroValue239
  g15:=by kernel_rfl
  g16:=by kernel_rfl
  g17:=by kernel_rfl
  g18:=by kernel_rfl
  g19:=by kernel_rfl
  t80:=Tryz.underlying159
  a80:=Tryz.isAgg159
  z80:=Tryz.sizeOf159
  v80:=Tryz.zeroValue159
  i0:=by kernel_rfl
  i2:=by kernel_rfl
  i3:=by kernel_rfl
  i4:=by kernel_rfl
  i5:=by kernel_rfl
  i9:=by kernel_rfl
  i20:=by kernel_rfl
  i21:=by kernel_rfl
  i37:=by kernel_rfl
  i46:=by kernel_rfl
  i51:=by kernel_rfl
  i53:=by kernel_rfl
  i75:=by kernel_rfl
  i76:=by kernel_rfl
  i80:=by kernel_rfl
  i85:=by kernel_rfl
  i127:=by kernel_rfl
  i143:=by kernel_rfl
  i145:=by kernel_rfl
  i167:=by kernel_rfl
  i168:=by kernel_rfl
  i171:=by kernel_rfl
  i173:=by kernel_rfl
  i175:=by kernel_rfl
  i210:=by kernel_rfl
  i212:=by kernel_rfl
  i232:=by kernel_rfl
  i233:=by kernel_rfl
  m15:=by kernel_rfl
  m16:=by kernel_rfl
  m17:=by kernel_rfl
  m18:=by kernel_rfl
  m19:=by kernel_rfl
  c0:=by kernel_rfl
  c2:=by kernel_rfl
  c3:=by kernel_rfl
  c4:=by kernel_rfl
  c5:=by kernel_rfl
  c9:=by kernel_rfl
  c20:=by kernel_rfl
  c21:=by kernel_rfl
  c37:=by kernel_rfl
  c46:=by kernel_rfl
  c51:=by kernel_rfl
  c53:=by kernel_rfl
  c75:=by kernel_rfl
  c76:=by kernel_rfl
  c80:=by kernel_rfl
  c85:=by kernel_rfl
  c127:=by kernel_rfl
  c143:=by kernel_rfl
  c145:=by kernel_rfl
  c167:=by kernel_rfl
  c168:=by kernel_rfl
  c171:=by kernel_rfl
  c173:=by kernel_rfl
  c175:=by kernel_rfl
  c210:=by kernel_rfl
  c212:=by kernel_rfl
  c213:=by kernel_rfl
  c232:=by kernel_rfl
  c233:=by kernel_rfl }
end Go.Proofs
set_option maxRecDepth 100000
namespace Go.Proofs.YtcbfjgpdogcdbaaGreatDoor.U
open Go.Nac
abbrev envU (m:Int) (e1 e2:Value):Env:=⟨fun|0 => some [.int .i64 0,.int .i64 (-1),.int .i64 (-1),.int .i64 (-1),.int .i64 (-1),.int .i64 0,.int .i64 (-1),.int .i64 1,.int .i64 0,.int .i64 1,.int .i64 1,.int .i64 1,.int .i64 1,.int .i64 0,.int .i64 1,.int .i64 (-1)]|2 => some [.int .i64 m]|3 => some (Go.Lib.pow10Tab.map (.int .u64))|4 => some [e1]|5 => some [e2]|_ => none,False⟩
theorem ok3 (m:Int) (e1 e2:Value):@okFn (envU m e1 e2) Tryz.prog 3 L5.c3 = true:=by kernel_rfl
theorem ok4 (m:Int) (e1 e2:Value):@okFn (envU m e1 e2) Tryz.prog 4 L5.c4 = true:=by kernel_rfl
theorem ok5 (m:Int) (e1 e2:Value):@okFn (envU m e1 e2) Tryz.prog 5 L5.c5 = true:=by kernel_rfl
theorem ok6 (m:Int) (e1 e2:Value):@okFn (envU m e1 e2) Tryz.prog 6 L5.c6 = true:=by kernel_rfl
theorem ok7 (m:Int) (e1 e2:Value):@okFn (envU m e1 e2) Tryz.prog 7 L5.c7 = true:=by kernel_rfl
theorem ok8 (m:Int) (e1 e2:Value):@okFn (envU m e1 e2) Tryz.prog 8 L5.c8 = true:=by kernel_rfl
theorem ok9 (m:Int) (e1 e2:Value):@okFn (envU m e1 e2) Tryz.prog 9 L5.c9 = true:=by kernel_rfl
theorem ok12 (m:Int) (e1 e2:Value):@okFn (envU m e1 e2) Tryz.prog 12 L5.c12 = true:=by kernel_rfl
theorem ok14 (m:Int) (e1 e2:Value):@okFn (envU m e1 e2) Tryz.prog 14 L5.c14 = true:=by kernel_rfl
theorem ok16 (m:Int) (e1 e2:Value):@okFn (envU m e1 e2) Tryz.prog 16 L5.c16 = true:=by kernel_rfl
theorem ok17 (m:Int) (e1 e2:Value):@okFn (envU m e1 e2) Tryz.prog 17 L5.c17 = true:=by kernel_rfl
theorem ok18 (m:Int) (e1 e2:Value):@okFn (envU m e1 e2) Tryz.prog 18 L5.c18 = true:=by kernel_rfl
theorem ok19 (m:Int) (e1 e2:Value):@okFn (envU m e1 e2) Tryz.prog 19 L5.c19 = true:=by kernel_rfl
theorem ok20 (m:Int) (e1 e2:Value):@okFn (envU m e1 e2) Tryz.prog 20 L5.c20 = true:=by kernel_rfl
theorem ok21 (m:Int) (e1 e2:Value):@okFn (envU m e1 e2) Tryz.prog 21 L5.c21 = true:=by kernel_rfl
theorem ok22 (m:Int) (e1 e2:Value):@okFn (envU m e1 e2) Tryz.prog 22 L5.c22 = true:=by kernel_rfl
theorem ok23 (m:Int) (e1 e2:Value):@okFn (envU m e1 e2) Tryz.prog 23 L5.c23 = true:=by kernel_rfl
theorem ok24 (m:Int) (e1 e2:Value):@okFn (envU m e1 e2) Tryz.prog 24 L5.c24 = true:=by kernel_rfl
theorem ok25 (m:Int) (e1 e2:Value):@okFn (envU m e1 e2) Tryz.prog 25 L5.c25 = true:=by kernel_rfl
theorem ok26 (m:Int) (e1 e2:Value):@okFn (envU m e1 e2) Tryz.prog 26 L5.c26 = true:=by kernel_rfl
theorem ok27 (m:Int) (e1 e2:Value):@okFn (envU m e1 e2) Tryz.prog 27 L5.c27 = true:=by kernel_rfl
theorem ok28 (m:Int) (e1 e2:Value):@okFn (envU m e1 e2) Tryz.prog 28 L5.c28 = true:=by kernel_rfl
theorem ok29 (m:Int) (e1 e2:Value):@okFn (envU m e1 e2) Tryz.prog 29 L5.c29 = true:=by kernel_rfl
theorem ok30 (m:Int) (e1 e2:Value):@okFn (envU m e1 e2) Tryz.prog 30 L5.c30 = true:=by kernel_rfl
theorem ok32 (m:Int) (e1 e2:Value):@okFn (envU m e1 e2) Tryz.prog 32 L5.c32 = true:=by kernel_rfl
theorem ok33 (m:Int) (e1 e2:Value):@okFn (envU m e1 e2) Tryz.prog 33 L5.c33 = true:=by kernel_rfl
theorem ok34 (m:Int) (e1 e2:Value):@okFn (envU m e1 e2) Tryz.prog 34 L5.c34 = true:=by kernel_rfl
theorem ok37 (m:Int) (e1 e2:Value):@okFn (envU m e1 e2) Tryz.prog 37 L5.c37 = true:=by kernel_rfl
theorem ok38 (m:Int) (e1 e2:Value):@okFn (envU m e1 e2) Tryz.prog 38 L5.c38 = true:=by kernel_rfl
theorem ok40 (m:Int) (e1 e2:Value):@okFn (envU m e1 e2) Tryz.prog 40 L5.c40 = true:=by kernel_rfl
theorem ok41 (m:Int) (e1 e2:Value):@okFn (envU m e1 e2) Tryz.prog 41 L5.c41 = true:=by kernel_rfl
theorem ok42 (m:Int) (e1 e2:Value):@okFn (envU m e1 e2) Tryz.prog 42 L5.c42 = true:=by kernel_rfl
theorem ok43 (m:Int) (e1 e2:Value):@okFn (envU m e1 e2) Tryz.prog 43 L5.c43 = true:=by kernel_rfl
theorem ok46 (m:Int) (e1 e2:Value):@okFn (envU m e1 e2) Tryz.prog 46 L5.c46 = true:=by kernel_rfl
theorem ok47 (m:Int) (e1 e2:Value):@okFn (envU m e1 e2) Tryz.prog 47 L5.c47 = true:=by kernel_rfl
theorem ok48 (m:Int) (e1 e2:Value):@okFn (envU m e1 e2) Tryz.prog 48 L5.c48 = true:=by kernel_rfl
theorem ok49 (m:Int) (e1 e2:Value):@okFn (envU m e1 e2) Tryz.prog 49 L5.c49 = true:=by kernel_rfl
theorem ok51 (m:Int) (e1 e2:Value):@okFn (envU m e1 e2) Tryz.prog 51 L5.c51 = true:=by kernel_rfl
theorem ok53 (m:Int) (e1 e2:Value):@okFn (envU m e1 e2) Tryz.prog 53 L5.c53 = true:=by kernel_rfl
theorem ok54 (m:Int) (e1 e2:Value):@okFn (envU m e1 e2) Tryz.prog 54 L5.c54 = true:=by kernel_rfl
theorem ok55 (m:Int) (e1 e2:Value):@okFn (envU m e1 e2) Tryz.prog 55 L5.c55 = true:=by kernel_rfl
theorem ok56 (m:Int) (e1 e2:Value):@okFn (envU m e1 e2) Tryz.prog 56 L5.c56 = true:=by kernel_rfl
theorem ok57 (m:Int) (e1 e2:Value):@okFn (envU m e1 e2) Tryz.prog 57 L5.c57 = true:=by kernel_rfl
theorem ok58 (m:Int) (e1 e2:Value):@okFn (envU m e1 e2) Tryz.prog 58 L5.c58 = true:=by kernel_rfl
theorem ok59 (m:Int) (e1 e2:Value):@okFn (envU m e1 e2) Tryz.prog 59 L5.c59 = true:=by kernel_rfl
theorem ok63 (m:Int) (e1 e2:Value):@okFn (envU m e1 e2) Tryz.prog 63 L5.c63 = true:=by kernel_rfl
theorem ok64 (m:Int) (e1 e2:Value):@okFn (envU m e1 e2) Tryz.prog 64 L5.c64 = true:=by kernel_rfl
theorem ok66 (m:Int) (e1 e2:Value):@okFn (envU m e1 e2) Tryz.prog 66 L5.c66 = true:=by kernel_rfl
theorem ok67 (m:Int) (e1 e2:Value):@okFn (envU m e1 e2) Tryz.prog 67 L5.c67 = true:=by kernel_rfl
theorem ok68 (m:Int) (e1 e2:Value):@okFn (envU m e1 e2) Tryz.prog 68 L5.c68 = true:=by kernel_rfl
theorem ok69 (m:Int) (e1 e2:Value):@okFn (envU m e1 e2) Tryz.prog 69 L5.c69 = true:=by kernel_rfl
theorem ok70 (m:Int) (e1 e2:Value):@okFn (envU m e1 e2) Tryz.prog 70 L5.c70 = true:=by kernel_rfl
theorem ok71 (m:Int) (e1 e2:Value):@okFn (envU m e1 e2) Tryz.prog 71 L5.c71 = true:=by kernel_rfl
theorem ok72 (m:Int) (e1 e2:Value):@okFn (envU m e1 e2) Tryz.prog 72 L5.c72 = true:=by kernel_rfl
theorem ok73 (m:Int) (e1 e2:Value):@okFn (envU m e1 e2) Tryz.prog 73 L5.c73 = true:=by kernel_rfl
theorem ok74 (m:Int) (e1 e2:Value):@okFn (envU m e1 e2) Tryz.prog 74 L5.c74 = true:=by kernel_rfl
theorem ok75 (m:Int) (e1 e2:Value):@okFn (envU m e1 e2) Tryz.prog 75 L5.c75 = true:=by kernel_rfl
theorem ok76 (m:Int) (e1 e2:Value):@okFn (envU m e1 e2) Tryz.prog 76 L5.c76 = true:=by kernel_rfl
theorem ok77 (m:Int) (e1 e2:Value):@okFn (envU m e1 e2) Tryz.prog 77 L5.c77 = true:=by kernel_rfl
theorem ok78 (m:Int) (e1 e2:Value):@okFn (envU m e1 e2) Tryz.prog 78 L5.c78 = true:=by kernel_rfl
theorem ok85 (m:Int) (e1 e2:Value):@okFn (envU m e1 e2) Tryz.prog 85 L5.c85 = true:=by kernel_rfl
theorem ok86 (m:Int) (e1 e2:Value):@okFn (envU m e1 e2) Tryz.prog 86 L5.c86 = true:=by kernel_rfl
theorem ok88 (m:Int) (e1 e2:Value):@okFn (envU m e1 e2) Tryz.prog 88 L5.c88 = true:=by kernel_rfl
theorem ok89 (m:Int) (e1 e2:Value):@okFn (envU m e1 e2) Tryz.prog 89 L5.c89 = true:=by kernel_rfl
theorem ok90 (m:Int) (e1 e2:Value):@okFn (envU m e1 e2) Tryz.prog 90 L5.c90 = true:=by kernel_rfl
theorem ok92 (m:Int) (e1 e2:Value):@okFn (envU m e1 e2) Tryz.prog 92 L5.c92 = true:=by kernel_rfl
theorem ok93 (m:Int) (e1 e2:Value):@okFn (envU m e1 e2) Tryz.prog 93 L5.c93 = true:=by kernel_rfl
theorem ok103 (m:Int) (e1 e2:Value):@okFn (envU m e1 e2) Tryz.prog 103 L5.c103 = true:=by kernel_rfl
end Go.Proofs.YtcbfjgpdogcdbaaGreatDoor.U
set_option linter.unusedVariables false
namespace Go.Proofs.YtcbfjgpdogcdbaaGreatDoor.U
open Go.Nac Go.Shelf
theorem mixed:Tryz.prog.follows .mixedOrders = true:=by kernel_rfl
def XS (f:FuncId) (args:List PV) (M:List Blk) (r:PV) (M':List Blk):Prop :=
  (f = 91 ∧ ∃ (i ver:Nat) (d:List Spn),d.length ≤ 1048576 ∧ M[i]? = some (.row true 2 ver (d.map encSpn)) ∧ args = [.os i ver 0 d.length,.fn (.func 72) [] []] ∧ r = .tup [] ∧ M' = M.set i (.row true 2 ver ((srtL spnCmp d).map encSpn))) ∨
  (f = 60 ∧ M' = M ∧ ∃ n:Int,-9223372036854775808 ≤ n ∧ n ≤ 9223372036854775807 ∧ args = [.I n] ∧ r = .s (.string (itoaB n))) ∨
  (f = 61 ∧ M' = M ∧ ∃ l:List ByteArray,l.length ≤ 64 ∧ (∀ s ∈ l,s.size ≤ 200) ∧ args = [.fs (l.map L5.encStr),.s (.string ⟨#[]⟩)] ∧ r = .s (.string (joinB l))) ∨
  (f = 39 ∧ M' = M ∧ ∃ b:Nat,args = [.s (.float .f32 b)] ∧ r = .s (.int .u32 b)) ∨
  (f = 101 ∧ M' = M ∧ ∃ (x:Nat) (s:Bool) (m:Nat) (l:Int),Ieee.double.read x = .number s m l ∧ args = [.s (.float .f64 x)] ∧ r = .s (.float .f64 (Ieee.double.write ((Ieee.double.read x).integral .down)))) ∨
  (f = 62 ∧ M' = M ∧ ∃ l:List UInt8,l.length ≤ 1000000 ∧ args = [.s (.string ⟨l.toArray⟩),.s (.string ⟨#[10]⟩)] ∧ r = .tup [.s (.string ⟨(Lib.cut l [10]).1.toArray⟩),.s (.string ⟨(Lib.cut l [10]).2.1.toArray⟩),.B (Lib.cut l [10]).2.2]) ∨
  (f = 84 ∧ M' = M ∧ ∃ l:List UInt8,l.length ≤ 1000000 ∧ args = [.s (.string ⟨l.toArray⟩),.s (.string ⟨#[32]⟩)] ∧ r = .fs ((spl 32 l).map L5.encW)) ∨
  (f = 99 ∧ M' = M ∧ ∃ l:List UInt8,l.length ≤ 1000000 ∧ args = [.s (.string ⟨l.toArray⟩)] ∧ r = atoiV ⟨l.toArray⟩) ∨
  (f = 100 ∧ M' = M ∧ ∃ l:List UInt8,args = [.s (.string ⟨l.toArray⟩),.s (.string ⟨#[45]⟩)] ∧ r = .s (.string ⟨(Lib.trimPrefix l [45]).toArray⟩)) ∨
  (f = 44 ∧ M' = M ∧ ∃ u:Nat,args = [.s (.int .u32 u)] ∧ r = .s (.float .f32 u))
theorem sortX:L5.SortX XS:=fun M i ver d h1 h2 => .inl ⟨rfl,i,ver,d,h1,h2,rfl,rfl,rfl⟩
theorem itoaX:L5.ItoaX XS:=fun n M h1 h2 => .inr (.inl ⟨rfl,rfl,n,h1,h2,rfl,rfl⟩)
theorem joinX:L5.JoinX XS:=fun l M h1 h2 => .inr (.inr (.inl ⟨rfl,rfl,l,h1,h2,rfl,rfl⟩))
theorem fbitsX:L5.FbitsX XS:=fun b M => .inr (.inr (.inr (.inl ⟨rfl,rfl,b,rfl,rfl⟩)))
theorem cutX:L5.CutX XS:=fun l M h => .inr (.inr (.inr (.inr (.inr (.inl ⟨rfl,rfl,l,h,rfl,rfl⟩)))))
theorem splitX:L5.SplitX XS:=fun l M h => .inr (.inr (.inr (.inr (.inr (.inr (.inl ⟨rfl,rfl,l,h,rfl,rfl⟩))))))
theorem atoiX:L5.AtoiX XS:=fun l M h => .inr (.inr (.inr (.inr (.inr (.inr (.inr (.inl ⟨rfl,rfl,l,h,rfl,rfl⟩)))))))
theorem trimX:L5.TrimX XS:=fun l M => .inr (.inr (.inr (.inr (.inr (.inr (.inr (.inr (.inl ⟨rfl,rfl,l,rfl,rfl⟩))))))))
theorem frombX:L5.FrombX XS:=fun u M => .inr (.inr (.inr (.inr (.inr (.inr (.inr (.inr (.inr ⟨rfl,rfl,u,rfl,rfl⟩))))))))
theorem okC:∀ f cf,L5.Fc f = some cf → @okFn env0 Tryz.prog f cf = true:=by
  intro f cf h
  unfold L5.Fc at h
  split at h
  · cases h;kernel_rfl
  · cases h;kernel_rfl
  · cases h;kernel_rfl
  · cases h
theorem xsOk (m:Int) (t1 t2:TypeId) (v1 v2:Value):∀ f args M r M',XS f args M r M' → @Conc (envU m (.iface t1 v1) (.iface t2 v2)) Tryz.prog (.fn f) args M r M':=by
  letI:=envU m (.iface t1 v1) (.iface t2 v2)
  rintro f args M r M' (⟨rfl,i,ver,d,h1,h2,rfl,rfl,rfl⟩|⟨rfl,rfl,n,h1,h2,rfl,rfl⟩|⟨rfl,rfl,l,h1,h2,rfl,rfl⟩|⟨rfl,rfl,b,rfl,rfl⟩|⟨rfl,rfl,x,s,m0,l,h,rfl,rfl⟩|⟨rfl,rfl,l,h,rfl,rfl⟩|⟨rfl,rfl,l,h,rfl,rfl⟩|⟨rfl,rfl,l,h,rfl,rfl⟩|⟨rfl,rfl,l,rfl,rfl⟩|⟨rfl,rfl,u,rfl,rfl⟩)
  · have hc:CmpAt Tryz.prog 72 spnV spnCmp:=cmp_at mixed okC rfl (fun x v hv => by simp [spnV] at hv;rcases hv with rfl|rfl <;> rfl) (fun x y => L5.qc_canon x y [])
    exact sort_conc Tryz.sortSpn (k:=2) Tryz.isAgg35 Tryz.sizeOf35 (enc:=spnV) (fun _ => rfl) (fun x v hv => by simp [spnV] at hv;rcases hv with rfl|rfl <;> rfl) (fun x v hv => by simp [spnV] at hv;rcases hv with rfl|rfl <;> rfl) spnCmp_swo (g:=72) (enters_of Tryz.func72 (by kernel_rfl) rfl) hc (by kernel_rfl) (by omega) h2
  · exact itoa_conc Tryz.laysM171 (by kernel_rfl) (enters_of Tryz.func60 (by kernel_rfl) rfl) (g:=3) (by kernel_rfl) rfl h1 h2
  · have hz:=joinB_size h1 h2
    have e:(joinB l).size = (Lib.join (l.map (·.data.toList)) []).length:=by unfold joinB;rw [show (⟨(Lib.join (l.map (·.data.toList)) []).toArray⟩:ByteArray).size = (Lib.join (l.map (·.data.toList)) []).toArray.size from rfl,List.size_toArray]
    exact join_conc Tryz.lays156 Tryz.Builder_Extra_156 (fun h => h) (by kernel_rfl) (enters_of Tryz.func61 (by kernel_rfl) rfl) (xs:=l) (sep:=⟨#[]⟩) (by omega) (by show (Lib.join (l.map (·.data.toList)) []).length ≤ _;omega)
  · exact fbits_conc Tryz.func39 (by kernel_rfl) (by kernel_rfl) (by kernel_rfl) rfl b _
  · exact floor_conc Tryz.func101 (by kernel_rfl) (by kernel_rfl) (by kernel_rfl) rfl h _
  · have hz:=bs_size l
    have hd:(⟨l.toArray⟩:ByteArray).data.toList = l:=by simp
    have:=cut_conc (M:=M') Tryz.lays145 (f:=62) rfl (enters_of Tryz.func62 (by kernel_rfl) rfl) (m:=m) rfl (s:=⟨l.toArray⟩) (sep:=⟨#[10]⟩) (by omega)
    rw [hd] at this
    exact this
  · have hz:=bs_size l
    have hd:(⟨l.toArray⟩:ByteArray).data.toList = l:=by simp
    have:=split_conc (M:=M') Tryz.lays146 (f:=84) rfl (enters_of Tryz.func84 (by kernel_rfl) rfl) (m:=m) rfl (by kernel_rfl) (s:=⟨l.toArray⟩) (sep:=⟨#[32]⟩) (by omega) (by decide) (splitB_spl 32 ⟨l.toArray⟩).2
    rw [splitB_eq,hd,List.map_map] at this
    exact this
  · have hz:=bs_size l
    exact atoi_conc Tryz.laysC172 (fun h => h) (f:=99) rfl (enters_of Tryz.func99 (by kernel_rfl) rfl) (t1:=t1) (t2:=t2) (v1:=v1) (v2:=v2) rfl rfl (by omega)
  · have hd:(⟨l.toArray⟩:ByteArray).data.toList = l:=by simp
    have:=trim_conc (M:=M') Tryz.lays101 (f:=100) rfl (enters_of Tryz.func100 (by kernel_rfl) rfl) (s:=⟨l.toArray⟩) (p:=⟨#[45]⟩)
    rw [hd] at this
    exact this
  · exact frombits_conc Tryz.func44 (by kernel_rfl) (by kernel_rfl) (by kernel_rfl) rfl u _
end Go.Proofs.YtcbfjgpdogcdbaaGreatDoor.U
namespace Go.Proofs.YtcbfjgpdogcdbaaGreatDoor.U
open Go.ChangeShapes Go.WideShapes Go.ChangeAt Go.RowKit Go.Nac
def lst : List (String × DataW Unit) := [("math/bits.deBruijn32tab", Rows.laid_math_bits_deBruijn32tab), ("math/bits.deBruijn64tab", Rows.laid_math_bits_deBruijn64tab), ("internal/strconv.uint64pow10", Rows.laid_internal_strconv_uint64pow10), ("unicode/utf8.acceptRanges", Rows.laid_unicode_utf8_acceptRanges), ("strconv.ErrRange", Rows.laid_strconv_ErrRange), ("strconv.ErrSyntax", Rows.laid_strconv_ErrSyntax), ("nacelle/site.steps", Rows.laid_nacelle_site_steps), ("unicode/utf8.first", Rows.laid_unicode_utf8_first)]
noncomputable def door (os:Os):World:=World.laidAll Tryz.prog os lst
theorem door_met (os:Os) (args:Array Value):laidMetH Tryz.prog lst ((door os).forCall (fun _ _ => 0) ⟨#[],args,[]⟩).memory:=by
  rw [MakeChecks.laidMetH_plain _ _ _ (by kernel_rfl)]
  exact laidMet_laidAll args (by kernel_rfl) (by kernel_rfl)
theorem gPow : Tryz.prog.globalNamed "internal/strconv.uint64pow10" = some 3 := by kernel_rfl
theorem gStep : Tryz.prog.globalNamed "nacelle/site.steps" = some 0 := by kernel_rfl
theorem tPow:(Tryz.prog.globals[3]?).map (·.type) = some 206:=by kernel_rfl
theorem tStep:(Tryz.prog.globals[0]?).map (·.type) = some 130:=by kernel_rfl
def stepZ:List (Int × Int):=[(0,-1),(-1,-1),(-1,0),(-1,1),(0,1),(1,1),(1,0),(1,-1)]
theorem mem_row {g n:Nat} {a b:List MemPlace} (h:0 < n):MemPlace.cell g 0 ∈ MemPlace.row ⟨g,0,none⟩ n ++ a ++ b:=by
  refine List.mem_append.2 (.inl (List.mem_append.2 (.inl ?_)))
  exact List.mem_map.2 ⟨0,List.mem_range.2 h,rfl⟩
theorem tRan:(Tryz.prog.globals[5]?).map (·.type) = some 156:=by kernel_rfl
theorem tSyn:(Tryz.prog.globals[4]?).map (·.type) = some 156:=by kernel_rfl
theorem gSyn : Tryz.prog.globalNamed "strconv.ErrSyntax" = some 4 := by kernel_rfl
theorem gRan : Tryz.prog.globalNamed "strconv.ErrRange" = some 5 := by kernel_rfl
theorem of_laid {W:World} (h:laidMetH Tryz.prog lst W) (hs:W.ShapedOpen Tryz.prog):∃ (m:Int) (t1 t2:TypeId) (v1 v2:Value),∀ g cs,@Env.glb (envU m (.iface t1 v1) (.iface t2 v2)) g = some cs → ∃ el,W.heap[g]? = some (.cells cs.toArray el (0,0)):=by
  rw [MakeChecks.laidMetH_plain _ _ _ (by kernel_rfl)] at h
  have hS:=h
  obtain ⟨ps,⟨g0,t0,cs0,f0,p0,q0,_,_,_,_,⟨g1,t1,cs1,f1,p1,q1,_,_,_,_,⟨g2,t2,cs2,f2,p2,q2,hg2,ht2,hv2,hd2,⟨g3,t3,cs3,f3,p3,q3,_,_,_,_,⟨g4,t4,cs4,f4,p4,q4,hg4,ht4,hv4,hd4,⟨g5,t5,cs5,f5,p5,q5,hg5,ht5,hv5,hd5,⟨g6,t6,cs6,f6,p6,q6,hg6,ht6,hv6,hd6,_,e6⟩,e5⟩,e4⟩,e3⟩,e2⟩,e1⟩,e0⟩,_,hp⟩:=h
  obtain rfl:=Option.some.inj (gPow.symm.trans hg2)
  obtain rfl:=Option.some.inj (gRan.symm.trans hg4)
  obtain rfl:=Option.some.inj (gSyn.symm.trans hg5)
  obtain rfl:=Option.some.inj (gStep.symm.trans hg6)
  obtain rfl:=Option.some.inj (tPow.symm.trans ht2)
  obtain rfl:=Option.some.inj (tStep.symm.trans ht6)
  obtain rfl:=Option.some.inj (tRan.symm.trans ht4)
  obtain rfl:=Option.some.inj (tSyn.symm.trans ht5)
  have c2:cs2.toList = Go.Lib.pow10Tab.map (.int .u64):=lit_ints (zs:=Go.Lib.pow10Tab) Tryz.underlying206 Tryz.underlying180 (by kernel_rfl) (by kernel_rfl) rfl hd2
  have c6:cs6.toList = stepZ.flatMap fun z => [.int .i64 z.1,.int .i64 z.2]:=lit_pairs (zs:=stepZ) Tryz.underlying130 Tryz.underlying74 (by kernel_rfl) (by kernel_rfl) ⟨rfl,by kernel_rfl,Tryz.underlying3⟩ ⟨rfl,by kernel_rfl,Tryz.underlying3⟩ rfl hd6
  obtain ⟨_,u4,w4,c4,_⟩:=iface_of_trod Tryz.underlying156 hd4
  obtain ⟨_,u5,w5,c5,_⟩:=iface_of_trod Tryz.underlying156 hd5
  have z2:0 < cs2.size:=by rw [← Array.length_toList,c2];decide
  have z4:0 < cs4.size:=by rw [← Array.length_toList,c4];exact Nat.zero_lt_one
  have z5:0 < cs5.size:=by rw [← Array.length_toList,c5];exact Nat.zero_lt_one
  have z6:0 < cs6.size:=by rw [← Array.length_toList,c6];decide
  have m6:MemPlace.cell 0 0 ∈ q5:=by rw [e6];exact mem_row z6
  have m5:MemPlace.cell 4 0 ∈ q4:=by rw [e5];exact mem_row z5
  have m4:MemPlace.cell 5 0 ∈ q3:=by rw [e4];exact mem_row z4
  have m2:MemPlace.cell 3 0 ∈ q1:=by rw [e2];exact mem_row z2
  have s5:∀ x,x ∈ q5 → x ∈ q4:=fun x hx => by rw [e5];exact List.mem_append.2 (.inr hx)
  have s4:∀ x,x ∈ q4 → x ∈ q3:=fun x hx => by rw [e4];exact List.mem_append.2 (.inr hx)
  have s3:∀ x,x ∈ q3 → x ∈ q2:=fun x hx => by rw [e3];exact List.mem_append.2 (.inr hx)
  have s2:∀ x,x ∈ q2 → x ∈ q1:=fun x hx => by rw [e2];exact List.mem_append.2 (.inr hx)
  have s1:∀ x,x ∈ q1 → x ∈ q0:=fun x hx => by rw [e1];exact List.mem_append.2 (.inr hx)
  have s0:∀ x,x ∈ q0 → x ∈ ps:=fun x hx => by rw [e0];exact List.mem_append.2 (.inr hx)
  have h3:=var_heap gPow hv2 (hp 3 0 (s0 _ (s1 _ m2))).1
  have h5:=var_heap gRan hv4 (hp 5 0 (s0 _ (s1 _ (s2 _ (s3 _ m4))))).1
  have h4:=var_heap gSyn hv5 (hp 4 0 (s0 _ (s1 _ (s2 _ (s3 _ (s4 _ m5)))))).1
  have h0:=var_heap gStep hv6 (hp 0 0 (s0 _ (s1 _ (s2 _ (s3 _ (s4 _ (s5 _ m6))))))).1
  obtain ⟨m,hm⟩:=cell_of_shapedOpen_int hs (g:=2) (t:=3) (zero:=#[.int .i64 0]) (by decide +kernel) (by kernel_rfl) rfl (by kernel_rfl) (by kernel_rfl) Tryz.underlying3
  obtain ⟨ds,hh,hsz,_⟩:=hs.1 2 #[.int .i64 0] 3 (by decide +kernel) (by kernel_rfl)
  have hds:ds = #[.int .i64 m]:=by
    have e:W.cell? ⟨2,0,none⟩ = ds[0]?:=by simp [World.cell?,hh]
    rw [e] at hm
    have h1:ds.size = 1:=hsz
    apply Array.ext'
    obtain ⟨l⟩:=ds
    match l,h1 with
    | [x],_ => simp at hm;rw [hm]
  rw [hds] at hh
  refine ⟨m,u5,u4,w5,w4,fun g cs hg => ?_⟩
  rcases g with _|_|_|_|_|_|g
  · cases hg
    have:cs6 = (stepZ.flatMap fun z => [.int .i64 z.1,.int .i64 z.2]).toArray:=by rw [← c6]
    rw [this] at h0;exact h0
  · cases hg
  · cases hg
    exact ⟨_,hh⟩
  · cases hg
    have:cs2 = (Go.Lib.pow10Tab.map (.int .u64)).toArray:=by rw [← c2]
    rw [this] at h3;exact h3
  · cases hg
    have:cs5 = [.iface u5 w5].toArray:=by rw [← c5]
    rw [this] at h4;exact h4
  · cases hg
    have:cs4 = [.iface u4 w4].toArray:=by rw [← c4]
    rw [this] at h5;exact h5
  · cases hg
theorem returns_shaped {a:Assume} {C:Checked} {os:Os} {f:FuncId} {fn:Func} {s:ChangeSpec} {conds:List PathCond} {apart fresh handsOn again:Bool} {H:Type} {enc:TypeId × Value → H} {X:World → Array Value → Prop}
    (hX:∀ (w w':World) (args:Array Value),w.heap = w'.heap → X w args → X w' args) (own:ownKnob C.prog.godebug = none) (started:os.Started) (noInit:C.prog.inits.idxOf? f = none) (hfn:C.prog.funcs[f]? = some fn)
    (witness:∃ (w:World) (tape:Tape) (i:Input),w.os = os ∧ (w.forCall tape i).Shaped C.prog ∧ i.vars = [] ∧ Input.okWide C.prog (w.forCall tape i) .any w.heap.size f i ∧
      ((s.pre enc C.prog fn conds apart (w.forCall tape i).memory i.args ∧ X (w.forCall tape i).memory i.args) ∧ sizedMet enc C.prog fn (OpenSpec.ofChange s) apart (w.forCall tape i).memory i.args) ∧ a.holds C.prog (lone (Frame.enter C.prog f i.args .normal) [] (w.forCall tape i)))
    (walk:∀ (W:World) (base:Nat) (args:Array Value) (ds gs:List (DataW H)) (before:List MemPlace),(∀ (j:Nat) t v,fn.params[j]? = some t → args[j]? = some v → Value.okWide C.prog W .any base t v) →
      DataW.Whole enc C.prog fn.params.toList s.vars apart W args.toList ds gs before → X W args → W.ShapedOpen C.prog → Calls C.prog f args W fun e W' => ∃ v,e = .returned v ∧ s.post enc C.prog fn apart fresh handsOn again W args v W') :
    ReturnsInHanded a C os f .any (fun w args => (s.pre enc C.prog fn conds apart w args ∧ X w args) ∧ sizedMet enc C.prog fn (OpenSpec.ofChange s) apart w args) (s.post enc C.prog fn apart fresh handsOn again):=by
  refine returnsInHanded_of_calls own started noInit witness fun w tape i _ hs _ hok hpre _ => ?_
  obtain ⟨_,_,_,fn2,h2,_,_,_,_,hval⟩:=hok
  obtain rfl:=Option.some.inj (h2.symm.trans hfn)
  obtain ⟨⟨⟨ds,gs,before,hw,_⟩,hx⟩,_⟩:=hpre
  refine (walk (w.forCall tape i) w.heap.size i.args ds gs before hval (DataW.Whole.of_heap (w':=w.forCall tape i) (by rfl) hw) (hX _ _ _ (by rfl) hx) hs).mono fun e W' ⟨v,he,hp⟩ => ?_
  subst he
  exact ChangeSpec.post_blind hp
theorem okF (m:Int) (e1 e2:Value):∀ f cf,L5.F f = some cf → @okFn (envU m e1 e2) Tryz.prog f cf = true:=by
  intro f cf h
  unfold L5.F at h
  split at h
  · cases h;exact ok3 m e1 e2
  · cases h;exact ok4 m e1 e2
  · cases h;exact ok5 m e1 e2
  · cases h;exact ok6 m e1 e2
  · cases h;exact ok7 m e1 e2
  · cases h;exact ok8 m e1 e2
  · cases h;exact ok9 m e1 e2
  · cases h;exact ok12 m e1 e2
  · cases h;exact ok14 m e1 e2
  · cases h;exact ok16 m e1 e2
  · cases h;exact ok17 m e1 e2
  · cases h;exact ok18 m e1 e2
  · cases h;exact ok19 m e1 e2
  · cases h;exact ok20 m e1 e2
  · cases h;exact ok21 m e1 e2
  · cases h;exact ok22 m e1 e2
  · cases h;exact ok23 m e1 e2
  · cases h;exact ok24 m e1 e2
  · cases h;exact ok25 m e1 e2
  · cases h;exact ok26 m e1 e2
  · cases h;exact ok27 m e1 e2
  · cases h;exact ok28 m e1 e2
  · cases h;exact ok29 m e1 e2
  · cases h;exact ok30 m e1 e2
  · cases h;exact ok32 m e1 e2
  · cases h;exact ok33 m e1 e2
  · cases h;exact ok34 m e1 e2
  · cases h;exact ok37 m e1 e2
  · cases h;exact ok38 m e1 e2
  · cases h;exact ok40 m e1 e2
  · cases h;exact ok41 m e1 e2
  · cases h;exact ok42 m e1 e2
  · cases h;exact ok43 m e1 e2
  · cases h;exact ok46 m e1 e2
  · cases h;exact ok47 m e1 e2
  · cases h;exact ok48 m e1 e2
  · cases h;exact ok49 m e1 e2
  · cases h;exact ok51 m e1 e2
  · cases h;exact ok53 m e1 e2
  · cases h;exact ok54 m e1 e2
  · cases h;exact ok55 m e1 e2
  · cases h;exact ok56 m e1 e2
  · cases h;exact ok57 m e1 e2
  · cases h;exact ok58 m e1 e2
  · cases h;exact ok59 m e1 e2
  · cases h;exact ok63 m e1 e2
  · cases h;exact ok64 m e1 e2
  · cases h;exact ok66 m e1 e2
  · cases h;exact ok67 m e1 e2
  · cases h;exact ok68 m e1 e2
  · cases h;exact ok69 m e1 e2
  · cases h;exact ok70 m e1 e2
  · cases h;exact ok71 m e1 e2
  · cases h;exact ok72 m e1 e2
  · cases h;exact ok73 m e1 e2
  · cases h;exact ok74 m e1 e2
  · cases h;exact ok75 m e1 e2
  · cases h;exact ok76 m e1 e2
  · cases h;exact ok77 m e1 e2
  · cases h;exact ok78 m e1 e2
  · cases h;exact ok85 m e1 e2
  · cases h;exact ok86 m e1 e2
  · cases h;exact ok88 m e1 e2
  · cases h;exact ok89 m e1 e2
  · cases h;exact ok90 m e1 e2
  · cases h;exact ok92 m e1 e2
  · cases h;exact ok93 m e1 e2
  · cases h;exact ok103 m e1 e2
  · cases h
end Go.Proofs.YtcbfjgpdogcdbaaGreatDoor.U
