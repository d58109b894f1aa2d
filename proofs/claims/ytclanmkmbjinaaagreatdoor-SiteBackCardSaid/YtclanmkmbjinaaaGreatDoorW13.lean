/- The library's texts at this program: cuts, splits, prefixes, numbers. -/
import Derived.Test.YtclanmkmbjinaaaGreatDoorW12
import Derived.Shelf.Strings.Cut
import Derived.Shelf.Strings.Split
import Derived.Shelf.Strings.Prefix
import Derived.Shelf.Strconv.AtoiAll
import Derived.Test.YtclanmkmbjinaaaGreatDoorProg
import Derived.Test.YtclanmkmbjinaaaGreatDoorChecked
import Derived.KernelRfl
import Derived.Test.YtclanmkmbjinaaaGreatDoorRows
import Derived.Lay
import Derived.Stop.LaidErr
import Derived.Shelf.Vars
import Derived.Test.YtclanmkmbjinaaaGreatDoorCards
import Derived.Test.YtclanmkmbjinaaaGreatDoorTie
import Derived.WalkKit
import Derived.ProofKit
import Derived.OpenShut
import Derived.ShutString
import Derived.ChangeOld
import Derived.Below
import Derived.SizedLaws
import Derived.LaidMore
import Derived.Stop.Joined
import Derived.SevenTiedAt
import Derived.MakeChecks
namespace Go.Proofs
open Go.Shelf
def Tryz.lays145_ren:Go.Shelf.Ren:=⟨fun|145 => 142|220 => 161|219 => 175|217 => 191|225 => 192|224 => 193|267 => 194|266 => 219|314 => 220|n => n,fun|9 => 9|4 => 4|59 => 200|3 => 3|5 => 5|46 => 184|146 => 271|51 => 186|n => n,fun|1 => 2|n => n⟩
theorem Tryz.lays145:Go.Proofs.Lays.n145 Tryz.prog Tryz.lays145_ren:={
 mixed:=by kernel_rfl
 f145:=Tryz.func142.trans (congrArg some (by kernel_rfl))
 f217:=Tryz.func191.trans (congrArg some (by kernel_rfl))
 f219:=Tryz.func175.trans (congrArg some (by kernel_rfl))
 f220:=Tryz.func161.trans (congrArg some (by kernel_rfl))
 f224:=Tryz.func193.trans (congrArg some (by kernel_rfl))
 f225:=Tryz.func192.trans (congrArg some (by kernel_rfl))
 f266:=Tryz.func219.trans (congrArg some (by kernel_rfl))
 f267:=Tryz.func194.trans (congrArg some (by kernel_rfl))
 f314:=Tryz.func220.trans (congrArg some (by kernel_rfl))
 t3:=Tryz.underlying3
 a3:=Tryz.isAgg3
 z3:=Tryz.sizeOf3
 v3:=Tryz.zeroValue3
 t4:=Tryz.underlying4
 a4:=Tryz.isAgg4
 z4:=Tryz.sizeOf4
 v4:=Tryz.zeroValue4
 t5:=Tryz.underlying5
 a5:=Tryz.isAgg5
 z5:=Tryz.sizeOf5
 v5:=Tryz.zeroValue5
 t9:=Tryz.underlying9
 a9:=Tryz.isAgg9
 z9:=Tryz.sizeOf9
 v9:=Tryz.zeroValue9
 t46:=Tryz.underlying184
 a46:=Tryz.isAgg184
 z46:=Tryz.sizeOf184
 v46:=Tryz.zeroValue184
 t51:=Tryz.underlying186
 a51:=Tryz.isAgg186
 z51:=Tryz.sizeOf186
 v51:=Tryz.zeroValue186
 t59:=Tryz.underlying200
 a59:=Tryz.isAgg200
 z59:=Tryz.sizeOf200
 v59:=Tryz.zeroValue200
 t146:=Tryz.underlying271
 a146:=Tryz.isAgg271
 z146:=Tryz.sizeOf271
 v146:=Tryz.zeroValue271
 g1:=by kernel_rfl }
def Tryz.lays146_ren:Go.Shelf.Ren:=⟨fun|146 => 162|221 => 176|268 => 195|138 => 196|143 => 197|195 => 221|197 => 222|218 => 223|219 => 175|260 => 237|217 => 191|225 => 192|224 => 193|267 => 194|266 => 219|314 => 220|n => n,fun|9 => 9|31 => 149|3 => 3|4 => 4|0 => 0|105 => 274|21 => 21|5 => 5|46 => 184|119 => 300|139 => 303|138 => 302|146 => 271|51 => 186|n => n,fun|1 => 2|3 => 8|4 => 9|n => n⟩
theorem Tryz.lays146:Go.Proofs.Lays.n146 Tryz.prog Tryz.lays146_ren:={
 mixed:=by kernel_rfl
 f138:=Tryz.func196.trans (congrArg some (by kernel_rfl))
 f143:=Tryz.func197.trans (congrArg some (by kernel_rfl))
 f146:=Tryz.func162.trans (congrArg some (by kernel_rfl))
 f195:=Tryz.func221.trans (congrArg some (by kernel_rfl))
 f197:=Tryz.func222.trans (congrArg some (by kernel_rfl))
 f217:=Tryz.func191.trans (congrArg some (by kernel_rfl))
 f218:=Tryz.func223.trans (congrArg some (by kernel_rfl))
 f219:=Tryz.func175.trans (congrArg some (by kernel_rfl))
 f221:=Tryz.func176.trans (congrArg some (by kernel_rfl))
 f224:=Tryz.func193.trans (congrArg some (by kernel_rfl))
 f225:=Tryz.func192.trans (congrArg some (by kernel_rfl))
 f260:=Tryz.func237.trans (congrArg some (by kernel_rfl))
 f266:=Tryz.func219.trans (congrArg some (by kernel_rfl))
 f267:=Tryz.func194.trans (congrArg some (by kernel_rfl))
 f268:=Tryz.func195.trans (congrArg some (by kernel_rfl))
 f314:=Tryz.func220.trans (congrArg some (by kernel_rfl))
 t0:=Tryz.underlying0
 a0:=Tryz.isAgg0
 z0:=Tryz.sizeOf0
 v0:=Tryz.zeroValue0
 t3:=Tryz.underlying3
 a3:=Tryz.isAgg3
 z3:=Tryz.sizeOf3
 v3:=Tryz.zeroValue3
 t4:=Tryz.underlying4
 a4:=Tryz.isAgg4
 z4:=Tryz.sizeOf4
 v4:=Tryz.zeroValue4
 t5:=Tryz.underlying5
 a5:=Tryz.isAgg5
 z5:=Tryz.sizeOf5
 v5:=Tryz.zeroValue5
 t9:=Tryz.underlying9
 a9:=Tryz.isAgg9
 z9:=Tryz.sizeOf9
 v9:=Tryz.zeroValue9
 t21:=Tryz.underlying21
 a21:=Tryz.isAgg21
 z21:=Tryz.sizeOf21
 v21:=Tryz.zeroValue21
 t31:=Tryz.underlying149
 a31:=Tryz.isAgg149
 z31:=Tryz.sizeOf149
 v31:=Tryz.zeroValue149
 t46:=Tryz.underlying184
 a46:=Tryz.isAgg184
 z46:=Tryz.sizeOf184
 v46:=Tryz.zeroValue184
 t51:=Tryz.underlying186
 a51:=Tryz.isAgg186
 z51:=Tryz.sizeOf186
 v51:=Tryz.zeroValue186
 t105:=Tryz.underlying274
 a105:=Tryz.isAgg274
 z105:=Tryz.sizeOf274
 v105:=Tryz.zeroValue274
 t119:=Tryz.underlying300
 a119:=Tryz.isAgg300
 z119:=Tryz.sizeOf300
 t138:=Tryz.underlying302
 a138:=Tryz.isAgg302
 z138:=Tryz.sizeOf302
 v138:=Tryz.zeroValue302
 t139:=Tryz.underlying303
 a139:=Tryz.isAgg303
 z139:=Tryz.sizeOf303
 v139:=Tryz.zeroValue303
 t146:=Tryz.underlying271
 a146:=Tryz.isAgg271
 z146:=Tryz.sizeOf271
 v146:=Tryz.zeroValue271
 g1:=by kernel_rfl
 g3:=by kernel_rfl
 g4:=by kernel_rfl }
def Tryz.lays101_ren:Go.Shelf.Ren:=⟨fun|101 => 178|208 => 200|206 => 229|n => n,fun|9 => 9|4 => 4|3 => 3|n => n,fun|n => n⟩
theorem Tryz.lays101:Go.Proofs.Lays.n101 Tryz.prog Tryz.lays101_ren:={
 mixed:=by kernel_rfl
 f101:=Tryz.func178.trans (congrArg some (by kernel_rfl))
 f206:=Tryz.func229.trans (congrArg some (by kernel_rfl))
 f208:=Tryz.func200.trans (congrArg some (by kernel_rfl))
 t3:=Tryz.underlying3
 a3:=Tryz.isAgg3
 z3:=Tryz.sizeOf3
 v3:=Tryz.zeroValue3
 t4:=Tryz.underlying4
 a4:=Tryz.isAgg4
 z4:=Tryz.sizeOf4
 v4:=Tryz.zeroValue4
 t9:=Tryz.underlying9
 a9:=Tryz.isAgg9
 z9:=Tryz.sizeOf9
 v9:=Tryz.zeroValue9 }
def Tryz.laysC172_ren:Go.Shelf.Ren:=⟨fun|172 => 177|244 => 198|245 => 199|247 => 224|279 => 225|280 => 226|281 => 227|282 => 228|287 => 238|316 => 239|171 => 140|205 => 240|321 => 242|322 => 243|243 => 157|246 => 172|283 => 185|284 => 186|285 => 187|286 => 188|129 => 210|317 => 215|318 => 216|319 => 217|320 => 218|337 => 235|338 => 236|n => n,fun|9 => 9|3 => 3|75 => 220|76 => 221|4 => 4|5 => 5|167 => 276|37 => 133|0 => 0|85 => 277|2 => 2|168 => 279|53 => 247|175 => 289|46 => 184|210 => 293|127 => 238|145 => 307|143 => 305|21 => 21|171 => 246|173 => 250|212 => 269|51 => 186|20 => 20|213 => 270|232 => 298|233 => 299|80 => 223|n => n,fun|15 => 4|16 => 5|17 => 3|18 => 6|19 => 7|n => n⟩
theorem Tryz.laysC172:Go.Proofs.LaysC.n172 Tryz.prog Tryz.laysC172_ren:={
 mixed:=by kernel_rfl
 f129:=Tryz.func210.trans (congrArg some (by kernel_rfl))
 f171:=Tryz.func140.trans (congrArg some (by kernel_rfl))
 f172:=Tryz.func177.trans (congrArg some (by kernel_rfl))
 f205:=Tryz.func240.trans (congrArg some (by kernel_rfl))
 f243:=Tryz.func157.trans (congrArg some (by kernel_rfl))
 f244:=Tryz.func198.trans (congrArg some (by kernel_rfl))
 f245:=Tryz.func199.trans (congrArg some (by kernel_rfl))
 f246:=Tryz.func172.trans (congrArg some (by kernel_rfl))
 f247:=Tryz.func224.trans (congrArg some (by kernel_rfl))
 f279:=Tryz.func225.trans (congrArg some (by kernel_rfl))
 f280:=Tryz.func226.trans (congrArg some (by kernel_rfl))
 f281:=Tryz.func227.trans (congrArg some (by kernel_rfl))
 f282:=Tryz.func228.trans (congrArg some (by kernel_rfl))
 f283:=Tryz.func185.trans (congrArg some (by kernel_rfl))
 f284:=Tryz.func186.trans (congrArg some (by kernel_rfl))
 f285:=Tryz.func187.trans (congrArg some (by kernel_rfl))
 f286:=Tryz.func188.trans (congrArg some (by kernel_rfl))
 f287:=Tryz.func238.trans (congrArg some (by kernel_rfl))
 f316:=Tryz.func239.trans (congrArg some (by kernel_rfl))
 f317:=Tryz.func215.trans (congrArg some (by kernel_rfl))
 f318:=Tryz.func216.trans (congrArg some (by kernel_rfl))
 f319:=Tryz.func217.trans (congrArg some (by kernel_rfl))
 f320:=Tryz.func218.trans (congrArg some (by kernel_rfl))
 f321:=Tryz.func242.trans (congrArg some (by kernel_rfl))
 f322:=Tryz.func243.trans (congrArg some (by kernel_rfl))
 f337:=Tryz.func235.trans (congrArg some (by kernel_rfl))
 f338:=Tryz.func236.trans (congrArg some (by kernel_rfl))
 t0:=Tryz.underlying0
 a0:=Tryz.isAgg0
 z0:=Tryz.sizeOf0
 v0:=Tryz.zeroValue0
 t2:=Tryz.underlying2
 a2:=Tryz.isAgg2
 z2:=Tryz.sizeOf2
 v2:=Tryz.zeroValue2
 t3:=Tryz.underlying3
 a3:=Tryz.isAgg3
 z3:=Tryz.sizeOf3
 v3:=Tryz.zeroValue3
 t4:=Tryz.underlying4
 a4:=Tryz.isAgg4
 z4:=Tryz.sizeOf4
 v4:=Tryz.zeroValue4
 t5:=Tryz.underlying5
 a5:=Tryz.isAgg5
 z5:=Tryz.sizeOf5
 v5:=Tryz.zeroValue5
 t9:=Tryz.underlying9
 a9:=Tryz.isAgg9
 z9:=Tryz.sizeOf9
 v9:=Tryz.zeroValue9
 t20:=Tryz.underlying20
 a20:=Tryz.isAgg20
 z20:=Tryz.sizeOf20
 v20:=Tryz.zeroValue20
 t21:=Tryz.underlying21
 a21:=Tryz.isAgg21
 z21:=Tryz.sizeOf21
 v21:=Tryz.zeroValue21
 t37:=Tryz.underlying133
 a37:=Tryz.isAgg133
 z37:=Tryz.sizeOf133
 v37:=Tryz.zeroValue133
 t46:=Tryz.underlying184
 a46:=Tryz.isAgg184
 z46:=Tryz.sizeOf184
 v46:=Tryz.zeroValue184
 t51:=Tryz.underlying186
 a51:=Tryz.isAgg186
 z51:=Tryz.sizeOf186
 v51:=Tryz.zeroValue186
 t53:=Tryz.underlying247
 a53:=Tryz.isAgg247
 z53:=Tryz.sizeOf247
 v53:=Tryz.zeroValue247
 t75:=Tryz.underlying220
 a75:=Tryz.isAgg220
 z75:=Tryz.sizeOf220
 v75:=Tryz.zeroValue220
 t76:=Tryz.underlying221
 a76:=Tryz.isAgg221
 z76:=Tryz.sizeOf221
 v76:=Tryz.zeroValue221
 t85:=Tryz.underlying277
 a85:=Tryz.isAgg277
 z85:=Tryz.sizeOf277
 v85:=Tryz.zeroValue277
 t127:=Tryz.underlying238
 a127:=Tryz.isAgg238
 z127:=Tryz.sizeOf238
 v127:=Tryz.zeroValue238
 t143:=Tryz.underlying305
 a143:=Tryz.isAgg305
 z143:=Tryz.sizeOf305
 v143:=Tryz.zeroValue305
 t145:=Tryz.underlying307
 a145:=Tryz.isAgg307
 z145:=Tryz.sizeOf307
 v145:=Tryz.zeroValue307
 t167:=Tryz.underlying276
 a167:=Tryz.isAgg276
 z167:=Tryz.sizeOf276
 v167:=Tryz.zeroValue276
 t168:=Tryz.underlying279
 a168:=Tryz.isAgg279
 z168:=Tryz.sizeOf279
 v168:=Tryz.zeroValue279
 t171:=Tryz.underlying246
 a171:=Tryz.isAgg246
 z171:=Tryz.sizeOf246
 v171:=Tryz.zeroValue246
 t173:=Tryz.underlying250
 a173:=Tryz.isAgg250
 z173:=Tryz.sizeOf250
 v173:=Tryz.zeroValue250
 t175:=Tryz.underlying289
 a175:=Tryz.isAgg289
 z175:=Tryz.sizeOf289
 v175:=Tryz.zeroValue289
 t210:=Tryz.underlying293
 a210:=Tryz.isAgg293
 z210:=Tryz.sizeOf293
 v210:=Tryz.zeroValue293
 t212:=Tryz.underlying269
 a212:=Tryz.isAgg269
 z212:=Tryz.sizeOf269
 v212:=Tryz.zeroValue269
 t213:=Tryz.underlying270
 a213:=Tryz.isAgg270
 z213:=Tryz.sizeOf270
 t232:=Tryz.underlying298
 a232:=Tryz.isAgg298
 z232:=Tryz.sizeOf298
 v232:=Tryz.zeroValue298
 t233:=Tryz.underlying299
 a233:=Tryz.isAgg299
 z233:=Tryz.sizeOf299
 v233:=Tryz.zeroValue299
 g15:=by kernel_rfl
 g16:=by kernel_rfl
 g17:=by kernel_rfl
 g18:=by kernel_rfl
 g19:=by kernel_rfl
 t80:=Tryz.underlying223
 a80:=Tryz.isAgg223
 z80:=Tryz.sizeOf223
 v80:=Tryz.zeroValue223
 i0:=by kernel_rfl
 i2:=by kernel_rfl
 i3:=by kernel_rfl
 i4:=by kernel_rfl
 i5:=by kernel_rfl
 i9:=by kernel_rfl
 i20:=by kernel_rfl
 i21:=by kernel_rfl
 i37:=by kernel_rfl
 i46:=by kernel_rfl
 i51:=by kernel_rfl
 i53:=by kernel_rfl
 i75:=by kernel_rfl
 i76:=by kernel_rfl
 i80:=by kernel_rfl
 i85:=by kernel_rfl
 i127:=by kernel_rfl
 i143:=by kernel_rfl
 i145:=by kernel_rfl
 i167:=by kernel_rfl
 i168:=by kernel_rfl
 i171:=by kernel_rfl
 i173:=by kernel_rfl
 i175:=by kernel_rfl
 i210:=by kernel_rfl
 i212:=by kernel_rfl
 i232:=by kernel_rfl
 i233:=by kernel_rfl
 m15:=by kernel_rfl
 m16:=by kernel_rfl
 m17:=by kernel_rfl
 m18:=by kernel_rfl
 m19:=by kernel_rfl
 c0:=by kernel_rfl
 c2:=by kernel_rfl
 c3:=by kernel_rfl
 c4:=by kernel_rfl
 c5:=by kernel_rfl
 c9:=by kernel_rfl
 c20:=by kernel_rfl
 c21:=by kernel_rfl
 c37:=by kernel_rfl
 c46:=by kernel_rfl
 c51:=by kernel_rfl
 c53:=by kernel_rfl
 c75:=by kernel_rfl
 c76:=by kernel_rfl
 c80:=by kernel_rfl
 c85:=by kernel_rfl
 c127:=by kernel_rfl
 c143:=by kernel_rfl
 c145:=by kernel_rfl
 c167:=by kernel_rfl
 c168:=by kernel_rfl
 c171:=by kernel_rfl
 c173:=by kernel_rfl
 c175:=by kernel_rfl
 c210:=by kernel_rfl
 c212:=by kernel_rfl
 c213:=by kernel_rfl
 c232:=by kernel_rfl
 c233:=by kernel_rfl }
end Go.Proofs
set_option maxRecDepth 100000
namespace Go.Proofs.YtclanmkmbjinaaaGreatDoor.U
open Go.Nac
abbrev envU (m:Int) (e1 e2:Value):Env:=⟨fun|0 => some [.int .i64 0,.int .i64 (-1),.int .i64 (-1),.int .i64 (-1),.int .i64 (-1),.int .i64 0,.int .i64 (-1),.int .i64 1,.int .i64 0,.int .i64 1,.int .i64 1,.int .i64 1,.int .i64 1,.int .i64 0,.int .i64 1,.int .i64 (-1)]|2 => some [.int .i64 m]|3 => some (Go.Lib.pow10Tab.map (.int .u64))|4 => some [e1]|5 => some [e2]|_ => none,False⟩
theorem ok3 (m:Int) (e1 e2:Value):@okFn (envU m e1 e2) Tryz.prog 3 L4.c3 = true:=by kernel_rfl
theorem ok4 (m:Int) (e1 e2:Value):@okFn (envU m e1 e2) Tryz.prog 4 L4.c4 = true:=by kernel_rfl
theorem ok5 (m:Int) (e1 e2:Value):@okFn (envU m e1 e2) Tryz.prog 5 L4.c5 = true:=by kernel_rfl
theorem ok6 (m:Int) (e1 e2:Value):@okFn (envU m e1 e2) Tryz.prog 6 L4.c6 = true:=by kernel_rfl
theorem ok9 (m:Int) (e1 e2:Value):@okFn (envU m e1 e2) Tryz.prog 9 L4.c9 = true:=by kernel_rfl
theorem ok16 (m:Int) (e1 e2:Value):@okFn (envU m e1 e2) Tryz.prog 16 L4.c16 = true:=by kernel_rfl
theorem ok17 (m:Int) (e1 e2:Value):@okFn (envU m e1 e2) Tryz.prog 17 L4.c17 = true:=by kernel_rfl
theorem ok18 (m:Int) (e1 e2:Value):@okFn (envU m e1 e2) Tryz.prog 18 L4.c18 = true:=by kernel_rfl
theorem ok19 (m:Int) (e1 e2:Value):@okFn (envU m e1 e2) Tryz.prog 19 L4.c19 = true:=by kernel_rfl
theorem ok20 (m:Int) (e1 e2:Value):@okFn (envU m e1 e2) Tryz.prog 20 L4.c20 = true:=by kernel_rfl
theorem ok21 (m:Int) (e1 e2:Value):@okFn (envU m e1 e2) Tryz.prog 21 L4.c21 = true:=by kernel_rfl
theorem ok23 (m:Int) (e1 e2:Value):@okFn (envU m e1 e2) Tryz.prog 23 L4.c23 = true:=by kernel_rfl
theorem ok26 (m:Int) (e1 e2:Value):@okFn (envU m e1 e2) Tryz.prog 26 L4.c26 = true:=by kernel_rfl
theorem ok27 (m:Int) (e1 e2:Value):@okFn (envU m e1 e2) Tryz.prog 27 L4.c27 = true:=by kernel_rfl
theorem ok28 (m:Int) (e1 e2:Value):@okFn (envU m e1 e2) Tryz.prog 28 L4.c28 = true:=by kernel_rfl
theorem ok31 (m:Int) (e1 e2:Value):@okFn (envU m e1 e2) Tryz.prog 31 L4.c31 = true:=by kernel_rfl
theorem ok33 (m:Int) (e1 e2:Value):@okFn (envU m e1 e2) Tryz.prog 33 L4.c33 = true:=by kernel_rfl
theorem ok37 (m:Int) (e1 e2:Value):@okFn (envU m e1 e2) Tryz.prog 37 L4.c37 = true:=by kernel_rfl
theorem ok39 (m:Int) (e1 e2:Value):@okFn (envU m e1 e2) Tryz.prog 39 L4.c39 = true:=by kernel_rfl
theorem ok40 (m:Int) (e1 e2:Value):@okFn (envU m e1 e2) Tryz.prog 40 L4.c40 = true:=by kernel_rfl
theorem ok41 (m:Int) (e1 e2:Value):@okFn (envU m e1 e2) Tryz.prog 41 L4.c41 = true:=by kernel_rfl
theorem ok42 (m:Int) (e1 e2:Value):@okFn (envU m e1 e2) Tryz.prog 42 L4.c42 = true:=by kernel_rfl
theorem ok43 (m:Int) (e1 e2:Value):@okFn (envU m e1 e2) Tryz.prog 43 L4.c43 = true:=by kernel_rfl
theorem ok44 (m:Int) (e1 e2:Value):@okFn (envU m e1 e2) Tryz.prog 44 L4.c44 = true:=by kernel_rfl
theorem ok46 (m:Int) (e1 e2:Value):@okFn (envU m e1 e2) Tryz.prog 46 L4.c46 = true:=by kernel_rfl
theorem ok48 (m:Int) (e1 e2:Value):@okFn (envU m e1 e2) Tryz.prog 48 L4.c48 = true:=by kernel_rfl
theorem ok49 (m:Int) (e1 e2:Value):@okFn (envU m e1 e2) Tryz.prog 49 L4.c49 = true:=by kernel_rfl
theorem ok51 (m:Int) (e1 e2:Value):@okFn (envU m e1 e2) Tryz.prog 51 L4.c51 = true:=by kernel_rfl
theorem ok53 (m:Int) (e1 e2:Value):@okFn (envU m e1 e2) Tryz.prog 53 L4.c53 = true:=by kernel_rfl
theorem ok54 (m:Int) (e1 e2:Value):@okFn (envU m e1 e2) Tryz.prog 54 L4.c54 = true:=by kernel_rfl
theorem ok55 (m:Int) (e1 e2:Value):@okFn (envU m e1 e2) Tryz.prog 55 L4.c55 = true:=by kernel_rfl
theorem ok57 (m:Int) (e1 e2:Value):@okFn (envU m e1 e2) Tryz.prog 57 L4.c57 = true:=by kernel_rfl
theorem ok58 (m:Int) (e1 e2:Value):@okFn (envU m e1 e2) Tryz.prog 58 L4.c58 = true:=by kernel_rfl
theorem ok61 (m:Int) (e1 e2:Value):@okFn (envU m e1 e2) Tryz.prog 61 L4.c61 = true:=by kernel_rfl
theorem ok62 (m:Int) (e1 e2:Value):@okFn (envU m e1 e2) Tryz.prog 62 L4.c62 = true:=by kernel_rfl
theorem ok63 (m:Int) (e1 e2:Value):@okFn (envU m e1 e2) Tryz.prog 63 L4.c63 = true:=by kernel_rfl
theorem ok64 (m:Int) (e1 e2:Value):@okFn (envU m e1 e2) Tryz.prog 64 L4.c64 = true:=by kernel_rfl
theorem ok65 (m:Int) (e1 e2:Value):@okFn (envU m e1 e2) Tryz.prog 65 L4.c65 = true:=by kernel_rfl
theorem ok66 (m:Int) (e1 e2:Value):@okFn (envU m e1 e2) Tryz.prog 66 L4.c66 = true:=by kernel_rfl
theorem ok67 (m:Int) (e1 e2:Value):@okFn (envU m e1 e2) Tryz.prog 67 L4.c67 = true:=by kernel_rfl
theorem ok68 (m:Int) (e1 e2:Value):@okFn (envU m e1 e2) Tryz.prog 68 L4.c68 = true:=by kernel_rfl
theorem ok71 (m:Int) (e1 e2:Value):@okFn (envU m e1 e2) Tryz.prog 71 L4.c71 = true:=by kernel_rfl
theorem ok75 (m:Int) (e1 e2:Value):@okFn (envU m e1 e2) Tryz.prog 75 L4.c75 = true:=by kernel_rfl
theorem ok76 (m:Int) (e1 e2:Value):@okFn (envU m e1 e2) Tryz.prog 76 L4.c76 = true:=by kernel_rfl
theorem ok77 (m:Int) (e1 e2:Value):@okFn (envU m e1 e2) Tryz.prog 77 L4.c77 = true:=by kernel_rfl
theorem ok79 (m:Int) (e1 e2:Value):@okFn (envU m e1 e2) Tryz.prog 79 L4.c79 = true:=by kernel_rfl
theorem ok80 (m:Int) (e1 e2:Value):@okFn (envU m e1 e2) Tryz.prog 80 L4.c80 = true:=by kernel_rfl
theorem ok81 (m:Int) (e1 e2:Value):@okFn (envU m e1 e2) Tryz.prog 81 L4.c81 = true:=by kernel_rfl
theorem ok85 (m:Int) (e1 e2:Value):@okFn (envU m e1 e2) Tryz.prog 85 L4.c85 = true:=by kernel_rfl
theorem ok86 (m:Int) (e1 e2:Value):@okFn (envU m e1 e2) Tryz.prog 86 L4.c86 = true:=by kernel_rfl
theorem ok88 (m:Int) (e1 e2:Value):@okFn (envU m e1 e2) Tryz.prog 88 L4.c88 = true:=by kernel_rfl
theorem ok89 (m:Int) (e1 e2:Value):@okFn (envU m e1 e2) Tryz.prog 89 L4.c89 = true:=by kernel_rfl
theorem ok92 (m:Int) (e1 e2:Value):@okFn (envU m e1 e2) Tryz.prog 92 L4.c92 = true:=by kernel_rfl
theorem ok93 (m:Int) (e1 e2:Value):@okFn (envU m e1 e2) Tryz.prog 93 L4.c93 = true:=by kernel_rfl
theorem ok96 (m:Int) (e1 e2:Value):@okFn (envU m e1 e2) Tryz.prog 96 L4.c96 = true:=by kernel_rfl
theorem ok97 (m:Int) (e1 e2:Value):@okFn (envU m e1 e2) Tryz.prog 97 L4.c97 = true:=by kernel_rfl
theorem ok98 (m:Int) (e1 e2:Value):@okFn (envU m e1 e2) Tryz.prog 98 L4.c98 = true:=by kernel_rfl
theorem ok99 (m:Int) (e1 e2:Value):@okFn (envU m e1 e2) Tryz.prog 99 L4.c99 = true:=by kernel_rfl
theorem ok100 (m:Int) (e1 e2:Value):@okFn (envU m e1 e2) Tryz.prog 100 L4.c100 = true:=by kernel_rfl
theorem ok101 (m:Int) (e1 e2:Value):@okFn (envU m e1 e2) Tryz.prog 101 L4.c101 = true:=by kernel_rfl
theorem ok103 (m:Int) (e1 e2:Value):@okFn (envU m e1 e2) Tryz.prog 103 L4.c103 = true:=by kernel_rfl
theorem ok104 (m:Int) (e1 e2:Value):@okFn (envU m e1 e2) Tryz.prog 104 L4.c104 = true:=by kernel_rfl
theorem ok105 (m:Int) (e1 e2:Value):@okFn (envU m e1 e2) Tryz.prog 105 L4.c105 = true:=by kernel_rfl
theorem ok106 (m:Int) (e1 e2:Value):@okFn (envU m e1 e2) Tryz.prog 106 L4.c106 = true:=by kernel_rfl
theorem ok107 (m:Int) (e1 e2:Value):@okFn (envU m e1 e2) Tryz.prog 107 L4.c107 = true:=by kernel_rfl
theorem ok108 (m:Int) (e1 e2:Value):@okFn (envU m e1 e2) Tryz.prog 108 L4.c108 = true:=by kernel_rfl
theorem ok109 (m:Int) (e1 e2:Value):@okFn (envU m e1 e2) Tryz.prog 109 L4.c109 = true:=by kernel_rfl
theorem ok110 (m:Int) (e1 e2:Value):@okFn (envU m e1 e2) Tryz.prog 110 L4.c110 = true:=by kernel_rfl
theorem ok111 (m:Int) (e1 e2:Value):@okFn (envU m e1 e2) Tryz.prog 111 L4.c111 = true:=by kernel_rfl
theorem ok112 (m:Int) (e1 e2:Value):@okFn (envU m e1 e2) Tryz.prog 112 L4.c112 = true:=by kernel_rfl
theorem ok113 (m:Int) (e1 e2:Value):@okFn (envU m e1 e2) Tryz.prog 113 L4.c113 = true:=by kernel_rfl
theorem ok114 (m:Int) (e1 e2:Value):@okFn (envU m e1 e2) Tryz.prog 114 L4.c114 = true:=by kernel_rfl
theorem ok115 (m:Int) (e1 e2:Value):@okFn (envU m e1 e2) Tryz.prog 115 L4.c115 = true:=by kernel_rfl
theorem ok119 (m:Int) (e1 e2:Value):@okFn (envU m e1 e2) Tryz.prog 119 L4.c119 = true:=by kernel_rfl
theorem ok121 (m:Int) (e1 e2:Value):@okFn (envU m e1 e2) Tryz.prog 121 L4.c121 = true:=by kernel_rfl
theorem ok122 (m:Int) (e1 e2:Value):@okFn (envU m e1 e2) Tryz.prog 122 L4.c122 = true:=by kernel_rfl
theorem ok123 (m:Int) (e1 e2:Value):@okFn (envU m e1 e2) Tryz.prog 123 L4.c123 = true:=by kernel_rfl
theorem ok124 (m:Int) (e1 e2:Value):@okFn (envU m e1 e2) Tryz.prog 124 L4.c124 = true:=by kernel_rfl
theorem ok125 (m:Int) (e1 e2:Value):@okFn (envU m e1 e2) Tryz.prog 125 L4.c125 = true:=by kernel_rfl
theorem ok126 (m:Int) (e1 e2:Value):@okFn (envU m e1 e2) Tryz.prog 126 L4.c126 = true:=by kernel_rfl
theorem ok127 (m:Int) (e1 e2:Value):@okFn (envU m e1 e2) Tryz.prog 127 L4.c127 = true:=by kernel_rfl
theorem ok128 (m:Int) (e1 e2:Value):@okFn (envU m e1 e2) Tryz.prog 128 L4.c128 = true:=by kernel_rfl
theorem ok130 (m:Int) (e1 e2:Value):@okFn (envU m e1 e2) Tryz.prog 130 L4.c130 = true:=by kernel_rfl
theorem ok131 (m:Int) (e1 e2:Value):@okFn (envU m e1 e2) Tryz.prog 131 L4.c131 = true:=by kernel_rfl
theorem ok133 (m:Int) (e1 e2:Value):@okFn (envU m e1 e2) Tryz.prog 133 L4.c133 = true:=by kernel_rfl
theorem ok134 (m:Int) (e1 e2:Value):@okFn (envU m e1 e2) Tryz.prog 134 L4.c134 = true:=by kernel_rfl
theorem ok138 (m:Int) (e1 e2:Value):@okFn (envU m e1 e2) Tryz.prog 138 L4.c138 = true:=by kernel_rfl
theorem ok139 (m:Int) (e1 e2:Value):@okFn (envU m e1 e2) Tryz.prog 139 L4.c139 = true:=by kernel_rfl
theorem ok143 (m:Int) (e1 e2:Value):@okFn (envU m e1 e2) Tryz.prog 143 L4.c143 = true:=by kernel_rfl
theorem ok145 (m:Int) (e1 e2:Value):@okFn (envU m e1 e2) Tryz.prog 145 L4.c145 = true:=by kernel_rfl
theorem ok146 (m:Int) (e1 e2:Value):@okFn (envU m e1 e2) Tryz.prog 146 L4.c146 = true:=by kernel_rfl
theorem ok147 (m:Int) (e1 e2:Value):@okFn (envU m e1 e2) Tryz.prog 147 L4.c147 = true:=by kernel_rfl
theorem ok148 (m:Int) (e1 e2:Value):@okFn (envU m e1 e2) Tryz.prog 148 L4.c148 = true:=by kernel_rfl
theorem ok149 (m:Int) (e1 e2:Value):@okFn (envU m e1 e2) Tryz.prog 149 L4.c149 = true:=by kernel_rfl
theorem ok152 (m:Int) (e1 e2:Value):@okFn (envU m e1 e2) Tryz.prog 152 L4.c152 = true:=by kernel_rfl
theorem ok153 (m:Int) (e1 e2:Value):@okFn (envU m e1 e2) Tryz.prog 153 L4.c153 = true:=by kernel_rfl
theorem ok156 (m:Int) (e1 e2:Value):@okFn (envU m e1 e2) Tryz.prog 156 L4.c156 = true:=by kernel_rfl
theorem ok163 (m:Int) (e1 e2:Value):@okFn (envU m e1 e2) Tryz.prog 163 L4.c163 = true:=by kernel_rfl
theorem ok164 (m:Int) (e1 e2:Value):@okFn (envU m e1 e2) Tryz.prog 164 L4.c164 = true:=by kernel_rfl
theorem ok165 (m:Int) (e1 e2:Value):@okFn (envU m e1 e2) Tryz.prog 165 L4.c165 = true:=by kernel_rfl
theorem ok167 (m:Int) (e1 e2:Value):@okFn (envU m e1 e2) Tryz.prog 167 L4.c167 = true:=by kernel_rfl
theorem ok168 (m:Int) (e1 e2:Value):@okFn (envU m e1 e2) Tryz.prog 168 L4.c168 = true:=by kernel_rfl
theorem ok179 (m:Int) (e1 e2:Value):@okFn (envU m e1 e2) Tryz.prog 179 L4.c179 = true:=by kernel_rfl
end Go.Proofs.YtclanmkmbjinaaaGreatDoor.U
set_option linter.unusedVariables false
namespace Go.Proofs.YtclanmkmbjinaaaGreatDoor.U
open Go.Nac Go.Shelf
theorem mixed:Tryz.prog.follows .mixedOrders = true:=by kernel_rfl
def XS (f:FuncId) (args:List PV) (M:List Blk) (r:PV) (M':List Blk):Prop :=
 (f = 166 ∧ ∃ (i ver:Nat) (d:List Spn),d.length ≤ 1048576 ∧ M[i]? = some (.row true 2 ver (d.map Qb)) ∧ args = [.os i ver 0 d.length,.fn (.func 148) [] []] ∧ r = .tup [] ∧ M' = M.set i (.row true 2 ver ((srtL Vr d).map Qb))) ∨
 (f = 140 ∧ M' = M ∧ ∃ n:Int,-9223372036854775808 ≤ n ∧ n ≤ 9223372036854775807 ∧ args = [.I n] ∧ r = .s (.string (itoaB n))) ∨
 (f = 141 ∧ M' = M ∧ ∃ l:List ByteArray,l.length ≤ 64 ∧ (∀ s ∈ l,s.size ≤ 200) ∧ args = [.fs (l.map L4.encStr),.s (.string ⟨#[]⟩)] ∧ r = .s (.string (joinB l))) ∨
 (f = 132 ∧ M' = M ∧ ∃ b:Nat,args = [.s (.float .f32 b)] ∧ r = .s (.int .u32 b)) ∨
 (f = 154 ∧ M' = M ∧ ∃ (x:Nat) (s:Bool) (m:Nat) (l:Int),Ieee.double.read x = .number s m l ∧ args = [.s (.float .f64 x)] ∧ r = .s (.float .f64 (Ieee.double.write ((Ieee.double.read x).integral .down)))) ∨
 (f = 142 ∧ M' = M ∧ ∃ l:List UInt8,l.length ≤ 1000000 ∧ args = [.s (.string ⟨l.toArray⟩),.s (.string ⟨#[10]⟩)] ∧ r = .tup [.s (.string ⟨(Lib.cut l [10]).1.toArray⟩),.s (.string ⟨(Lib.cut l [10]).2.1.toArray⟩),.B (Lib.cut l [10]).2.2]) ∨
 (f = 162 ∧ M' = M ∧ ∃ l:List UInt8,l.length ≤ 1000000 ∧ args = [.s (.string ⟨l.toArray⟩),.s (.string ⟨#[32]⟩)] ∧ r = .fs ((spl 32 l).map L4.encW)) ∨
 (f = 177 ∧ M' = M ∧ ∃ l:List UInt8,l.length ≤ 1000000 ∧ args = [.s (.string ⟨l.toArray⟩)] ∧ r = atoiV ⟨l.toArray⟩) ∨
 (f = 178 ∧ M' = M ∧ ∃ l:List UInt8,args = [.s (.string ⟨l.toArray⟩),.s (.string ⟨#[45]⟩)] ∧ r = .s (.string ⟨(Lib.trimPrefix l [45]).toArray⟩)) ∨
 (f = 135 ∧ M' = M ∧ ∃ u:Nat,args = [.s (.int .u32 u)] ∧ r = .s (.float .f32 u))
theorem sortX:L4.SortX XS:=fun M i ver d h1 h2 => .inl ⟨rfl,i,ver,d,h1,h2,rfl,rfl,rfl⟩
theorem itoaX:L4.ItoaX XS:=fun n M h1 h2 => .inr (.inl ⟨rfl,rfl,n,h1,h2,rfl,rfl⟩)
theorem joinX:L4.JoinX XS:=fun l M h1 h2 => .inr (.inr (.inl ⟨rfl,rfl,l,h1,h2,rfl,rfl⟩))
theorem QlV:L4.FbitsX XS:=fun b M => .inr (.inr (.inr (.inl ⟨rfl,rfl,b,rfl,rfl⟩)))
theorem QrU:L4.FloorX XS:=fun x s m l M h => .inr (.inr (.inr (.inr (.inl ⟨rfl,rfl,x,s,m,l,h,rfl,rfl⟩))))
theorem cutX:L4.CutX XS:=fun l M h => .inr (.inr (.inr (.inr (.inr (.inl ⟨rfl,rfl,l,h,rfl,rfl⟩)))))
theorem QsK:L4.SplitX XS:=fun l M h => .inr (.inr (.inr (.inr (.inr (.inr (.inl ⟨rfl,rfl,l,h,rfl,rfl⟩))))))
theorem atoiX:L4.AtoiX XS:=fun l M h => .inr (.inr (.inr (.inr (.inr (.inr (.inr (.inl ⟨rfl,rfl,l,h,rfl,rfl⟩)))))))
theorem trimX:L4.TrimX XS:=fun l M => .inr (.inr (.inr (.inr (.inr (.inr (.inr (.inr (.inl ⟨rfl,rfl,l,rfl,rfl⟩))))))))
theorem Qsi:L4.FrombX XS:=fun u M => .inr (.inr (.inr (.inr (.inr (.inr (.inr (.inr (.inr ⟨rfl,rfl,u,rfl,rfl⟩))))))))
theorem okC:∀ f cf,L4.Fc f = some cf → @okFn env0 Tryz.prog f cf = true:=by
 intro f cf h
 unfold L4.Fc at h
 split at h
 ·cases h;kernel_rfl
 ·cases h;kernel_rfl
 ·cases h;kernel_rfl
 ·cases h
theorem xsOk (m:Int) (t1 t2:TypeId) (v1 v2:Value):∀ f args M r M',XS f args M r M' → @Conc (envU m (.iface t1 v1) (.iface t2 v2)) Tryz.prog (.fn f) args M r M':=by
 letI:=envU m (.iface t1 v1) (.iface t2 v2)
 rintro f args M r M' (⟨rfl,i,ver,d,h1,h2,rfl,rfl,rfl⟩|⟨rfl,rfl,n,h1,h2,rfl,rfl⟩|⟨rfl,rfl,l,h1,h2,rfl,rfl⟩|⟨rfl,rfl,b,rfl,rfl⟩|⟨rfl,rfl,x,s,m0,l,h,rfl,rfl⟩|⟨rfl,rfl,l,h,rfl,rfl⟩|⟨rfl,rfl,l,h,rfl,rfl⟩|⟨rfl,rfl,l,h,rfl,rfl⟩|⟨rfl,rfl,l,rfl,rfl⟩|⟨rfl,rfl,u,rfl,rfl⟩)
 ·have hc:CmpAt Tryz.prog 148 spnV Vr:=QsX mixed okC rfl (fun x v hv => by simp [spnV] at hv;rcases hv with rfl|rfl <;> rfl) (fun x y => L4.qc_canon x y [])
  exact QkX Tryz.sortSpn (k:=2) Tryz.isAgg23 Tryz.sizeOf23 (enc:=spnV) (fun _ => rfl) (fun x v hv => by simp [spnV] at hv;rcases hv with rfl|rfl <;> rfl) (fun x v hv => by simp [spnV] at hv;rcases hv with rfl|rfl <;> rfl) Qdx (g:=148) (enters_of Tryz.func148 (by kernel_rfl) rfl) hc (by kernel_rfl) (by omega) h2
 ·exact Qly Tryz.laysM171 (by kernel_rfl) (enters_of Tryz.func140 (by kernel_rfl) rfl) (g:=3) (by kernel_rfl) rfl h1 h2
 ·have hz:=Qdt h1 h2
  have e:(joinB l).size = (Lib.join (l.map (·.data.toList)) []).length:=by unfold joinB;rw [show (⟨(Lib.join (l.map (·.data.toList)) []).toArray⟩:ByteArray).size = (Lib.join (l.map (·.data.toList)) []).toArray.size from rfl,List.size_toArray]
  exact QkY Tryz.lays156 Tryz.Builder_Extra_156 (fun h => h) (by kernel_rfl) (enters_of Tryz.func141 (by kernel_rfl) rfl) (xs:=l) (sep:=⟨#[]⟩) (by omega) (by show (Lib.join (l.map (·.data.toList)) []).length ≤ _;omega)
 ·exact Qkp Tryz.func132 (by kernel_rfl) (by kernel_rfl) (by kernel_rfl) rfl b _
 ·exact Qjm Tryz.func154 (by kernel_rfl) (by kernel_rfl) (by kernel_rfl) rfl h _
 ·have hz:=VJ l
  have hd:(⟨l.toArray⟩:ByteArray).data.toList = l:=by simp
  have:=QoY (M:=M') Tryz.lays145 (f:=142) rfl (enters_of Tryz.func142 (by kernel_rfl) rfl) (m:=m) rfl (s:=⟨l.toArray⟩) (sep:=⟨#[10]⟩) (by omega)
  rw [hd] at this
  exact this
 ·have hz:=VJ l
  have hd:(⟨l.toArray⟩:ByteArray).data.toList = l:=by simp
  have:=Qkk (M:=M') Tryz.lays146 (f:=162) rfl (enters_of Tryz.func162 (by kernel_rfl) rfl) (m:=m) rfl (by kernel_rfl) (s:=⟨l.toArray⟩) (sep:=⟨#[32]⟩) (by omega) (by decide) (Qdw 32 ⟨l.toArray⟩).2
  rw [Qms,hd,List.map_map] at this
  exact this
 ·have hz:=VJ l
  exact Qlm Tryz.laysC172 (fun h => h) (f:=177) rfl (enters_of Tryz.func177 (by kernel_rfl) rfl) (t1:=t1) (t2:=t2) (v1:=v1) (v2:=v2) rfl rfl (by omega)
 ·have hd:(⟨l.toArray⟩:ByteArray).data.toList = l:=by simp
  have:=QmI (M:=M') Tryz.lays101 (f:=178) rfl (enters_of Tryz.func178 (by kernel_rfl) rfl) (s:=⟨l.toArray⟩) (p:=⟨#[45]⟩)
  rw [hd] at this
  exact this
 ·exact QfI Tryz.func135 (by kernel_rfl) (by kernel_rfl) (by kernel_rfl) rfl u _
end Go.Proofs.YtclanmkmbjinaaaGreatDoor.U
namespace Go.Proofs.YtclanmkmbjinaaaGreatDoor.U
open Go.ChangeShapes Go.WideShapes Go.ChangeAt Go.RowKit Go.Nac
def lst : List (String × DataW Unit) := [("math/bits.deBruijn32tab", Rows.laid_math_bits_deBruijn32tab), ("math/bits.deBruijn64tab", Rows.laid_math_bits_deBruijn64tab), ("internal/strconv.uint64pow10", Rows.laid_internal_strconv_uint64pow10), ("unicode/utf8.acceptRanges", Rows.laid_unicode_utf8_acceptRanges), ("strconv.ErrRange", Rows.laid_strconv_ErrRange), ("strconv.ErrSyntax", Rows.laid_strconv_ErrSyntax), ("nacelle/site.steps", Rows.laid_nacelle_site_steps), ("unicode/utf8.first", Rows.laid_unicode_utf8_first)]
noncomputable def door (os:Os):World:=World.laidAll Tryz.prog os lst
theorem Qm6 (os:Os) (args:Array Value):laidMetH Tryz.prog lst ((door os).forCall (fun _ _ => 0) ⟨#[],args,[]⟩).memory:=by
 rw [MakeChecks.laidMetH_plain _ _ _ (by kernel_rfl)]
 exact laidMet_laidAll args (by kernel_rfl) (by kernel_rfl)
theorem gPow : Tryz.prog.globalNamed "internal/strconv.uint64pow10" = some 3 := by kernel_rfl
theorem gStep : Tryz.prog.globalNamed "nacelle/site.steps" = some 0 := by kernel_rfl
theorem tPow:(Tryz.prog.globals[3]?).map (·.type) = some 269:=by kernel_rfl
theorem tStep:(Tryz.prog.globals[0]?).map (·.type) = some 173:=by kernel_rfl
def stepZ:List (Int × Int):=[(0,-1),(-1,-1),(-1,0),(-1,1),(0,1),(1,1),(1,0),(1,-1)]
theorem Qcq {g n:Nat} {a b:List MemPlace} (h:0 < n):MemPlace.cell g 0 ∈ MemPlace.row ⟨g,0,none⟩ n ++ a ++ b:=by
 refine List.mem_append.2 (.inl (List.mem_append.2 (.inl ?_)))
 exact List.mem_map.2 ⟨0,List.mem_range.2 h,rfl⟩
theorem tRan:(Tryz.prog.globals[5]?).map (·.type) = some 220:=by kernel_rfl
theorem tSyn:(Tryz.prog.globals[4]?).map (·.type) = some 220:=by kernel_rfl
theorem gSyn : Tryz.prog.globalNamed "strconv.ErrSyntax" = some 4 := by kernel_rfl
theorem gRan : Tryz.prog.globalNamed "strconv.ErrRange" = some 5 := by kernel_rfl
theorem Qqz {W:World} (h:laidMetH Tryz.prog lst W) (hs:W.ShapedOpen Tryz.prog):∃ (m:Int) (t1 t2:TypeId) (v1 v2:Value),∀ g cs,@Env.glb (envU m (.iface t1 v1) (.iface t2 v2)) g = some cs → ∃ el,W.heap[g]? = some (.cells cs.toArray el (0,0)):=by
 rw [MakeChecks.laidMetH_plain _ _ _ (by kernel_rfl)] at h
 have hS:=h
 obtain ⟨ps,⟨g0,t0,cs0,f0,p0,q0,_,_,_,_,⟨g1,t1,cs1,f1,p1,q1,_,_,_,_,⟨g2,t2,cs2,f2,p2,q2,hg2,ht2,hv2,hd2,⟨g3,t3,cs3,f3,p3,q3,_,_,_,_,⟨g4,t4,cs4,f4,p4,q4,hg4,ht4,hv4,hd4,⟨g5,t5,cs5,f5,p5,q5,hg5,ht5,hv5,hd5,⟨g6,t6,cs6,f6,p6,q6,hg6,ht6,hv6,hd6,_,e6⟩,e5⟩,e4⟩,e3⟩,e2⟩,e1⟩,e0⟩,_,hp⟩:=h
 obtain rfl:=Option.some.inj (gPow.symm.trans hg2)
 obtain rfl:=Option.some.inj (gRan.symm.trans hg4)
 obtain rfl:=Option.some.inj (gSyn.symm.trans hg5)
 obtain rfl:=Option.some.inj (gStep.symm.trans hg6)
 obtain rfl:=Option.some.inj (tPow.symm.trans ht2)
 obtain rfl:=Option.some.inj (tStep.symm.trans ht6)
 obtain rfl:=Option.some.inj (tRan.symm.trans ht4)
 obtain rfl:=Option.some.inj (tSyn.symm.trans ht5)
 have c2:cs2.toList = Go.Lib.pow10Tab.map (.int .u64):=Qot (zs:=Go.Lib.pow10Tab) Tryz.underlying269 Tryz.underlying247 (by kernel_rfl) (by kernel_rfl) rfl hd2
 have c6:cs6.toList = stepZ.flatMap fun z => [.int .i64 z.1,.int .i64 z.2]:=QlW (zs:=stepZ) Tryz.underlying173 Tryz.underlying51 (by kernel_rfl) (by kernel_rfl) ⟨rfl,by kernel_rfl,Tryz.underlying3⟩ ⟨rfl,by kernel_rfl,Tryz.underlying3⟩ rfl hd6
 obtain ⟨_,u4,w4,c4,_⟩:=iface_of_trod Tryz.underlying220 hd4
 obtain ⟨_,u5,w5,c5,_⟩:=iface_of_trod Tryz.underlying220 hd5
 have z2:0 < cs2.size:=by rw [← Array.length_toList,c2];decide
 have z4:0 < cs4.size:=by rw [← Array.length_toList,c4];exact Nat.zero_lt_one
 have z5:0 < cs5.size:=by rw [← Array.length_toList,c5];exact Nat.zero_lt_one
 have z6:0 < cs6.size:=by rw [← Array.length_toList,c6];decide
 have m6:MemPlace.cell 0 0 ∈ q5:=by rw [e6];exact Qcq z6
 have m5:MemPlace.cell 4 0 ∈ q4:=by rw [e5];exact Qcq z5
 have m4:MemPlace.cell 5 0 ∈ q3:=by rw [e4];exact Qcq z4
 have m2:MemPlace.cell 3 0 ∈ q1:=by rw [e2];exact Qcq z2
 have s5:∀ x,x ∈ q5 → x ∈ q4:=fun x hx => by rw [e5];exact List.mem_append.2 (.inr hx)
 have s4:∀ x,x ∈ q4 → x ∈ q3:=fun x hx => by rw [e4];exact List.mem_append.2 (.inr hx)
 have s3:∀ x,x ∈ q3 → x ∈ q2:=fun x hx => by rw [e3];exact List.mem_append.2 (.inr hx)
 have s2:∀ x,x ∈ q2 → x ∈ q1:=fun x hx => by rw [e2];exact List.mem_append.2 (.inr hx)
 have s1:∀ x,x ∈ q1 → x ∈ q0:=fun x hx => by rw [e1];exact List.mem_append.2 (.inr hx)
 have s0:∀ x,x ∈ q0 → x ∈ ps:=fun x hx => by rw [e0];exact List.mem_append.2 (.inr hx)
 have h3:=QaE gPow hv2 (hp 3 0 (s0 _ (s1 _ m2))).1
 have h5:=QaE gRan hv4 (hp 5 0 (s0 _ (s1 _ (s2 _ (s3 _ m4))))).1
 have h4:=QaE gSyn hv5 (hp 4 0 (s0 _ (s1 _ (s2 _ (s3 _ (s4 _ m5)))))).1
 have h0:=QaE gStep hv6 (hp 0 0 (s0 _ (s1 _ (s2 _ (s3 _ (s4 _ (s5 _ m6))))))).1
 obtain ⟨m,hm⟩:=cell_of_shapedOpen_int hs (g:=2) (t:=3) (zero:=#[.int .i64 0]) (by decide +kernel) (by kernel_rfl) rfl (by kernel_rfl) (by kernel_rfl) Tryz.underlying3
 obtain ⟨ds,hh,hsz,_⟩:=hs.1 2 #[.int .i64 0] 3 (by decide +kernel) (by kernel_rfl)
 have hds:ds = #[.int .i64 m]:=by
  have e:W.cell? ⟨2,0,none⟩ = ds[0]?:=by simp [World.cell?,hh]
  rw [e] at hm
  have h1:ds.size = 1:=hsz
  apply Array.ext'
  obtain ⟨l⟩:=ds
  match l,h1 with
  | [x],_ => simp at hm;rw [hm]
 rw [hds] at hh
 refine ⟨m,u5,u4,w5,w4,fun g cs hg => ?_⟩
 rcases g with _|_|_|_|_|_|g
 ·cases hg
  have:cs6 = (stepZ.flatMap fun z => [.int .i64 z.1,.int .i64 z.2]).toArray:=by rw [← c6]
  rw [this] at h0;exact h0
 ·cases hg
 ·cases hg
  exact ⟨_,hh⟩
 ·cases hg
  have:cs2 = (Go.Lib.pow10Tab.map (.int .u64)).toArray:=by rw [← c2]
  rw [this] at h3;exact h3
 ·cases hg
  have:cs5 = [.iface u5 w5].toArray:=by rw [← c5]
  rw [this] at h4;exact h4
 ·cases hg
  have:cs4 = [.iface u4 w4].toArray:=by rw [← c4]
  rw [this] at h5;exact h5
 ·cases hg
theorem QeV {a:Assume} {C:Checked} {os:Os} {f:FuncId} {fn:Func} {s:ChangeSpec} {conds:List PathCond} {apart fresh handsOn again:Bool} {H:Type} {enc:TypeId × Value → H} {X:World → Array Value → Prop}
  (hX:∀ (w w':World) (args:Array Value),w.heap = w'.heap → X w args → X w' args) (own:ownKnob C.prog.godebug = none) (started:os.Started) (noInit:C.prog.inits.idxOf? f = none) (hfn:C.prog.funcs[f]? = some fn)
  (witness:∃ (w:World) (tape:Tape) (i:Input),w.os = os ∧ (w.forCall tape i).Shaped C.prog ∧ i.vars = [] ∧ Input.okWide C.prog (w.forCall tape i) .any w.heap.size f i ∧
   ((s.pre enc C.prog fn conds apart (w.forCall tape i).memory i.args ∧ X (w.forCall tape i).memory i.args) ∧ sizedMet enc C.prog fn (OpenSpec.ofChange s) apart (w.forCall tape i).memory i.args) ∧ a.holds C.prog (lone (Frame.enter C.prog f i.args .normal) [] (w.forCall tape i)))
  (walk:∀ (W:World) (base:Nat) (args:Array Value) (ds gs:List (DataW H)) (before:List MemPlace),(∀ (j:Nat) t v,fn.params[j]? = some t → args[j]? = some v → Value.okWide C.prog W .any base t v) →
   DataW.Whole enc C.prog fn.params.toList s.vars apart W args.toList ds gs before → X W args → W.ShapedOpen C.prog → Calls C.prog f args W fun e W' => ∃ v,e = .returned v ∧ s.post enc C.prog fn apart fresh handsOn again W args v W') :
  ReturnsInHanded a C os f .any (fun w args => (s.pre enc C.prog fn conds apart w args ∧ X w args) ∧ sizedMet enc C.prog fn (OpenSpec.ofChange s) apart w args) (s.post enc C.prog fn apart fresh handsOn again):=by
 refine returnsInHanded_of_calls own started noInit witness fun w tape i _ hs _ hok hpre _ => ?_
 obtain ⟨_,_,_,fn2,h2,_,_,_,_,hval⟩:=hok
 obtain rfl:=Option.some.inj (h2.symm.trans hfn)
 obtain ⟨⟨⟨ds,gs,before,hw,_⟩,hx⟩,_⟩:=hpre
 refine (walk (w.forCall tape i) w.heap.size i.args ds gs before hval (DataW.Whole.of_heap (w':=w.forCall tape i) (by rfl) hw) (hX _ _ _ (by rfl) hx) hs).mono fun e W' ⟨v,he,hp⟩ => ?_
 subst he
 exact ChangeSpec.post_blind hp
theorem okF (m:Int) (e1 e2:Value):∀ f cf,L4.F f = some cf → @okFn (envU m e1 e2) Tryz.prog f cf = true:=by
 intro f cf h
 unfold L4.F at h
 split at h
 ·cases h;exact ok3 m e1 e2
 ·cases h;exact ok4 m e1 e2
 ·cases h;exact ok5 m e1 e2
 ·cases h;exact ok6 m e1 e2
 ·cases h;exact ok9 m e1 e2
 ·cases h;exact ok16 m e1 e2
 ·cases h;exact ok17 m e1 e2
 ·cases h;exact ok18 m e1 e2
 ·cases h;exact ok19 m e1 e2
 ·cases h;exact ok20 m e1 e2
 ·cases h;exact ok21 m e1 e2
 ·cases h;exact ok23 m e1 e2
 ·cases h;exact ok26 m e1 e2
 ·cases h;exact ok27 m e1 e2
 ·cases h;exact ok28 m e1 e2
 ·cases h;exact ok31 m e1 e2
 ·cases h;exact ok33 m e1 e2
 ·cases h;exact ok37 m e1 e2
 ·cases h;exact ok39 m e1 e2
 ·cases h;exact ok40 m e1 e2
 ·cases h;exact ok41 m e1 e2
 ·cases h;exact ok42 m e1 e2
 ·cases h;exact ok43 m e1 e2
 ·cases h;exact ok44 m e1 e2
 ·cases h;exact ok46 m e1 e2
 ·cases h;exact ok48 m e1 e2
 ·cases h;exact ok49 m e1 e2
 ·cases h;exact ok51 m e1 e2
 ·cases h;exact ok53 m e1 e2
 ·cases h;exact ok54 m e1 e2
 ·cases h;exact ok55 m e1 e2
 ·cases h;exact ok57 m e1 e2
 ·cases h;exact ok58 m e1 e2
 ·cases h;exact ok61 m e1 e2
 ·cases h;exact ok62 m e1 e2
 ·cases h;exact ok63 m e1 e2
 ·cases h;exact ok64 m e1 e2
 ·cases h;exact ok65 m e1 e2
 ·cases h;exact ok66 m e1 e2
 ·cases h;exact ok67 m e1 e2
 ·cases h;exact ok68 m e1 e2
 ·cases h;exact ok71 m e1 e2
 ·cases h;exact ok75 m e1 e2
 ·cases h;exact ok76 m e1 e2
 ·cases h;exact ok77 m e1 e2
 ·cases h;exact ok79 m e1 e2
 ·cases h;exact ok80 m e1 e2
 ·cases h;exact ok81 m e1 e2
 ·cases h;exact ok85 m e1 e2
 ·cases h;exact ok86 m e1 e2
 ·cases h;exact ok88 m e1 e2
 ·cases h;exact ok89 m e1 e2
 ·cases h;exact ok92 m e1 e2
 ·cases h;exact ok93 m e1 e2
 ·cases h;exact ok96 m e1 e2
 ·cases h;exact ok97 m e1 e2
 ·cases h;exact ok98 m e1 e2
 ·cases h;exact ok99 m e1 e2
 ·cases h;exact ok100 m e1 e2
 ·cases h;exact ok101 m e1 e2
 ·cases h;exact ok103 m e1 e2
 ·cases h;exact ok104 m e1 e2
 ·cases h;exact ok105 m e1 e2
 ·cases h;exact ok106 m e1 e2
 ·cases h;exact ok107 m e1 e2
 ·cases h;exact ok108 m e1 e2
 ·cases h;exact ok109 m e1 e2
 ·cases h;exact ok110 m e1 e2
 ·cases h;exact ok111 m e1 e2
 ·cases h;exact ok112 m e1 e2
 ·cases h;exact ok113 m e1 e2
 ·cases h;exact ok114 m e1 e2
 ·cases h;exact ok115 m e1 e2
 ·cases h;exact ok119 m e1 e2
 ·cases h;exact ok121 m e1 e2
 ·cases h;exact ok122 m e1 e2
 ·cases h;exact ok123 m e1 e2
 ·cases h;exact ok124 m e1 e2
 ·cases h;exact ok125 m e1 e2
 ·cases h;exact ok126 m e1 e2
 ·cases h;exact ok127 m e1 e2
 ·cases h;exact ok128 m e1 e2
 ·cases h;exact ok130 m e1 e2
 ·cases h;exact ok131 m e1 e2
 ·cases h;exact ok133 m e1 e2
 ·cases h;exact ok134 m e1 e2
 ·cases h;exact ok138 m e1 e2
 ·cases h;exact ok139 m e1 e2
 ·cases h;exact ok143 m e1 e2
 ·cases h;exact ok145 m e1 e2
 ·cases h;exact ok146 m e1 e2
 ·cases h;exact ok147 m e1 e2
 ·cases h;exact ok148 m e1 e2
 ·cases h;exact ok149 m e1 e2
 ·cases h;exact ok152 m e1 e2
 ·cases h;exact ok153 m e1 e2
 ·cases h;exact ok156 m e1 e2
 ·cases h;exact ok163 m e1 e2
 ·cases h;exact ok164 m e1 e2
 ·cases h;exact ok165 m e1 e2
 ·cases h;exact ok167 m e1 e2
 ·cases h;exact ok168 m e1 e2
 ·cases h;exact ok179 m e1 e2
 ·cases h
end Go.Proofs.YtclanmkmbjinaaaGreatDoor.U
