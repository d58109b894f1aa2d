/-
  DERIVED: THE SHELF's CONTRACTS AT THIS DUMP, IN PLAIN WORDS (tools/lay-plain.mjs out of 'TryzShelf.lean', which tools/lay-shelf.mjs wrote): THE SAME DECLARATIONS UNDER THE SAME NAMES: 'import', 'namespace', 'open', 'def', 'theorem' AND NOTHING ELSE: no command of the shelf's: FOR A HAND-IN. Each laying: the table of numbers ('.._ren') and one theorem, a field a fact of the dump's own or the kernel's comparison; each contract: ONE APPLICATION.
-/
import Derived.Test.YtbmicihfhfcpkaaGreatDoorW09
import Derived.Shelf.Strings.Builder1
import Derived.Shelf.LaysM
import Derived.Shelf.Strconv.Itoa3
import Derived.Shelf.Strconv.AtoiAll
import Derived.Shelf.Strings.Cut
import Derived.Shelf.Strings.Split
import Derived.Shelf.Strings.Prefix
import Derived.Test.YtbmicihfhfcpkaaGreatDoorProg
import Derived.Test.YtbmicihfhfcpkaaGreatDoorChecked
import Derived.KernelRfl
import Derived.Test.YtbmicihfhfcpkaaGreatDoorRows
import Derived.Lay
import Derived.Stop.LaidErr
import Derived.Shelf.Vars
import Derived.Test.YtbmicihfhfcpkaaGreatDoorCards
import Derived.Test.YtbmicihfhfcpkaaGreatDoorTie
import Derived.WalkKit
import Derived.ProofKit
import Derived.OpenShut
import Derived.ShutString
import Derived.ChangeOld
import Derived.Below
import Derived.SizedLaws
import Derived.LaidMore
import Derived.Stop.Joined
import Derived.SevenTiedAt
import Derived.MakeChecks
namespace Go.Proofs
open Go.Shelf
def Tryz.laysM171_ren:Go.Shelf.Ren:=⟨fun|171 => 34|243 => 66|246 => 80|283 => 87|284 => 88|285 => 89|286 => 90|129 => 102|317 => 101|318 => 103|319 => 104|320 => 105|337 => 117|338 => 118|n => n,fun|3 => 3|9 => 9|2 => 2|4 => 4|171 => 138|0 => 0|53 => 139|37 => 72|5 => 5|173 => 142|212 => 149|51 => 150|20 => 20|213 => 151|46 => 145|232 => 172|233 => 173|n => n,fun|17 => 1|18 => 4|19 => 5|n => n⟩
theorem Tryz.laysM171:Go.Proofs.LaysM.n171 Tryz.prog Tryz.laysM171_ren:={
 mixed:=by kernel_rfl
 f129:=Tryz.func102.trans (congrArg some (by kernel_rfl))
 f171:=Tryz.func34.trans (congrArg some (by kernel_rfl))
 f243:=Tryz.func66.trans (congrArg some (by kernel_rfl))
 f246:=Tryz.func80.trans (congrArg some (by kernel_rfl))
 f283:=Tryz.func87.trans (congrArg some (by kernel_rfl))
 f284:=Tryz.func88.trans (congrArg some (by kernel_rfl))
 f285:=Tryz.func89.trans (congrArg some (by kernel_rfl))
 f286:=Tryz.func90.trans (congrArg some (by kernel_rfl))
 f317:=Tryz.func101.trans (congrArg some (by kernel_rfl))
 f318:=Tryz.func103.trans (congrArg some (by kernel_rfl))
 f319:=Tryz.func104.trans (congrArg some (by kernel_rfl))
 f320:=Tryz.func105.trans (congrArg some (by kernel_rfl))
 f337:=Tryz.func117.trans (congrArg some (by kernel_rfl))
 f338:=Tryz.func118.trans (congrArg some (by kernel_rfl))
 t0:=Tryz.underlying0
 a0:=Tryz.isAgg0
 z0:=Tryz.sizeOf0
 v0:=Tryz.zeroValue0
 t2:=Tryz.underlying2
 a2:=Tryz.isAgg2
 z2:=Tryz.sizeOf2
 v2:=Tryz.zeroValue2
 t3:=Tryz.underlying3
 a3:=Tryz.isAgg3
 z3:=Tryz.sizeOf3
 v3:=Tryz.zeroValue3
 t4:=Tryz.underlying4
 a4:=Tryz.isAgg4
 z4:=Tryz.sizeOf4
 v4:=Tryz.zeroValue4
 t5:=Tryz.underlying5
 a5:=Tryz.isAgg5
 z5:=Tryz.sizeOf5
 v5:=Tryz.zeroValue5
 t9:=Tryz.underlying9
 a9:=Tryz.isAgg9
 z9:=Tryz.sizeOf9
 v9:=Tryz.zeroValue9
 t20:=Tryz.underlying20
 a20:=Tryz.isAgg20
 z20:=Tryz.sizeOf20
 v20:=Tryz.zeroValue20
 t37:=Tryz.underlying72
 a37:=Tryz.isAgg72
 z37:=Tryz.sizeOf72
 v37:=Tryz.zeroValue72
 t46:=Tryz.underlying145
 a46:=Tryz.isAgg145
 z46:=Tryz.sizeOf145
 v46:=Tryz.zeroValue145
 t51:=Tryz.underlying150
 a51:=Tryz.isAgg150
 z51:=Tryz.sizeOf150
 v51:=Tryz.zeroValue150
 t53:=Tryz.underlying139
 a53:=Tryz.isAgg139
 z53:=Tryz.sizeOf139
 v53:=Tryz.zeroValue139
 t171:=Tryz.underlying138
 a171:=Tryz.isAgg138
 z171:=Tryz.sizeOf138
 v171:=Tryz.zeroValue138
 t173:=Tryz.underlying142
 a173:=Tryz.isAgg142
 z173:=Tryz.sizeOf142
 v173:=Tryz.zeroValue142
 t212:=Tryz.underlying149
 a212:=Tryz.isAgg149
 z212:=Tryz.sizeOf149
 v212:=Tryz.zeroValue149
 t213:=Tryz.underlying151
 a213:=Tryz.isAgg151
 z213:=Tryz.sizeOf151
 t232:=Tryz.underlying172
 a232:=Tryz.isAgg172
 z232:=Tryz.sizeOf172
 v232:=Tryz.zeroValue172
 t233:=Tryz.underlying173
 a233:=Tryz.isAgg173
 z233:=Tryz.sizeOf173
 v233:=Tryz.zeroValue173
 g17:=by kernel_rfl
 g18:=by kernel_rfl
 g19:=by kernel_rfl
 i0:=by kernel_rfl
 i2:=by kernel_rfl
 i3:=by kernel_rfl
 i4:=by kernel_rfl
 i5:=by kernel_rfl
 i9:=by kernel_rfl
 i20:=by kernel_rfl
 i37:=by kernel_rfl
 i46:=by kernel_rfl
 i51:=by kernel_rfl
 i53:=by kernel_rfl
 i171:=by kernel_rfl
 i173:=by kernel_rfl
 i212:=by kernel_rfl
 i232:=by kernel_rfl
 i233:=by kernel_rfl
 m17:=by kernel_rfl
 m18:=by kernel_rfl
 m19:=by kernel_rfl }
def Tryz.laysC172_ren:Go.Shelf.Ren:=⟨fun|172 => 83|244 => 98|245 => 99|247 => 111|279 => 112|280 => 113|281 => 114|282 => 115|287 => 120|316 => 121|171 => 34|205 => 122|321 => 123|322 => 124|243 => 66|246 => 80|283 => 87|284 => 88|285 => 89|286 => 90|129 => 102|317 => 101|318 => 103|319 => 104|320 => 105|337 => 117|338 => 118|n => n,fun|9 => 9|3 => 3|75 => 77|76 => 78|4 => 4|5 => 5|167 => 158|37 => 72|0 => 0|85 => 159|2 => 2|168 => 161|53 => 139|175 => 166|46 => 145|210 => 170|127 => 113|145 => 182|143 => 180|21 => 21|171 => 138|173 => 142|212 => 149|51 => 150|20 => 20|213 => 151|232 => 172|233 => 173|80 => 81|n => n,fun|15 => 2|16 => 3|17 => 1|18 => 4|19 => 5|n => n⟩
theorem Tryz.laysC172:Go.Proofs.LaysC.n172 Tryz.prog Tryz.laysC172_ren:={
 mixed:=by kernel_rfl
 f129:=Tryz.func102.trans (congrArg some (by kernel_rfl))
 f171:=Tryz.func34.trans (congrArg some (by kernel_rfl))
 f172:=Tryz.func83.trans (congrArg some (by kernel_rfl))
 f205:=Tryz.func122.trans (congrArg some (by kernel_rfl))
 f243:=Tryz.func66.trans (congrArg some (by kernel_rfl))
 f244:=Tryz.func98.trans (congrArg some (by kernel_rfl))
 f245:=Tryz.func99.trans (congrArg some (by kernel_rfl))
 f246:=Tryz.func80.trans (congrArg some (by kernel_rfl))
 f247:=Tryz.func111.trans (congrArg some (by kernel_rfl))
 f279:=Tryz.func112.trans (congrArg some (by kernel_rfl))
 f280:=Tryz.func113.trans (congrArg some (by kernel_rfl))
 f281:=Tryz.func114.trans (congrArg some (by kernel_rfl))
 f282:=Tryz.func115.trans (congrArg some (by kernel_rfl))
 f283:=Tryz.func87.trans (congrArg some (by kernel_rfl))
 f284:=Tryz.func88.trans (congrArg some (by kernel_rfl))
 f285:=Tryz.func89.trans (congrArg some (by kernel_rfl))
 f286:=Tryz.func90.trans (congrArg some (by kernel_rfl))
 f287:=Tryz.func120.trans (congrArg some (by kernel_rfl))
 f316:=Tryz.func121.trans (congrArg some (by kernel_rfl))
 f317:=Tryz.func101.trans (congrArg some (by kernel_rfl))
 f318:=Tryz.func103.trans (congrArg some (by kernel_rfl))
 f319:=Tryz.func104.trans (congrArg some (by kernel_rfl))
 f320:=Tryz.func105.trans (congrArg some (by kernel_rfl))
 f321:=Tryz.func123.trans (congrArg some (by kernel_rfl))
 f322:=Tryz.func124.trans (congrArg some (by kernel_rfl))
 f337:=Tryz.func117.trans (congrArg some (by kernel_rfl))
 f338:=Tryz.func118.trans (congrArg some (by kernel_rfl))
 t0:=Tryz.underlying0
 a0:=Tryz.isAgg0
 z0:=Tryz.sizeOf0
 v0:=Tryz.zeroValue0
 t2:=Tryz.underlying2
 a2:=Tryz.isAgg2
 z2:=Tryz.sizeOf2
 v2:=Tryz.zeroValue2
 t3:=Tryz.underlying3
 a3:=Tryz.isAgg3
 z3:=Tryz.sizeOf3
 v3:=Tryz.zeroValue3
 t4:=Tryz.underlying4
 a4:=Tryz.isAgg4
 z4:=Tryz.sizeOf4
 v4:=Tryz.zeroValue4
 t5:=Tryz.underlying5
 a5:=Tryz.isAgg5
 z5:=Tryz.sizeOf5
 v5:=Tryz.zeroValue5
 t9:=Tryz.underlying9
 a9:=Tryz.isAgg9
 z9:=Tryz.sizeOf9
 v9:=Tryz.zeroValue9
 t20:=Tryz.underlying20
 a20:=Tryz.isAgg20
 z20:=Tryz.sizeOf20
 v20:=Tryz.zeroValue20
 t21:=Tryz.underlying21
 a21:=Tryz.isAgg21
 z21:=Tryz.sizeOf21
 v21:=Tryz.zeroValue21
 t37:=Tryz.underlying72
 a37:=Tryz.isAgg72
 z37:=Tryz.sizeOf72
 v37:=Tryz.zeroValue72
 t46:=Tryz.underlying145
 a46:=Tryz.isAgg145
 z46:=Tryz.sizeOf145
 v46:=Tryz.zeroValue145
 t51:=Tryz.underlying150
 a51:=Tryz.isAgg150
 z51:=Tryz.sizeOf150
 v51:=Tryz.zeroValue150
 t53:=Tryz.underlying139
 a53:=Tryz.isAgg139
 z53:=Tryz.sizeOf139
 v53:=Tryz.zeroValue139
 t75:=Tryz.underlying77
 a75:=Tryz.isAgg77
 z75:=Tryz.sizeOf77
 v75:=Tryz.zeroValue77
 t76:=Tryz.underlying78
 a76:=Tryz.isAgg78
 z76:=Tryz.sizeOf78
 v76:=Tryz.zeroValue78
 t85:=Tryz.underlying159
 a85:=Tryz.isAgg159
 z85:=Tryz.sizeOf159
 v85:=Tryz.zeroValue159
 t127:=Tryz.underlying113
 a127:=Tryz.isAgg113
 z127:=Tryz.sizeOf113
 v127:=Tryz.zeroValue113
 t143:=Tryz.underlying180
 a143:=Tryz.isAgg180
 z143:=Tryz.sizeOf180
 v143:=Tryz.zeroValue180
 t145:=Tryz.underlying182
 a145:=Tryz.isAgg182
 z145:=Tryz.sizeOf182
 v145:=Tryz.zeroValue182
 t167:=Tryz.underlying158
 a167:=Tryz.isAgg158
 z167:=Tryz.sizeOf158
 v167:=Tryz.zeroValue158
 t168:=Tryz.underlying161
 a168:=Tryz.isAgg161
 z168:=Tryz.sizeOf161
 v168:=Tryz.zeroValue161
 t171:=Tryz.underlying138
 a171:=Tryz.isAgg138
 z171:=Tryz.sizeOf138
 v171:=Tryz.zeroValue138
 t173:=Tryz.underlying142
 a173:=Tryz.isAgg142
 z173:=Tryz.sizeOf142
 v173:=Tryz.zeroValue142
 t175:=Tryz.underlying166
 a175:=Tryz.isAgg166
 z175:=Tryz.sizeOf166
 v175:=Tryz.zeroValue166
 t210:=Tryz.underlying170
 a210:=Tryz.isAgg170
 z210:=Tryz.sizeOf170
 v210:=Tryz.zeroValue170
 t212:=Tryz.underlying149
 a212:=Tryz.isAgg149
 z212:=Tryz.sizeOf149
 v212:=Tryz.zeroValue149
 t213:=Tryz.underlying151
 a213:=Tryz.isAgg151
 z213:=Tryz.sizeOf151
 t232:=Tryz.underlying172
 a232:=Tryz.isAgg172
 z232:=Tryz.sizeOf172
 v232:=Tryz.zeroValue172
 t233:=Tryz.underlying173
 a233:=Tryz.isAgg173
 z233:=Tryz.sizeOf173
 v233:=Tryz.zeroValue173
 g15:=by kernel_rfl
 g16:=by kernel_rfl
 g17:=by kernel_rfl
 g18:=by kernel_rfl
 g19:=by kernel_rfl
 t80:=Tryz.underlying81
 a80:=Tryz.isAgg81
 z80:=Tryz.sizeOf81
 v80:=Tryz.zeroValue81
 i0:=by kernel_rfl
 i2:=by kernel_rfl
 i3:=by kernel_rfl
 i4:=by kernel_rfl
 i5:=by kernel_rfl
 i9:=by kernel_rfl
 i20:=by kernel_rfl
 i21:=by kernel_rfl
 i37:=by kernel_rfl
 i46:=by kernel_rfl
 i51:=by kernel_rfl
 i53:=by kernel_rfl
 i75:=by kernel_rfl
 i76:=by kernel_rfl
 i80:=by kernel_rfl
 i85:=by kernel_rfl
 i127:=by kernel_rfl
 i143:=by kernel_rfl
 i145:=by kernel_rfl
 i167:=by kernel_rfl
 i168:=by kernel_rfl
 i171:=by kernel_rfl
 i173:=by kernel_rfl
 i175:=by kernel_rfl
 i210:=by kernel_rfl
 i212:=by kernel_rfl
 i232:=by kernel_rfl
 i233:=by kernel_rfl
 m15:=by kernel_rfl
 m16:=by kernel_rfl
 m17:=by kernel_rfl
 m18:=by kernel_rfl
 m19:=by kernel_rfl
 c0:=by kernel_rfl
 c2:=by kernel_rfl
 c3:=by kernel_rfl
 c4:=by kernel_rfl
 c5:=by kernel_rfl
 c9:=by kernel_rfl
 c20:=by kernel_rfl
 c21:=by kernel_rfl
 c37:=by kernel_rfl
 c46:=by kernel_rfl
 c51:=by kernel_rfl
 c53:=by kernel_rfl
 c75:=by kernel_rfl
 c76:=by kernel_rfl
 c80:=by kernel_rfl
 c85:=by kernel_rfl
 c127:=by kernel_rfl
 c143:=by kernel_rfl
 c145:=by kernel_rfl
 c167:=by kernel_rfl
 c168:=by kernel_rfl
 c171:=by kernel_rfl
 c173:=by kernel_rfl
 c175:=by kernel_rfl
 c210:=by kernel_rfl
 c212:=by kernel_rfl
 c213:=by kernel_rfl
 c232:=by kernel_rfl
 c233:=by kernel_rfl }
def Tryz.lays145_ren:Go.Shelf.Ren:=⟨fun|145 => 36|220 => 67|219 => 81|217 => 91|225 => 92|224 => 93|267 => 94|266 => 106|314 => 107|n => n,fun|9 => 9|4 => 4|59 => 82|3 => 3|5 => 5|46 => 145|146 => 153|51 => 150|n => n,fun|1 => 0|n => n⟩
theorem Tryz.lays145:Go.Proofs.Lays.n145 Tryz.prog Tryz.lays145_ren:={
 mixed:=by kernel_rfl
 f145:=Tryz.func36.trans (congrArg some (by kernel_rfl))
 f217:=Tryz.func91.trans (congrArg some (by kernel_rfl))
 f219:=Tryz.func81.trans (congrArg some (by kernel_rfl))
 f220:=Tryz.func67.trans (congrArg some (by kernel_rfl))
 f224:=Tryz.func93.trans (congrArg some (by kernel_rfl))
 f225:=Tryz.func92.trans (congrArg some (by kernel_rfl))
 f266:=Tryz.func106.trans (congrArg some (by kernel_rfl))
 f267:=Tryz.func94.trans (congrArg some (by kernel_rfl))
 f314:=Tryz.func107.trans (congrArg some (by kernel_rfl))
 t3:=Tryz.underlying3
 a3:=Tryz.isAgg3
 z3:=Tryz.sizeOf3
 v3:=Tryz.zeroValue3
 t4:=Tryz.underlying4
 a4:=Tryz.isAgg4
 z4:=Tryz.sizeOf4
 v4:=Tryz.zeroValue4
 t5:=Tryz.underlying5
 a5:=Tryz.isAgg5
 z5:=Tryz.sizeOf5
 v5:=Tryz.zeroValue5
 t9:=Tryz.underlying9
 a9:=Tryz.isAgg9
 z9:=Tryz.sizeOf9
 v9:=Tryz.zeroValue9
 t46:=Tryz.underlying145
 a46:=Tryz.isAgg145
 z46:=Tryz.sizeOf145
 v46:=Tryz.zeroValue145
 t51:=Tryz.underlying150
 a51:=Tryz.isAgg150
 z51:=Tryz.sizeOf150
 v51:=Tryz.zeroValue150
 t59:=Tryz.underlying82
 a59:=Tryz.isAgg82
 z59:=Tryz.sizeOf82
 v59:=Tryz.zeroValue82
 t146:=Tryz.underlying153
 a146:=Tryz.isAgg153
 z146:=Tryz.sizeOf153
 v146:=Tryz.zeroValue153
 g1:=by kernel_rfl }
def Tryz.lays101_ren:Go.Shelf.Ren:=⟨fun|101 => 84|208 => 100|206 => 116|n => n,fun|9 => 9|4 => 4|3 => 3|n => n,fun|n => n⟩
theorem Tryz.lays101:Go.Proofs.Lays.n101 Tryz.prog Tryz.lays101_ren:={
 mixed:=by kernel_rfl
 f101:=Tryz.func84.trans (congrArg some (by kernel_rfl))
 f206:=Tryz.func116.trans (congrArg some (by kernel_rfl))
 f208:=Tryz.func100.trans (congrArg some (by kernel_rfl))
 t3:=Tryz.underlying3
 a3:=Tryz.isAgg3
 z3:=Tryz.sizeOf3
 v3:=Tryz.zeroValue3
 t4:=Tryz.underlying4
 a4:=Tryz.isAgg4
 z4:=Tryz.sizeOf4
 v4:=Tryz.zeroValue4
 t9:=Tryz.underlying9
 a9:=Tryz.isAgg9
 z9:=Tryz.sizeOf9
 v9:=Tryz.zeroValue9 }
def Tryz.lays146_ren:Go.Shelf.Ren:=⟨fun|146 => 68|221 => 82|268 => 95|138 => 96|143 => 97|195 => 108|197 => 109|218 => 110|219 => 81|260 => 119|217 => 91|225 => 92|224 => 93|267 => 94|266 => 106|314 => 107|n => n,fun|9 => 9|31 => 39|3 => 3|4 => 4|0 => 0|105 => 156|21 => 21|5 => 5|46 => 145|119 => 174|139 => 177|138 => 176|146 => 153|51 => 150|n => n,fun|1 => 0|3 => 6|4 => 7|n => n⟩
theorem Tryz.lays146:Go.Proofs.Lays.n146 Tryz.prog Tryz.lays146_ren:={
 mixed:=by kernel_rfl
 f138:=Tryz.func96.trans (congrArg some (by kernel_rfl))
 f143:=Tryz.func97.trans (congrArg some (by kernel_rfl))
 f146:=Tryz.func68.trans (congrArg some (by kernel_rfl))
 f195:=Tryz.func108.trans (congrArg some (by kernel_rfl))
 f197:=Tryz.func109.trans (congrArg some (by kernel_rfl))
 f217:=Tryz.func91.trans (congrArg some (by kernel_rfl))
 f218:=Tryz.func110.trans (congrArg some (by kernel_rfl))
 f219:=Tryz.func81.trans (congrArg some (by kernel_rfl))
 f221:=Tryz.func82.trans (congrArg some (by kernel_rfl))
 f224:=Tryz.func93.trans (congrArg some (by kernel_rfl))
 f225:=Tryz.func92.trans (congrArg some (by kernel_rfl))
 f260:=Tryz.func119.trans (congrArg some (by kernel_rfl))
 f266:=Tryz.func106.trans (congrArg some (by kernel_rfl))
 f267:=Tryz.func94.trans (congrArg some (by kernel_rfl))
 f268:=Tryz.func95.trans (congrArg some (by kernel_rfl))
 f314:=Tryz.func107.trans (congrArg some (by kernel_rfl))
 t0:=Tryz.underlying0
 a0:=Tryz.isAgg0
 z0:=Tryz.sizeOf0
 v0:=Tryz.zeroValue0
 t3:=Tryz.underlying3
 a3:=Tryz.isAgg3
 z3:=Tryz.sizeOf3
 v3:=Tryz.zeroValue3
 t4:=Tryz.underlying4
 a4:=Tryz.isAgg4
 z4:=Tryz.sizeOf4
 v4:=Tryz.zeroValue4
 t5:=Tryz.underlying5
 a5:=Tryz.isAgg5
 z5:=Tryz.sizeOf5
 v5:=Tryz.zeroValue5
 t9:=Tryz.underlying9
 a9:=Tryz.isAgg9
 z9:=Tryz.sizeOf9
 v9:=Tryz.zeroValue9
 t21:=Tryz.underlying21
 a21:=Tryz.isAgg21
 z21:=Tryz.sizeOf21
 v21:=Tryz.zeroValue21
 t31:=Tryz.underlying39
 a31:=Tryz.isAgg39
 z31:=Tryz.sizeOf39
 v31:=Tryz.zeroValue39
 t46:=Tryz.underlying145
 a46:=Tryz.isAgg145
 z46:=Tryz.sizeOf145
 v46:=Tryz.zeroValue145
 t51:=Tryz.underlying150
 a51:=Tryz.isAgg150
 z51:=Tryz.sizeOf150
 v51:=Tryz.zeroValue150
 t105:=Tryz.underlying156
 a105:=Tryz.isAgg156
 z105:=Tryz.sizeOf156
 v105:=Tryz.zeroValue156
 t119:=Tryz.underlying174
 a119:=Tryz.isAgg174
 z119:=Tryz.sizeOf174
 t138:=Tryz.underlying176
 a138:=Tryz.isAgg176
 z138:=Tryz.sizeOf176
 v138:=Tryz.zeroValue176
 t139:=Tryz.underlying177
 a139:=Tryz.isAgg177
 z139:=Tryz.sizeOf177
 v139:=Tryz.zeroValue177
 t146:=Tryz.underlying153
 a146:=Tryz.isAgg153
 z146:=Tryz.sizeOf153
 v146:=Tryz.zeroValue153
 g1:=by kernel_rfl
 g3:=by kernel_rfl
 g4:=by kernel_rfl }
def Tryz.lays240_ren:Go.Shelf.Ren:=⟨fun|240 => 65|276 => 79|n => n,fun|0 => 0|4 => 4|9 => 9|20 => 20|70 => 71|72 => 74|37 => 72|164 => 130|5 => 5|n => n,fun|n => n⟩
theorem Tryz.lays240:Go.Proofs.Lays.n240 Tryz.prog Tryz.lays240_ren:={
 mixed:=by kernel_rfl
 f240:=Tryz.func65.trans (congrArg some (by kernel_rfl))
 f276:=Tryz.func79.trans (congrArg some (by kernel_rfl))
 t0:=Tryz.underlying0
 a0:=Tryz.isAgg0
 z0:=Tryz.sizeOf0
 v0:=Tryz.zeroValue0
 t4:=Tryz.underlying4
 a4:=Tryz.isAgg4
 z4:=Tryz.sizeOf4
 v4:=Tryz.zeroValue4
 t9:=Tryz.underlying9
 a9:=Tryz.isAgg9
 z9:=Tryz.sizeOf9
 v9:=Tryz.zeroValue9
 t20:=Tryz.underlying20
 a20:=Tryz.isAgg20
 z20:=Tryz.sizeOf20
 v20:=Tryz.zeroValue20
 t70:=Tryz.underlying71
 a70:=Tryz.isAgg71
 z70:=Tryz.sizeOf71
 v70:=Tryz.zeroValue71
 t72:=Tryz.underlying74
 a72:=Tryz.isAgg74
 z72:=Tryz.sizeOf74
 v72:=Tryz.zeroValue74
 t164:=Tryz.underlying130
 a164:=Tryz.isAgg130
 z164:=Tryz.sizeOf130
 v164:=Tryz.zeroValue130 }
theorem Tryz.Builder_X72_240:Builder.X72 Tryz.prog Tryz.lays240_ren:={
 sizeBuilder:=by kernel_rfl
 liesBuilder:=by kernel_rfl }
end Go.Proofs
set_option maxRecDepth 100000
namespace Go.Proofs.YtbmicihfhfcpkaaGreatDoor
open Go.Nac
abbrev envU (m:Int) (e1 e2:Value):Env:=⟨fun|0 => some [.int .i64 m]|1 => some (Go.Lib.pow10Tab.map (.int .u64))|2 => some [e1]|3 => some [e2]|_ => none,False⟩
theorem ok3 (m:Int) (e1 e2:Value):@okFn (envU m e1 e2) Tryz.prog 3 L7.c3 = true:=by kernel_rfl
theorem ok4 (m:Int) (e1 e2:Value):@okFn (envU m e1 e2) Tryz.prog 4 L7.c4 = true:=by kernel_rfl
theorem ok5 (m:Int) (e1 e2:Value):@okFn (envU m e1 e2) Tryz.prog 5 L7.c5 = true:=by kernel_rfl
theorem ok6 (m:Int) (e1 e2:Value):@okFn (envU m e1 e2) Tryz.prog 6 L7.c6 = true:=by kernel_rfl
theorem ok7 (m:Int) (e1 e2:Value):@okFn (envU m e1 e2) Tryz.prog 7 L7.c7 = true:=by kernel_rfl
theorem ok8 (m:Int) (e1 e2:Value):@okFn (envU m e1 e2) Tryz.prog 8 L7.c8 = true:=by kernel_rfl
theorem ok9 (m:Int) (e1 e2:Value):@okFn (envU m e1 e2) Tryz.prog 9 L7.c9 = true:=by kernel_rfl
theorem ok10 (m:Int) (e1 e2:Value):@okFn (envU m e1 e2) Tryz.prog 10 L7.c10 = true:=by kernel_rfl
theorem ok13 (m:Int) (e1 e2:Value):@okFn (envU m e1 e2) Tryz.prog 13 L7.c13 = true:=by kernel_rfl
theorem ok14 (m:Int) (e1 e2:Value):@okFn (envU m e1 e2) Tryz.prog 14 L7.c14 = true:=by kernel_rfl
theorem ok15 (m:Int) (e1 e2:Value):@okFn (envU m e1 e2) Tryz.prog 15 L7.c15 = true:=by kernel_rfl
theorem ok16 (m:Int) (e1 e2:Value):@okFn (envU m e1 e2) Tryz.prog 16 L7.c16 = true:=by kernel_rfl
theorem ok17 (m:Int) (e1 e2:Value):@okFn (envU m e1 e2) Tryz.prog 17 L7.c17 = true:=by kernel_rfl
theorem ok18 (m:Int) (e1 e2:Value):@okFn (envU m e1 e2) Tryz.prog 18 L7.c18 = true:=by kernel_rfl
theorem ok19 (m:Int) (e1 e2:Value):@okFn (envU m e1 e2) Tryz.prog 19 L7.c19 = true:=by kernel_rfl
theorem ok20 (m:Int) (e1 e2:Value):@okFn (envU m e1 e2) Tryz.prog 20 L7.c20 = true:=by kernel_rfl
theorem ok21 (m:Int) (e1 e2:Value):@okFn (envU m e1 e2) Tryz.prog 21 L7.c21 = true:=by kernel_rfl
theorem ok22 (m:Int) (e1 e2:Value):@okFn (envU m e1 e2) Tryz.prog 22 L7.c22 = true:=by kernel_rfl
theorem ok23 (m:Int) (e1 e2:Value):@okFn (envU m e1 e2) Tryz.prog 23 L7.c23 = true:=by kernel_rfl
theorem ok24 (m:Int) (e1 e2:Value):@okFn (envU m e1 e2) Tryz.prog 24 L7.c24 = true:=by kernel_rfl
theorem ok25 (m:Int) (e1 e2:Value):@okFn (envU m e1 e2) Tryz.prog 25 L7.c25 = true:=by kernel_rfl
theorem ok26 (m:Int) (e1 e2:Value):@okFn (envU m e1 e2) Tryz.prog 26 L7.c26 = true:=by kernel_rfl
theorem ok27 (m:Int) (e1 e2:Value):@okFn (envU m e1 e2) Tryz.prog 27 L7.c27 = true:=by kernel_rfl
theorem ok28 (m:Int) (e1 e2:Value):@okFn (envU m e1 e2) Tryz.prog 28 L7.c28 = true:=by kernel_rfl
theorem ok29 (m:Int) (e1 e2:Value):@okFn (envU m e1 e2) Tryz.prog 29 L7.c29 = true:=by kernel_rfl
theorem ok30 (m:Int) (e1 e2:Value):@okFn (envU m e1 e2) Tryz.prog 30 L7.c30 = true:=by kernel_rfl
theorem ok31 (m:Int) (e1 e2:Value):@okFn (envU m e1 e2) Tryz.prog 31 L7.c31 = true:=by kernel_rfl
theorem ok32 (m:Int) (e1 e2:Value):@okFn (envU m e1 e2) Tryz.prog 32 L7.c32 = true:=by kernel_rfl
theorem ok33 (m:Int) (e1 e2:Value):@okFn (envU m e1 e2) Tryz.prog 33 L7.c33 = true:=by kernel_rfl
theorem ok35 (m:Int) (e1 e2:Value):@okFn (envU m e1 e2) Tryz.prog 35 L7.c35 = true:=by kernel_rfl
theorem ok37 (m:Int) (e1 e2:Value):@okFn (envU m e1 e2) Tryz.prog 37 L7.c37 = true:=by kernel_rfl
theorem ok38 (m:Int) (e1 e2:Value):@okFn (envU m e1 e2) Tryz.prog 38 L7.c38 = true:=by kernel_rfl
theorem ok39 (m:Int) (e1 e2:Value):@okFn (envU m e1 e2) Tryz.prog 39 L7.c39 = true:=by kernel_rfl
theorem ok40 (m:Int) (e1 e2:Value):@okFn (envU m e1 e2) Tryz.prog 40 L7.c40 = true:=by kernel_rfl
theorem ok41 (m:Int) (e1 e2:Value):@okFn (envU m e1 e2) Tryz.prog 41 L7.c41 = true:=by kernel_rfl
theorem ok44 (m:Int) (e1 e2:Value):@okFn (envU m e1 e2) Tryz.prog 44 L7.c44 = true:=by kernel_rfl
theorem ok45 (m:Int) (e1 e2:Value):@okFn (envU m e1 e2) Tryz.prog 45 L7.c45 = true:=by kernel_rfl
theorem ok46 (m:Int) (e1 e2:Value):@okFn (envU m e1 e2) Tryz.prog 46 L7.c46 = true:=by kernel_rfl
theorem ok47 (m:Int) (e1 e2:Value):@okFn (envU m e1 e2) Tryz.prog 47 L7.c47 = true:=by kernel_rfl
theorem ok48 (m:Int) (e1 e2:Value):@okFn (envU m e1 e2) Tryz.prog 48 L7.c48 = true:=by kernel_rfl
theorem ok49 (m:Int) (e1 e2:Value):@okFn (envU m e1 e2) Tryz.prog 49 L7.c49 = true:=by kernel_rfl
theorem ok50 (m:Int) (e1 e2:Value):@okFn (envU m e1 e2) Tryz.prog 50 L7.c50 = true:=by kernel_rfl
theorem ok51 (m:Int) (e1 e2:Value):@okFn (envU m e1 e2) Tryz.prog 51 L7.c51 = true:=by kernel_rfl
theorem ok52 (m:Int) (e1 e2:Value):@okFn (envU m e1 e2) Tryz.prog 52 L7.c52 = true:=by kernel_rfl
theorem ok53 (m:Int) (e1 e2:Value):@okFn (envU m e1 e2) Tryz.prog 53 L7.c53 = true:=by kernel_rfl
theorem ok54 (m:Int) (e1 e2:Value):@okFn (envU m e1 e2) Tryz.prog 54 L7.c54 = true:=by kernel_rfl
theorem ok55 (m:Int) (e1 e2:Value):@okFn (envU m e1 e2) Tryz.prog 55 L7.c55 = true:=by kernel_rfl
theorem ok56 (m:Int) (e1 e2:Value):@okFn (envU m e1 e2) Tryz.prog 56 L7.c56 = true:=by kernel_rfl
theorem ok57 (m:Int) (e1 e2:Value):@okFn (envU m e1 e2) Tryz.prog 57 L7.c57 = true:=by kernel_rfl
theorem ok58 (m:Int) (e1 e2:Value):@okFn (envU m e1 e2) Tryz.prog 58 L7.c58 = true:=by kernel_rfl
theorem ok59 (m:Int) (e1 e2:Value):@okFn (envU m e1 e2) Tryz.prog 59 L7.c59 = true:=by kernel_rfl
theorem ok60 (m:Int) (e1 e2:Value):@okFn (envU m e1 e2) Tryz.prog 60 L7.c60 = true:=by kernel_rfl
theorem ok61 (m:Int) (e1 e2:Value):@okFn (envU m e1 e2) Tryz.prog 61 L7.c61 = true:=by kernel_rfl
theorem ok62 (m:Int) (e1 e2:Value):@okFn (envU m e1 e2) Tryz.prog 62 L7.c62 = true:=by kernel_rfl
theorem ok63 (m:Int) (e1 e2:Value):@okFn (envU m e1 e2) Tryz.prog 63 L7.c63 = true:=by kernel_rfl
theorem ok64 (m:Int) (e1 e2:Value):@okFn (envU m e1 e2) Tryz.prog 64 L7.c64 = true:=by kernel_rfl
theorem ok69 (m:Int) (e1 e2:Value):@okFn (envU m e1 e2) Tryz.prog 69 L7.c69 = true:=by kernel_rfl
theorem ok70 (m:Int) (e1 e2:Value):@okFn (envU m e1 e2) Tryz.prog 70 L7.c70 = true:=by kernel_rfl
theorem ok71 (m:Int) (e1 e2:Value):@okFn (envU m e1 e2) Tryz.prog 71 L7.c71 = true:=by kernel_rfl
theorem ok72 (m:Int) (e1 e2:Value):@okFn (envU m e1 e2) Tryz.prog 72 L7.c72 = true:=by kernel_rfl
theorem ok73 (m:Int) (e1 e2:Value):@okFn (envU m e1 e2) Tryz.prog 73 L7.c73 = true:=by kernel_rfl
theorem ok74 (m:Int) (e1 e2:Value):@okFn (envU m e1 e2) Tryz.prog 74 L7.c74 = true:=by kernel_rfl
theorem ok75 (m:Int) (e1 e2:Value):@okFn (envU m e1 e2) Tryz.prog 75 L7.c75 = true:=by kernel_rfl
theorem ok76 (m:Int) (e1 e2:Value):@okFn (envU m e1 e2) Tryz.prog 76 L7.c76 = true:=by kernel_rfl
theorem ok77 (m:Int) (e1 e2:Value):@okFn (envU m e1 e2) Tryz.prog 77 L7.c77 = true:=by kernel_rfl
theorem ok78 (m:Int) (e1 e2:Value):@okFn (envU m e1 e2) Tryz.prog 78 L7.c78 = true:=by kernel_rfl
theorem ok85 (m:Int) (e1 e2:Value):@okFn (envU m e1 e2) Tryz.prog 85 L7.c85 = true:=by kernel_rfl
theorem ok86 (m:Int) (e1 e2:Value):@okFn (envU m e1 e2) Tryz.prog 86 L7.c86 = true:=by kernel_rfl
end Go.Proofs.YtbmicihfhfcpkaaGreatDoor
set_option linter.unusedVariables false
namespace Go.Proofs.YtbmicihfhfcpkaaGreatDoor.U
open Go.Nac Go.Shelf
theorem mixed:Tryz.prog.follows .mixedOrders = true:=by kernel_rfl
def XS (f:FuncId) (args:List PV) (M:List Blk) (r:PV) (M':List Blk):Prop :=
 (f = 65 ∧ ∃ (i ver:Nat) (p s:PV),M[i]? = some (.row true 2 ver [.agg [p,s]]) ∧ (p = .s (.pointer none) ∨ p = .bp i ver L7.bTy) ∧ args = [.bp i ver L7.bTy] ∧ r = .tup [] ∧ M' = M.set i (.row true 2 ver [.agg [.bp i ver L7.bTy,s]])) ∨
 (f = 34 ∧ M' = M ∧ ∃ n:Int,-9223372036854775808 ≤ n ∧ n ≤ 9223372036854775807 ∧ args = [.I n] ∧ r = .s (.string (itoaB n))) ∨
 (f = 36 ∧ M' = M ∧ ∃ l:List UInt8,l.length ≤ 1000000 ∧ args = [.s (.string ⟨l.toArray⟩),.s (.string ⟨#[10]⟩)] ∧ r = .tup [.s (.string ⟨(Lib.cut l [10]).1.toArray⟩),.s (.string ⟨(Lib.cut l [10]).2.1.toArray⟩),.B (Lib.cut l [10]).2.2]) ∨
 (f = 68 ∧ M' = M ∧ ∃ l:List UInt8,l.length ≤ 1000000 ∧ args = [.s (.string ⟨l.toArray⟩),.s (.string ⟨#[32]⟩)] ∧ r = .fs ((spl 32 l).map L7.encW)) ∨
 (f = 83 ∧ M' = M ∧ ∃ l:List UInt8,l.length ≤ 1000000 ∧ args = [.s (.string ⟨l.toArray⟩)] ∧ r = atoiV ⟨l.toArray⟩) ∨
 (f = 84 ∧ M' = M ∧ ∃ l:List UInt8,args = [.s (.string ⟨l.toArray⟩),.s (.string ⟨#[45]⟩)] ∧ r = .s (.string ⟨(Lib.trimPrefix l [45]).toArray⟩))
theorem copyX:L7.CopyX XS:=fun i ver p s M h1 h2 => .inl ⟨rfl,i,ver,p,s,h1,h2,rfl,rfl,rfl⟩
theorem itoaX:L7.ItoaX XS:=fun n M h1 h2 => .inr (.inl ⟨rfl,rfl,n,h1,h2,rfl,rfl⟩)
theorem cutX:L7.CutX XS:=fun l M h => .inr (.inr (.inl ⟨rfl,rfl,l,h,rfl,rfl⟩))
theorem QnZ:L7.SplitX XS:=fun l M h => .inr (.inr (.inr (.inl ⟨rfl,rfl,l,h,rfl,rfl⟩)))
theorem atoiX:L7.AtoiX XS:=fun l M h => .inr (.inr (.inr (.inr (.inl ⟨rfl,rfl,l,h,rfl,rfl⟩))))
theorem trimX:L7.TrimX XS:=fun l M => .inr (.inr (.inr (.inr (.inr ⟨rfl,rfl,l,rfl,rfl⟩))))
theorem xsOk (m:Int) (t1 t2:TypeId) (v1 v2:Value):∀ f args M r M',XS f args M r M' → @Conc (envU m (.iface t1 v1) (.iface t2 v2)) Tryz.prog (.fn f) args M r M':=by
 letI:=envU m (.iface t1 v1) (.iface t2 v2)
 rintro f args M r M' (⟨rfl,i,ver,p,s,h1,h2,rfl,rfl,rfl⟩|⟨rfl,rfl,n,h1,h2,rfl,rfl⟩|⟨rfl,rfl,l,h,rfl,rfl⟩|⟨rfl,rfl,l,h,rfl,rfl⟩|⟨rfl,rfl,l,h,rfl,rfl⟩|⟨rfl,rfl,l,rfl,rfl⟩)
 ·exact QhW Tryz.lays240 Tryz.Builder_X72_240 (f:=65) rfl (enters_of Tryz.func65 (by kernel_rfl) rfl) (T:=L7.bTy) (by kernel_rfl) h1 h2
 ·exact Qhn Tryz.laysM171 (by kernel_rfl) (enters_of Tryz.func34 (by kernel_rfl) rfl) (g:=1) (by kernel_rfl) rfl h1 h2
 ·have hz:=QV l
  have hd:(⟨l.toArray⟩:ByteArray).data.toList = l:=by simp
  have:=QjE (M:=M') Tryz.lays145 (f:=36) rfl (enters_of Tryz.func36 (by kernel_rfl) rfl) (m:=m) rfl (s:=⟨l.toArray⟩) (sep:=⟨#[10]⟩) (by omega)
  rw [hd] at this
  exact this
 ·have hz:=QV l
  have hd:(⟨l.toArray⟩:ByteArray).data.toList = l:=by simp
  have:=Qgf (M:=M') Tryz.lays146 (f:=68) rfl (enters_of Tryz.func68 (by kernel_rfl) rfl) (m:=m) rfl (by kernel_rfl) (s:=⟨l.toArray⟩) (sep:=⟨#[32]⟩) (by omega) (by decide) (Qbt 32 ⟨l.toArray⟩).2
  rw [Qi2,hd,List.map_map] at this
  exact this
 ·have hz:=QV l
  exact Qjb Tryz.laysC172 (fun h => h) (f:=83) rfl (enters_of Tryz.func83 (by kernel_rfl) rfl) (t1:=t1) (t2:=t2) (v1:=v1) (v2:=v2) rfl rfl (by omega)
 ·have hd:(⟨l.toArray⟩:ByteArray).data.toList = l:=by simp
  have:=Qih (M:=M') Tryz.lays101 (f:=84) rfl (enters_of Tryz.func84 (by kernel_rfl) rfl) (s:=⟨l.toArray⟩) (p:=⟨#[45]⟩)
  rw [hd] at this
  exact this
end Go.Proofs.YtbmicihfhfcpkaaGreatDoor.U
namespace Go.Proofs.YtbmicihfhfcpkaaGreatDoor.U
open Go.ChangeShapes Go.WideShapes Go.ChangeAt Go.RowKit Go.Nac
def lst : List (String × DataW Unit) := [("math/bits.deBruijn32tab", Rows.laid_math_bits_deBruijn32tab), ("math/bits.deBruijn64tab", Rows.laid_math_bits_deBruijn64tab), ("internal/strconv.uint64pow10", Rows.laid_internal_strconv_uint64pow10), ("unicode/utf8.acceptRanges", Rows.laid_unicode_utf8_acceptRanges), ("strconv.ErrRange", Rows.laid_strconv_ErrRange), ("strconv.ErrSyntax", Rows.laid_strconv_ErrSyntax), ("unicode/utf8.first", Rows.laid_unicode_utf8_first)]
noncomputable def door (os:Os):World:=World.laidAll Tryz.prog os lst
theorem QjW (os:Os) (args:Array Value):laidMetH Tryz.prog lst ((door os).forCall (fun _ _ => 0) ⟨#[],args,[]⟩).memory:=by
 rw [MakeChecks.laidMetH_plain _ _ _ (by kernel_rfl)]
 exact laidMet_laidAll args (by kernel_rfl) (by kernel_rfl)
theorem gPow : Tryz.prog.globalNamed "internal/strconv.uint64pow10" = some 1 := by kernel_rfl
theorem tPow:(Tryz.prog.globals[1]?).map (·.type) = some 149:=by kernel_rfl
theorem Qch {g n:Nat} {a b:List MemPlace} (h:0 < n):MemPlace.cell g 0 ∈ MemPlace.row ⟨g,0,none⟩ n ++ a ++ b:=by
 refine List.mem_append.2 (.inl (List.mem_append.2 (.inl ?_)))
 exact List.mem_map.2 ⟨0,List.mem_range.2 h,rfl⟩
theorem tRan:(Tryz.prog.globals[3]?).map (·.type) = some 77:=by kernel_rfl
theorem tSyn:(Tryz.prog.globals[2]?).map (·.type) = some 77:=by kernel_rfl
theorem gSyn : Tryz.prog.globalNamed "strconv.ErrSyntax" = some 2 := by kernel_rfl
theorem gRan : Tryz.prog.globalNamed "strconv.ErrRange" = some 3 := by kernel_rfl
theorem Qm5 {W:World} (h:laidMetH Tryz.prog lst W) (hs:W.ShapedOpen Tryz.prog):∃ (m:Int) (t1 t2:TypeId) (v1 v2:Value),∀ g cs,@Env.glb (envU m (.iface t1 v1) (.iface t2 v2)) g = some cs → ∃ el,W.heap[g]? = some (.cells cs.toArray el (0,0)):=by
 rw [MakeChecks.laidMetH_plain _ _ _ (by kernel_rfl)] at h
 obtain ⟨ps,⟨g0,t0,cs0,f0,p0,q0,_,_,_,_,⟨g1,t1,cs1,f1,p1,q1,_,_,_,_,⟨g2,t2,cs2,f2,p2,q2,hg2,ht2,hv2,hd2,⟨g3,t3,cs3,f3,p3,q3,_,_,_,_,⟨g4,t4,cs4,f4,p4,q4,hg4,ht4,hv4,hd4,⟨g5,t5,cs5,f5,p5,q5,hg5,ht5,hv5,hd5,_,e5⟩,e4⟩,e3⟩,e2⟩,e1⟩,e0⟩,_,hp⟩:=h
 obtain rfl:=Option.some.inj (gPow.symm.trans hg2)
 obtain rfl:=Option.some.inj (gRan.symm.trans hg4)
 obtain rfl:=Option.some.inj (gSyn.symm.trans hg5)
 obtain rfl:=Option.some.inj (tPow.symm.trans ht2)
 obtain rfl:=Option.some.inj (tRan.symm.trans ht4)
 obtain rfl:=Option.some.inj (tSyn.symm.trans ht5)
 have c2:cs2.toList = Go.Lib.pow10Tab.map (.int .u64):=Qjh (zs:=Go.Lib.pow10Tab) Tryz.underlying149 Tryz.underlying139 (by kernel_rfl) (by kernel_rfl) rfl hd2
 obtain ⟨_,u4,w4,c4,_⟩:=iface_of_trod Tryz.underlying77 hd4
 obtain ⟨_,u5,w5,c5,_⟩:=iface_of_trod Tryz.underlying77 hd5
 have z2:0 < cs2.size:=by rw [← Array.length_toList,c2];decide
 have z4:0 < cs4.size:=by rw [← Array.length_toList,c4];exact Nat.zero_lt_one
 have z5:0 < cs5.size:=by rw [← Array.length_toList,c5];exact Nat.zero_lt_one
 have m5:MemPlace.cell 2 0 ∈ q4:=by rw [e5];exact Qch z5
 have m4:MemPlace.cell 3 0 ∈ q3:=by rw [e4];exact Qch z4
 have m2:MemPlace.cell 1 0 ∈ q1:=by rw [e2];exact Qch z2
 have s4:∀ x,x ∈ q4 → x ∈ q3:=fun x hx => by rw [e4];exact List.mem_append.2 (.inr hx)
 have s3:∀ x,x ∈ q3 → x ∈ q2:=fun x hx => by rw [e3];exact List.mem_append.2 (.inr hx)
 have s2:∀ x,x ∈ q2 → x ∈ q1:=fun x hx => by rw [e2];exact List.mem_append.2 (.inr hx)
 have s1:∀ x,x ∈ q1 → x ∈ q0:=fun x hx => by rw [e1];exact List.mem_append.2 (.inr hx)
 have s0:∀ x,x ∈ q0 → x ∈ ps:=fun x hx => by rw [e0];exact List.mem_append.2 (.inr hx)
 have h3:=Qa4 gPow hv2 (hp 1 0 (s0 _ (s1 _ m2))).1
 have h5:=Qa4 gRan hv4 (hp 3 0 (s0 _ (s1 _ (s2 _ (s3 _ m4))))).1
 have h4:=Qa4 gSyn hv5 (hp 2 0 (s0 _ (s1 _ (s2 _ (s3 _ (s4 _ m5)))))).1
 obtain ⟨m,hm⟩:=cell_of_shapedOpen_int hs (g:=0) (t:=3) (zero:=#[.int .i64 0]) (by decide +kernel) (by kernel_rfl) rfl (by kernel_rfl) (by kernel_rfl) Tryz.underlying3
 obtain ⟨ds,hh,hsz,_⟩:=hs.1 0 #[.int .i64 0] 3 (by decide +kernel) (by kernel_rfl)
 have hds:ds = #[.int .i64 m]:=by
  have e:W.cell? ⟨0,0,none⟩ = ds[0]?:=by simp [World.cell?,hh]
  rw [e] at hm
  have h1:ds.size = 1:=hsz
  apply Array.ext'
  obtain ⟨l⟩:=ds
  match l,h1 with
  | [x],_ => simp at hm;rw [hm]
 rw [hds] at hh
 refine ⟨m,u5,u4,w5,w4,fun g cs hg => ?_⟩
 rcases g with _|_|_|_|g
 ·cases hg
  exact ⟨_,hh⟩
 ·cases hg
  have:cs2 = (Go.Lib.pow10Tab.map (.int .u64)).toArray:=by rw [← c2]
  rw [this] at h3;exact h3
 ·cases hg
  have:cs5 = [.iface u5 w5].toArray:=by rw [← c5]
  rw [this] at h4;exact h4
 ·cases hg
  have:cs4 = [.iface u4 w4].toArray:=by rw [← c4]
  rw [this] at h5;exact h5
 ·cases hg
theorem Qct {a:Assume} {C:Checked} {os:Os} {f:FuncId} {fn:Func} {s:ChangeSpec} {conds:List PathCond} {apart fresh handsOn again:Bool} {H:Type} {enc:TypeId × Value → H} {X:World → Array Value → Prop}
  (hX:∀ (w w':World) (args:Array Value),w.heap = w'.heap → X w args → X w' args) (own:ownKnob C.prog.godebug = none) (started:os.Started) (noInit:C.prog.inits.idxOf? f = none) (hfn:C.prog.funcs[f]? = some fn)
  (witness:∃ (w:World) (tape:Tape) (i:Input),w.os = os ∧ (w.forCall tape i).Shaped C.prog ∧ i.vars = [] ∧ Input.okWide C.prog (w.forCall tape i) .any w.heap.size f i ∧
   ((s.pre enc C.prog fn conds apart (w.forCall tape i).memory i.args ∧ X (w.forCall tape i).memory i.args) ∧ sizedMet enc C.prog fn (OpenSpec.ofChange s) apart (w.forCall tape i).memory i.args) ∧ a.holds C.prog (lone (Frame.enter C.prog f i.args .normal) [] (w.forCall tape i)))
  (walk:∀ (W:World) (base:Nat) (args:Array Value) (ds gs:List (DataW H)) (before:List MemPlace),(∀ (j:Nat) t v,fn.params[j]? = some t → args[j]? = some v → Value.okWide C.prog W .any base t v) →
   DataW.Whole enc C.prog fn.params.toList s.vars apart W args.toList ds gs before → X W args → W.ShapedOpen C.prog → Calls C.prog f args W fun e W' => ∃ v,e = .returned v ∧ s.post enc C.prog fn apart fresh handsOn again W args v W') :
  ReturnsInHanded a C os f .any (fun w args => (s.pre enc C.prog fn conds apart w args ∧ X w args) ∧ sizedMet enc C.prog fn (OpenSpec.ofChange s) apart w args) (s.post enc C.prog fn apart fresh handsOn again):=by
 refine returnsInHanded_of_calls own started noInit witness fun w tape i _ hs _ hok hpre _ => ?_
 obtain ⟨_,_,_,fn2,h2,_,_,_,_,hval⟩:=hok
 obtain rfl:=Option.some.inj (h2.symm.trans hfn)
 obtain ⟨⟨⟨ds,gs,before,hw,_⟩,hx⟩,_⟩:=hpre
 refine (walk (w.forCall tape i) w.heap.size i.args ds gs before hval (DataW.Whole.of_heap (w':=w.forCall tape i) (by rfl) hw) (hX _ _ _ (by rfl) hx) hs).mono fun e W' ⟨v,he,hp⟩ => ?_
 subst he
 exact ChangeSpec.post_blind hp
theorem okF (m:Int) (e1 e2:Value):∀ f cf,L7.F f = some cf → @okFn (envU m e1 e2) Tryz.prog f cf = true:=by
 intro f cf h
 unfold L7.F at h
 split at h
 ·cases h;exact ok3 m e1 e2
 ·cases h;exact ok4 m e1 e2
 ·cases h;exact ok5 m e1 e2
 ·cases h;exact ok6 m e1 e2
 ·cases h;exact ok7 m e1 e2
 ·cases h;exact ok8 m e1 e2
 ·cases h;exact ok9 m e1 e2
 ·cases h;exact ok10 m e1 e2
 ·cases h;exact ok13 m e1 e2
 ·cases h;exact ok14 m e1 e2
 ·cases h;exact ok15 m e1 e2
 ·cases h;exact ok16 m e1 e2
 ·cases h;exact ok17 m e1 e2
 ·cases h;exact ok18 m e1 e2
 ·cases h;exact ok19 m e1 e2
 ·cases h;exact ok20 m e1 e2
 ·cases h;exact ok21 m e1 e2
 ·cases h;exact ok22 m e1 e2
 ·cases h;exact ok23 m e1 e2
 ·cases h;exact ok24 m e1 e2
 ·cases h;exact ok25 m e1 e2
 ·cases h;exact ok26 m e1 e2
 ·cases h;exact ok27 m e1 e2
 ·cases h;exact ok28 m e1 e2
 ·cases h;exact ok29 m e1 e2
 ·cases h;exact ok30 m e1 e2
 ·cases h;exact ok31 m e1 e2
 ·cases h;exact ok32 m e1 e2
 ·cases h;exact ok33 m e1 e2
 ·cases h;exact ok35 m e1 e2
 ·cases h;exact ok37 m e1 e2
 ·cases h;exact ok38 m e1 e2
 ·cases h;exact ok39 m e1 e2
 ·cases h;exact ok40 m e1 e2
 ·cases h;exact ok41 m e1 e2
 ·cases h;exact ok44 m e1 e2
 ·cases h;exact ok45 m e1 e2
 ·cases h;exact ok46 m e1 e2
 ·cases h;exact ok47 m e1 e2
 ·cases h;exact ok48 m e1 e2
 ·cases h;exact ok49 m e1 e2
 ·cases h;exact ok50 m e1 e2
 ·cases h;exact ok51 m e1 e2
 ·cases h;exact ok52 m e1 e2
 ·cases h;exact ok53 m e1 e2
 ·cases h;exact ok54 m e1 e2
 ·cases h;exact ok55 m e1 e2
 ·cases h;exact ok56 m e1 e2
 ·cases h;exact ok57 m e1 e2
 ·cases h;exact ok58 m e1 e2
 ·cases h;exact ok59 m e1 e2
 ·cases h;exact ok60 m e1 e2
 ·cases h;exact ok61 m e1 e2
 ·cases h;exact ok62 m e1 e2
 ·cases h;exact ok63 m e1 e2
 ·cases h;exact ok64 m e1 e2
 ·cases h;exact ok69 m e1 e2
 ·cases h;exact ok70 m e1 e2
 ·cases h;exact ok71 m e1 e2
 ·cases h;exact ok72 m e1 e2
 ·cases h;exact ok73 m e1 e2
 ·cases h;exact ok74 m e1 e2
 ·cases h;exact ok75 m e1 e2
 ·cases h;exact ok76 m e1 e2
 ·cases h;exact ok77 m e1 e2
 ·cases h;exact ok78 m e1 e2
 ·cases h;exact ok85 m e1 e2
 ·cases h;exact ok86 m e1 e2
 ·cases h
end Go.Proofs.YtbmicihfhfcpkaaGreatDoor.U
