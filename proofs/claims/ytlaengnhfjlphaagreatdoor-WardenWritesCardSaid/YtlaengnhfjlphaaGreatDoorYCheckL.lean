/- THE LIBRARY's contracts at this program: the shelf's structures, laid in plain words. -/
import Derived.Shelf.Strings.Split
import Derived.Shelf.Strings.SplitShaped
import Derived.Shelf.Strconv.AtoiAll
import Derived.Shelf.Strconv.Itoa3
import Derived.Shelf.Slices.SearchI
import Derived.Shelf.Slices.Cells
import Derived.Shelf.Slices.Empties
import Derived.Shelf.Small.Strs
import Derived.Shelf.Strings.Prefix
import Derived.Test.YtlaengnhfjlphaaGreatDoorYWords
import Derived.Lib.SmallJoins
import Derived.WalkSmall
import Derived.Lib.AtoiAllCases
set_option linter.unusedVariables false
set_option linter.unusedSimpArgs false
set_option maxRecDepth 100000
set_option maxHeartbeats 8000000
namespace Go.Proofs.YtlaengnhfjlphaaGreatDoor
open Lib (hid)
open Go.Shelf Go.Proofs
open Go.RowKit Go.Lib in
def lays146_ren:Go.Shelf.Ren:=⟨fun | 146=>48 | 221=>52 | 268=>69 | 138=>70 | 143=>71 | 195=>98 | 197=>99 | 218=>100 | 219=>101 | 260=>141 | 217=>142 | 225=>143 | 224=>144 | 267=>145 | 266=>186 | 314=>187 | n=>n,fun | 9=>9 | 31=>22 | 3=>3 | 4=>4 | 0=>0 | 105=>170 | 21=>21 | 5=>5 | 46=>206 | 119=>266 | 139=>269 | 138=>268 | 146=>271 | 51=>270 | n=>n,fun | 1=>0 | 3=>3 | 4=>4 | n=>n⟩
theorem lays146:Go.Proofs.Lays.n146 Tryz.prog lays146_ren:={
 mixed:=by kernel_rfl
 f138:=Tryz.func70.trans (congrArg some (by kernel_rfl))
 f143:=Tryz.func71.trans (congrArg some (by kernel_rfl))
 f146:=Tryz.func48.trans (congrArg some (by kernel_rfl))
 f195:=Tryz.func98.trans (congrArg some (by kernel_rfl))
 f197:=Tryz.func99.trans (congrArg some (by kernel_rfl))
 f217:=Tryz.func142.trans (congrArg some (by kernel_rfl))
 f218:=Tryz.func100.trans (congrArg some (by kernel_rfl))
 f219:=Tryz.func101.trans (congrArg some (by kernel_rfl))
 f221:=Tryz.func52.trans (congrArg some (by kernel_rfl))
 f224:=Tryz.func144.trans (congrArg some (by kernel_rfl))
 f225:=Tryz.func143.trans (congrArg some (by kernel_rfl))
 f260:=Tryz.func141.trans (congrArg some (by kernel_rfl))
 f266:=Tryz.func186.trans (congrArg some (by kernel_rfl))
 f267:=Tryz.func145.trans (congrArg some (by kernel_rfl))
 f268:=Tryz.func69.trans (congrArg some (by kernel_rfl))
 f314:=Tryz.func187.trans (congrArg some (by kernel_rfl))
 t0:=Tryz.underlying0
 a0:=Tryz.isAgg0
 z0:=Tryz.sizeOf0
 v0:=Tryz.zeroValue0
 t3:=Tryz.underlying3
 a3:=Tryz.isAgg3
 z3:=Tryz.sizeOf3
 v3:=Tryz.zeroValue3
 t4:=Tryz.underlying4
 a4:=Tryz.isAgg4
 z4:=Tryz.sizeOf4
 v4:=Tryz.zeroValue4
 t5:=Tryz.underlying5
 a5:=Tryz.isAgg5
 z5:=Tryz.sizeOf5
 v5:=Tryz.zeroValue5
 t9:=Tryz.underlying9
 a9:=Tryz.isAgg9
 z9:=Tryz.sizeOf9
 v9:=Tryz.zeroValue9
 t21:=Tryz.underlying21
 a21:=Tryz.isAgg21
 z21:=Tryz.sizeOf21
 v21:=Tryz.zeroValue21
 t31:=Tryz.underlying22
 a31:=Tryz.isAgg22
 z31:=Tryz.sizeOf22
 v31:=Tryz.zeroValue22
 t46:=Tryz.underlying206
 a46:=Tryz.isAgg206
 z46:=Tryz.sizeOf206
 v46:=Tryz.zeroValue206
 t51:=Tryz.underlying270
 a51:=Tryz.isAgg270
 z51:=Tryz.sizeOf270
 v51:=Tryz.zeroValue270
 t105:=Tryz.underlying170
 a105:=Tryz.isAgg170
 z105:=Tryz.sizeOf170
 v105:=Tryz.zeroValue170
 t119:=Tryz.underlying266
 a119:=Tryz.isAgg266
 z119:=Tryz.sizeOf266
 t138:=Tryz.underlying268
 a138:=Tryz.isAgg268
 z138:=Tryz.sizeOf268
 v138:=Tryz.zeroValue268
 t139:=Tryz.underlying269
 a139:=Tryz.isAgg269
 z139:=Tryz.sizeOf269
 v139:=Tryz.zeroValue269
 t146:=Tryz.underlying271
 a146:=Tryz.isAgg271
 z146:=Tryz.sizeOf271
 v146:=Tryz.zeroValue271
 g1:=by kernel_rfl
 g3:=by kernel_rfl
 g4:=by kernel_rfl }
open Go.RowKit Go.Lib in
theorem strings_Split (s sep:ByteArray)(m:Int)(w:World)(hs:s.size < 4294967281)(hm:w.cell? ⟨0,0,none⟩=some (.int .i64 m))(h1:1≤sep.size) :
 Calls Tryz.prog 48 #[.string s,.string sep] w fun e w' =>
  e=.returned (.slice (some ⟨w.heap.size,0,none⟩) (Lib.countB s sep+1) (Lib.countB s sep+1))∧w'=w.alloc (.cells ((Lib.splitB sep 0 (Lib.countB s sep) s).map Value.string).toArray 9):=Any.strings_Split lays146 (by kernel_rfl) s sep m w hs hm h1
def laysC172_ren:Go.Shelf.Ren:=⟨fun | 172=>67 | 244=>95 | 245=>96 | 247=>135 | 279=>136 | 280=>137 | 281=>138 | 282=>139 | 287=>179 | 316=>180 | 171=>68 | 205=>181 | 321=>210 | 322=>211 | 243=>97 | 246=>140 | 283=>182 | 284=>183 | 285=>184 | 286=>185 | 129=>213 | 317=>212 | 318=>214 | 319=>215 | 320=>216 | 337=>235 | 338=>236 | n=>n,fun | 9=>9 | 3=>3 | 75=>115 | 76=>116 | 4=>4 | 5=>5 | 167=>216 | 37=>23 | 0=>0 | 85=>217 | 2=>2 | 168=>219 | 53=>254 | 175=>255 | 46=>206 | 210=>259 | 127=>283 | 145=>286 | 143=>284 | 21=>21 | 171=>261 | 173=>264 | 212=>288 | 51=>270 | 20=>20 | 213=>289 | 232=>313 | 233=>314 | 80=>316 | n=>n,fun | 15=>1 | 16=>2 | 17=>5 | 18=>6 | 19=>7 | n=>n⟩
theorem laysC172:Go.Proofs.LaysC.n172 Tryz.prog laysC172_ren:={
 mixed:=by kernel_rfl
 f129:=Tryz.func213.trans (congrArg some (by kernel_rfl))
 f171:=Tryz.func68.trans (congrArg some (by kernel_rfl))
 f172:=Tryz.func67.trans (congrArg some (by kernel_rfl))
 f205:=Tryz.func181.trans (congrArg some (by kernel_rfl))
 f243:=Tryz.func97.trans (congrArg some (by kernel_rfl))
 f244:=Tryz.func95.trans (congrArg some (by kernel_rfl))
 f245:=Tryz.func96.trans (congrArg some (by kernel_rfl))
 f246:=Tryz.func140.trans (congrArg some (by kernel_rfl))
 f247:=Tryz.func135.trans (congrArg some (by kernel_rfl))
 f279:=Tryz.func136.trans (congrArg some (by kernel_rfl))
 f280:=Tryz.func137.trans (congrArg some (by kernel_rfl))
 f281:=Tryz.func138.trans (congrArg some (by kernel_rfl))
 f282:=Tryz.func139.trans (congrArg some (by kernel_rfl))
 f283:=Tryz.func182.trans (congrArg some (by kernel_rfl))
 f284:=Tryz.func183.trans (congrArg some (by kernel_rfl))
 f285:=Tryz.func184.trans (congrArg some (by kernel_rfl))
 f286:=Tryz.func185.trans (congrArg some (by kernel_rfl))
 f287:=Tryz.func179.trans (congrArg some (by kernel_rfl))
 f316:=Tryz.func180.trans (congrArg some (by kernel_rfl))
 f317:=Tryz.func212.trans (congrArg some (by kernel_rfl))
 f318:=Tryz.func214.trans (congrArg some (by kernel_rfl))
 f319:=Tryz.func215.trans (congrArg some (by kernel_rfl))
 f320:=Tryz.func216.trans (congrArg some (by kernel_rfl))
 f321:=Tryz.func210.trans (congrArg some (by kernel_rfl))
 f322:=Tryz.func211.trans (congrArg some (by kernel_rfl))
 f337:=Tryz.func235.trans (congrArg some (by kernel_rfl))
 f338:=Tryz.func236.trans (congrArg some (by kernel_rfl))
 t0:=Tryz.underlying0
 a0:=Tryz.isAgg0
 z0:=Tryz.sizeOf0
 v0:=Tryz.zeroValue0
 t2:=Tryz.underlying2
 a2:=Tryz.isAgg2
 z2:=Tryz.sizeOf2
 v2:=Tryz.zeroValue2
 t3:=Tryz.underlying3
 a3:=Tryz.isAgg3
 z3:=Tryz.sizeOf3
 v3:=Tryz.zeroValue3
 t4:=Tryz.underlying4
 a4:=Tryz.isAgg4
 z4:=Tryz.sizeOf4
 v4:=Tryz.zeroValue4
 t5:=Tryz.underlying5
 a5:=Tryz.isAgg5
 z5:=Tryz.sizeOf5
 v5:=Tryz.zeroValue5
 t9:=Tryz.underlying9
 a9:=Tryz.isAgg9
 z9:=Tryz.sizeOf9
 v9:=Tryz.zeroValue9
 t20:=Tryz.underlying20
 a20:=Tryz.isAgg20
 z20:=Tryz.sizeOf20
 v20:=Tryz.zeroValue20
 t21:=Tryz.underlying21
 a21:=Tryz.isAgg21
 z21:=Tryz.sizeOf21
 v21:=Tryz.zeroValue21
 t37:=Tryz.underlying23
 a37:=Tryz.isAgg23
 z37:=Tryz.sizeOf23
 v37:=Tryz.zeroValue23
 t46:=Tryz.underlying206
 a46:=Tryz.isAgg206
 z46:=Tryz.sizeOf206
 v46:=Tryz.zeroValue206
 t51:=Tryz.underlying270
 a51:=Tryz.isAgg270
 z51:=Tryz.sizeOf270
 v51:=Tryz.zeroValue270
 t53:=Tryz.underlying254
 a53:=Tryz.isAgg254
 z53:=Tryz.sizeOf254
 v53:=Tryz.zeroValue254
 t75:=Tryz.underlying115
 a75:=Tryz.isAgg115
 z75:=Tryz.sizeOf115
 v75:=Tryz.zeroValue115
 t76:=Tryz.underlying116
 a76:=Tryz.isAgg116
 z76:=Tryz.sizeOf116
 v76:=Tryz.zeroValue116
 t85:=Tryz.underlying217
 a85:=Tryz.isAgg217
 z85:=Tryz.sizeOf217
 v85:=Tryz.zeroValue217
 t127:=Tryz.underlying283
 a127:=Tryz.isAgg283
 z127:=Tryz.sizeOf283
 v127:=Tryz.zeroValue283
 t143:=Tryz.underlying284
 a143:=Tryz.isAgg284
 z143:=Tryz.sizeOf284
 v143:=Tryz.zeroValue284
 t145:=Tryz.underlying286
 a145:=Tryz.isAgg286
 z145:=Tryz.sizeOf286
 v145:=Tryz.zeroValue286
 t167:=Tryz.underlying216
 a167:=Tryz.isAgg216
 z167:=Tryz.sizeOf216
 v167:=Tryz.zeroValue216
 t168:=Tryz.underlying219
 a168:=Tryz.isAgg219
 z168:=Tryz.sizeOf219
 v168:=Tryz.zeroValue219
 t171:=Tryz.underlying261
 a171:=Tryz.isAgg261
 z171:=Tryz.sizeOf261
 v171:=Tryz.zeroValue261
 t173:=Tryz.underlying264
 a173:=Tryz.isAgg264
 z173:=Tryz.sizeOf264
 v173:=Tryz.zeroValue264
 t175:=Tryz.underlying255
 a175:=Tryz.isAgg255
 z175:=Tryz.sizeOf255
 v175:=Tryz.zeroValue255
 t210:=Tryz.underlying259
 a210:=Tryz.isAgg259
 z210:=Tryz.sizeOf259
 v210:=Tryz.zeroValue259
 t212:=Tryz.underlying288
 a212:=Tryz.isAgg288
 z212:=Tryz.sizeOf288
 v212:=Tryz.zeroValue288
 t213:=Tryz.underlying289
 a213:=Tryz.isAgg289
 z213:=Tryz.sizeOf289
 t232:=Tryz.underlying313
 a232:=Tryz.isAgg313
 z232:=Tryz.sizeOf313
 v232:=Tryz.zeroValue313
 t233:=Tryz.underlying314
 a233:=Tryz.isAgg314
 z233:=Tryz.sizeOf314
 v233:=Tryz.zeroValue314
 g15:=by kernel_rfl
 g16:=by kernel_rfl
 g17:=by kernel_rfl
 g18:=by kernel_rfl
 g19:=by kernel_rfl
 t80:=Tryz.underlying316
 a80:=Tryz.isAgg316
 z80:=Tryz.sizeOf316
 v80:=Tryz.zeroValue316
 i0:=by kernel_rfl
 i2:=by kernel_rfl
 i3:=by kernel_rfl
 i4:=by kernel_rfl
 i5:=by kernel_rfl
 i9:=by kernel_rfl
 i20:=by kernel_rfl
 i21:=by kernel_rfl
 i37:=by kernel_rfl
 i46:=by kernel_rfl
 i51:=by kernel_rfl
 i53:=by kernel_rfl
 i75:=by kernel_rfl
 i76:=by kernel_rfl
 i80:=by kernel_rfl
 i85:=by kernel_rfl
 i127:=by kernel_rfl
 i143:=by kernel_rfl
 i145:=by kernel_rfl
 i167:=by kernel_rfl
 i168:=by kernel_rfl
 i171:=by kernel_rfl
 i173:=by kernel_rfl
 i175:=by kernel_rfl
 i210:=by kernel_rfl
 i212:=by kernel_rfl
 i232:=by kernel_rfl
 i233:=by kernel_rfl
 m15:=by kernel_rfl
 m16:=by kernel_rfl
 m17:=by kernel_rfl
 m18:=by kernel_rfl
 m19:=by kernel_rfl
 c0:=by kernel_rfl
 c2:=by kernel_rfl
 c3:=by kernel_rfl
 c4:=by kernel_rfl
 c5:=by kernel_rfl
 c9:=by kernel_rfl
 c20:=by kernel_rfl
 c21:=by kernel_rfl
 c37:=by kernel_rfl
 c46:=by kernel_rfl
 c51:=by kernel_rfl
 c53:=by kernel_rfl
 c75:=by kernel_rfl
 c76:=by kernel_rfl
 c80:=by kernel_rfl
 c85:=by kernel_rfl
 c127:=by kernel_rfl
 c143:=by kernel_rfl
 c145:=by kernel_rfl
 c167:=by kernel_rfl
 c168:=by kernel_rfl
 c171:=by kernel_rfl
 c173:=by kernel_rfl
 c175:=by kernel_rfl
 c210:=by kernel_rfl
 c212:=by kernel_rfl
 c213:=by kernel_rfl
 c232:=by kernel_rfl
 c233:=by kernel_rfl }
open Go.RowKit in
theorem strconv_Atoi_ok (s:ByteArray)(hmax:s.size≤9223372036854775806)(v:Int)(h:Lib.atoiAll s.data.toList=.ok v)(w:World) :
 Calls Tryz.prog 67 #[.string s] w fun e w'=>e=.returned (.tuple #[.int .i64 v,.nilIface])∧(w'=w∨∃ t,w'=Lib.bytesWorld w 5 t):=Any.strconv_Atoi_ok laysC172 s hmax v h w
open Go.RowKit in
theorem strconv_Atoi_syntax (s:ByteArray)(hlim:s.size≤281474976710656)(h:Lib.atoiAll s.data.toList=.«syntax»)(ev:Value)(w:World)(hv:w.cell? ⟨1,0,none⟩=some ev)(hev:ev=.nilIface∨∃ te pe,ev=.iface te pe) :
 Calls Tryz.prog 67 #[.string s] w fun e w'=>∃ N,e=.returned (.tuple #[.int .i64 (0),.iface 219 (.pointer (some ⟨N,0,none⟩))])∧w.heap.size≤N∧w'.heap[N]?=some (.cells #[.string ⟨#[65,116,111,105]⟩,.string s,ev] 259 (0,0))∧Below w.heap.size w w':=Any.strconv_Atoi_syntax laysC172 s hlim h ev w hv hev
open Go.RowKit in
theorem strconv_Atoi_range (s:ByteArray)(hlim:s.size≤281474976710656)(h:Lib.atoiAll s.data.toList=.range)(ev:Value)(w:World)(hv:w.cell? ⟨2,0,none⟩=some ev)(hev:ev=.nilIface∨∃ te pe,ev=.iface te pe) :
 Calls Tryz.prog 67 #[.string s] w fun e w'=>∃ N,e=.returned (.tuple #[.int .i64 (Lib.atoiSat s.data.toList),.iface 219 (.pointer (some ⟨N,0,none⟩))])∧w.heap.size≤N∧w'.heap[N]?=some (.cells #[.string ⟨#[65,116,111,105]⟩,.string s,ev] 259 (0,0))∧Below w.heap.size w w':=Any.strconv_Atoi_range laysC172 s hlim h ev w hv hev
def laysM171_ren:Go.Shelf.Ren:=⟨fun | 171=>68 | 243=>97 | 246=>140 | 283=>182 | 284=>183 | 285=>184 | 286=>185 | 129=>213 | 317=>212 | 318=>214 | 319=>215 | 320=>216 | 337=>235 | 338=>236 | n=>n,fun | 3=>3 | 9=>9 | 2=>2 | 4=>4 | 171=>261 | 0=>0 | 53=>254 | 37=>23 | 5=>5 | 173=>264 | 212=>288 | 51=>270 | 20=>20 | 213=>289 | 46=>206 | 232=>313 | 233=>314 | n=>n,fun | 17=>5 | 18=>6 | 19=>7 | n=>n⟩
theorem laysM171:Go.Proofs.LaysM.n171 Tryz.prog laysM171_ren:={
 mixed:=by kernel_rfl
 f129:=Tryz.func213.trans (congrArg some (by kernel_rfl))
 f171:=Tryz.func68.trans (congrArg some (by kernel_rfl))
 f243:=Tryz.func97.trans (congrArg some (by kernel_rfl))
 f246:=Tryz.func140.trans (congrArg some (by kernel_rfl))
 f283:=Tryz.func182.trans (congrArg some (by kernel_rfl))
 f284:=Tryz.func183.trans (congrArg some (by kernel_rfl))
 f285:=Tryz.func184.trans (congrArg some (by kernel_rfl))
 f286:=Tryz.func185.trans (congrArg some (by kernel_rfl))
 f317:=Tryz.func212.trans (congrArg some (by kernel_rfl))
 f318:=Tryz.func214.trans (congrArg some (by kernel_rfl))
 f319:=Tryz.func215.trans (congrArg some (by kernel_rfl))
 f320:=Tryz.func216.trans (congrArg some (by kernel_rfl))
 f337:=Tryz.func235.trans (congrArg some (by kernel_rfl))
 f338:=Tryz.func236.trans (congrArg some (by kernel_rfl))
 t0:=Tryz.underlying0
 a0:=Tryz.isAgg0
 z0:=Tryz.sizeOf0
 v0:=Tryz.zeroValue0
 t2:=Tryz.underlying2
 a2:=Tryz.isAgg2
 z2:=Tryz.sizeOf2
 v2:=Tryz.zeroValue2
 t3:=Tryz.underlying3
 a3:=Tryz.isAgg3
 z3:=Tryz.sizeOf3
 v3:=Tryz.zeroValue3
 t4:=Tryz.underlying4
 a4:=Tryz.isAgg4
 z4:=Tryz.sizeOf4
 v4:=Tryz.zeroValue4
 t5:=Tryz.underlying5
 a5:=Tryz.isAgg5
 z5:=Tryz.sizeOf5
 v5:=Tryz.zeroValue5
 t9:=Tryz.underlying9
 a9:=Tryz.isAgg9
 z9:=Tryz.sizeOf9
 v9:=Tryz.zeroValue9
 t20:=Tryz.underlying20
 a20:=Tryz.isAgg20
 z20:=Tryz.sizeOf20
 v20:=Tryz.zeroValue20
 t37:=Tryz.underlying23
 a37:=Tryz.isAgg23
 z37:=Tryz.sizeOf23
 v37:=Tryz.zeroValue23
 t46:=Tryz.underlying206
 a46:=Tryz.isAgg206
 z46:=Tryz.sizeOf206
 v46:=Tryz.zeroValue206
 t51:=Tryz.underlying270
 a51:=Tryz.isAgg270
 z51:=Tryz.sizeOf270
 v51:=Tryz.zeroValue270
 t53:=Tryz.underlying254
 a53:=Tryz.isAgg254
 z53:=Tryz.sizeOf254
 v53:=Tryz.zeroValue254
 t171:=Tryz.underlying261
 a171:=Tryz.isAgg261
 z171:=Tryz.sizeOf261
 v171:=Tryz.zeroValue261
 t173:=Tryz.underlying264
 a173:=Tryz.isAgg264
 z173:=Tryz.sizeOf264
 v173:=Tryz.zeroValue264
 t212:=Tryz.underlying288
 a212:=Tryz.isAgg288
 z212:=Tryz.sizeOf288
 v212:=Tryz.zeroValue288
 t213:=Tryz.underlying289
 a213:=Tryz.isAgg289
 z213:=Tryz.sizeOf289
 t232:=Tryz.underlying313
 a232:=Tryz.isAgg313
 z232:=Tryz.sizeOf313
 v232:=Tryz.zeroValue313
 t233:=Tryz.underlying314
 a233:=Tryz.isAgg314
 z233:=Tryz.sizeOf314
 v233:=Tryz.zeroValue314
 g17:=by kernel_rfl
 g18:=by kernel_rfl
 g19:=by kernel_rfl
 i0:=by kernel_rfl
 i2:=by kernel_rfl
 i3:=by kernel_rfl
 i4:=by kernel_rfl
 i5:=by kernel_rfl
 i9:=by kernel_rfl
 i20:=by kernel_rfl
 i37:=by kernel_rfl
 i46:=by kernel_rfl
 i51:=by kernel_rfl
 i53:=by kernel_rfl
 i171:=by kernel_rfl
 i173:=by kernel_rfl
 i212:=by kernel_rfl
 i232:=by kernel_rfl
 i233:=by kernel_rfl
 m17:=by kernel_rfl
 m18:=by kernel_rfl
 m19:=by kernel_rfl }
open Go.RowKit Go.Sort Go.Lib in
theorem strconv_Itoa (n:Int)(h0:-9223372036854775808≤n)(h1:n≤9223372036854775807)(w:World)(htab:Lib.TabIs Tryz.prog w "internal/strconv.uint64pow10" .u64 Lib.pow10Tab) :
 Calls Tryz.prog 68 #[.int .i64 n] w fun e w'=>e=.returned (.string ⟨(Lib.itoa n).toArray⟩)∧∃ k os,w'=grow (w.drewN k) os:=Any.strconv_Itoa laysM171 n h0 h1 w htab
def lays137_ren:Go.Shelf.Ren:=⟨fun | 137=>131 | 217=>142 | 266=>186 | n=>n,fun | 9=>9 | 5=>5 | 3=>3 | n=>n,fun | n=>n⟩
theorem lays137:Go.Proofs.Lays.n137 Tryz.prog lays137_ren:={
 mixed:=by kernel_rfl
 f137:=Tryz.func131.trans (congrArg some (by kernel_rfl))
 f217:=Tryz.func142.trans (congrArg some (by kernel_rfl))
 f266:=Tryz.func186.trans (congrArg some (by kernel_rfl))
 t3:=Tryz.underlying3
 a3:=Tryz.isAgg3
 z3:=Tryz.sizeOf3
 v3:=Tryz.zeroValue3
 t5:=Tryz.underlying5
 a5:=Tryz.isAgg5
 z5:=Tryz.sizeOf5
 v5:=Tryz.zeroValue5
 t9:=Tryz.underlying9
 a9:=Tryz.isAgg9
 z9:=Tryz.sizeOf9
 v9:=Tryz.zeroValue9 }
open Go.RowKit in
theorem strings_IndexByte (s:ByteArray)(c:Int)(w:World) :
 Calls Tryz.prog 131 #[.string s,.int .u8 c] w fun e w'=>e=.returned (.int .i64 (Lib.indexByte s.data.toList c.toNat.toUInt8))∧w'=w:=Any.strings_IndexByte lays137 s c w
def laysNm225_ren:Go.Shelf.Ren:=⟨fun | 25=>90 | 31=>127 | 32=>128 | 37=>175 | n=>n,fun | 22=>43 | 3=>3 | 4=>4 | 40=>206 | 0=>0 | n=>n,fun | n=>n⟩
theorem laysNm225:Go.Proofs.Lays2.n25 Tryz.prog laysNm225_ren:={
 mixed:=by kernel_rfl
 f25:=Tryz.func90.trans (congrArg some (by kernel_rfl))
 f31:=Tryz.func127.trans (congrArg some (by kernel_rfl))
 f32:=Tryz.func128.trans (congrArg some (by kernel_rfl))
 f37:=Tryz.func175.trans (congrArg some (by kernel_rfl))
 t0:=Tryz.underlying0
 a0:=Tryz.isAgg0
 z0:=Tryz.sizeOf0
 v0:=Tryz.zeroValue0
 t3:=Tryz.underlying3
 a3:=Tryz.isAgg3
 z3:=Tryz.sizeOf3
 v3:=Tryz.zeroValue3
 t4:=Tryz.underlying4
 a4:=Tryz.isAgg4
 z4:=Tryz.sizeOf4
 v4:=Tryz.zeroValue4
 t22:=Tryz.underlying43
 a22:=Tryz.isAgg43
 z22:=Tryz.sizeOf43
 v22:=Tryz.zeroValue43
 t40:=Tryz.underlying206
 a40:=Tryz.isAgg206
 z40:=Tryz.sizeOf206
 v40:=Tryz.zeroValue206 }
open Go.RowKit Go.Lib in
theorem slices_BinarySearch_int (b off n c:Nat)(zs:List Int)(x:Int)(w:World)(hz:n≤zs.length)(hbig:n < 4611686018427387904)(hc:∀ j,j < zs.length→w.cell? ⟨b,off+j,none⟩=some (.int .i64 (zs.getD j 0)))(hs:(zs.take n).Pairwise (·≤·)) :
 Calls Tryz.prog 90 #[.slice (some ⟨b,off,none⟩) n c,.int .i64 x] w fun e w'=>e=.returned (.tuple #[.int .i64 ((zs.take n).countP (· < x):Nat),.bool ((zs.take n).contains x)])∧∃ q,w'=w.drewN q:=Any.slices_BinarySearch_int laysNm225 b off n c zs x w hz hbig hc hs
open Go.RowKit Go.Lib in
theorem slices_BinarySearch_int_empty (a:Option Addr)(c:Nat)(x:Int)(w:World) :
 Calls Tryz.prog 90 #[.slice a 0 c,.int .i64 x] w fun e w'=>e=.returned (.tuple #[.int .i64 0,.bool false])∧w'=w:=Any.slices_BinarySearch_int_empty laysNm225 a c x w
def lays99_ren:Go.Shelf.Ren:=⟨fun | 99=>33 | 206=>45 | n=>n,fun | 9=>9 | 4=>4 | 3=>3 | n=>n,fun | n=>n⟩
theorem lays99:Go.Proofs.Lays.n99 Tryz.prog lays99_ren:={
 mixed:=by kernel_rfl
 f99:=Tryz.func33.trans (congrArg some (by kernel_rfl))
 f206:=Tryz.func45.trans (congrArg some (by kernel_rfl))
 t3:=Tryz.underlying3
 a3:=Tryz.isAgg3
 z3:=Tryz.sizeOf3
 v3:=Tryz.zeroValue3
 t4:=Tryz.underlying4
 a4:=Tryz.isAgg4
 z4:=Tryz.sizeOf4
 v4:=Tryz.zeroValue4
 t9:=Tryz.underlying9
 a9:=Tryz.isAgg9
 z9:=Tryz.sizeOf9
 v9:=Tryz.zeroValue9 }
open Go.RowKit Go.Lib in
theorem strings_HasPrefix (s p:ByteArray)(w:World) :
 Calls Tryz.prog 33 #[.string s,.string p] w fun e w'=>e=.returned (.bool (Lib.hasPrefix s.data.toList p.data.toList))∧w'=w:=Any.strings_HasPrefix lays99 s p w
end Go.Proofs.YtlaengnhfjlphaaGreatDoor
namespace Go.Proofs.YtlaengnhfjlphaaGreatDoor
open Lib (hid)
open Go.RowKit Go.Proofs Go.Lib Go.Sort
attribute [local go_sem ↓] Go.wp_at_zero Go.wp_at_succ
theorem below_growQ (w:World)(k:Nat)(os:Array Obj):Below w.heap.size w (grow (w.drewN k) os) :=
 (below_drewN (Below.refl w.heap.size w) k).trans ⟨rfl,rfl,rfl,by simp[grow],fun j hj=>by simp[grow,Array.getElem?_append_left hj]⟩
def ErrV (v:Value):Prop:=v=.nilIface∨∃ te pe,v=.iface te pe
structure Lay (w:World):Prop where
 size:10≤w.heap.size
 m0:∃ m,w.cell? ⟨0,0,none⟩=some (.int .i64 m)
 e1:∃ v,w.cell? ⟨1,0,none⟩=some v∧ErrV v
 e2:∃ v,w.cell? ⟨2,0,none⟩=some v∧ErrV v
 tab:TabIs Tryz.prog w "internal/strconv.uint64pow10" .u64 pow10Tab
theorem cell_congr {w w':World}{g i:Nat}(h:w'.heap[g]?=w.heap[g]?):w'.cell? ⟨g,i,none⟩=w.cell? ⟨g,i,none⟩:=by
 unfold World.cell?;simp only[h]
theorem Lay.fr {w w':World}{E:Nat→Prop}(h:Lay w)(hf:Fr E w w')(hE:∀ g,E g→10≤g):Lay w':=by
 have hb:∀ g,g < 10→w'.heap[g]?=w.heap[g]?:=fun g hg=>hf.block g (Nat.lt_of_lt_of_le hg h.size) fun e=>by have:=hE g e;omega
 obtain⟨m,hm⟩:=h.m0;obtain⟨v1,h1,k1⟩:=h.e1;obtain⟨v2,h2,k2⟩:=h.e2;refine⟨Nat.le_trans h.size hf.size,⟨m,(cell_congr (hb 0 (by decide))).trans hm⟩,⟨v1,(cell_congr (hb 1 (by decide))).trans h1,k1⟩,⟨v2,(cell_congr (hb 2 (by decide))).trans h2,k2⟩,?_⟩;have h9:=h.tab;unfold TabIs World.var? at h9 ⊢
 have hg:∃ g,Tryz.prog.globalNamed "internal/strconv.uint64pow10"=some g∧g < 10:=by
  have h8:(match Tryz.prog.globalNamed "internal/strconv.uint64pow10" with | some g=>decide (g < 10) | none=>false)=true:=by kernel_rfl
  cases hx:Tryz.prog.globalNamed "internal/strconv.uint64pow10" with
  | none=>rw[hx] at h8;cases h8
  | some g=>rw[hx] at h8;exact⟨g,rfl,of_decide_eq_true h8⟩
 obtain⟨g,hg,hlt⟩:=hg;rw[hg] at h9 ⊢;simp only[Option.bind_some] at h9 ⊢;rw[hb g hlt];exact h9
theorem Lay.below {w w':World}(h:Lay w)(hb:Below w.heap.size w w'):Lay w':=h.fr (Fr.of_below hb fun _=>False) fun _ h=>h.elim
theorem atoi_c (s:ByteArray)(hs:s.size≤100000){w:World}(hl:Lay w):Calls Tryz.prog 67 #[.string s] w fun e w'=>∃ n v,e=.returned (.tuple #[.int .i64 n,v])∧(v=.nilIface→atoiAll s.data.toList=.ok n)∧(v≠.nilIface→(∃ t p,v=.iface t p)∧∀ x,atoiAll s.data.toList≠.ok x)∧Below w.heap.size w w':=by
 obtain⟨v1,h1,k1⟩:=hl.e1;obtain⟨v2,h2,k2⟩:=hl.e2
 cases hx:atoiAll s.data.toList with
 | ok n =>
  refine(strconv_Atoi_ok s (by omega) n hx w).mono ?_;rintro e w' ⟨rfl,hw⟩;refine⟨n,.nilIface,rfl,fun _=>rfl,fun h=>absurd rfl h,?_⟩
  rcases hw with rfl | ⟨t,rfl⟩
  · exact Below.refl _ _
  · exact Go.Joins.below_bytesWorld _ w _ t (Nat.le_refl _)
 | «syntax» =>
  refine(strconv_Atoi_syntax s (by omega) hx v1 w h1 k1).mono ?_;rintro e w' ⟨N,rfl,_,_,hb⟩;exact⟨_,_,rfl,(fun h=>by cases h),(fun _=>⟨⟨_,_,rfl⟩,(fun x h=>by cases h)⟩),hb⟩
 | range =>
  refine(strconv_Atoi_range s (by omega) hx v2 w h2 k2).mono ?_;rintro e w' ⟨N,rfl,_,_,hb⟩;exact⟨_,_,rfl,(fun h=>by cases h),(fun _=>⟨⟨_,_,rfl⟩,(fun x h=>by cases h)⟩),hb⟩
theorem itoa_c {n:Int}(hn:-9223372036854775808≤n∧n≤9223372036854775807){w:World}(hl:Lay w):Calls Tryz.prog 68 #[.int .i64 n] w fun e w'=>e=.returned (.string ⟨(itoa n).toArray⟩)∧Below w.heap.size w w':=by
 refine(strconv_Itoa n hn.1 hn.2 w hl.tab).mono ?_;rintro e w' ⟨rfl,k,os,rfl⟩;exact⟨rfl,below_growQ w k os⟩
theorem toList_eq {a:List UInt8}{s:ByteArray}:(⟨a.toArray⟩:ByteArray)=s↔a=s.data.toList:=by
 constructor
 · rintro rfl;rfl
 · rintro rfl;cases s;rfl
theorem number_c (s:ByteArray)(hs:s.size≤100000){w:World}(hl:Lay w):Calls Tryz.prog 51 #[.string s] w fun e w'=>(∀ v,wholeP s.data.toList=some v→e=.returned (.int .i64 v))∧(wholeP s.data.toList=none→e=.panicked [{ v:=refV 4,recovered:=false }])∧Below w.heap.size w w':=by
 have hat:=atoi_c s hs hl;have hit:=fun(n:Int) (hn:-9223372036854775808≤n∧n≤9223372036854775807) (W:World) (hb:Below w.heap.size w W)=>itoa_c hn (hl.below hb);have HAT:=hid hat;have HIT:=hid hit;have HB:=hid (Below.refl w.heap.size w);clear hat hit hs hl
 go_enter Tryz.func51,Tryz.ntmps51
 go_wp2_with fail
 go_at_call 67;refine(HAT.out).mono ?_;rintro e w1 ⟨n,v,rfl,hv1,hv2,hb9⟩;replace HB:=hdT HB hb9;clear hb9 ;clear HAT
 by_cases hv:v=.nilIface
 · subst hv
   have hok:=hv1 rfl;have hbd:=atoiAll_bounds hok;have HOK:=hid hok;have HBD:=hid hbd;clear hv1 hv2 hok hbd
   go_wp2_with fail
   go_at_call 68;refine(HIT.out n HBD.out _ HB.out).mono ?_;rintro e w2 ⟨rfl,hb9⟩;replace HB:=hdT HB hb9;clear hb9 
   by_cases heq:itoa n=s.data.toList
   · have hs2:(⟨(itoa n).toArray⟩:ByteArray)=s:=toList_eq.2 heq
     have HEQ:=hid heq;rw[hs2];clear heq hs2
     go_wp2_with fail
     go_at_call 30;refine(wwithin_c n (-999999999) 999999999 _).mono ?_;rintro e w3 ⟨rfl,hb9⟩;replace HB:=hdT HB hb9;clear hb9 
     cases hin:inB n (-999999999) 999999999 with
     | true =>
      have hi:=inB_iff.1 hin;have hw:wholeP s.data.toList=some n:=whole_iff.2 ⟨HOK.out,HEQ.out,hi⟩;have HW:=hid hw;clear hin hi hw
      go_wp2_with fail
      go_at_call 50;refine(ask_t 4 _).mono ?_;rintro e w4 ⟨rfl,hb9⟩;replace HB:=hdT HB hb9;clear hb9 
      go_wp2_with fail
      go_ret
      exact⟨(fun v hv=>by rw[HW.out] at hv;cases hv;rfl),(fun h=>by rw[HW.out] at h;cases h),HB.out⟩
     | false =>
      have hw:wholeP s.data.toList=none:=by
       cases hx:wholeP s.data.toList with
       | none=>rfl
       | some v =>
        obtain⟨h1,_,h3⟩:=whole_iff.1 hx;rw[HOK.out] at h1;cases h1;rw[inB_iff.2 h3] at hin;cases hin
      have HW:=hid hw;clear hin hw
      go_wp2_with fail
      go_at_call 50;refine(ask_f 4 _).mono ?_;rintro e w4 ⟨rfl,hb9⟩;replace HB:=hdT HB hb9;clear hb9 
      go_wp2_with fail
      exact⟨rfl,(fun v hv=>by rw[HW.out] at hv;cases hv),(fun _=>rfl),HB.out⟩
   · have hs2:¬(⟨(itoa n).toArray⟩:ByteArray)=s:=fun h=>heq (toList_eq.1 h)
     have hw:wholeP s.data.toList=none:=by
      cases hx:wholeP s.data.toList with
      | none=>rfl
      | some v =>
       obtain⟨h1,h2,h3⟩:=whole_iff.1 hx;rw[HOK.out] at h1;cases h1;exact absurd h2 heq
     have HW:=hid hw
     have hsb:(itoa n == s.toList)=false:=by rw[ByteArray.toList_eq];simpa using heq
     clear heq hw hs2
     go_wp2_with fail
     go_at_call 50;refine(ask_f 4 _).mono ?_;rintro e w4 ⟨rfl,hb9⟩;replace HB:=hdT HB hb9;clear hb9 
     go_wp2_with fail
     exact⟨rfl,(fun v hv=>by rw[HW.out] at hv;cases hv),(fun _=>rfl),HB.out⟩
 · obtain⟨⟨te,pe,rfl⟩,hno⟩:=hv2 hv
   have hw:wholeP s.data.toList=none:=by
    cases hx:wholeP s.data.toList with
    | none=>rfl
    | some v=>exact absurd (whole_iff.1 hx).1 (hno v)
   have HW:=hid hw;clear hv1 hv2 hno hv hw
   go_wp2_with fail
   go_at_call 50;refine(ask_f 4 _).mono ?_;rintro e w4 ⟨rfl,hb9⟩;replace HB:=hdT HB hb9;clear hb9 
   go_wp2_with fail
   exact⟨rfl,(fun v hv=>by rw[HW.out] at hv;cases hv),(fun _=>rfl),HB.out⟩
end Go.Proofs.YtlaengnhfjlphaaGreatDoor
namespace Go.Proofs.YtlaengnhfjlphaaGreatDoor
open Lib (hid)
open Go.RowKit Go.Proofs Go.Lib Go.Sort
def encStr (s:ByteArray):List Value:=[.string s]
theorem encStr_len (s:ByteArray):(encStr s).length=1:=rfl
theorem parts_le (c:UInt8):∀(l:List UInt8),∀ p∈partsP c l,p.length≤l.length
 | [],p,h=>by simp[partsP] at h;subst h;simp
 | x :: l,p,h=>by
  have ih:=parts_le c l;unfold partsP at h
  split at h
  · rcases List.mem_cons.1 h with rfl | h
    · simp
    · have:=ih p h;simp;omega
  · cases hp:partsP c l with
    | nil=>exact absurd hp (parts_ne c l)
    | cons q qs =>
     rw[hp] at h ih
     rcases List.mem_cons.1 h with rfl | h
     · have:=ih q (by simp);simp;omega
     · have:=ih p (by simp[h]);simp;omega
theorem flat_str:∀ L:List ByteArray,L.flatMap encStr=L.map Value.string
 | []=>rfl
 | s :: L=>by rw[List.flatMap_cons,flat_str L];rfl
theorem split_c (s:ByteArray)(hs:s.size≤100000){w:World}(hl:Lay w):Calls Tryz.prog 48 #[.string s,.string ⟨#[32]⟩] w fun e w'=>∃(g:Nat) (L:List ByteArray),
 e=.returned (.slice (some ⟨g,0,none⟩) L.length L.length)∧L.map (·.data.toList)=partsP 32 s.data.toList∧Rd encStr 1 w' (some ⟨g,0,none⟩) L.length L∧w.heap.size≤g∧Below w.heap.size w w':=by
 obtain⟨m,hm⟩:=hl.m0;refine(strings_Split s ⟨#[32]⟩ m w (by omega) hm (by decide)).mono ?_;rintro e w' ⟨rfl,rfl⟩;have hlen:=splitB_all ⟨#[32]⟩ (by decide) 0 _ s rfl;have hdat:=splitB_data ⟨#[32]⟩ 0 (countB s ⟨#[32]⟩) s;obtain⟨L,hL⟩:∃ L,L=splitB ⟨#[32]⟩ 0 (countB s ⟨#[32]⟩) s:=⟨_,rfl⟩;rw[← hL] at hlen hdat ⊢;refine⟨w.heap.size,L,by rw[hlen],?_,?_,Nat.le_refl _,(Below.refl _ w).alloc (Nat.le_refl _) _⟩
 · rw[hdat]
   refine split_parts 32 s.data.toList _ ?_;show countB s ⟨#[32]⟩=s.data.toList.count 32;rw[← count_one]
 · refine Rd.of_blkE encStr_len (Blk.new w _ _) ?_ rfl
   rw[List.toList_toArray,flat_str]
end Go.Proofs.YtlaengnhfjlphaaGreatDoor
namespace Go.Proofs.YtlaengnhfjlphaaGreatDoor
open Lib (hid)
open Go.RowKit Go.Proofs
attribute [local go_sem ↓] Go.wp_at_zero Go.wp_at_succ
def checkL (LL:List ByteArray):Int:=if 60 < LL.length then 3 else if ∀ p∈LL,p.size≤300 then 0 else 3
theorem str_at {W:World}{A:Option Addr}{n i:Nat}{L:List ByteArray}(h:Rd encStr 1 W A n L)(hi:i < n):∃ b o p,A=some ⟨b,o,none⟩∧L[i]?=some p∧W.cell? ⟨b,o+i,none⟩=some (.string p):=by
 obtain⟨b,o,y,e,_,hy,hc⟩:=h.at_ hi;exact⟨b,o,y,e,hy,by simpa using hc 0 _ rfl⟩
theorem chkL_c {A:Option Addr}{n c:Nat}{LL:List ByteArray}{w:World}(h:Rd encStr 1 w A n LL) :
 Calls Tryz.prog 24 #[.slice A n c] w fun e w'=>e=.returned (.int .i64 (checkL LL))∧Below w.heap.size w w':=by
 have hlen:=h.len
 by_cases hn:60 < n
 · have hq:(60:Int) < (n:Int):=by omega
   have hck:checkL LL=3:=by unfold checkL;rw[if_pos (by omega)]
   rw[hck];clear hck hlen h
   go_enter Tryz.func24,Tryz.ntmps24
   go_wp2_with fail
   go_ret
   exact⟨rfl,Below.refl _ _⟩
 · have hq:¬(60:Int) < (n:Int):=by omega
   have H:=hid h;have HLEN:=hid hlen;clear hlen h
   go_enter Tryz.func24,Tryz.ntmps24
   go_wp2_with fail
   go_loopw [10] (fun i wr=>∃ k:Nat,k≤n∧i=.int .i64 k∧(∀ p∈LL.take k,p.size≤300)∧wr=w) (fun i _=>n - (intOf i).toNat)
   case atStart=>exact⟨0,Nat.zero_le _,rfl,by simp,rfl⟩
   case round =>
    obtain⟨k,hk,rfl,hall,rfl⟩:=hrel;have HALL:=hid hall;clear hall
    by_cases hlt:k < n
    · obtain⟨b,o,p,rfl,hp,c0⟩:=str_at H.out hlt
      have HP:=hid hp
      have hi1:(k:Int) < (n:Int):=by omega
      have hi0:(0:Int)≤(k:Int):=by omega
      clear hp
      by_cases hps:p.size≤300
      · have hqp:¬(300:Int) < (p.size:Int):=by omega
        go_wp2_with fail
        go_roundw
        case rel =>
         refine⟨k+1,by omega,by go_num,fun q hq9=>?_,by trivial⟩;rw[List.take_add_one,HP.out] at hq9
         rcases List.mem_append.1 hq9 with h9 | h9
         · exact HALL.out q h9
         · obtain rfl:q=p:=by simpa using h9
           exact hps
        case measure=>simp[intOf] <;> omega
      · have hqp:(300:Int) < (p.size:Int):=by omega
        have hck:checkL LL=3:=by
         unfold checkL;rw[if_neg (by have:=HLEN.out;omega),if_neg (fun h9=>hps (h9 p (List.mem_of_getElem? HP.out)))]
        have HCK:=hid hck;clear hck
        go_wp2_with fail
        (try rw[Exit.noGoto_ret])
        go_ret
        exact⟨by rw[HCK.out];rfl,Below.refl _ _⟩
    · obtain rfl:k=n:=by omega
      have hck:checkL LL=0:=by
       unfold checkL;rw[if_neg (by have:=HLEN.out;omega),if_pos (fun p hp=>HALL.out p (by rw[← HLEN.out,List.take_length];exact hp))]
      have HCK:=hid hck;clear hck
      go_wp2_with fail
      go_ret
      exact⟨by rw[HCK.out];rfl,Below.refl _ _⟩
end Go.Proofs.YtlaengnhfjlphaaGreatDoor
