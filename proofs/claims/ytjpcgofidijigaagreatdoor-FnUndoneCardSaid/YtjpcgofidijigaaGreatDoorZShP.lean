/- Contracts of the library as they stand in this program: the numbers of its functions and types; written by the kit's tools lay-shelf and lay-plain. -/
import Derived.Shelf.Strings.Shaped
import Derived.Shelf.Strings.SplitShaped
import Derived.Shelf.Strings.Prefix
import Derived.Shelf.Strings.FieldsFuncAny
import Derived.Shelf.Strconv.AtoiAll
import Derived.Shelf.Strconv.ErrVarAll
import Derived.Test.YtjpcgofidijigaaGreatDoorZPrsS
import Derived.Lib.AtoiErrMem
import Derived.Test.YtjpcgofidijigaaGreatDoorZFmtJ
set_option maxHeartbeats 8000000
set_option maxRecDepth 100000
namespace Go.Proofs.YtjpcgofidijigaaGreatDoor
open Go.Shelf
def ZjL:Go.Shelf.Ren:=⟨fun |145=>32|220=>61|219=>95|217=>131|225=>132|224=>133|267=>134|266=>165|314=>166|n=>n,fun |9=>9|4=>4|59=>65|3=>3|5=>5|46=>127|146=>188|51=>187|n=>n,fun |1=>0|n=>n⟩
theorem ZnN:Go.Proofs.Lays.n145 Tryz.prog ZjL:={
 mixed:=by kernel_rfl
 f145:=Tryz.func32.trans (congrArg some (by kernel_rfl))
 f217:=Tryz.func131.trans (congrArg some (by kernel_rfl))
 f219:=Tryz.func95.trans (congrArg some (by kernel_rfl))
 f220:=Tryz.func61.trans (congrArg some (by kernel_rfl))
 f224:=Tryz.func133.trans (congrArg some (by kernel_rfl))
 f225:=Tryz.func132.trans (congrArg some (by kernel_rfl))
 f266:=Tryz.func165.trans (congrArg some (by kernel_rfl))
 f267:=Tryz.func134.trans (congrArg some (by kernel_rfl))
 f314:=Tryz.func166.trans (congrArg some (by kernel_rfl))
 t3:=Tryz.underlying3
 a3:=Tryz.isAgg3
 z3:=Tryz.sizeOf3
 v3:=Tryz.zeroValue3
 t4:=Tryz.underlying4
 a4:=Tryz.isAgg4
 z4:=Tryz.sizeOf4
 v4:=Tryz.zeroValue4
 t5:=Tryz.underlying5
 a5:=Tryz.isAgg5
 z5:=Tryz.sizeOf5
 v5:=Tryz.zeroValue5
 t9:=Tryz.underlying9
 a9:=Tryz.isAgg9
 z9:=Tryz.sizeOf9
 v9:=Tryz.zeroValue9
 t46:=Tryz.underlying127
 a46:=Tryz.isAgg127
 z46:=Tryz.sizeOf127
 v46:=Tryz.zeroValue127
 t51:=Tryz.underlying187
 a51:=Tryz.isAgg187
 z51:=Tryz.sizeOf187
 v51:=Tryz.zeroValue187
 t59:=Tryz.underlying65
 a59:=Tryz.isAgg65
 z59:=Tryz.sizeOf65
 v59:=Tryz.zeroValue65
 t146:=Tryz.underlying188
 a146:=Tryz.isAgg188
 z146:=Tryz.sizeOf188
 v146:=Tryz.zeroValue188
 g1:=by kernel_rfl}
open Go.RowKit Go.Lib in
theorem ZdH (s sep:ByteArray) (m:Int) (w:World) (hs:s.size<4294967281) (hm:w.cell? ⟨0,0,none⟩=some (.int .i64 m)):
  Calls Tryz.prog 32 #[.string s, .string sep] w fun e w'=>e= .returned (.tuple #[.string ⟨(Lib.cut s.data.toList sep.data.toList).1.toArray⟩, .string ⟨(Lib.cut s.data.toList sep.data.toList).2.1.toArray⟩, .bool (Lib.cut s.data.toList sep.data.toList).2.2])/\ ∃ n,w'=w.drewN n:=Any.strings_Cut ZnN s sep m w hs hm
def Zjo:Go.Shelf.Ren:=⟨fun |100=>62|207=>96|n=>n,fun |9=>9|4=>4|3=>3|n=>n,fun |n=>n⟩
theorem Zn1:Go.Proofs.Lays.n100 Tryz.prog Zjo:={
 mixed:=by kernel_rfl
 f100:=Tryz.func62.trans (congrArg some (by kernel_rfl))
 f207:=Tryz.func96.trans (congrArg some (by kernel_rfl))
 t3:=Tryz.underlying3
 a3:=Tryz.isAgg3
 z3:=Tryz.sizeOf3
 v3:=Tryz.zeroValue3
 t4:=Tryz.underlying4
 a4:=Tryz.isAgg4
 z4:=Tryz.sizeOf4
 v4:=Tryz.zeroValue4
 t9:=Tryz.underlying9
 a9:=Tryz.isAgg9
 z9:=Tryz.sizeOf9
 v9:=Tryz.zeroValue9}
open Go.RowKit Go.Lib in
theorem ZgH (s p:ByteArray) (w:World) (hs:s.size<=9223372036854775807):
  Calls Tryz.prog 62 #[.string s, .string p] w fun e w'=>e= .returned (.bool (Lib.hasSuffix s.data.toList p.data.toList))/\w'=w:=Any.strings_HasSuffix Zn1 s p w hs
def ZjS:Go.Shelf.Ren:=⟨fun |146=>13|221=>31|268=>58|138=>59|143=>60|195=>92|197=>93|218=>94|219=>95|260=>130|217=>131|225=>132|224=>133|267=>134|266=>165|314=>166|n=>n,fun |9=>9|31=>43|3=>3|4=>4|0=>0|105=>130|21=>21|5=>5|46=>127|119=>183|139=>186|138=>185|146=>188|51=>187|n=>n,fun |1=>0|3=>1|4=>2|n=>n⟩
theorem Zob:Go.Proofs.Lays.n146 Tryz.prog ZjS:={
 mixed:=by kernel_rfl
 f138:=Tryz.func59.trans (congrArg some (by kernel_rfl))
 f143:=Tryz.func60.trans (congrArg some (by kernel_rfl))
 f146:=Tryz.func13.trans (congrArg some (by kernel_rfl))
 f195:=Tryz.func92.trans (congrArg some (by kernel_rfl))
 f197:=Tryz.func93.trans (congrArg some (by kernel_rfl))
 f217:=Tryz.func131.trans (congrArg some (by kernel_rfl))
 f218:=Tryz.func94.trans (congrArg some (by kernel_rfl))
 f219:=Tryz.func95.trans (congrArg some (by kernel_rfl))
 f221:=Tryz.func31.trans (congrArg some (by kernel_rfl))
 f224:=Tryz.func133.trans (congrArg some (by kernel_rfl))
 f225:=Tryz.func132.trans (congrArg some (by kernel_rfl))
 f260:=Tryz.func130.trans (congrArg some (by kernel_rfl))
 f266:=Tryz.func165.trans (congrArg some (by kernel_rfl))
 f267:=Tryz.func134.trans (congrArg some (by kernel_rfl))
 f268:=Tryz.func58.trans (congrArg some (by kernel_rfl))
 f314:=Tryz.func166.trans (congrArg some (by kernel_rfl))
 t0:=Tryz.underlying0
 a0:=Tryz.isAgg0
 z0:=Tryz.sizeOf0
 v0:=Tryz.zeroValue0
 t3:=Tryz.underlying3
 a3:=Tryz.isAgg3
 z3:=Tryz.sizeOf3
 v3:=Tryz.zeroValue3
 t4:=Tryz.underlying4
 a4:=Tryz.isAgg4
 z4:=Tryz.sizeOf4
 v4:=Tryz.zeroValue4
 t5:=Tryz.underlying5
 a5:=Tryz.isAgg5
 z5:=Tryz.sizeOf5
 v5:=Tryz.zeroValue5
 t9:=Tryz.underlying9
 a9:=Tryz.isAgg9
 z9:=Tryz.sizeOf9
 v9:=Tryz.zeroValue9
 t21:=Tryz.underlying21
 a21:=Tryz.isAgg21
 z21:=Tryz.sizeOf21
 v21:=Tryz.zeroValue21
 t31:=Tryz.underlying43
 a31:=Tryz.isAgg43
 z31:=Tryz.sizeOf43
 v31:=Tryz.zeroValue43
 t46:=Tryz.underlying127
 a46:=Tryz.isAgg127
 z46:=Tryz.sizeOf127
 v46:=Tryz.zeroValue127
 t51:=Tryz.underlying187
 a51:=Tryz.isAgg187
 z51:=Tryz.sizeOf187
 v51:=Tryz.zeroValue187
 t105:=Tryz.underlying130
 a105:=Tryz.isAgg130
 z105:=Tryz.sizeOf130
 v105:=Tryz.zeroValue130
 t119:=Tryz.underlying183
 a119:=Tryz.isAgg183
 z119:=Tryz.sizeOf183
 t138:=Tryz.underlying185
 a138:=Tryz.isAgg185
 z138:=Tryz.sizeOf185
 v138:=Tryz.zeroValue185
 t139:=Tryz.underlying186
 a139:=Tryz.isAgg186
 z139:=Tryz.sizeOf186
 v139:=Tryz.zeroValue186
 t146:=Tryz.underlying188
 a146:=Tryz.isAgg188
 z146:=Tryz.sizeOf188
 v146:=Tryz.zeroValue188
 g1:=by kernel_rfl
 g3:=by kernel_rfl
 g4:=by kernel_rfl}
open Go.RowKit Go.Lib in
theorem Ze4 (s sep:ByteArray) (m:Int) (w:World) (hs:s.size<4294967281) (hm:w.cell? ⟨0,0,none⟩=some (.int .i64 m)) (h1:1<=sep.size):
  Calls Tryz.prog 13 #[.string s, .string sep] w fun e w'=>
   e= .returned (.slice (some ⟨w.heap.size,0,none⟩) (Lib.countB s sep+1) (Lib.countB s sep+1))/\w'=w.alloc (.cells ((Lib.splitB sep 0 (Lib.countB s sep) s).map Value.string).toArray 9):=Any.strings_Split Zob (by kernel_rfl) s sep m w hs hm h1
def ZjE:Go.Shelf.Ren:=⟨fun |229=>63|n=>n,fun |9=>9|40=>96|31=>43|152=>133|3=>3|0=>0|4=>4|21=>21|154=>135|n=>n,fun |n=>n⟩
theorem Zno:Go.Proofs.Lays.n229 Tryz.prog ZjE:={
 mixed:=by kernel_rfl
 f229:=Tryz.func63.trans (congrArg some (by kernel_rfl))
 t0:=Tryz.underlying0
 a0:=Tryz.isAgg0
 z0:=Tryz.sizeOf0
 v0:=Tryz.zeroValue0
 t3:=Tryz.underlying3
 a3:=Tryz.isAgg3
 z3:=Tryz.sizeOf3
 v3:=Tryz.zeroValue3
 t4:=Tryz.underlying4
 a4:=Tryz.isAgg4
 z4:=Tryz.sizeOf4
 v4:=Tryz.zeroValue4
 t9:=Tryz.underlying9
 a9:=Tryz.isAgg9
 z9:=Tryz.sizeOf9
 v9:=Tryz.zeroValue9
 t21:=Tryz.underlying21
 a21:=Tryz.isAgg21
 z21:=Tryz.sizeOf21
 v21:=Tryz.zeroValue21
 t31:=Tryz.underlying43
 a31:=Tryz.isAgg43
 z31:=Tryz.sizeOf43
 v31:=Tryz.zeroValue43
 t40:=Tryz.underlying96
 a40:=Tryz.isAgg96
 z40:=Tryz.sizeOf96
 v40:=Tryz.zeroValue96
 t152:=Tryz.underlying133
 a152:=Tryz.isAgg133
 z152:=Tryz.sizeOf133
 v152:=Tryz.zeroValue133
 t154:=Tryz.underlying135
 a154:=Tryz.isAgg135
 z154:=Tryz.sizeOf135
 v154:=Tryz.zeroValue135}
open Go.RowKit Go.Lib in
theorem ZfU (g:Nat) (lb:Array Value) (eg: ∀ args w,(callFunc g args).run Tryz.prog w= .ok (.enter g args) w) (p:Nat->Bool) (s:ByteArray) (w:World) (hs:s.size<=4294967296) (hp:PredAt Tryz.prog g lb encR p w):
  Calls Tryz.prog 63 #[.string s, .func (.func g) #[] lb] w fun e w'=> ∃ A,e= .returned (.slice (some ⟨A,0,none⟩) (Lib.goFieldsP p s).length (Lib.goFieldsP p s).length)/\w.heap.size<=A/\
   w'.ownsRow w.heap.size 9 1 (.slice (some ⟨A,0,none⟩) (Lib.goFieldsP p s).length (Lib.goFieldsP p s).length) (Lib.goFieldsP p s).length ((Lib.goFieldsP p s).map Value.string)/\Below w.heap.size w w':=Any.strings_FieldsFunc Zno g lb eg p s w hs hp (by kernel_rfl) (by kernel_rfl)
end Go.Proofs.YtjpcgofidijigaaGreatDoor

namespace Go.Proofs.YtjpcgofidijigaaGreatDoor
open Go.Shelf
def Zi5:Go.Shelf.Ren:=⟨fun |172=>78|244=>115|245=>116|247=>150|279=>151|280=>152|281=>153|282=>154|287=>179|316=>180|171=>75|205=>181|321=>202|322=>203|243=>110|246=>144|283=>175|284=>176|285=>177|286=>178|129=>192|317=>198|318=>199|319=>200|320=>201|337=>219|338=>220|n=>n,fun |9=>9|3=>3|75=>110|76=>111|4=>4|5=>5|167=>172|37=>22|0=>0|85=>173|2=>2|168=>175|53=>197|175=>202|46=>127|210=>206|127=>167|145=>232|143=>230|21=>21|171=>196|173=>200|212=>227|51=>187|20=>20|213=>228|232=>253|233=>254|80=>143|n=>n,fun |15=>3|16=>4|17=>5|18=>6|19=>7|n=>n⟩
theorem Zfz:Go.Proofs.LaysC.n172 Tryz.prog Zi5:={
 mixed:=by kernel_rfl
 f129:=Tryz.func192.trans (congrArg some (by kernel_rfl))
 f171:=Tryz.func75.trans (congrArg some (by kernel_rfl))
 f172:=Tryz.func78.trans (congrArg some (by kernel_rfl))
 f205:=Tryz.func181.trans (congrArg some (by kernel_rfl))
 f243:=Tryz.func110.trans (congrArg some (by kernel_rfl))
 f244:=Tryz.func115.trans (congrArg some (by kernel_rfl))
 f245:=Tryz.func116.trans (congrArg some (by kernel_rfl))
 f246:=Tryz.func144.trans (congrArg some (by kernel_rfl))
 f247:=Tryz.func150.trans (congrArg some (by kernel_rfl))
 f279:=Tryz.func151.trans (congrArg some (by kernel_rfl))
 f280:=Tryz.func152.trans (congrArg some (by kernel_rfl))
 f281:=Tryz.func153.trans (congrArg some (by kernel_rfl))
 f282:=Tryz.func154.trans (congrArg some (by kernel_rfl))
 f283:=Tryz.func175.trans (congrArg some (by kernel_rfl))
 f284:=Tryz.func176.trans (congrArg some (by kernel_rfl))
 f285:=Tryz.func177.trans (congrArg some (by kernel_rfl))
 f286:=Tryz.func178.trans (congrArg some (by kernel_rfl))
 f287:=Tryz.func179.trans (congrArg some (by kernel_rfl))
 f316:=Tryz.func180.trans (congrArg some (by kernel_rfl))
 f317:=Tryz.func198.trans (congrArg some (by kernel_rfl))
 f318:=Tryz.func199.trans (congrArg some (by kernel_rfl))
 f319:=Tryz.func200.trans (congrArg some (by kernel_rfl))
 f320:=Tryz.func201.trans (congrArg some (by kernel_rfl))
 f321:=Tryz.func202.trans (congrArg some (by kernel_rfl))
 f322:=Tryz.func203.trans (congrArg some (by kernel_rfl))
 f337:=Tryz.func219.trans (congrArg some (by kernel_rfl))
 f338:=Tryz.func220.trans (congrArg some (by kernel_rfl))
 t0:=Tryz.underlying0
 a0:=Tryz.isAgg0
 z0:=Tryz.sizeOf0
 v0:=Tryz.zeroValue0
 t2:=Tryz.underlying2
 a2:=Tryz.isAgg2
 z2:=Tryz.sizeOf2
 v2:=Tryz.zeroValue2
 t3:=Tryz.underlying3
 a3:=Tryz.isAgg3
 z3:=Tryz.sizeOf3
 v3:=Tryz.zeroValue3
 t4:=Tryz.underlying4
 a4:=Tryz.isAgg4
 z4:=Tryz.sizeOf4
 v4:=Tryz.zeroValue4
 t5:=Tryz.underlying5
 a5:=Tryz.isAgg5
 z5:=Tryz.sizeOf5
 v5:=Tryz.zeroValue5
 t9:=Tryz.underlying9
 a9:=Tryz.isAgg9
 z9:=Tryz.sizeOf9
 v9:=Tryz.zeroValue9
 t20:=Tryz.underlying20
 a20:=Tryz.isAgg20
 z20:=Tryz.sizeOf20
 v20:=Tryz.zeroValue20
 t21:=Tryz.underlying21
 a21:=Tryz.isAgg21
 z21:=Tryz.sizeOf21
 v21:=Tryz.zeroValue21
 t37:=Tryz.underlying22
 a37:=Tryz.isAgg22
 z37:=Tryz.sizeOf22
 v37:=Tryz.zeroValue22
 t46:=Tryz.underlying127
 a46:=Tryz.isAgg127
 z46:=Tryz.sizeOf127
 v46:=Tryz.zeroValue127
 t51:=Tryz.underlying187
 a51:=Tryz.isAgg187
 z51:=Tryz.sizeOf187
 v51:=Tryz.zeroValue187
 t53:=Tryz.underlying197
 a53:=Tryz.isAgg197
 z53:=Tryz.sizeOf197
 v53:=Tryz.zeroValue197
 t75:=Tryz.underlying110
 a75:=Tryz.isAgg110
 z75:=Tryz.sizeOf110
 v75:=Tryz.zeroValue110
 t76:=Tryz.underlying111
 a76:=Tryz.isAgg111
 z76:=Tryz.sizeOf111
 v76:=Tryz.zeroValue111
 t85:=Tryz.underlying173
 a85:=Tryz.isAgg173
 z85:=Tryz.sizeOf173
 v85:=Tryz.zeroValue173
 t127:=Tryz.underlying167
 a127:=Tryz.isAgg167
 z127:=Tryz.sizeOf167
 v127:=Tryz.zeroValue167
 t143:=Tryz.underlying230
 a143:=Tryz.isAgg230
 z143:=Tryz.sizeOf230
 v143:=Tryz.zeroValue230
 t145:=Tryz.underlying232
 a145:=Tryz.isAgg232
 z145:=Tryz.sizeOf232
 v145:=Tryz.zeroValue232
 t167:=Tryz.underlying172
 a167:=Tryz.isAgg172
 z167:=Tryz.sizeOf172
 v167:=Tryz.zeroValue172
 t168:=Tryz.underlying175
 a168:=Tryz.isAgg175
 z168:=Tryz.sizeOf175
 v168:=Tryz.zeroValue175
 t171:=Tryz.underlying196
 a171:=Tryz.isAgg196
 z171:=Tryz.sizeOf196
 v171:=Tryz.zeroValue196
 t173:=Tryz.underlying200
 a173:=Tryz.isAgg200
 z173:=Tryz.sizeOf200
 v173:=Tryz.zeroValue200
 t175:=Tryz.underlying202
 a175:=Tryz.isAgg202
 z175:=Tryz.sizeOf202
 v175:=Tryz.zeroValue202
 t210:=Tryz.underlying206
 a210:=Tryz.isAgg206
 z210:=Tryz.sizeOf206
 v210:=Tryz.zeroValue206
 t212:=Tryz.underlying227
 a212:=Tryz.isAgg227
 z212:=Tryz.sizeOf227
 v212:=Tryz.zeroValue227
 t213:=Tryz.underlying228
 a213:=Tryz.isAgg228
 z213:=Tryz.sizeOf228
 t232:=Tryz.underlying253
 a232:=Tryz.isAgg253
 z232:=Tryz.sizeOf253
 v232:=Tryz.zeroValue253
 t233:=Tryz.underlying254
 a233:=Tryz.isAgg254
 z233:=Tryz.sizeOf254
 v233:=Tryz.zeroValue254
 g15:=by kernel_rfl
 g16:=by kernel_rfl
 g17:=by kernel_rfl
 g18:=by kernel_rfl
 g19:=by kernel_rfl
 t80:=Tryz.underlying143
 a80:=Tryz.isAgg143
 z80:=Tryz.sizeOf143
 v80:=Tryz.zeroValue143
 i0:=by kernel_rfl
 i2:=by kernel_rfl
 i3:=by kernel_rfl
 i4:=by kernel_rfl
 i5:=by kernel_rfl
 i9:=by kernel_rfl
 i20:=by kernel_rfl
 i21:=by kernel_rfl
 i37:=by kernel_rfl
 i46:=by kernel_rfl
 i51:=by kernel_rfl
 i53:=by kernel_rfl
 i75:=by kernel_rfl
 i76:=by kernel_rfl
 i80:=by kernel_rfl
 i85:=by kernel_rfl
 i127:=by kernel_rfl
 i143:=by kernel_rfl
 i145:=by kernel_rfl
 i167:=by kernel_rfl
 i168:=by kernel_rfl
 i171:=by kernel_rfl
 i173:=by kernel_rfl
 i175:=by kernel_rfl
 i210:=by kernel_rfl
 i212:=by kernel_rfl
 i232:=by kernel_rfl
 i233:=by kernel_rfl
 m15:=by kernel_rfl
 m16:=by kernel_rfl
 m17:=by kernel_rfl
 m18:=by kernel_rfl
 m19:=by kernel_rfl
 c0:=by kernel_rfl
 c2:=by kernel_rfl
 c3:=by kernel_rfl
 c4:=by kernel_rfl
 c5:=by kernel_rfl
 c9:=by kernel_rfl
 c20:=by kernel_rfl
 c21:=by kernel_rfl
 c37:=by kernel_rfl
 c46:=by kernel_rfl
 c51:=by kernel_rfl
 c53:=by kernel_rfl
 c75:=by kernel_rfl
 c76:=by kernel_rfl
 c80:=by kernel_rfl
 c85:=by kernel_rfl
 c127:=by kernel_rfl
 c143:=by kernel_rfl
 c145:=by kernel_rfl
 c167:=by kernel_rfl
 c168:=by kernel_rfl
 c171:=by kernel_rfl
 c173:=by kernel_rfl
 c175:=by kernel_rfl
 c210:=by kernel_rfl
 c212:=by kernel_rfl
 c213:=by kernel_rfl
 c232:=by kernel_rfl
 c233:=by kernel_rfl}
open Go.RowKit in
theorem Zg1 (s:ByteArray) (hmax:s.size<=9223372036854775806) (v:Int) (h:Lib.atoiAll s.data.toList= .ok v) (w:World):
  Calls Tryz.prog 78 #[.string s] w fun e w'=>e= .returned (.tuple #[.int .i64 v, .nilIface])/\(w'=w\/ ∃ t,w'=Lib.bytesWorld w 5 t):=Any.strconv_Atoi_ok Zfz s hmax v h w
open Go.RowKit in
theorem ZeJ (s:ByteArray) (hlim:s.size<=281474976710656) (h:Lib.atoiAll s.data.toList= .range) (tp:TypeId) (p:Value) (w:World) (hvar:w.var? Tryz.prog "strconv.ErrRange" =some #[.iface tp p]):
  Calls Tryz.prog 78 #[.string s] w fun e w'=> ∃ N,e= .returned (.tuple #[.int .i64 (Lib.atoiSat s.data.toList), .iface 175 (.pointer (some ⟨N,0,none⟩))])/\w.heap.size<=N/\w'.heap[N]? =some (.cells #[.string ⟨#[65,116,111,105]⟩, .string s, .iface tp p] 206 (0,0))/\Below w.heap.size w w':=Any.strconv_Atoi_range_var Zfz s hlim h tp p w hvar
end Go.Proofs.YtjpcgofidijigaaGreatDoor

namespace Go.Proofs.YtjpcgofidijigaaGreatDoor
open Go.RowKit
open Lib (hid)
variable {S:Nat->Prop} {a:Option Addr} {c n:Nat} {m:Mat} {w w':World}
theorem Zk8 {P:Program} {n:String} {v:Array Value} (h:w.var? P n=some v) (hg:Grow w w'):w'.var? P n=some v:=by
 unfold World.var? at *;cases hg1:P.globalNamed n with
 |none=>simp[hg1] at h
 |some g=>
  simp only[hg1,Option.bind_some] at h ⊢;have hlt:g<w.heap.size:=by
   rcases Nat.lt_or_ge g w.heap.size with h'|h'
   ·exact h'
   ·rw[Array.getElem?_eq_none h'] at h;simp at h
  rw[hg.below.block g hlt];exact h
structure Env (w:World):Prop where
 tab:Tab w
 syn: ∃ tp p,w.var? Tryz.prog "strconv.ErrSyntax" =some #[.iface tp p]
 rng: ∃ tp p,w.var? Tryz.prog "strconv.ErrRange" =some #[.iface tp p]
 len: ∃ m,w.cell? ⟨0,0,none⟩=some (.int .i64 m)
theorem Env.grow (h:Env w) (hg:Grow w w'):Env w':=by
 obtain ⟨h1,⟨a,b,h2⟩,⟨c,d,h3⟩,⟨m,h4⟩⟩:=h;exact ⟨h1.grow hg,⟨a,b,Zk8 h2 hg⟩,⟨c,d,Zk8 h3 hg⟩,⟨m,hg.cell h4⟩⟩
theorem ZcR (s:ByteArray) (w:World) (hs:s.size<=1048576) (he:Env w):Calls Tryz.prog 46 #[.string s] w fun e w'=>e= .returned (.tuple #[.int .i64 (ZaB s.data.toList), .bool (Zbw s.data.toList)])/\Grow w w':=by
 have He:=hid he;clear he;cases hat:Lib.atoiAll s.data.toList with
 |range=>
  obtain ⟨tp,p,hv⟩:=He.out.rng;have hA:=ZeJ s (by omega) hat tp p w hv;clear hv;have Hno:=hid (ZiT (ZlI (s:=s.data.toList) (fun v e=>by rw[hat] at e;cases e)));clear hat;go_enter Tryz.func46,Tryz.ntmps46;go_wp2_with fail;refine hA.mono ?_;rintro e w' ⟨N,rfl, -, -,hB⟩;have hG:=Below.toGrow hB;clear hB;go_wp2
  go_ret2
  exact ⟨by rw[Hno.out.1,Hno.out.2];rfl,hG⟩
 |ok v=>
  have Hv:=hid (Zqj hat);have hA:=Zg1 s (by omega) v hat w;clear hat;cases hnum:Zl v with
  |false=>
   have Hno:=hid (ZiT (s:=s.data.toList) (by rw[Hv.out,hnum];simp));go_enter Tryz.func46,Tryz.ntmps46;go_wp2_with fail;refine hA.mono ?_;rintro e w2 ⟨rfl,hw⟩;have hG:Grow w w2:=by
    rcases hw with rfl|⟨t,rfl⟩
    ·exact Grow.refl _
    ·exact Below.toGrow (Lib.bytesWorld_below w _ t)
   clear hw;go_wp2_with fail;refine (ZQ v _).mono ?_;rw[hnum];rintro e _ ⟨rfl,rfl⟩;clear hnum;go_wp2
   go_ret2
   exact ⟨by rw[Hno.out.1,Hno.out.2];rfl,hG⟩
  |true=>
   have hr:=Za2 hnum;go_enter Tryz.func46,Tryz.ntmps46;go_wp2_with fail;refine hA.mono ?_;rintro e w2 ⟨rfl,hw⟩;have hG:Grow w w2:=by
    rcases hw with rfl|⟨t,rfl⟩
    ·exact Grow.refl _
    ·exact Below.toGrow (Lib.bytesWorld_below w _ t)
   clear hw;go_wp2_with fail;refine (ZQ v _).mono ?_;rw[hnum];rintro e _ ⟨rfl,rfl⟩;have Hnum:=hid hnum;clear hnum;go_wp2_with fail;refine (ZaR v _ (by unfold I64;omega) (He.out.tab.grow hG)).mono ?_;rintro e w3 ⟨rfl,hG3⟩;by_cases he:Lib.itoa v=s.data.toList
   ·have Hy:=hid (Zdm (s:=s.data.toList) (by rw[Hv.out,if_pos ⟨Hnum.out,he⟩]));have q2:(Lib.itoa v==s.toList)=true:=(by rw[toList_data,he];exact beq_self_eq_true _);clear he;go_wp2
    go_ret2
    exact ⟨by rw[Hy.out.1,Hy.out.2];rfl,hG.trans hG3⟩
   ·have Hno:=hid (ZiT (s:=s.data.toList) (by rw[Hv.out,if_neg (fun e=>he e.2)]));have q2:(Lib.itoa v==s.toList)=false:=(by rw[toList_data];exact beq_eq_false_iff_ne.2 he);clear he;go_wp2
    go_ret2
    exact ⟨by rw[Hno.out.1,Hno.out.2];rfl,hG.trans hG3⟩
 |_=>
  obtain ⟨tp,p,hv⟩:=He.out.syn;have hA:Calls Tryz.prog 78 #[.string s] w _:=Any.strconv_Atoi_syntax_var Zfz s (by omega) hat tp p w hv;clear hv;have Hno:=hid (ZiT (ZlI (s:=s.data.toList) (fun v e=>by rw[hat] at e;cases e)));clear hat;go_enter Tryz.func46,Tryz.ntmps46;go_wp2_with fail;refine hA.mono ?_;rintro e w' ⟨N,rfl, -, -,hB⟩;have hG:=Below.toGrow hB;clear hB;go_wp2
  go_ret2
  exact ⟨by rw[Hno.out.1,Hno.out.2];rfl,hG⟩
theorem Zmv {T:Nat->Prop} {wa:Option Addr} {wn wc:Nat} {ws:List ByteArray} (h:RdI w S a n c m.cells) (hr:I64 m.rows) (hc:I64 m.cols) (hb:m.cells.length<=1048576) (hW:RdS w T wa wn wc ws) (hws: ∀ s∈ws,s.size<=1048576) (hwn:wn<=1048576) (he:Env w):
  Calls Tryz.prog 21 #[.agg #[.int .i64 m.rows, .int .i64 m.cols, .slice a n c], .slice wa wn wc] w fun e w'=> ∃ s,e= .returned (.string s)/\Ans s/\Grow w w':=by
 obtain ⟨w1,hw1,hG1,bM, -, -⟩:=al2 w #[.int .i64 m.rows, .int .i64 m.cols, .slice a n c] 34 #[] 3;have oB:Own w1 3 1 (some ⟨w.heap.size+1,0,none⟩) 0 0 (ints []):=by rw[hw1];exact Own.freshAt (by simp) (by unfold maxLen;omega) rfl
 have Hw1:=hid hw1;have He:=hid he;have Hws:=hid hws;clear hw1 he hws;go_enter Tryz.func21,Tryz.ntmps21;go_wp2;rw[←Hw1.out];go_loopw [5,15] (fun v i wr=>Grow w wr/\ ∃ (k c1:Nat) (a1:Option Addr) (bs:List Int),k<=wn/\i= .int .i64 k/\v= .slice a1 k c1/\NumL bs/\Own wr 3 1 a1 k c1 (ints bs)/\(∀ g,blk a1=some g->w.heap.size<g)/\Blk wr w.heap.size #[.int .i64 m.rows, .int .i64 m.cols, .slice a n c] 34) (fun _ i _=>wn-(intOf i).toNat);case atStart=>exact ⟨hG1,0,0,_,[],Nat.zero_le _,rfl,rfl,(fun x hx=>by cases hx),oB,(fun g hg=>by simp at hg;omega),bM⟩
 case round=>
  obtain ⟨hG,k,c1,a1,bs,hk,rfl,rfl,nB,oBr,lB,bMr⟩:=hrel;by_cases hlt:k<wn
  ·obtain ⟨b,off,s,rfl,hs,_,hbw,hc0⟩:=(hW.grow hG).at hlt;have hsz:=Hws.out s (List.mem_of_getElem? hs);have hnum:=ZI.1 (Zee s.data.toList);clear hs;go_wp2_with fail;refine (ZcR s _ hsz (He.out.grow hG)).mono ?_;rintro e w2 ⟨rfl,hG2⟩;have hGa:=hG.trans hG2;have oB2:=oBr.grow hG2;have bM2:=bMr.grow hG2;clear hc0 hbw;generalize ZaB s.data.toList=x at *;cases Zbw s.data.toList with
   |false=>go_wp2;go_ret;exact ⟨_,rfl,ZpQ,hGa⟩
   |true=>
    go_wp2_with (at_builtin;refine Zx rfl (.tmp 26) (.tmp 28) _ rfl T_ints rfl (oB2.grow ((Grow.refl _).alloc _ _)) rfl (Row.builtAt (S:=fun _=>True) 1 rfl (by unfold maxLen;omega) rfl fun _=>trivial) (by simp[Value.oneCell']) (by omega) (by unfold maxLen;omega) ?_;intro a3 c3 w3 hA3);have hGz:Grow w2 (w2.alloc (.cells #[.int .i64 x] 3)):=(Grow.refl _).alloc _ _;have hs2:=hGa.size;have hK3:Keep (fun q=>blk a1≠some q) w2 w3:=hGz.any.trans hA3.keep;have hG3:Grow w w3:=hA3.grow (hGa.trans hGz) fun g hg=>(by have:=lB g hg;omega);have oB3:Own w3 3 1 a3 (k+1) c3 (ints (bs++[x])):=(by have:=hA3.own;simpa [ints] using this);have lB3:=hA3.lo (B:=w.heap.size+1) (by have:=bM2.lt;simp;omega) (fun g hg=>by have:=lB g hg;omega);have bM3:=bM2.keep hK3 fun e=>(by have:=lB _ e;omega);clear hA3;go_wp2;go_roundw;case rel=>exact ⟨hG3,k+1,c3,a3,bs++[x],by omega,by go_num,rfl,(fun y hy=>(List.mem_append.1 hy).elim (nB y) fun h=>by rw[List.mem_singleton.1 h];exact hnum),oB3,(fun g hg=>by have:=lB3 g hg;omega),bM3⟩
    case measure=>simp[intOf];omega
  ·obtain rfl:k=wn:=(by omega);obtain ⟨⟨m0,m1,m2⟩, -⟩:=bMr.three;have hlM:=bMr.lt;go_wp2_with fail;refine (ZnR (h.grow hG) hr hc hb (oBr.rdI (S:=fun _=>True) (fun _ _=>trivial) (Zy nB)) (by omega)).mono ?_;rintro e w2 ⟨ya,yn,yc,ys,code,rfl,rY,hyn,hG2⟩;have hGa:=hG.trans hG2;have hyl:=rY.len;by_cases h0:code=0
   ·have q1:(code !=0)=false:=(by simp[h0]);clear h0 m0 m1 m2 hlM;go_wp2_with fail;refine (Ze1 ya yn yc ys _ rY (by omega) (He.out.tab.grow hGa)).mono ?_;rintro e w3 ⟨rfl,hG3⟩;go_wp2;go_ret;exact ⟨_,rfl,ZoI rY.rng (by omega),hGa.trans hG3⟩
   ·have q1:(code !=0)=true:=(by simp[h0]);clear h0 m0 m1 m2 hlM;go_wp2;go_ret;exact ⟨_,rfl,ZdD,hGa⟩
theorem Zl0 {n:Int} {r:List UInt8} (h:(Lib.itoa n++r).length<=1048576):Ans (Zb (Lib.itoa n++r)):=by
 refine Ans.mk' (fun e=> ?_) h;cases h1:Lib.itoa n with
 |nil=>exact ZfP n h1
 |cons x t=>
  rw[h1] at e;have h2:(111:UInt8)∈Lib.itoa n:=by rw[h1,(List.cons.inj e).1];exact List.mem_cons_self ..
  have h3:=ZdC h2
  revert h3;decide
theorem Zmt {b:ByteArray} (h:RdI w S a n c m.cells) (hr:I64 m.rows) (hc:I64 m.cols) (hb:m.cells.length<=1048576) (hbs:b.size<=1048576) (he:Env w):
  Calls Tryz.prog 20 #[.agg #[.int .i64 m.rows, .int .i64 m.cols, .slice a n c], .string b] w fun e w'=> ∃ s,e= .returned (.string s)/\Ans s/\Grow w w':=by
 obtain ⟨w1,hw1,hG1,bM, -⟩:=al1 w #[.int .i64 m.rows, .int .i64 m.cols, .slice a n c] 34;have Hw1:=hid hw1;have hm:=h.grow hG1;have He:=hid (he.grow hG1);clear hw1 h he;go_enter Tryz.func20,Tryz.ntmps20;go_wp2_with fail;rw[←Hw1.out];refine (ZcR b _ hbs He.out).mono ?_;rintro e w2 ⟨rfl,hG2⟩;generalize ZaB b.data.toList=bound at *;generalize Zbw b.data.toList=ok1 at *;obtain ⟨⟨m0,m1,m2⟩, -⟩:=(bM.grow hG2).three;have hltM:=(bM.grow hG2).lt;go_wp2_with fail;refine (ZjI (hm.grow hG2) hr hc hb bound).mono ?_;rintro e w3 ⟨xa,xn,xc,rows,ok,rfl,hP,hG3⟩;have hGa:=(hG1.trans hG2).trans hG3;have Hf:=hid (He.out.tab.grow (hG2.trans hG3));clear m0 m1 m2 hltM bM hm;cases ok1 with
 |false=>clear hP;go_wp2;go_ret;exact ⟨_,rfl,ZdD,hGa⟩
 |true=>
  cases ok with
  |false=>clear hP;go_wp2;go_ret;exact ⟨_,rfl,ZdD,hGa⟩
  |true=>
   obtain ⟨rX,hxn,hQ⟩:=hP rfl;have hxl:=rX.len;have HQ:=hid hQ;clear hP hQ;have hi:I64 (xn:Int):=(by unfold I64;omega);go_wp2_with fail;refine (ZaR _ _ hi Hf.out).mono ?_;rintro e w4 ⟨rfl,hG4⟩;have h21:=Lib.itoa_length_le (xn:Int) hi.1 hi.2;obtain ⟨N,hN⟩: ∃ N,N=Lib.itoa (xn:Int):=⟨_,rfl⟩;rw[←hN] at h21 ⊢;have HN:=hid hN;clear hN;go_wp2;go_loopw [9,11,34] (fun s v i wr=>Grow w4 wr/\ ∃ (k:Nat) (r:List UInt8),k<=xn/\i= .int .i64 k/\s= .string (Zb (N++r))/\r.length<=k*140) (fun _ _ i _=>xn-(intOf i).toNat);case atStart=>exact ⟨Grow.refl _,0,[],Nat.zero_le _,rfl,by rw[List.append_nil],by simp⟩
   case round=>
    obtain ⟨hG,k,r,hk,rfl,rfl,hrl⟩:=hrel;have hG3r:=hG4.trans hG;by_cases hlt:k<xn
    ·obtain ⟨bv,ov,v,av,cv,rfl,hv,_,hbv,hcv,hrd⟩:=(rX.grow hG3r).at hlt;obtain ⟨hvl,hvx⟩:=HQ.out v (List.mem_of_getElem? hv);have hvI: ∀ x∈v,I64 x:=fun x hx=>(by have:=hvx x hx;unfold I64;omega);have h1:=Zio hvI;clear hv hvx;go_wp2_with fail;refine (Ze1 av v.length cv v _ hrd (by omega) (Hf.out.grow hG3r)).mono ?_;rintro e w5 ⟨rfl,hG5⟩;have z1:(Zb (40::(ZbE v++[41]))).size<=200:=(by rw[ZG];simp;omega);have z2:(Zb (N++r)).size<=700000:=(by rw[ZG,List.length_append];omega);have hz:=hid (show Zb (N++r)++((⟨#[32]⟩:ByteArray)++Zb (40::(ZbE v++[41])))=Zb (N++(r++32::40::(ZbE v++[41]))) by
      rw[show (⟨#[32]⟩:ByteArray)=Zb [32] from rfl,Zq,Zq,List.append_assoc];rfl)
     generalize hl9:ZbE v++[41]=L9 at *;have hl9':L9.length<=133:=(by rw[←hl9];simp;omega);clear hl9;go_wp2;go_roundw;case rel=>exact ⟨hG.trans hG5,k+1,r++32::40::L9,by omega,by go_num,by rw[←hz.out],by simp;omega⟩
     case measure=>simp[intOf];omega
    ·obtain rfl:k=xn:=(by omega);go_wp2;go_ret;exact ⟨_,rfl,by rw[HN.out];exact Zl0 (by rw[←HN.out,List.length_append];omega),hGa.trans hG3r⟩
theorem ZbL {L:List UInt8} {m0:Mat} (h:ZaD L=some m0): ∃ (R C:Nat) (cells:List Int),m0=⟨R,C,cells⟩/\Ze m0=true/\ZaL m0=L/\(∀ x∈cells,Zl x=true)/\L.length<=6400/\
  Lib.cut L [91]=(Lib.itoa R++120::Lib.itoa C,Zw C 0 cells++[93],true)/\Lib.cut (Lib.itoa R++120::Lib.itoa C) [120]=(Lib.itoa R,Lib.itoa C,true)/\ZbR (Lib.itoa R)=some (R:Int)/\ZbR (Lib.itoa C)=some (C:Int):=by
 obtain ⟨h1,h2⟩:=Zcu.1 h;obtain ⟨R,C,hR,hC,hR24,hC24,hlen,hnum⟩:=Zn h1;obtain ⟨r,k,cells⟩:=m0;simp only at hR hC hlen hnum;subst hR;subst hC;obtain ⟨c1,c2⟩:=Zqf h1;rw[h2] at c1;exact ⟨R,C,cells,rfl,h1,h2,fun x hx=>ZI.2 (hnum x hx),by rw[←h2];exact Zcv _,c1,c2,Zcs (ZI.2 (by omega)) rfl,Zcs (ZI.2 (by omega)) rfl⟩
theorem Zck {α:Type} {o:Option α} (h: ∀ x,o=some x->False):o=none:=by
 cases o with
 |none=>rfl
 |some x=>exact (h x rfl).elim
section
variable {L:List UInt8}
theorem pn0 (h:8000<L.length):ZaD L=none:=Zck fun m0 e=>by obtain ⟨R,C,cells, -, -, -, -,h5, -⟩:=ZbL e;omega
theorem pn1 (h:(Lib.cut L [91]).2.2=false):ZaD L=none:=Zck fun m0 e=>by obtain ⟨R,C,cells, -, -, -, -, -,h6, -⟩:=ZbL e;rw[h6] at h;cases h
theorem pn2 (h:(Lib.cut (Lib.cut L [91]).1 [120]).2.2=false):ZaD L=none:=Zck fun m0 e=>by obtain ⟨R,C,cells, -, -, -, -, -,h6,h7, -⟩:=ZbL e;rw[h6] at h;simp only at h;rw[h7] at h;cases h
theorem pn3 (h:Zbw (Lib.cut (Lib.cut L [91]).1 [120]).1=false):ZaD L=none:=Zck fun m0 e=>by obtain ⟨R,C,cells, -, -, -, -, -,h6,h7,h8, -⟩:=ZbL e;rw[h6] at h;simp only at h;rw[h7] at h;simp only at h;rw[(Zdm h8).2] at h;cases h
theorem pn4 (h:Zbw (Lib.cut (Lib.cut L [91]).1 [120]).2.1=false):ZaD L=none:=Zck fun m0 e=>by obtain ⟨R,C,cells, -, -, -, -, -,h6,h7, -,h9⟩:=ZbL e;rw[h6] at h;simp only at h;rw[h7] at h;simp only at h;rw[(Zdm h9).2] at h;cases h
theorem pn5 (h:Lib.hasSuffix (Lib.cut L [91]).2.1 [93]=false):ZaD L=none:=Zck fun m0 e=>by
 obtain ⟨R,C,cells, -, -, -, -, -,h6, -⟩:=ZbL e;rw[h6] at h;unfold Lib.hasSuffix at h;rw[Bool.eq_false_iff] at h;exact h (by rw[List.isSuffixOf_iff_suffix];exact List.suffix_append _ _)
theorem fields_of {Y:List UInt8} (hT:(Lib.cut L [91]).2.1=Y++[93]) {m0:Mat} (e:ZaD L=some m0):Lib.goFieldsP rq (Zb Y)=(m0.cells.map Lib.itoa).map Zb/\(∀ x∈m0.cells,Zl x=true)/\(Y=[]->m0.cells=[]):=by
 obtain ⟨R,C,cells,rfl, -, -,h4, -,h6, -⟩:=ZbL e;rw[h6] at hT;simp only at hT;have hY:Zw C 0 cells=Y:=(List.append_cancel_right hT);refine ⟨?_,h4,fun e0=> ?_⟩
 ·rw[←hY,ZjH _ (fun x hx=>(Zjf hx).1)];show (fld fq [] (Zw C 0 cells)).map Zb=_;rw[Znv]
 ·rw[e0] at hY;cases cells with
  |nil=>rfl
  |cons x l=>exfalso;simp only[Zw] at hY;rw[if_neg (fun e=>by omega),if_neg (by omega)] at hY;simp only[List.nil_append,List.append_eq_nil_iff] at hY;exact ZfP x hY.1
theorem pn6 {Y:List UInt8} (hT:(Lib.cut L [91]).2.1=Y++[93]) {x:ByteArray} (hx:x∈Lib.goFieldsP rq (Zb Y)) (h:Zbw x.data.toList=false):ZaD L=none:=Zck fun m0 e=>by
 obtain ⟨h1,h2, -⟩:=fields_of hT e;rw[h1] at hx;obtain ⟨y,hy,rfl⟩:=List.mem_map.1 hx;obtain ⟨n,hn,rfl⟩:=List.mem_map.1 hy;rw[show (Zb (Lib.itoa n)).data.toList=Lib.itoa n from rfl,(Zdm (Zcs (h2 n hn) rfl)).2] at h;cases h
def ZfX (Y:List UInt8):List Int:=if Y=[] then [] else (Lib.goFieldsP rq (Zb Y)).map fun x=>ZaB x.data.toList
def Zi2 (L Y:List UInt8):Mat:=⟨ZaB (Lib.cut (Lib.cut L [91]).1 [120]).1,ZaB (Lib.cut (Lib.cut L [91]).1 [120]).2.1,ZfX Y⟩
theorem pn7 {Y:List UInt8} (hT:(Lib.cut L [91]).2.1=Y++[93]) (h: ¬ (Ze (Zi2 L Y)=true/\ZaL (Zi2 L Y)=L)):ZaD L=none:=Zck fun m0 e=>h (by
 obtain ⟨h1,h2,h3⟩:=fields_of hT e;obtain ⟨R,C,cells,rfl,h4,h5, -, -,h6,h7,h8,h9⟩:=ZbL e;have hc:Zi2 L Y=⟨R,C,cells⟩:=by
  unfold Zi2;rw[h6];simp only;rw[h7];simp only;rw[(Zdm h8).1,(Zdm h9).1];congr 1;unfold ZfX;split
  ·rename_i h0;exact (h3 h0).symm
  ·rw[h1,List.map_map,List.map_map];have: ∀ {l:List Int},(∀ x∈l,Zl x=true)->l.map (((fun x:ByteArray=>ZaB x.data.toList)∘Zb)∘Lib.itoa)=l:=by
    intro l;induction l with
    |nil=>intro _;rfl
    |cons a l ih=>intro hl;rw[List.map_cons,ih fun y hy=>hl y (by simp[hy])];congr 1;exact (Zdm (Zcs (hl a (by simp)) rfl)).1
   exact this h2
 rw[hc];exact ⟨h4,h5⟩)
end
theorem ZpD (w:World):PredAt Tryz.prog 64 #[] encR rq w:=fun W x _=>by
 show Calls Tryz.prog 64 #[.int .i32 (x:Int)] W _;by_cases h1:x=32
 ·subst h1;go_enter Tryz.func64,Tryz.ntmps64;go_wp2;go_ret;exact ⟨rfl,0,rfl⟩
 ·have q1:((x:Int)==32)=false:=by simp;omega
  have e1:(x==32)=false:=by simp[h1]
  by_cases h2:x=59
  ·subst h2;go_enter Tryz.func64,Tryz.ntmps64;go_wp2;go_ret;exact ⟨rfl,0,rfl⟩
  ·have q2:((x:Int)==59)=false:=(by simp;omega);have e2:(x==59)=false:=(by simp[h2]);have Hr:=hid (show rq x=false by unfold rq;rw[e1,e2];rfl);clear h1 h2 e1 e2;go_enter Tryz.func64,Tryz.ntmps64;go_wp2;go_ret;exact ⟨by rw[Hr.out];rfl,0,rfl⟩

end Go.Proofs.YtjpcgofidijigaaGreatDoor
