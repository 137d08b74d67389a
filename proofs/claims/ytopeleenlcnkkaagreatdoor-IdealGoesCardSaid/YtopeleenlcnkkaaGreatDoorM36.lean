/- DERIVED: THE SHELF's CONTRACTS AT THIS DUMP, IN PLAIN WORDS (tools/lay-plain.mjs out of 'YtopeleenlcnkkaaGreatDoorShelg.lean', which tools/lay-shelf.mjs wrote): THE SAME DECLARATIONS UNDER THE SAME NAMES: 'import', 'namespace', 'open', 'def', 'theorem' AND NOTHING ELSE: no command of the shelf's: FOR A HAND-IN. Each laying: the table of numbers ('.._ren') and one theorem, a field a fact of the dump's own or the kernel's comparison; each contract: ONE APPLICATION. -/
import Derived.Shelf.Strings.SplitShaped
import Derived.Shelf.Strings.SlTrimAscii
import Derived.Shelf.Strconv.Atoi
import Derived.Test.YtopeleenlcnkkaaGreatDoorM30
import Derived.Lib.SmallJoins
set_option linter.unusedVariables false
set_option linter.unusedSimpArgs false
set_option maxHeartbeats 1000000
set_option maxRecDepth 100000
namespace Go.Proofs
open Go.Shelf
def Tryz.splitL_ren:Go.Shelf.Ren:=⟨fun|146=>111|221=>131|268=>157|138=>158|143=>159|195=>182|197=>183|218=>184|219=>185|260=>202|217=>203|225=>204|224=>205|267=>206|266=>218|314=>219|n=>n,fun|9=>9|31=>137|3=>3|4=>4|0=>0|105=>273|21=>21|5=>5|46=>190|119=>302|139=>305|138=>304|146=>306|51=>232|n=>n,fun|1=>0|3=>1|4=>2|n=>n⟩
theorem Tryz.splitL:Go.Proofs.Lays.n146 Tryz.prog Tryz.splitL_ren:={
 mixed:=by kernel_rfl
 f138:=Tryz.func158.trans (congrArg some (by kernel_rfl))
 f143:=Tryz.func159.trans (congrArg some (by kernel_rfl))
 f146:=Tryz.func111.trans (congrArg some (by kernel_rfl))
 f195:=Tryz.func182.trans (congrArg some (by kernel_rfl))
 f197:=Tryz.func183.trans (congrArg some (by kernel_rfl))
 f217:=Tryz.func203.trans (congrArg some (by kernel_rfl))
 f218:=Tryz.func184.trans (congrArg some (by kernel_rfl))
 f219:=Tryz.func185.trans (congrArg some (by kernel_rfl))
 f221:=Tryz.func131.trans (congrArg some (by kernel_rfl))
 f224:=Tryz.func205.trans (congrArg some (by kernel_rfl))
 f225:=Tryz.func204.trans (congrArg some (by kernel_rfl))
 f260:=Tryz.func202.trans (congrArg some (by kernel_rfl))
 f266:=Tryz.func218.trans (congrArg some (by kernel_rfl))
 f267:=Tryz.func206.trans (congrArg some (by kernel_rfl))
 f268:=Tryz.func157.trans (congrArg some (by kernel_rfl))
 f314:=Tryz.func219.trans (congrArg some (by kernel_rfl))
 t0:=Tryz.underlying0
 a0:=Tryz.isAgg0
 z0:=Tryz.sizeOf0
 v0:=Tryz.zeroValue0
 t3:=Tryz.underlying3
 a3:=Tryz.isAgg3
 z3:=Tryz.sizeOf3
 v3:=Tryz.zeroValue3
 t4:=Tryz.underlying4
 a4:=Tryz.isAgg4
 z4:=Tryz.sizeOf4
 v4:=Tryz.zeroValue4
 t5:=Tryz.underlying5
 a5:=Tryz.isAgg5
 z5:=Tryz.sizeOf5
 v5:=Tryz.zeroValue5
 t9:=Tryz.underlying9
 a9:=Tryz.isAgg9
 z9:=Tryz.sizeOf9
 v9:=Tryz.zeroValue9
 t21:=Tryz.underlying21
 a21:=Tryz.isAgg21
 z21:=Tryz.sizeOf21
 v21:=Tryz.zeroValue21
 t31:=Tryz.underlying137
 a31:=Tryz.isAgg137
 z31:=Tryz.sizeOf137
 v31:=Tryz.zeroValue137
 t46:=Tryz.underlying190
 a46:=Tryz.isAgg190
 z46:=Tryz.sizeOf190
 v46:=Tryz.zeroValue190
 t51:=Tryz.underlying232
 a51:=Tryz.isAgg232
 z51:=Tryz.sizeOf232
 v51:=Tryz.zeroValue232
 t105:=Tryz.underlying273
 a105:=Tryz.isAgg273
 z105:=Tryz.sizeOf273
 v105:=Tryz.zeroValue273
 t119:=Tryz.underlying302
 a119:=Tryz.isAgg302
 z119:=Tryz.sizeOf302
 t138:=Tryz.underlying304
 a138:=Tryz.isAgg304
 z138:=Tryz.sizeOf304
 v138:=Tryz.zeroValue304
 t139:=Tryz.underlying305
 a139:=Tryz.isAgg305
 z139:=Tryz.sizeOf305
 v139:=Tryz.zeroValue305
 t146:=Tryz.underlying306
 a146:=Tryz.isAgg306
 z146:=Tryz.sizeOf306
 v146:=Tryz.zeroValue306
 g1:=by kernel_rfl
 g3:=by kernel_rfl
 g4:=by kernel_rfl}
def Tryz.trimL_ren:Go.Shelf.Ren:=⟨fun|160=>132|232=>161|231=>160|227=>162|234=>164|233=>163|236=>166|235=>165|228=>186|271=>188|151=>187|197=>183|120=>208|152=>207|260=>202|137=>220|119=>221|224=>205|225=>204|217=>203|266=>218|n=>n,fun|9=>9|4=>4|3=>3|5=>5|117=>243|116=>242|0=>0|124=>246|21=>21|105=>273|46=>190|119=>302|139=>305|138=>304|n=>n,fun|3=>1|4=>2|n=>n⟩
theorem Tryz.trimL:Go.Proofs.Lays.n160 Tryz.prog Tryz.trimL_ren:={
 mixed:=by kernel_rfl
 f119:=Tryz.func221.trans (congrArg some (by kernel_rfl))
 f120:=Tryz.func208.trans (congrArg some (by kernel_rfl))
 f137:=Tryz.func220.trans (congrArg some (by kernel_rfl))
 f151:=Tryz.func187.trans (congrArg some (by kernel_rfl))
 f152:=Tryz.func207.trans (congrArg some (by kernel_rfl))
 f160:=Tryz.func132.trans (congrArg some (by kernel_rfl))
 f197:=Tryz.func183.trans (congrArg some (by kernel_rfl))
 f217:=Tryz.func203.trans (congrArg some (by kernel_rfl))
 f224:=Tryz.func205.trans (congrArg some (by kernel_rfl))
 f225:=Tryz.func204.trans (congrArg some (by kernel_rfl))
 f227:=Tryz.func162.trans (congrArg some (by kernel_rfl))
 f228:=Tryz.func186.trans (congrArg some (by kernel_rfl))
 f231:=Tryz.func160.trans (congrArg some (by kernel_rfl))
 f232:=Tryz.func161.trans (congrArg some (by kernel_rfl))
 f233:=Tryz.func163.trans (congrArg some (by kernel_rfl))
 f234:=Tryz.func164.trans (congrArg some (by kernel_rfl))
 f235:=Tryz.func165.trans (congrArg some (by kernel_rfl))
 f236:=Tryz.func166.trans (congrArg some (by kernel_rfl))
 f260:=Tryz.func202.trans (congrArg some (by kernel_rfl))
 f266:=Tryz.func218.trans (congrArg some (by kernel_rfl))
 f271:=Tryz.func188.trans (congrArg some (by kernel_rfl))
 t0:=Tryz.underlying0
 a0:=Tryz.isAgg0
 z0:=Tryz.sizeOf0
 v0:=Tryz.zeroValue0
 t3:=Tryz.underlying3
 a3:=Tryz.isAgg3
 z3:=Tryz.sizeOf3
 v3:=Tryz.zeroValue3
 t4:=Tryz.underlying4
 a4:=Tryz.isAgg4
 z4:=Tryz.sizeOf4
 v4:=Tryz.zeroValue4
 t5:=Tryz.underlying5
 a5:=Tryz.isAgg5
 z5:=Tryz.sizeOf5
 v5:=Tryz.zeroValue5
 t9:=Tryz.underlying9
 a9:=Tryz.isAgg9
 z9:=Tryz.sizeOf9
 v9:=Tryz.zeroValue9
 t21:=Tryz.underlying21
 a21:=Tryz.isAgg21
 z21:=Tryz.sizeOf21
 v21:=Tryz.zeroValue21
 t46:=Tryz.underlying190
 a46:=Tryz.isAgg190
 z46:=Tryz.sizeOf190
 v46:=Tryz.zeroValue190
 t105:=Tryz.underlying273
 a105:=Tryz.isAgg273
 z105:=Tryz.sizeOf273
 v105:=Tryz.zeroValue273
 t116:=Tryz.underlying242
 a116:=Tryz.isAgg242
 z116:=Tryz.sizeOf242
 t117:=Tryz.underlying243
 a117:=Tryz.isAgg243
 z117:=Tryz.sizeOf243
 v117:=Tryz.zeroValue243
 t119:=Tryz.underlying302
 a119:=Tryz.isAgg302
 z119:=Tryz.sizeOf302
 t124:=Tryz.underlying246
 a124:=Tryz.isAgg246
 z124:=Tryz.sizeOf246
 v124:=Tryz.zeroValue246
 t138:=Tryz.underlying304
 a138:=Tryz.isAgg304
 z138:=Tryz.sizeOf304
 v138:=Tryz.zeroValue304
 t139:=Tryz.underlying305
 a139:=Tryz.isAgg305
 z139:=Tryz.sizeOf305
 v139:=Tryz.zeroValue305
 g3:=by kernel_rfl
 g4:=by kernel_rfl}
def Tryz.trimLeftL_ren:Go.Shelf.Ren:=⟨fun|161=>139|231=>160|227=>162|233=>163|235=>165|228=>186|197=>183|151=>187|260=>202|152=>207|137=>220|119=>221|224=>205|225=>204|217=>203|266=>218|n=>n,fun|9=>9|4=>4|3=>3|5=>5|117=>243|116=>242|0=>0|124=>246|105=>273|21=>21|119=>302|46=>190|139=>305|138=>304|n=>n,fun|3=>1|4=>2|n=>n⟩
theorem Tryz.trimLeftL:Go.Proofs.Lays.n161 Tryz.prog Tryz.trimLeftL_ren:={
 mixed:=by kernel_rfl
 f119:=Tryz.func221.trans (congrArg some (by kernel_rfl))
 f137:=Tryz.func220.trans (congrArg some (by kernel_rfl))
 f151:=Tryz.func187.trans (congrArg some (by kernel_rfl))
 f152:=Tryz.func207.trans (congrArg some (by kernel_rfl))
 f161:=Tryz.func139.trans (congrArg some (by kernel_rfl))
 f197:=Tryz.func183.trans (congrArg some (by kernel_rfl))
 f217:=Tryz.func203.trans (congrArg some (by kernel_rfl))
 f224:=Tryz.func205.trans (congrArg some (by kernel_rfl))
 f225:=Tryz.func204.trans (congrArg some (by kernel_rfl))
 f227:=Tryz.func162.trans (congrArg some (by kernel_rfl))
 f228:=Tryz.func186.trans (congrArg some (by kernel_rfl))
 f231:=Tryz.func160.trans (congrArg some (by kernel_rfl))
 f233:=Tryz.func163.trans (congrArg some (by kernel_rfl))
 f235:=Tryz.func165.trans (congrArg some (by kernel_rfl))
 f260:=Tryz.func202.trans (congrArg some (by kernel_rfl))
 f266:=Tryz.func218.trans (congrArg some (by kernel_rfl))
 t0:=Tryz.underlying0
 a0:=Tryz.isAgg0
 z0:=Tryz.sizeOf0
 v0:=Tryz.zeroValue0
 t3:=Tryz.underlying3
 a3:=Tryz.isAgg3
 z3:=Tryz.sizeOf3
 v3:=Tryz.zeroValue3
 t4:=Tryz.underlying4
 a4:=Tryz.isAgg4
 z4:=Tryz.sizeOf4
 v4:=Tryz.zeroValue4
 t5:=Tryz.underlying5
 a5:=Tryz.isAgg5
 z5:=Tryz.sizeOf5
 v5:=Tryz.zeroValue5
 t9:=Tryz.underlying9
 a9:=Tryz.isAgg9
 z9:=Tryz.sizeOf9
 v9:=Tryz.zeroValue9
 t21:=Tryz.underlying21
 a21:=Tryz.isAgg21
 z21:=Tryz.sizeOf21
 v21:=Tryz.zeroValue21
 t46:=Tryz.underlying190
 a46:=Tryz.isAgg190
 z46:=Tryz.sizeOf190
 v46:=Tryz.zeroValue190
 t105:=Tryz.underlying273
 a105:=Tryz.isAgg273
 z105:=Tryz.sizeOf273
 v105:=Tryz.zeroValue273
 t116:=Tryz.underlying242
 a116:=Tryz.isAgg242
 z116:=Tryz.sizeOf242
 t117:=Tryz.underlying243
 a117:=Tryz.isAgg243
 z117:=Tryz.sizeOf243
 v117:=Tryz.zeroValue243
 t119:=Tryz.underlying302
 a119:=Tryz.isAgg302
 z119:=Tryz.sizeOf302
 t124:=Tryz.underlying246
 a124:=Tryz.isAgg246
 z124:=Tryz.sizeOf246
 v124:=Tryz.zeroValue246
 t138:=Tryz.underlying304
 a138:=Tryz.isAgg304
 z138:=Tryz.sizeOf304
 v138:=Tryz.zeroValue304
 t139:=Tryz.underlying305
 a139:=Tryz.isAgg305
 z139:=Tryz.sizeOf305
 v139:=Tryz.zeroValue305
 g3:=by kernel_rfl
 g4:=by kernel_rfl}
def Tryz.crL_ren:Go.Shelf.Ren:=⟨fun|151=>187|152=>207|137=>220|119=>221|224=>205|225=>204|217=>203|266=>218|n=>n,fun|9=>9|21=>21|4=>4|3=>3|5=>5|0=>0|46=>190|n=>n,fun|n=>n⟩
theorem Tryz.crL:Go.Proofs.Lays.n151 Tryz.prog Tryz.crL_ren:={
 mixed:=by kernel_rfl
 f119:=Tryz.func221.trans (congrArg some (by kernel_rfl))
 f137:=Tryz.func220.trans (congrArg some (by kernel_rfl))
 f151:=Tryz.func187.trans (congrArg some (by kernel_rfl))
 f152:=Tryz.func207.trans (congrArg some (by kernel_rfl))
 f217:=Tryz.func203.trans (congrArg some (by kernel_rfl))
 f224:=Tryz.func205.trans (congrArg some (by kernel_rfl))
 f225:=Tryz.func204.trans (congrArg some (by kernel_rfl))
 f266:=Tryz.func218.trans (congrArg some (by kernel_rfl))
 t0:=Tryz.underlying0
 a0:=Tryz.isAgg0
 z0:=Tryz.sizeOf0
 v0:=Tryz.zeroValue0
 t3:=Tryz.underlying3
 a3:=Tryz.isAgg3
 z3:=Tryz.sizeOf3
 v3:=Tryz.zeroValue3
 t4:=Tryz.underlying4
 a4:=Tryz.isAgg4
 z4:=Tryz.sizeOf4
 v4:=Tryz.zeroValue4
 t5:=Tryz.underlying5
 a5:=Tryz.isAgg5
 z5:=Tryz.sizeOf5
 v5:=Tryz.zeroValue5
 t9:=Tryz.underlying9
 a9:=Tryz.isAgg9
 z9:=Tryz.sizeOf9
 v9:=Tryz.zeroValue9
 t21:=Tryz.underlying21
 a21:=Tryz.isAgg21
 z21:=Tryz.sizeOf21
 v21:=Tryz.zeroValue21
 t46:=Tryz.underlying190
 a46:=Tryz.isAgg190
 z46:=Tryz.sizeOf190
 v46:=Tryz.zeroValue190}
def Tryz.atoiL_ren:Go.Shelf.Ren:=⟨fun|172=>167|244=>189|245=>190|247=>209|279=>210|280=>211|281=>212|282=>213|287=>222|316=>223|171=>225|205=>224|321=>227|322=>228|243=>229|246=>231|283=>233|284=>234|285=>235|286=>236|129=>152|317=>238|318=>239|319=>240|320=>241|337=>243|338=>244|n=>n,fun|9=>9|3=>3|75=>248|76=>249|4=>4|5=>5|167=>293|37=>188|0=>0|85=>294|2=>2|168=>296|53=>165|175=>308|46=>190|210=>312|127=>316|145=>319|143=>317|21=>21|171=>321|173=>323|212=>326|51=>232|20=>20|213=>327|232=>329|233=>330|80=>103|n=>n,fun|15=>3|16=>4|17=>5|18=>6|19=>7|n=>n⟩
theorem Tryz.atoiL:Go.Proofs.Lays.n172 Tryz.prog Tryz.atoiL_ren:={
 mixed:=by kernel_rfl
 f129:=Tryz.func152.trans (congrArg some (by kernel_rfl))
 f171:=Tryz.func225.trans (congrArg some (by kernel_rfl))
 f172:=Tryz.func167.trans (congrArg some (by kernel_rfl))
 f205:=Tryz.func224.trans (congrArg some (by kernel_rfl))
 f243:=Tryz.func229.trans (congrArg some (by kernel_rfl))
 f244:=Tryz.func189.trans (congrArg some (by kernel_rfl))
 f245:=Tryz.func190.trans (congrArg some (by kernel_rfl))
 f246:=Tryz.func231.trans (congrArg some (by kernel_rfl))
 f247:=Tryz.func209.trans (congrArg some (by kernel_rfl))
 f279:=Tryz.func210.trans (congrArg some (by kernel_rfl))
 f280:=Tryz.func211.trans (congrArg some (by kernel_rfl))
 f281:=Tryz.func212.trans (congrArg some (by kernel_rfl))
 f282:=Tryz.func213.trans (congrArg some (by kernel_rfl))
 f283:=Tryz.func233.trans (congrArg some (by kernel_rfl))
 f284:=Tryz.func234.trans (congrArg some (by kernel_rfl))
 f285:=Tryz.func235.trans (congrArg some (by kernel_rfl))
 f286:=Tryz.func236.trans (congrArg some (by kernel_rfl))
 f287:=Tryz.func222.trans (congrArg some (by kernel_rfl))
 f316:=Tryz.func223.trans (congrArg some (by kernel_rfl))
 f317:=Tryz.func238.trans (congrArg some (by kernel_rfl))
 f318:=Tryz.func239.trans (congrArg some (by kernel_rfl))
 f319:=Tryz.func240.trans (congrArg some (by kernel_rfl))
 f320:=Tryz.func241.trans (congrArg some (by kernel_rfl))
 f321:=Tryz.func227.trans (congrArg some (by kernel_rfl))
 f322:=Tryz.func228.trans (congrArg some (by kernel_rfl))
 f337:=Tryz.func243.trans (congrArg some (by kernel_rfl))
 f338:=Tryz.func244.trans (congrArg some (by kernel_rfl))
 t0:=Tryz.underlying0
 a0:=Tryz.isAgg0
 z0:=Tryz.sizeOf0
 v0:=Tryz.zeroValue0
 t2:=Tryz.underlying2
 a2:=Tryz.isAgg2
 z2:=Tryz.sizeOf2
 v2:=Tryz.zeroValue2
 t3:=Tryz.underlying3
 a3:=Tryz.isAgg3
 z3:=Tryz.sizeOf3
 v3:=Tryz.zeroValue3
 t4:=Tryz.underlying4
 a4:=Tryz.isAgg4
 z4:=Tryz.sizeOf4
 v4:=Tryz.zeroValue4
 t5:=Tryz.underlying5
 a5:=Tryz.isAgg5
 z5:=Tryz.sizeOf5
 v5:=Tryz.zeroValue5
 t9:=Tryz.underlying9
 a9:=Tryz.isAgg9
 z9:=Tryz.sizeOf9
 v9:=Tryz.zeroValue9
 t20:=Tryz.underlying20
 a20:=Tryz.isAgg20
 z20:=Tryz.sizeOf20
 v20:=Tryz.zeroValue20
 t21:=Tryz.underlying21
 a21:=Tryz.isAgg21
 z21:=Tryz.sizeOf21
 v21:=Tryz.zeroValue21
 t37:=Tryz.underlying188
 a37:=Tryz.isAgg188
 z37:=Tryz.sizeOf188
 v37:=Tryz.zeroValue188
 t46:=Tryz.underlying190
 a46:=Tryz.isAgg190
 z46:=Tryz.sizeOf190
 v46:=Tryz.zeroValue190
 t51:=Tryz.underlying232
 a51:=Tryz.isAgg232
 z51:=Tryz.sizeOf232
 v51:=Tryz.zeroValue232
 t53:=Tryz.underlying165
 a53:=Tryz.isAgg165
 z53:=Tryz.sizeOf165
 v53:=Tryz.zeroValue165
 t75:=Tryz.underlying248
 a75:=Tryz.isAgg248
 z75:=Tryz.sizeOf248
 v75:=Tryz.zeroValue248
 t76:=Tryz.underlying249
 a76:=Tryz.isAgg249
 z76:=Tryz.sizeOf249
 v76:=Tryz.zeroValue249
 t85:=Tryz.underlying294
 a85:=Tryz.isAgg294
 z85:=Tryz.sizeOf294
 v85:=Tryz.zeroValue294
 t127:=Tryz.underlying316
 a127:=Tryz.isAgg316
 z127:=Tryz.sizeOf316
 v127:=Tryz.zeroValue316
 t143:=Tryz.underlying317
 a143:=Tryz.isAgg317
 z143:=Tryz.sizeOf317
 v143:=Tryz.zeroValue317
 t145:=Tryz.underlying319
 a145:=Tryz.isAgg319
 z145:=Tryz.sizeOf319
 v145:=Tryz.zeroValue319
 t167:=Tryz.underlying293
 a167:=Tryz.isAgg293
 z167:=Tryz.sizeOf293
 v167:=Tryz.zeroValue293
 t168:=Tryz.underlying296
 a168:=Tryz.isAgg296
 z168:=Tryz.sizeOf296
 v168:=Tryz.zeroValue296
 t171:=Tryz.underlying321
 a171:=Tryz.isAgg321
 z171:=Tryz.sizeOf321
 v171:=Tryz.zeroValue321
 t173:=Tryz.underlying323
 a173:=Tryz.isAgg323
 z173:=Tryz.sizeOf323
 v173:=Tryz.zeroValue323
 t175:=Tryz.underlying308
 a175:=Tryz.isAgg308
 z175:=Tryz.sizeOf308
 v175:=Tryz.zeroValue308
 t210:=Tryz.underlying312
 a210:=Tryz.isAgg312
 z210:=Tryz.sizeOf312
 v210:=Tryz.zeroValue312
 t212:=Tryz.underlying326
 a212:=Tryz.isAgg326
 z212:=Tryz.sizeOf326
 v212:=Tryz.zeroValue326
 t213:=Tryz.underlying327
 a213:=Tryz.isAgg327
 z213:=Tryz.sizeOf327
 t232:=Tryz.underlying329
 a232:=Tryz.isAgg329
 z232:=Tryz.sizeOf329
 v232:=Tryz.zeroValue329
 t233:=Tryz.underlying330
 a233:=Tryz.isAgg330
 z233:=Tryz.sizeOf330
 v233:=Tryz.zeroValue330
 g15:=by kernel_rfl
 g16:=by kernel_rfl
 g17:=by kernel_rfl
 g18:=by kernel_rfl
 g19:=by kernel_rfl}
end Go.Proofs
namespace Go.Proofs.YtopeleenlcnkkaaGreatDoor
open Go Go.RowKit
attribute [local irreducible] bU
theorem Dv (w:World)(e:TypeId)(s:ByteArray):Kept none' w (Lib.bytesWorld w e s):=
 .of_below (Joins.below_bytesWorld _ w e s (Nat.le_refl _))
def KN (s:ByteArray)(most:Nat):Option Int:=if(runes s).all (fun p=>D6 p.2)=true/\0<s.size/\s.size<=most/\s.size<=18 then Lib.atoi s.data.toList else none
theorem ND (s:ByteArray)(most:Nat)(hm:most<=1000)(n:Int)(hok:KN s most=some n)(w:World):Calls Tryz.prog 135 #[.string s, .int .i64 (most:Int)] w (Gives w (.tuple #[.int .i64 n, .bool true])):=by
 obtain⟨w0,hrun,hit,hk0,hs0⟩:=jP (P:=Tryz.prog) w 9 s Tryz.underlying9
 have hlen:=jw s
 unfold KN at hok
 have hc:(runes s).all (fun p=>D6 p.2)=true/\0<s.size/\s.size<=most/\s.size<=18:=by
  by_cases h:(runes s).all (fun p=>D6 p.2)=true/\0<s.size/\s.size<=most/\s.size<=18
  ·exact h
  ·rw[if_neg h]at hok;cases hok
 rw[if_pos hc]at hok
 obtain⟨h1,h2,h3,h4⟩:=hc
 have hne: ¬s=ByteArray.empty:=fun e=>by rw[e]at h2;exact absurd h2 (by decide)
 have hst:s.toList.isEmpty=false:=by
  have h0:(s.toList==ByteArray.empty.toList)=false:=by rw[<-beq_toListBytes,vI];exact decide_eq_false hne
  have h1:ByteArray.empty.toList=[]:=by simp[ByteArray.toList,ByteArray.toList.loop]
  rw[h1]at h0
  cases hl:s.toList with
  |nil=>rw[hl]at h0;cases h0
  |cons b l=>rfl
 have hgt: ¬(most<s.size):=by omega
 have ca: ∀W,Calls Tryz.prog 167 #[.string s] W fun e w'=>e= .returned (.tuple #[.int .i64 n, .nilIface])/\ ∃t,w'=Lib.bytesWorld W 5 t:=fun W=>Any.strconv_Atoi Tryz.atoiL s n h4 hok W
 have H:=Lib.hid (And.intro hit (And.intro hk0 (List.all_eq_true.1 h1)))
 clear hit hk0 hs0 h1 hok hne
 go_enter Tryz.func135,Tryz.ntmps135
 go_wp2
 go_loopg [5] (runes s).length (fun k i wr=> ∃left,kH wr w.heap.size s left/\left.length=k/\(∀q∈left,q∈runes s)/\i= .bool false/\Kept none' w wr)
 case atStart=>exact⟨runes s,H.out.1,rfl,fun q h=>h,rfl,H.out.2.1⟩
 case round=>
  obtain⟨left,hit,hk,hall,rfl,hk1⟩:=hrel
  rcases hit.next (P:=Tryz.prog) 0 with⟨rfl,hrun⟩|⟨p,left',w2,hp,hrun,hit2,hk2,hs2⟩
  ·clear hit
   have KK:=Lib.hid hk1
   clear hk1 hall hk
   have ca:=ca wr
   go_wp2_with fail
   (with_reducible refine ca.mono ?_)
   rintro e w2 ⟨rfl,t,hw2⟩
   have k2:Kept none' wr w2:=by rw[hw2];exact Dv _ _ _
   have F:=Lib.hid (show Gives w (.tuple #[.int .i64 n, .bool true]) (.returned (.tuple #[.int .i64 n, .bool true])) w2 from⟨rfl,KK.out.trans k2⟩)
   clear k2 hw2
   go_wp2_with fail
   go_ret2
   exact F.out
  ·clear hit
   have hin:=hall p (by rw[hp];simp)
   have hd:=H.out.2.2 p hin
   have hpp:=(BF hin).2
   unfold D6 at hd
   simp only[Bool.and_eq_true,decide_eq_true_eq]at hd
   have b1: ¬(p.2:Int)<48:=by omega
   have b2: ¬(57:Int)<(p.2:Int):=by omega
   have hk3:Kept none' w w2:=hk1.new hk2 (fun i hi e=>by unfold one at e;omega)
   have hm:left'.length<gk:=by rw[hp]at hk;simp at hk;omega
   have G:=Lib.hid (And.intro hit2 (And.intro hk3 (And.intro (show∀q∈left',q∈runes s from fun q hq=>hall q (by rw[hp];simp[hq])) hm)))
   clear hit2 hk3 hm hp hk2 hs2 hall hd hin hk hk1
   go_wp2_with fail
   go_roundg left'.length
   case rel=>exact⟨left',G.out.1,rfl,G.out.2.2.1,rfl,G.out.2.1⟩
   case measure=>exact G.out.2.2.2
def pV (s:ByteArray):Bool:=(Lib.trimS s.data.toList [32,9]).isEmpty||(match s.data.toList with|b::_=>b==35|[]=>false)
theorem CY (s:ByteArray)(hs:s.size<=maxLen)(w:World):Calls Tryz.prog 112 #[.string s] w (Gives w (.bool (pV s))):=by
 have ct:Calls Tryz.prog 132 #[.string s, .string ⟨#[32,9]⟩] w fun e w'=>e= .returned (.string ⟨(Lib.trimS s.data.toList [32,9]).toArray⟩)/\Below w.heap.size w w':=
  Any.strings_Trim_laid Tryz.trimL (by kernel_rfl) s ⟨#[32,9]⟩ w (by unfold maxLen at hs;omega) (by decide) (ascii_of_all (by decide))
 obtain⟨tl,htl⟩: ∃tl,Lib.trimS s.data.toList [32,9]=tl:=⟨_,rfl⟩
 rw[htl]at ct
 cases YD:tl.isEmpty with
 |true=>
  have hsp:pV s=true:=by unfold pV;rw[htl,YD];rfl
  rw[hsp]
  clear htl hsp
  go_enter Tryz.func112,Tryz.ntmps112
  go_wp2_with fail
  (with_reducible refine ct.mono ?_)
  rintro e w2 ⟨rfl,k2⟩
  have F:=Lib.hid (Kept.of_below (S:=none') k2)
  clear k2 ct
  go_wp2_with fail
  go_ret
  exact⟨rfl,F.out⟩
 |false=>
  obtain⟨b,l,hbl⟩: ∃b l,s.data.toList=b::l:=by
   cases hd:s.data.toList with
   |nil=>
    rw[hd]at htl
    have:tl=[]:=by rw[<-htl];decide
    rw[this]at YD;cases YD
   |cons b l=>exact⟨b,l,rfl⟩
  have hsp:pV s=(b==35):=by unfold pV;rw[htl,YD,hbl];rfl
  rw[hsp]
  have hsz:0<s.size:=by
   have h1:s.size=s.data.toList.length:=by rw[Array.length_toList];rfl
   rw[h1,hbl];exact Nat.succ_pos _
  have hb0:s[0]'hsz=b:=by
   show s.data[0]'_=b
   have h2:s.data.toList[0]?=some b:=by rw[hbl];rfl
   rw[Array.getElem?_toList]at h2
   exact(Array.getElem?_eq_some_iff.1 h2).2
  have HB:=Lib.hid hb0
  have aeN:(((b.toNat:Nat):Int)==35)=(b==35):=by
   rw[Bool.eq_iff_iff]
   simp only[beq_iff_eq]
   constructor
   ·intro h
    have h1:b.toNat=35:=by omega
    exact UInt8.toNat_inj.1 h1
   ·intro h;rw[h];rfl
  clear htl hsp hbl hb0
  go_enter Tryz.func112,Tryz.ntmps112
  go_wp2_with fail
  (with_reducible refine ct.mono ?_)
  rintro e w2 ⟨rfl,k2⟩
  have F:=Lib.hid (Kept.of_below (S:=none') k2)
  clear k2 ct
  go_wp2_with fail
  go_ret
  refine⟨qG ?_,F.out⟩
  rw[HB.out]
  exact aeN
end Go.Proofs.YtopeleenlcnkkaaGreatDoor
