/- DERIVED: THE SHELF's CONTRACTS AT THIS DUMP, IN PLAIN WORDS (tools/lay-plain.mjs out of 'YtopeleenlcnkkaaGreatDoorShelg.lean', which tools/lay-shelf.mjs wrote): THE SAME DECLARATIONS UNDER THE SAME NAMES: 'import', 'namespace', 'open', 'def', 'theorem' AND NOTHING ELSE: no command of the shelf's: FOR A HAND-IN. Each laying: the table of numbers ('.._ren') and one theorem, a field a fact of the dump's own or the kernel's comparison; each contract: ONE APPLICATION. -/
import Derived.Shelf.Strings.SplitShaped
import Derived.Shelf.Strings.SlTrimAscii
import Derived.Shelf.Strconv.Atoi
import Derived.Test.YtopeleenlcnkkaaGreatDoorX20
import Derived.Lib.SmallJoins
set_option linter.unusedVariables false
set_option linter.unusedSimpArgs false
set_option maxHeartbeats 1000000
set_option maxRecDepth 100000
namespace Go.Proofs
open Go.Shelf
def Tryz.splitL_ren:Go.Shelf.Ren:=⟨fun|146=>111|221=>131|268=>157|138=>158|143=>159|195=>182|197=>183|218=>184|219=>185|260=>202|217=>203|225=>204|224=>205|267=>206|266=>218|314=>219|n=>n,fun|9=>9|31=>137|3=>3|4=>4|0=>0|105=>273|21=>21|5=>5|46=>190|119=>302|139=>305|138=>304|146=>306|51=>232|n=>n,fun|1=>0|3=>1|4=>2|n=>n⟩
theorem Tryz.splitL:Go.Proofs.Lays.n146 Tryz.prog Tryz.splitL_ren:={
 mixed:=by kernel_rfl
 f138:=Tryz.func158.trans (congrArg some (by kernel_rfl))
 f143:=Tryz.func159.trans (congrArg some (by kernel_rfl))
 f146:=Tryz.func111.trans (congrArg some (by kernel_rfl))
 f195:=Tryz.func182.trans (congrArg some (by kernel_rfl))
 f197:=Tryz.func183.trans (congrArg some (by kernel_rfl))
 f217:=Tryz.func203.trans (congrArg some (by kernel_rfl))
 f218:=Tryz.func184.trans (congrArg some (by kernel_rfl))
 f219:=Tryz.func185.trans (congrArg some (by kernel_rfl))
 f221:=Tryz.func131.trans (congrArg some (by kernel_rfl))
 f224:=Tryz.func205.trans (congrArg some (by kernel_rfl))
 f225:=Tryz.func204.trans (congrArg some (by kernel_rfl))
 f260:=Tryz.func202.trans (congrArg some (by kernel_rfl))
 f266:=Tryz.func218.trans (congrArg some (by kernel_rfl))
 f267:=Tryz.func206.trans (congrArg some (by kernel_rfl))
 f268:=Tryz.func157.trans (congrArg some (by kernel_rfl))
 f314:=Tryz.func219.trans (congrArg some (by kernel_rfl))
 t0:=Tryz.underlying0
 a0:=Tryz.isAgg0
 z0:=Tryz.sizeOf0
 v0:=Tryz.zeroValue0
 t3:=Tryz.underlying3
 a3:=Tryz.isAgg3
 z3:=Tryz.sizeOf3
 v3:=Tryz.zeroValue3
 t4:=Tryz.underlying4
 a4:=Tryz.isAgg4
 z4:=Tryz.sizeOf4
 v4:=Tryz.zeroValue4
 t5:=Tryz.underlying5
 a5:=Tryz.isAgg5
 z5:=Tryz.sizeOf5
 v5:=Tryz.zeroValue5
 t9:=Tryz.underlying9
 a9:=Tryz.isAgg9
 z9:=Tryz.sizeOf9
 v9:=Tryz.zeroValue9
 t21:=Tryz.underlying21
 a21:=Tryz.isAgg21
 z21:=Tryz.sizeOf21
 v21:=Tryz.zeroValue21
 t31:=Tryz.underlying137
 a31:=Tryz.isAgg137
 z31:=Tryz.sizeOf137
 v31:=Tryz.zeroValue137
 t46:=Tryz.underlying190
 a46:=Tryz.isAgg190
 z46:=Tryz.sizeOf190
 v46:=Tryz.zeroValue190
 t51:=Tryz.underlying232
 a51:=Tryz.isAgg232
 z51:=Tryz.sizeOf232
 v51:=Tryz.zeroValue232
 t105:=Tryz.underlying273
 a105:=Tryz.isAgg273
 z105:=Tryz.sizeOf273
 v105:=Tryz.zeroValue273
 t119:=Tryz.underlying302
 a119:=Tryz.isAgg302
 z119:=Tryz.sizeOf302
 t138:=Tryz.underlying304
 a138:=Tryz.isAgg304
 z138:=Tryz.sizeOf304
 v138:=Tryz.zeroValue304
 t139:=Tryz.underlying305
 a139:=Tryz.isAgg305
 z139:=Tryz.sizeOf305
 v139:=Tryz.zeroValue305
 t146:=Tryz.underlying306
 a146:=Tryz.isAgg306
 z146:=Tryz.sizeOf306
 v146:=Tryz.zeroValue306
 g1:=by kernel_rfl
 g3:=by kernel_rfl
 g4:=by kernel_rfl}
def Tryz.trimL_ren:Go.Shelf.Ren:=⟨fun|160=>132|232=>161|231=>160|227=>162|234=>164|233=>163|236=>166|235=>165|228=>186|271=>188|151=>187|197=>183|120=>208|152=>207|260=>202|137=>220|119=>221|224=>205|225=>204|217=>203|266=>218|n=>n,fun|9=>9|4=>4|3=>3|5=>5|117=>243|116=>242|0=>0|124=>246|21=>21|105=>273|46=>190|119=>302|139=>305|138=>304|n=>n,fun|3=>1|4=>2|n=>n⟩
theorem Tryz.trimL:Go.Proofs.Lays.n160 Tryz.prog Tryz.trimL_ren:={
 mixed:=by kernel_rfl
 f119:=Tryz.func221.trans (congrArg some (by kernel_rfl))
 f120:=Tryz.func208.trans (congrArg some (by kernel_rfl))
 f137:=Tryz.func220.trans (congrArg some (by kernel_rfl))
 f151:=Tryz.func187.trans (congrArg some (by kernel_rfl))
 f152:=Tryz.func207.trans (congrArg some (by kernel_rfl))
 f160:=Tryz.func132.trans (congrArg some (by kernel_rfl))
 f197:=Tryz.func183.trans (congrArg some (by kernel_rfl))
 f217:=Tryz.func203.trans (congrArg some (by kernel_rfl))
 f224:=Tryz.func205.trans (congrArg some (by kernel_rfl))
 f225:=Tryz.func204.trans (congrArg some (by kernel_rfl))
 f227:=Tryz.func162.trans (congrArg some (by kernel_rfl))
 f228:=Tryz.func186.trans (congrArg some (by kernel_rfl))
 f231:=Tryz.func160.trans (congrArg some (by kernel_rfl))
 f232:=Tryz.func161.trans (congrArg some (by kernel_rfl))
 f233:=Tryz.func163.trans (congrArg some (by kernel_rfl))
 f234:=Tryz.func164.trans (congrArg some (by kernel_rfl))
 f235:=Tryz.func165.trans (congrArg some (by kernel_rfl))
 f236:=Tryz.func166.trans (congrArg some (by kernel_rfl))
 f260:=Tryz.func202.trans (congrArg some (by kernel_rfl))
 f266:=Tryz.func218.trans (congrArg some (by kernel_rfl))
 f271:=Tryz.func188.trans (congrArg some (by kernel_rfl))
 t0:=Tryz.underlying0
 a0:=Tryz.isAgg0
 z0:=Tryz.sizeOf0
 v0:=Tryz.zeroValue0
 t3:=Tryz.underlying3
 a3:=Tryz.isAgg3
 z3:=Tryz.sizeOf3
 v3:=Tryz.zeroValue3
 t4:=Tryz.underlying4
 a4:=Tryz.isAgg4
 z4:=Tryz.sizeOf4
 v4:=Tryz.zeroValue4
 t5:=Tryz.underlying5
 a5:=Tryz.isAgg5
 z5:=Tryz.sizeOf5
 v5:=Tryz.zeroValue5
 t9:=Tryz.underlying9
 a9:=Tryz.isAgg9
 z9:=Tryz.sizeOf9
 v9:=Tryz.zeroValue9
 t21:=Tryz.underlying21
 a21:=Tryz.isAgg21
 z21:=Tryz.sizeOf21
 v21:=Tryz.zeroValue21
 t46:=Tryz.underlying190
 a46:=Tryz.isAgg190
 z46:=Tryz.sizeOf190
 v46:=Tryz.zeroValue190
 t105:=Tryz.underlying273
 a105:=Tryz.isAgg273
 z105:=Tryz.sizeOf273
 v105:=Tryz.zeroValue273
 t116:=Tryz.underlying242
 a116:=Tryz.isAgg242
 z116:=Tryz.sizeOf242
 t117:=Tryz.underlying243
 a117:=Tryz.isAgg243
 z117:=Tryz.sizeOf243
 v117:=Tryz.zeroValue243
 t119:=Tryz.underlying302
 a119:=Tryz.isAgg302
 z119:=Tryz.sizeOf302
 t124:=Tryz.underlying246
 a124:=Tryz.isAgg246
 z124:=Tryz.sizeOf246
 v124:=Tryz.zeroValue246
 t138:=Tryz.underlying304
 a138:=Tryz.isAgg304
 z138:=Tryz.sizeOf304
 v138:=Tryz.zeroValue304
 t139:=Tryz.underlying305
 a139:=Tryz.isAgg305
 z139:=Tryz.sizeOf305
 v139:=Tryz.zeroValue305
 g3:=by kernel_rfl
 g4:=by kernel_rfl}
def Tryz.trimLeftL_ren:Go.Shelf.Ren:=⟨fun|161=>139|231=>160|227=>162|233=>163|235=>165|228=>186|197=>183|151=>187|260=>202|152=>207|137=>220|119=>221|224=>205|225=>204|217=>203|266=>218|n=>n,fun|9=>9|4=>4|3=>3|5=>5|117=>243|116=>242|0=>0|124=>246|105=>273|21=>21|119=>302|46=>190|139=>305|138=>304|n=>n,fun|3=>1|4=>2|n=>n⟩
theorem Tryz.trimLeftL:Go.Proofs.Lays.n161 Tryz.prog Tryz.trimLeftL_ren:={
 mixed:=by kernel_rfl
 f119:=Tryz.func221.trans (congrArg some (by kernel_rfl))
 f137:=Tryz.func220.trans (congrArg some (by kernel_rfl))
 f151:=Tryz.func187.trans (congrArg some (by kernel_rfl))
 f152:=Tryz.func207.trans (congrArg some (by kernel_rfl))
 f161:=Tryz.func139.trans (congrArg some (by kernel_rfl))
 f197:=Tryz.func183.trans (congrArg some (by kernel_rfl))
 f217:=Tryz.func203.trans (congrArg some (by kernel_rfl))
 f224:=Tryz.func205.trans (congrArg some (by kernel_rfl))
 f225:=Tryz.func204.trans (congrArg some (by kernel_rfl))
 f227:=Tryz.func162.trans (congrArg some (by kernel_rfl))
 f228:=Tryz.func186.trans (congrArg some (by kernel_rfl))
 f231:=Tryz.func160.trans (congrArg some (by kernel_rfl))
 f233:=Tryz.func163.trans (congrArg some (by kernel_rfl))
 f235:=Tryz.func165.trans (congrArg some (by kernel_rfl))
 f260:=Tryz.func202.trans (congrArg some (by kernel_rfl))
 f266:=Tryz.func218.trans (congrArg some (by kernel_rfl))
 t0:=Tryz.underlying0
 a0:=Tryz.isAgg0
 z0:=Tryz.sizeOf0
 v0:=Tryz.zeroValue0
 t3:=Tryz.underlying3
 a3:=Tryz.isAgg3
 z3:=Tryz.sizeOf3
 v3:=Tryz.zeroValue3
 t4:=Tryz.underlying4
 a4:=Tryz.isAgg4
 z4:=Tryz.sizeOf4
 v4:=Tryz.zeroValue4
 t5:=Tryz.underlying5
 a5:=Tryz.isAgg5
 z5:=Tryz.sizeOf5
 v5:=Tryz.zeroValue5
 t9:=Tryz.underlying9
 a9:=Tryz.isAgg9
 z9:=Tryz.sizeOf9
 v9:=Tryz.zeroValue9
 t21:=Tryz.underlying21
 a21:=Tryz.isAgg21
 z21:=Tryz.sizeOf21
 v21:=Tryz.zeroValue21
 t46:=Tryz.underlying190
 a46:=Tryz.isAgg190
 z46:=Tryz.sizeOf190
 v46:=Tryz.zeroValue190
 t105:=Tryz.underlying273
 a105:=Tryz.isAgg273
 z105:=Tryz.sizeOf273
 v105:=Tryz.zeroValue273
 t116:=Tryz.underlying242
 a116:=Tryz.isAgg242
 z116:=Tryz.sizeOf242
 t117:=Tryz.underlying243
 a117:=Tryz.isAgg243
 z117:=Tryz.sizeOf243
 v117:=Tryz.zeroValue243
 t119:=Tryz.underlying302
 a119:=Tryz.isAgg302
 z119:=Tryz.sizeOf302
 t124:=Tryz.underlying246
 a124:=Tryz.isAgg246
 z124:=Tryz.sizeOf246
 v124:=Tryz.zeroValue246
 t138:=Tryz.underlying304
 a138:=Tryz.isAgg304
 z138:=Tryz.sizeOf304
 v138:=Tryz.zeroValue304
 t139:=Tryz.underlying305
 a139:=Tryz.isAgg305
 z139:=Tryz.sizeOf305
 v139:=Tryz.zeroValue305
 g3:=by kernel_rfl
 g4:=by kernel_rfl}
def Tryz.crL_ren:Go.Shelf.Ren:=⟨fun|151=>187|152=>207|137=>220|119=>221|224=>205|225=>204|217=>203|266=>218|n=>n,fun|9=>9|21=>21|4=>4|3=>3|5=>5|0=>0|46=>190|n=>n,fun|n=>n⟩
theorem Tryz.crL:Go.Proofs.Lays.n151 Tryz.prog Tryz.crL_ren:={
 mixed:=by kernel_rfl
 f119:=Tryz.func221.trans (congrArg some (by kernel_rfl))
 f137:=Tryz.func220.trans (congrArg some (by kernel_rfl))
 f151:=Tryz.func187.trans (congrArg some (by kernel_rfl))
 f152:=Tryz.func207.trans (congrArg some (by kernel_rfl))
 f217:=Tryz.func203.trans (congrArg some (by kernel_rfl))
 f224:=Tryz.func205.trans (congrArg some (by kernel_rfl))
 f225:=Tryz.func204.trans (congrArg some (by kernel_rfl))
 f266:=Tryz.func218.trans (congrArg some (by kernel_rfl))
 t0:=Tryz.underlying0
 a0:=Tryz.isAgg0
 z0:=Tryz.sizeOf0
 v0:=Tryz.zeroValue0
 t3:=Tryz.underlying3
 a3:=Tryz.isAgg3
 z3:=Tryz.sizeOf3
 v3:=Tryz.zeroValue3
 t4:=Tryz.underlying4
 a4:=Tryz.isAgg4
 z4:=Tryz.sizeOf4
 v4:=Tryz.zeroValue4
 t5:=Tryz.underlying5
 a5:=Tryz.isAgg5
 z5:=Tryz.sizeOf5
 v5:=Tryz.zeroValue5
 t9:=Tryz.underlying9
 a9:=Tryz.isAgg9
 z9:=Tryz.sizeOf9
 v9:=Tryz.zeroValue9
 t21:=Tryz.underlying21
 a21:=Tryz.isAgg21
 z21:=Tryz.sizeOf21
 v21:=Tryz.zeroValue21
 t46:=Tryz.underlying190
 a46:=Tryz.isAgg190
 z46:=Tryz.sizeOf190
 v46:=Tryz.zeroValue190}
def Tryz.atoiL_ren:Go.Shelf.Ren:=⟨fun|172=>167|244=>189|245=>190|247=>209|279=>210|280=>211|281=>212|282=>213|287=>222|316=>223|171=>225|205=>224|321=>227|322=>228|243=>229|246=>231|283=>233|284=>234|285=>235|286=>236|129=>152|317=>238|318=>239|319=>240|320=>241|337=>243|338=>244|n=>n,fun|9=>9|3=>3|75=>248|76=>249|4=>4|5=>5|167=>293|37=>188|0=>0|85=>294|2=>2|168=>296|53=>165|175=>308|46=>190|210=>312|127=>316|145=>319|143=>317|21=>21|171=>321|173=>323|212=>326|51=>232|20=>20|213=>327|232=>329|233=>330|80=>103|n=>n,fun|15=>3|16=>4|17=>5|18=>6|19=>7|n=>n⟩
theorem Tryz.atoiL:Go.Proofs.Lays.n172 Tryz.prog Tryz.atoiL_ren:={
 mixed:=by kernel_rfl
 f129:=Tryz.func152.trans (congrArg some (by kernel_rfl))
 f171:=Tryz.func225.trans (congrArg some (by kernel_rfl))
 f172:=Tryz.func167.trans (congrArg some (by kernel_rfl))
 f205:=Tryz.func224.trans (congrArg some (by kernel_rfl))
 f243:=Tryz.func229.trans (congrArg some (by kernel_rfl))
 f244:=Tryz.func189.trans (congrArg some (by kernel_rfl))
 f245:=Tryz.func190.trans (congrArg some (by kernel_rfl))
 f246:=Tryz.func231.trans (congrArg some (by kernel_rfl))
 f247:=Tryz.func209.trans (congrArg some (by kernel_rfl))
 f279:=Tryz.func210.trans (congrArg some (by kernel_rfl))
 f280:=Tryz.func211.trans (congrArg some (by kernel_rfl))
 f281:=Tryz.func212.trans (congrArg some (by kernel_rfl))
 f282:=Tryz.func213.trans (congrArg some (by kernel_rfl))
 f283:=Tryz.func233.trans (congrArg some (by kernel_rfl))
 f284:=Tryz.func234.trans (congrArg some (by kernel_rfl))
 f285:=Tryz.func235.trans (congrArg some (by kernel_rfl))
 f286:=Tryz.func236.trans (congrArg some (by kernel_rfl))
 f287:=Tryz.func222.trans (congrArg some (by kernel_rfl))
 f316:=Tryz.func223.trans (congrArg some (by kernel_rfl))
 f317:=Tryz.func238.trans (congrArg some (by kernel_rfl))
 f318:=Tryz.func239.trans (congrArg some (by kernel_rfl))
 f319:=Tryz.func240.trans (congrArg some (by kernel_rfl))
 f320:=Tryz.func241.trans (congrArg some (by kernel_rfl))
 f321:=Tryz.func227.trans (congrArg some (by kernel_rfl))
 f322:=Tryz.func228.trans (congrArg some (by kernel_rfl))
 f337:=Tryz.func243.trans (congrArg some (by kernel_rfl))
 f338:=Tryz.func244.trans (congrArg some (by kernel_rfl))
 t0:=Tryz.underlying0
 a0:=Tryz.isAgg0
 z0:=Tryz.sizeOf0
 v0:=Tryz.zeroValue0
 t2:=Tryz.underlying2
 a2:=Tryz.isAgg2
 z2:=Tryz.sizeOf2
 v2:=Tryz.zeroValue2
 t3:=Tryz.underlying3
 a3:=Tryz.isAgg3
 z3:=Tryz.sizeOf3
 v3:=Tryz.zeroValue3
 t4:=Tryz.underlying4
 a4:=Tryz.isAgg4
 z4:=Tryz.sizeOf4
 v4:=Tryz.zeroValue4
 t5:=Tryz.underlying5
 a5:=Tryz.isAgg5
 z5:=Tryz.sizeOf5
 v5:=Tryz.zeroValue5
 t9:=Tryz.underlying9
 a9:=Tryz.isAgg9
 z9:=Tryz.sizeOf9
 v9:=Tryz.zeroValue9
 t20:=Tryz.underlying20
 a20:=Tryz.isAgg20
 z20:=Tryz.sizeOf20
 v20:=Tryz.zeroValue20
 t21:=Tryz.underlying21
 a21:=Tryz.isAgg21
 z21:=Tryz.sizeOf21
 v21:=Tryz.zeroValue21
 t37:=Tryz.underlying188
 a37:=Tryz.isAgg188
 z37:=Tryz.sizeOf188
 v37:=Tryz.zeroValue188
 t46:=Tryz.underlying190
 a46:=Tryz.isAgg190
 z46:=Tryz.sizeOf190
 v46:=Tryz.zeroValue190
 t51:=Tryz.underlying232
 a51:=Tryz.isAgg232
 z51:=Tryz.sizeOf232
 v51:=Tryz.zeroValue232
 t53:=Tryz.underlying165
 a53:=Tryz.isAgg165
 z53:=Tryz.sizeOf165
 v53:=Tryz.zeroValue165
 t75:=Tryz.underlying248
 a75:=Tryz.isAgg248
 z75:=Tryz.sizeOf248
 v75:=Tryz.zeroValue248
 t76:=Tryz.underlying249
 a76:=Tryz.isAgg249
 z76:=Tryz.sizeOf249
 v76:=Tryz.zeroValue249
 t85:=Tryz.underlying294
 a85:=Tryz.isAgg294
 z85:=Tryz.sizeOf294
 v85:=Tryz.zeroValue294
 t127:=Tryz.underlying316
 a127:=Tryz.isAgg316
 z127:=Tryz.sizeOf316
 v127:=Tryz.zeroValue316
 t143:=Tryz.underlying317
 a143:=Tryz.isAgg317
 z143:=Tryz.sizeOf317
 v143:=Tryz.zeroValue317
 t145:=Tryz.underlying319
 a145:=Tryz.isAgg319
 z145:=Tryz.sizeOf319
 v145:=Tryz.zeroValue319
 t167:=Tryz.underlying293
 a167:=Tryz.isAgg293
 z167:=Tryz.sizeOf293
 v167:=Tryz.zeroValue293
 t168:=Tryz.underlying296
 a168:=Tryz.isAgg296
 z168:=Tryz.sizeOf296
 v168:=Tryz.zeroValue296
 t171:=Tryz.underlying321
 a171:=Tryz.isAgg321
 z171:=Tryz.sizeOf321
 v171:=Tryz.zeroValue321
 t173:=Tryz.underlying323
 a173:=Tryz.isAgg323
 z173:=Tryz.sizeOf323
 v173:=Tryz.zeroValue323
 t175:=Tryz.underlying308
 a175:=Tryz.isAgg308
 z175:=Tryz.sizeOf308
 v175:=Tryz.zeroValue308
 t210:=Tryz.underlying312
 a210:=Tryz.isAgg312
 z210:=Tryz.sizeOf312
 v210:=Tryz.zeroValue312
 t212:=Tryz.underlying326
 a212:=Tryz.isAgg326
 z212:=Tryz.sizeOf326
 v212:=Tryz.zeroValue326
 t213:=Tryz.underlying327
 a213:=Tryz.isAgg327
 z213:=Tryz.sizeOf327
 t232:=Tryz.underlying329
 a232:=Tryz.isAgg329
 z232:=Tryz.sizeOf329
 v232:=Tryz.zeroValue329
 t233:=Tryz.underlying330
 a233:=Tryz.isAgg330
 z233:=Tryz.sizeOf330
 v233:=Tryz.zeroValue330
 g15:=by kernel_rfl
 g16:=by kernel_rfl
 g17:=by kernel_rfl
 g18:=by kernel_rfl
 g19:=by kernel_rfl}
end Go.Proofs
namespace Go.Proofs.YtopeleenlcnkkaaGreatDoor
section
open Go Go.RowKit
attribute [local irreducible] bU
theorem Ee (w:World)(e:TypeId)(s:ByteArray):Kept none' w (Lib.bytesWorld w e s):=
 .of_below (Joins.below_bytesWorld _ w e s (Nat.le_refl _))
def Mc (s:ByteArray)(most:Nat):Option Int:=if(runes s).all (fun p=>EJ p.2)=true/\0<s.size/\s.size<=most/\s.size<=18 then Lib.atoi s.data.toList else none
theorem OI (s:ByteArray)(most:Nat)(hm:most<=1000)(n:Int)(hok:Mc s most=some n)(w:World):Calls Tryz.prog 135 #[.string s, .int .i64 (most:Int)] w (Gives w (.tuple #[.int .i64 n, .bool true])):=by
 obtain⟨w0,hrun,hit,hk0,hs0⟩:=jX (P:=Tryz.prog) w 9 s Tryz.underlying9
 have hlen:=jJ s
 unfold Mc at hok
 have hc:(runes s).all (fun p=>EJ p.2)=true/\0<s.size/\s.size<=most/\s.size<=18:=by
  by_cases h:(runes s).all (fun p=>EJ p.2)=true/\0<s.size/\s.size<=most/\s.size<=18
  ·exact h
  ·rw[if_neg h]at hok;cases hok
 rw[if_pos hc]at hok
 obtain⟨h1,h2,h3,h4⟩:=hc
 have hne: ¬s=ByteArray.empty:=fun e=>by rw[e]at h2;exact absurd h2 (by decide)
 have hst:s.toList.isEmpty=false:=by
  have h0:(s.toList==ByteArray.empty.toList)=false:=by rw[<-beq_toListBytes,AQ];exact decide_eq_false hne
  have h1:ByteArray.empty.toList=[]:=by simp[ByteArray.toList,ByteArray.toList.loop]
  rw[h1]at h0
  cases hl:s.toList with
  |nil=>rw[hl]at h0;cases h0
  |cons b l=>rfl
 have hgt: ¬(most<s.size):=by omega
 have ca: ∀W,Calls Tryz.prog 167 #[.string s] W fun e w'=>e= .returned (.tuple #[.int .i64 n, .nilIface])/\ ∃t,w'=Lib.bytesWorld W 5 t:=fun W=>Any.strconv_Atoi Tryz.atoiL s n h4 hok W
 have H:=Lib.hid (And.intro hit (And.intro hk0 (List.all_eq_true.1 h1)))
 clear hit hk0 hs0 h1 hok hne
 go_enter Tryz.func135,Tryz.ntmps135
 go_wp2
 go_loopg [5] (runes s).length (fun k i wr=> ∃left,kX wr w.heap.size s left/\left.length=k/\(∀q∈left,q∈runes s)/\i= .bool false/\Kept none' w wr)
 case atStart=>exact⟨runes s,H.out.1,rfl,fun q h=>h,rfl,H.out.2.1⟩
 case round=>
  obtain⟨left,hit,hk,hall,rfl,hk1⟩:=hrel
  rcases hit.next (P:=Tryz.prog) 0 with⟨rfl,hrun⟩|⟨p,left',w2,hp,hrun,hit2,hk2,hs2⟩
  ·clear hit
   have KK:=Lib.hid hk1
   clear hk1 hall hk
   have ca:=ca wr
   go_wp2_with fail
   (with_reducible refine ca.mono ?_)
   rintro e w2 ⟨rfl,t,hw2⟩
   have k2:Kept none' wr w2:=by rw[hw2];exact Ee _ _ _
   have F:=Lib.hid (show Gives w (.tuple #[.int .i64 n, .bool true]) (.returned (.tuple #[.int .i64 n, .bool true])) w2 from⟨rfl,KK.out.trans k2⟩)
   clear k2 hw2
   go_wp2_with fail
   go_ret2
   exact F.out
  ·clear hit
   have hin:=hall p (by rw[hp];simp)
   have hd:=H.out.2.2 p hin
   have hpp:=(CV hin).2
   unfold EJ at hd
   simp only[Bool.and_eq_true,decide_eq_true_eq]at hd
   have b1: ¬(p.2:Int)<48:=by omega
   have b2: ¬(57:Int)<(p.2:Int):=by omega
   have hk3:Kept none' w w2:=hk1.new hk2 (fun i hi e=>by unfold one at e;omega)
   have hm:left'.length<gk:=by rw[hp]at hk;simp at hk;omega
   have G:=Lib.hid (And.intro hit2 (And.intro hk3 (And.intro (show∀q∈left',q∈runes s from fun q hq=>hall q (by rw[hp];simp[hq])) hm)))
   clear hit2 hk3 hm hp hk2 hs2 hall hd hin hk hk1
   go_wp2_with fail
   go_roundg left'.length
   case rel=>exact⟨left',G.out.1,rfl,G.out.2.2.1,rfl,G.out.2.1⟩
   case measure=>exact G.out.2.2.2
def pO (s:ByteArray):Bool:=(Lib.trimS s.data.toList [32,9]).isEmpty||(match s.data.toList with|b::_=>b==35|[]=>false)
theorem DL (s:ByteArray)(hs:s.size<=maxLen)(w:World):Calls Tryz.prog 112 #[.string s] w (Gives w (.bool (pO s))):=by
 have ct:Calls Tryz.prog 132 #[.string s, .string ⟨#[32,9]⟩] w fun e w'=>e= .returned (.string ⟨(Lib.trimS s.data.toList [32,9]).toArray⟩)/\Below w.heap.size w w':=
  Any.strings_Trim_laid Tryz.trimL (by kernel_rfl) s ⟨#[32,9]⟩ w (by unfold maxLen at hs;omega) (by decide) (ascii_of_all (by decide))
 obtain⟨tl,htl⟩: ∃tl,Lib.trimS s.data.toList [32,9]=tl:=⟨_,rfl⟩
 rw[htl]at ct
 cases ZC:tl.isEmpty with
 |true=>
  have hsp:pO s=true:=by unfold pO;rw[htl,ZC];rfl
  rw[hsp]
  clear htl hsp
  go_enter Tryz.func112,Tryz.ntmps112
  go_wp2_with fail
  (with_reducible refine ct.mono ?_)
  rintro e w2 ⟨rfl,k2⟩
  have F:=Lib.hid (Kept.of_below (S:=none') k2)
  clear k2 ct
  go_wp2_with fail
  go_ret
  exact⟨rfl,F.out⟩
 |false=>
  obtain⟨b,l,hbl⟩: ∃b l,s.data.toList=b::l:=by
   cases hd:s.data.toList with
   |nil=>
    rw[hd]at htl
    have:tl=[]:=by rw[<-htl];decide
    rw[this]at ZC;cases ZC
   |cons b l=>exact⟨b,l,rfl⟩
  have hsp:pO s=(b==35):=by unfold pO;rw[htl,ZC,hbl];rfl
  rw[hsp]
  have hsz:0<s.size:=by
   have h1:s.size=s.data.toList.length:=by rw[Array.length_toList];rfl
   rw[h1,hbl];exact Nat.succ_pos _
  have hb0:s[0]'hsz=b:=by
   show s.data[0]'_=b
   have h2:s.data.toList[0]?=some b:=by rw[hbl];rfl
   rw[Array.getElem?_toList]at h2
   exact(Array.getElem?_eq_some_iff.1 h2).2
  have HB:=Lib.hid hb0
  have afP:(((b.toNat:Nat):Int)==35)=(b==35):=by
   rw[Bool.eq_iff_iff]
   simp only[beq_iff_eq]
   constructor
   ·intro h
    have h1:b.toNat=35:=by omega
    exact UInt8.toNat_inj.1 h1
   ·intro h;rw[h];rfl
  clear htl hsp hbl hb0
  go_enter Tryz.func112,Tryz.ntmps112
  go_wp2_with fail
  (with_reducible refine ct.mono ?_)
  rintro e w2 ⟨rfl,k2⟩
  have F:=Lib.hid (Kept.of_below (S:=none') k2)
  clear k2 ct
  go_wp2_with fail
  go_ret
  refine⟨qp ?_,F.out⟩
  rw[HB.out]
  exact afP
theorem YV {nodes:List JN}{uid:ByteArray}{k:Nat}{d:JN}(hd:nodes[k]?=some d)(hu:d.uid=uid)(hp: ∀m e,m<k->nodes[m]?=some e->e.uid≠uid):aO nodes uid=(k:Int):=by
 have h:nodes.findIdx? (fun d=>decide (d.uid=uid))=some k:=by
  rw[List.findIdx?_eq_some_iff_getElem]
  obtain⟨hk,e⟩:=List.getElem?_eq_some_iff.1 hd
  refine⟨hk,by rw[e];exact decide_eq_true hu,fun j hj=>?_⟩
  have:=hp j _ hj (List.getElem?_eq_getElem (by omega))
  simpa using this
 unfold aO;rw[h]
theorem YU {nodes:List JN}{uid:ByteArray}(hp: ∀m e,m<nodes.length->nodes[m]?=some e->e.uid≠uid):aO nodes uid= -1:=by
 have h:nodes.findIdx? (fun d=>decide (d.uid=uid))=none:=by
  rw[List.findIdx?_eq_none_iff]
  intro x hx
  obtain⟨m,hm⟩:=List.getElem?_of_mem hx
  exact decide_eq_false (hp m x (List.getElem?_eq_some_iff.1 hm).1 hm)
 unfold aO;rw[h]
theorem V3 (d:JN)(a:Array Value)(uid:ByteArray)(B:Nat)(w:World)(h:nG w a d)(hc:w.cell? ⟨B,0,none⟩=some (.string uid)):
 Calls Tryz.prog 73 #[.agg a, .pointer (some ⟨B,0,none⟩)] w (Gives w (.bool (decide (d.uid=uid)))):=by
 obtain⟨pi,ci,p,cap,rfl,_⟩:=h
 have kA:Kept none' w (w.alloc (.cells (bF d pi ci p cap) 97)):=(Kept.refl _ _).alloc _
 have c1:=kA.cell (p:=⟨B,0,none⟩) (fun h=>h) hc
 have HS:=Lib.hid (str_eq d.uid uid)
 go_enter Tryz.func73,Tryz.ntmps73
 go_wp2_with fail
 go_ret
 exact⟨by first|exact dZ HS.out|exact qp rfl|rfl,kA⟩
theorem VZ (nodes:List JN)(v:Value)(uid:ByteArray)(B:Nat)(w:World)(h:dP w v nodes)(hc:w.cell? ⟨B,0,none⟩=some (.string uid)):
 Calls Tryz.prog 72 #[v, .func (.func 73) #[] #[.pointer (some ⟨B,0,none⟩)]] w (Gives w (.int .i64 (aO nodes uid))):=by
 obtain⟨na,cap,rfl,h1,h2,h3⟩:=h.at
 unfold maxLen at h2
 have H3:=Lib.hid (And.intro h3 hc)
 clear h3 h hc
 go_enter Tryz.func72,Tryz.ntmps72
 go_wp2_with fail
 go_loopg [8] nodes.length (fun g vi wr=> ∃k:Nat,k<=nodes.length/\vi= .int .i64 (k:Int)/\nodes.length-k<=g/\Kept none' w wr/\ ∀m e,m<k->nodes[m]?=some e->e.uid≠uid)
 case atStart=>exact⟨0,by omega,rfl,by omega,Kept.refl _ _,fun m e hm=>by omega⟩
 case round=>
  obtain⟨k,hk,rfl,hg,hkp,hno⟩:=hrel
  by_cases hlt:k<nodes.length
  ·obtain⟨d,hd⟩: ∃d,nodes[k]?=some d:=⟨_,List.getElem?_eq_getElem hlt⟩
   obtain⟨b,off,pi,ci,p,cap',rfl,hcc,hj⟩:=H3.out.1 k d hd
   obtain⟨c0,c1,c2,c3,c4,c5,c6⟩:=hcc.kept hkp (fun h=>h)
   have cc:=V3 d _ uid B wr (hj.pure hkp) (hkp.cell (fun h=>h) H3.out.2)
   have G:=Lib.hid (And.intro hg (And.intro hkp (And.intro hd hno)))
   clear hg hkp hd hno hj hcc H3
   by_cases hu:d.uid=uid
   ·rw[decide_eq_true hu]at cc
    have F:=Lib.hid (YV G.out.2.2.1 hu G.out.2.2.2)
    clear hu
    go_wp2_with (go_at_call 73;refine cc.mono ?_;rintro e w2 ⟨rfl,k2⟩)
    go_ret
    exact⟨fV F.out.symm,G.out.2.1.trans k2⟩
   ·rw[decide_eq_false hu]at cc
    have F:=Lib.hid (show∀m e,m<k+1->nodes[m]?=some e->e.uid≠uid from fun m e hm he=>by
     by_cases h:m<k
     ·exact G.out.2.2.2 m e h he
     ·have e1:m=k:=by omega
      subst e1
      rw[G.out.2.2.1]at he
      injection he with he
      rw[<-he];exact hu)
    clear hu
    go_wp2_with (go_at_call 73;refine cc.mono ?_;rintro e w2 ⟨rfl,k2⟩)
    go_roundg (nodes.length-(k+1))
    case rel=>exact⟨k+1,by omega,by go_num,Nat.le_refl _,G.out.2.1.trans k2,F.out⟩
    case measure=>have:=G.out.1;omega
  ·have e1:k=nodes.length:=by omega
   subst e1
   have F:=Lib.hid (And.intro (YU hno) hkp)
   clear hno hkp
   go_wp2_with fail
   go_ret
   exact⟨fV F.out.1.symm,F.out.2⟩
theorem og (j:Jb)(a:Array Value)(uid:ByteArray)(w:World)(h:bZ w a j):Calls Tryz.prog 42 #[.agg a, .string uid] w (Gives w (.int .i64 (aO j.nodes uid))):=by
 obtain⟨v,rfl,hn,hp⟩:=h
 obtain⟨na,cap,rfl,h1,h2,h3⟩:=hn.at
 have kA:Kept none' w ((w.alloc (.cells #[.int .i64 j.par, .slice na j.nodes.length cap] 24)).alloc (.cells #[.string uid] 9)):=((Kept.refl _ _).alloc _).alloc _
 have hB:((w.alloc (.cells #[.int .i64 j.par, .slice na j.nodes.length cap] 24)).alloc (.cells #[.string uid] 9)).cell? ⟨w.heap.size+1,0,none⟩=some (.string uid):=by simp
 have cc:=VZ j.nodes _ uid (w.heap.size+1) _ (hn.pure kA) hB
 have K:=Lib.hid kA
 clear h3 hn hp kA hB h2
 go_enter Tryz.func42,Tryz.ntmps42
 go_wp2_with fail
 refine cc.mono ?_
 rintro e w2 ⟨rfl,k2⟩
 go_wp2_with fail
 go_ret
 exact⟨rfl,K.out.trans k2⟩
end
section
open Go
section
variable {P:Program} {ops:Array Oper} {C:World->Prop} {Q:Act->World->Prop}
def DT (ops:Array Oper)(listed:Array Bool):Option Nat:=
 (List.range ops.size).find? fun k=>uT ops k&&(Region.ready .any ops listed).contains k&&Region.free .any ops listed k
def dL (P:Program)(ops:Array Oper)(C:World->Prop)(Q:Act->World->Prop):Nat->Array Bool->Act->World->Prop
 |0,listed,a,w=>C w/\(List.range ops.size).all (fun k=>listed.getD k true)=true/\Q a w
 |n+1,listed,a,w=>
  match DT ops listed with
  |some k=>match ops[k]? with
   |none=>False
   |some o=> ∃v,(Region.wanted o (yielded ops a.tmps)=true/\(∀w',C w'->(execOp a.eval o).run P w'= .ok (.value v) w')\/Region.wanted o (yielded ops a.tmps)=false/\v=undef)/\dL P ops C Q n (listed.setIfInBounds k true) (a.put o.dst v) w
  |none=>Region.ready .any ops listed≠[]/\ ∀k∈Region.ready .any ops listed,∃o,ops[k]?=some o/\
    (if Region.wanted o (yielded ops a.tmps)=true then o.wp P a w (fun a' w'=>C w'/\dL P ops C Q n (listed.setIfInBounds k true) a' w') (iU Q)
     else dL P ops C Q n (listed.setIfInBounds k true) (a.put o.dst undef) w)
theorem rF (hs:Region.noSelect ops=true): ∀(n:Nat)(listed:Array Bool)(a:Act)(w:World),C w->dL P ops C Q n listed a w->xJ P .any ops C false Q n listed a w
 |0,listed,a,w,hC,h=>by
  refine⟨fun _=>hC,fun k o hk=>?_,h.2.2⟩
  have:=h.2.1
  simp only[List.all_eq_true,List.mem_range]at this
  exact this k (Array.getElem?_eq_some_iff.1 hk).1
 |n+1,listed,a,w,hC,h=>by
  unfold dL at h
  split at h
  ·rename_i k hk
   have hk2:=List.find?_some hk
   simp only[Bool.and_eq_true]at hk2
   split at h
   ·exact h.elim
   ·rename_i o hok
    obtain⟨v,hv,hn⟩:=h
    have hr:k∈Region.ready .any ops listed:=by simpa using hk2.1.2
    exact uD hok (Region.noSelect_spec hs) n listed a w (Region.free_spec hok hk2.2) hC (fun hb=>by cases hb) hr hv (rF hs n _ _ w hC hn)
  ·refine⟨hC,fun h0=>absurd h0 h.1,fun k hk=>?_⟩
   obtain⟨o,hok,h2⟩:=h.2 k hk
   unfold wpOp
   simp only[hok]
   by_cases hw:Region.wanted o (yielded ops a.tmps)=true
   ·simp only[hw,if_true]at h2⊢
    exact .inl (Oper.wp_mono (fun a' w' h'=>rF hs n _ a' w' h'.1 h'.2) h2)
   ·simp only[hw]at h2⊢
    exact rF hs n _ _ w hC h2
theorem qN {id:Nat}{Q:Exit->Act->World->Prop}{a:Act}{w:World}(C:World->Prop)(hm:P.follows .mixedOrders=true)(hs:Region.noSelect ops=true)
 (hC:C w.drew) (h:dL P ops C (Q .normal) ops.size (Array.replicate ops.size false) a w.drew):(Code.region id ops true).wp P Q a w:=
 wp_region_any hm (yx (C:=C) (bar:=false) (Q:=Q .normal) (fun _ _ h=>h) _ _ _ _ (rF hs _ _ _ _ hC h))
theorem aH {n k:Nat}{listed:Array Bool}{a:Act}{w:World}{o:Oper}{v:Value}(hp:DT ops listed=some k)(ho:ops[k]?=some o)(hw:Region.wanted o (yielded ops a.tmps)=true)
 (hv: ∀w',C w'->(execOp a.eval o).run P w'= .ok (.value v) w') (h:dL P ops C Q n (listed.setIfInBounds k true) (a.put o.dst v) w):dL P ops C Q (n+1) listed a w:=by
 unfold dL
 rw[hp]
 simp only[ho]
 exact⟨v, .inl ⟨hw,hv⟩,h⟩
theorem dX {n k:Nat}{listed:Array Bool}{a:Act}{w:World}{o:Oper}(hp:DT ops listed=none)(hr:Region.ready .any ops listed=[k])(ho:ops[k]?=some o)(hw:Region.wanted o (yielded ops a.tmps)=true)
 (h: ∀K:Act->World->Prop,(∀a' w',C w'->dL P ops C Q n (listed.setIfInBounds k true) a' w'->K a' w')->o.wp P a w K (iU Q)):dL P ops C Q (n+1) listed a w:=by
 unfold dL
 rw[hp,hr]
 refine⟨by simp,fun j hj=>?_⟩
 obtain rfl:j=k:=by simpa using hj
 refine⟨o,ho,?_⟩
 rw[if_pos hw]
 exact h _ fun a' w' h1 h2=>⟨h1,h2⟩
theorem uy {n i k:Nat}{listed:Array Bool}{a:Act}{w:World}{o o':Oper}(hp:DT ops listed=none)(hr:Region.ready .any ops listed=[i,k])(ho:ops[i]?=some o)(hw:Region.wanted o (yielded ops a.tmps)=true)
 (ho':ops[k]?=some o') (hw':Region.wanted o' (yielded ops a.tmps)=true)
 (h: ∀K:Act->World->Prop,(∀a' w',C w'->dL P ops C Q n (listed.setIfInBounds i true) a' w'->K a' w')->o.wp P a w K (iU Q))
 (h': ∀K:Act->World->Prop,(∀a' w',C w'->dL P ops C Q n (listed.setIfInBounds k true) a' w'->K a' w')->o'.wp P a w K (iU Q)):dL P ops C Q (n+1) listed a w:=by
 unfold dL
 rw[hp,hr]
 refine⟨by simp,fun j hj=>?_⟩
 have hj:j=i\/j=k:=by simpa using hj
 rcases hj with rfl|rfl
 ·refine⟨o,ho,?_⟩
  rw[if_pos hw]
  exact h _ fun a' w' h1 h2=>⟨h1,h2⟩
 ·refine⟨o',ho',?_⟩
  rw[if_pos hw']
  exact h' _ fun a' w' h1 h2=>⟨h1,h2⟩
theorem uz {listed:Array Bool}{a:Act}{w:World}(hl:(List.range ops.size).all (fun k=>listed.getD k true)=true)(hC:C w)(h:Q a w):dL P ops C Q 0 listed a w:=⟨hC,hl,h⟩
end
end
end Go.Proofs.YtopeleenlcnkkaaGreatDoor
