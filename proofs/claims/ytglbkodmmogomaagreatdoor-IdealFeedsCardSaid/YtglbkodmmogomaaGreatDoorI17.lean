/- DERIVED: THE SHELF's CONTRACTS AT THIS DUMP, IN PLAIN WORDS (tools/lay-plain.mjs out of 'YtglbkodmmogomaaGreatDoorShelg.lean', which tools/lay-shelf.mjs wrote): THE SAME DECLARATIONS UNDER THE SAME NAMES: 'import', 'namespace', 'open', 'def', 'theorem' AND NOTHING ELSE: no command of the shelf's: FOR A HAND-IN. Each laying: the table of numbers ('.._ren') and one theorem, a field a fact of the dump's own or the kernel's comparison; each contract: ONE APPLICATION. -/
import Derived.Shelf.Strings.SplitShaped
import Derived.Shelf.Strings.SlTrimAscii
import Derived.Shelf.Strconv.Atoi
import Derived.Test.YtglbkodmmogomaaGreatDoorI16
import Derived.Lib.SmallJoins
set_option linter.unusedVariables false
set_option linter.unusedSimpArgs false
set_option maxHeartbeats 1000000
set_option maxRecDepth 100000
namespace Go.Proofs
open Go.Shelf
def Tryz.splitL_ren:Go.Shelf.Ren:=⟨fun|146=>122|221=>153|268=>180|138=>181|143=>182|195=>216|197=>217|218=>218|219=>219|260=>244|217=>245|225=>246|224=>247|267=>248|266=>264|314=>265|n=>n,fun|9=>9|31=>163|3=>3|4=>4|0=>0|105=>293|21=>21|5=>5|46=>212|119=>333|139=>336|138=>335|146=>337|51=>288|n=>n,fun|1=>0|3=>1|4=>2|n=>n⟩
theorem Tryz.splitL:Go.Proofs.Lays.n146 Tryz.prog Tryz.splitL_ren:={
 mixed:=by kernel_rfl
 f138:=Tryz.func181.trans (congrArg some (by kernel_rfl))
 f143:=Tryz.func182.trans (congrArg some (by kernel_rfl))
 f146:=Tryz.func122.trans (congrArg some (by kernel_rfl))
 f195:=Tryz.func216.trans (congrArg some (by kernel_rfl))
 f197:=Tryz.func217.trans (congrArg some (by kernel_rfl))
 f217:=Tryz.func245.trans (congrArg some (by kernel_rfl))
 f218:=Tryz.func218.trans (congrArg some (by kernel_rfl))
 f219:=Tryz.func219.trans (congrArg some (by kernel_rfl))
 f221:=Tryz.func153.trans (congrArg some (by kernel_rfl))
 f224:=Tryz.func247.trans (congrArg some (by kernel_rfl))
 f225:=Tryz.func246.trans (congrArg some (by kernel_rfl))
 f260:=Tryz.func244.trans (congrArg some (by kernel_rfl))
 f266:=Tryz.func264.trans (congrArg some (by kernel_rfl))
 f267:=Tryz.func248.trans (congrArg some (by kernel_rfl))
 f268:=Tryz.func180.trans (congrArg some (by kernel_rfl))
 f314:=Tryz.func265.trans (congrArg some (by kernel_rfl))
 t0:=Tryz.underlying0
 a0:=Tryz.isAgg0
 z0:=Tryz.sizeOf0
 v0:=Tryz.zeroValue0
 t3:=Tryz.underlying3
 a3:=Tryz.isAgg3
 z3:=Tryz.sizeOf3
 v3:=Tryz.zeroValue3
 t4:=Tryz.underlying4
 a4:=Tryz.isAgg4
 z4:=Tryz.sizeOf4
 v4:=Tryz.zeroValue4
 t5:=Tryz.underlying5
 a5:=Tryz.isAgg5
 z5:=Tryz.sizeOf5
 v5:=Tryz.zeroValue5
 t9:=Tryz.underlying9
 a9:=Tryz.isAgg9
 z9:=Tryz.sizeOf9
 v9:=Tryz.zeroValue9
 t21:=Tryz.underlying21
 a21:=Tryz.isAgg21
 z21:=Tryz.sizeOf21
 v21:=Tryz.zeroValue21
 t31:=Tryz.underlying163
 a31:=Tryz.isAgg163
 z31:=Tryz.sizeOf163
 v31:=Tryz.zeroValue163
 t46:=Tryz.underlying212
 a46:=Tryz.isAgg212
 z46:=Tryz.sizeOf212
 v46:=Tryz.zeroValue212
 t51:=Tryz.underlying288
 a51:=Tryz.isAgg288
 z51:=Tryz.sizeOf288
 v51:=Tryz.zeroValue288
 t105:=Tryz.underlying293
 a105:=Tryz.isAgg293
 z105:=Tryz.sizeOf293
 v105:=Tryz.zeroValue293
 t119:=Tryz.underlying333
 a119:=Tryz.isAgg333
 z119:=Tryz.sizeOf333
 t138:=Tryz.underlying335
 a138:=Tryz.isAgg335
 z138:=Tryz.sizeOf335
 v138:=Tryz.zeroValue335
 t139:=Tryz.underlying336
 a139:=Tryz.isAgg336
 z139:=Tryz.sizeOf336
 v139:=Tryz.zeroValue336
 t146:=Tryz.underlying337
 a146:=Tryz.isAgg337
 z146:=Tryz.sizeOf337
 v146:=Tryz.zeroValue337
 g1:=by kernel_rfl
 g3:=by kernel_rfl
 g4:=by kernel_rfl}
def Tryz.trimL_ren:Go.Shelf.Ren:=⟨fun|160=>154|232=>184|231=>183|227=>185|234=>187|233=>186|236=>189|235=>188|228=>220|271=>222|151=>221|197=>217|120=>250|152=>249|260=>244|137=>266|119=>267|224=>247|225=>246|217=>245|266=>264|n=>n,fun|9=>9|4=>4|3=>3|5=>5|117=>259|116=>258|0=>0|124=>262|21=>21|105=>293|46=>212|119=>333|139=>336|138=>335|n=>n,fun|3=>1|4=>2|n=>n⟩
theorem Tryz.trimL:Go.Proofs.Lays.n160 Tryz.prog Tryz.trimL_ren:={
 mixed:=by kernel_rfl
 f119:=Tryz.func267.trans (congrArg some (by kernel_rfl))
 f120:=Tryz.func250.trans (congrArg some (by kernel_rfl))
 f137:=Tryz.func266.trans (congrArg some (by kernel_rfl))
 f151:=Tryz.func221.trans (congrArg some (by kernel_rfl))
 f152:=Tryz.func249.trans (congrArg some (by kernel_rfl))
 f160:=Tryz.func154.trans (congrArg some (by kernel_rfl))
 f197:=Tryz.func217.trans (congrArg some (by kernel_rfl))
 f217:=Tryz.func245.trans (congrArg some (by kernel_rfl))
 f224:=Tryz.func247.trans (congrArg some (by kernel_rfl))
 f225:=Tryz.func246.trans (congrArg some (by kernel_rfl))
 f227:=Tryz.func185.trans (congrArg some (by kernel_rfl))
 f228:=Tryz.func220.trans (congrArg some (by kernel_rfl))
 f231:=Tryz.func183.trans (congrArg some (by kernel_rfl))
 f232:=Tryz.func184.trans (congrArg some (by kernel_rfl))
 f233:=Tryz.func186.trans (congrArg some (by kernel_rfl))
 f234:=Tryz.func187.trans (congrArg some (by kernel_rfl))
 f235:=Tryz.func188.trans (congrArg some (by kernel_rfl))
 f236:=Tryz.func189.trans (congrArg some (by kernel_rfl))
 f260:=Tryz.func244.trans (congrArg some (by kernel_rfl))
 f266:=Tryz.func264.trans (congrArg some (by kernel_rfl))
 f271:=Tryz.func222.trans (congrArg some (by kernel_rfl))
 t0:=Tryz.underlying0
 a0:=Tryz.isAgg0
 z0:=Tryz.sizeOf0
 v0:=Tryz.zeroValue0
 t3:=Tryz.underlying3
 a3:=Tryz.isAgg3
 z3:=Tryz.sizeOf3
 v3:=Tryz.zeroValue3
 t4:=Tryz.underlying4
 a4:=Tryz.isAgg4
 z4:=Tryz.sizeOf4
 v4:=Tryz.zeroValue4
 t5:=Tryz.underlying5
 a5:=Tryz.isAgg5
 z5:=Tryz.sizeOf5
 v5:=Tryz.zeroValue5
 t9:=Tryz.underlying9
 a9:=Tryz.isAgg9
 z9:=Tryz.sizeOf9
 v9:=Tryz.zeroValue9
 t21:=Tryz.underlying21
 a21:=Tryz.isAgg21
 z21:=Tryz.sizeOf21
 v21:=Tryz.zeroValue21
 t46:=Tryz.underlying212
 a46:=Tryz.isAgg212
 z46:=Tryz.sizeOf212
 v46:=Tryz.zeroValue212
 t105:=Tryz.underlying293
 a105:=Tryz.isAgg293
 z105:=Tryz.sizeOf293
 v105:=Tryz.zeroValue293
 t116:=Tryz.underlying258
 a116:=Tryz.isAgg258
 z116:=Tryz.sizeOf258
 t117:=Tryz.underlying259
 a117:=Tryz.isAgg259
 z117:=Tryz.sizeOf259
 v117:=Tryz.zeroValue259
 t119:=Tryz.underlying333
 a119:=Tryz.isAgg333
 z119:=Tryz.sizeOf333
 t124:=Tryz.underlying262
 a124:=Tryz.isAgg262
 z124:=Tryz.sizeOf262
 v124:=Tryz.zeroValue262
 t138:=Tryz.underlying335
 a138:=Tryz.isAgg335
 z138:=Tryz.sizeOf335
 v138:=Tryz.zeroValue335
 t139:=Tryz.underlying336
 a139:=Tryz.isAgg336
 z139:=Tryz.sizeOf336
 v139:=Tryz.zeroValue336
 g3:=by kernel_rfl
 g4:=by kernel_rfl}
def Tryz.trimLeftL_ren:Go.Shelf.Ren:=⟨fun|161=>161|231=>183|227=>185|233=>186|235=>188|228=>220|197=>217|151=>221|260=>244|152=>249|137=>266|119=>267|224=>247|225=>246|217=>245|266=>264|n=>n,fun|9=>9|4=>4|3=>3|5=>5|117=>259|116=>258|0=>0|124=>262|105=>293|21=>21|119=>333|46=>212|139=>336|138=>335|n=>n,fun|3=>1|4=>2|n=>n⟩
theorem Tryz.trimLeftL:Go.Proofs.Lays.n161 Tryz.prog Tryz.trimLeftL_ren:={
 mixed:=by kernel_rfl
 f119:=Tryz.func267.trans (congrArg some (by kernel_rfl))
 f137:=Tryz.func266.trans (congrArg some (by kernel_rfl))
 f151:=Tryz.func221.trans (congrArg some (by kernel_rfl))
 f152:=Tryz.func249.trans (congrArg some (by kernel_rfl))
 f161:=Tryz.func161.trans (congrArg some (by kernel_rfl))
 f197:=Tryz.func217.trans (congrArg some (by kernel_rfl))
 f217:=Tryz.func245.trans (congrArg some (by kernel_rfl))
 f224:=Tryz.func247.trans (congrArg some (by kernel_rfl))
 f225:=Tryz.func246.trans (congrArg some (by kernel_rfl))
 f227:=Tryz.func185.trans (congrArg some (by kernel_rfl))
 f228:=Tryz.func220.trans (congrArg some (by kernel_rfl))
 f231:=Tryz.func183.trans (congrArg some (by kernel_rfl))
 f233:=Tryz.func186.trans (congrArg some (by kernel_rfl))
 f235:=Tryz.func188.trans (congrArg some (by kernel_rfl))
 f260:=Tryz.func244.trans (congrArg some (by kernel_rfl))
 f266:=Tryz.func264.trans (congrArg some (by kernel_rfl))
 t0:=Tryz.underlying0
 a0:=Tryz.isAgg0
 z0:=Tryz.sizeOf0
 v0:=Tryz.zeroValue0
 t3:=Tryz.underlying3
 a3:=Tryz.isAgg3
 z3:=Tryz.sizeOf3
 v3:=Tryz.zeroValue3
 t4:=Tryz.underlying4
 a4:=Tryz.isAgg4
 z4:=Tryz.sizeOf4
 v4:=Tryz.zeroValue4
 t5:=Tryz.underlying5
 a5:=Tryz.isAgg5
 z5:=Tryz.sizeOf5
 v5:=Tryz.zeroValue5
 t9:=Tryz.underlying9
 a9:=Tryz.isAgg9
 z9:=Tryz.sizeOf9
 v9:=Tryz.zeroValue9
 t21:=Tryz.underlying21
 a21:=Tryz.isAgg21
 z21:=Tryz.sizeOf21
 v21:=Tryz.zeroValue21
 t46:=Tryz.underlying212
 a46:=Tryz.isAgg212
 z46:=Tryz.sizeOf212
 v46:=Tryz.zeroValue212
 t105:=Tryz.underlying293
 a105:=Tryz.isAgg293
 z105:=Tryz.sizeOf293
 v105:=Tryz.zeroValue293
 t116:=Tryz.underlying258
 a116:=Tryz.isAgg258
 z116:=Tryz.sizeOf258
 t117:=Tryz.underlying259
 a117:=Tryz.isAgg259
 z117:=Tryz.sizeOf259
 v117:=Tryz.zeroValue259
 t119:=Tryz.underlying333
 a119:=Tryz.isAgg333
 z119:=Tryz.sizeOf333
 t124:=Tryz.underlying262
 a124:=Tryz.isAgg262
 z124:=Tryz.sizeOf262
 v124:=Tryz.zeroValue262
 t138:=Tryz.underlying335
 a138:=Tryz.isAgg335
 z138:=Tryz.sizeOf335
 v138:=Tryz.zeroValue335
 t139:=Tryz.underlying336
 a139:=Tryz.isAgg336
 z139:=Tryz.sizeOf336
 v139:=Tryz.zeroValue336
 g3:=by kernel_rfl
 g4:=by kernel_rfl}
def Tryz.crL_ren:Go.Shelf.Ren:=⟨fun|151=>221|152=>249|137=>266|119=>267|224=>247|225=>246|217=>245|266=>264|n=>n,fun|9=>9|21=>21|4=>4|3=>3|5=>5|0=>0|46=>212|n=>n,fun|n=>n⟩
theorem Tryz.crL:Go.Proofs.Lays.n151 Tryz.prog Tryz.crL_ren:={
 mixed:=by kernel_rfl
 f119:=Tryz.func267.trans (congrArg some (by kernel_rfl))
 f137:=Tryz.func266.trans (congrArg some (by kernel_rfl))
 f151:=Tryz.func221.trans (congrArg some (by kernel_rfl))
 f152:=Tryz.func249.trans (congrArg some (by kernel_rfl))
 f217:=Tryz.func245.trans (congrArg some (by kernel_rfl))
 f224:=Tryz.func247.trans (congrArg some (by kernel_rfl))
 f225:=Tryz.func246.trans (congrArg some (by kernel_rfl))
 f266:=Tryz.func264.trans (congrArg some (by kernel_rfl))
 t0:=Tryz.underlying0
 a0:=Tryz.isAgg0
 z0:=Tryz.sizeOf0
 v0:=Tryz.zeroValue0
 t3:=Tryz.underlying3
 a3:=Tryz.isAgg3
 z3:=Tryz.sizeOf3
 v3:=Tryz.zeroValue3
 t4:=Tryz.underlying4
 a4:=Tryz.isAgg4
 z4:=Tryz.sizeOf4
 v4:=Tryz.zeroValue4
 t5:=Tryz.underlying5
 a5:=Tryz.isAgg5
 z5:=Tryz.sizeOf5
 v5:=Tryz.zeroValue5
 t9:=Tryz.underlying9
 a9:=Tryz.isAgg9
 z9:=Tryz.sizeOf9
 v9:=Tryz.zeroValue9
 t21:=Tryz.underlying21
 a21:=Tryz.isAgg21
 z21:=Tryz.sizeOf21
 v21:=Tryz.zeroValue21
 t46:=Tryz.underlying212
 a46:=Tryz.isAgg212
 z46:=Tryz.sizeOf212
 v46:=Tryz.zeroValue212}
def Tryz.atoiL_ren:Go.Shelf.Ren:=⟨fun|172=>190|244=>223|245=>224|247=>251|279=>252|280=>253|281=>254|282=>255|287=>268|316=>269|171=>271|205=>270|321=>273|322=>274|243=>275|246=>277|283=>279|284=>280|285=>281|286=>282|129=>209|317=>284|318=>285|319=>286|320=>287|337=>289|338=>290|n=>n,fun|9=>9|3=>3|75=>264|76=>265|4=>4|5=>5|167=>320|37=>220|0=>0|85=>321|2=>2|168=>323|53=>174|175=>339|46=>212|210=>343|127=>347|145=>350|143=>348|21=>21|171=>352|173=>354|212=>357|51=>288|20=>20|213=>358|232=>360|233=>361|80=>149|n=>n,fun|15=>3|16=>4|17=>5|18=>6|19=>7|n=>n⟩
theorem Tryz.atoiL:Go.Proofs.Lays.n172 Tryz.prog Tryz.atoiL_ren:={
 mixed:=by kernel_rfl
 f129:=Tryz.func209.trans (congrArg some (by kernel_rfl))
 f171:=Tryz.func271.trans (congrArg some (by kernel_rfl))
 f172:=Tryz.func190.trans (congrArg some (by kernel_rfl))
 f205:=Tryz.func270.trans (congrArg some (by kernel_rfl))
 f243:=Tryz.func275.trans (congrArg some (by kernel_rfl))
 f244:=Tryz.func223.trans (congrArg some (by kernel_rfl))
 f245:=Tryz.func224.trans (congrArg some (by kernel_rfl))
 f246:=Tryz.func277.trans (congrArg some (by kernel_rfl))
 f247:=Tryz.func251.trans (congrArg some (by kernel_rfl))
 f279:=Tryz.func252.trans (congrArg some (by kernel_rfl))
 f280:=Tryz.func253.trans (congrArg some (by kernel_rfl))
 f281:=Tryz.func254.trans (congrArg some (by kernel_rfl))
 f282:=Tryz.func255.trans (congrArg some (by kernel_rfl))
 f283:=Tryz.func279.trans (congrArg some (by kernel_rfl))
 f284:=Tryz.func280.trans (congrArg some (by kernel_rfl))
 f285:=Tryz.func281.trans (congrArg some (by kernel_rfl))
 f286:=Tryz.func282.trans (congrArg some (by kernel_rfl))
 f287:=Tryz.func268.trans (congrArg some (by kernel_rfl))
 f316:=Tryz.func269.trans (congrArg some (by kernel_rfl))
 f317:=Tryz.func284.trans (congrArg some (by kernel_rfl))
 f318:=Tryz.func285.trans (congrArg some (by kernel_rfl))
 f319:=Tryz.func286.trans (congrArg some (by kernel_rfl))
 f320:=Tryz.func287.trans (congrArg some (by kernel_rfl))
 f321:=Tryz.func273.trans (congrArg some (by kernel_rfl))
 f322:=Tryz.func274.trans (congrArg some (by kernel_rfl))
 f337:=Tryz.func289.trans (congrArg some (by kernel_rfl))
 f338:=Tryz.func290.trans (congrArg some (by kernel_rfl))
 t0:=Tryz.underlying0
 a0:=Tryz.isAgg0
 z0:=Tryz.sizeOf0
 v0:=Tryz.zeroValue0
 t2:=Tryz.underlying2
 a2:=Tryz.isAgg2
 z2:=Tryz.sizeOf2
 v2:=Tryz.zeroValue2
 t3:=Tryz.underlying3
 a3:=Tryz.isAgg3
 z3:=Tryz.sizeOf3
 v3:=Tryz.zeroValue3
 t4:=Tryz.underlying4
 a4:=Tryz.isAgg4
 z4:=Tryz.sizeOf4
 v4:=Tryz.zeroValue4
 t5:=Tryz.underlying5
 a5:=Tryz.isAgg5
 z5:=Tryz.sizeOf5
 v5:=Tryz.zeroValue5
 t9:=Tryz.underlying9
 a9:=Tryz.isAgg9
 z9:=Tryz.sizeOf9
 v9:=Tryz.zeroValue9
 t20:=Tryz.underlying20
 a20:=Tryz.isAgg20
 z20:=Tryz.sizeOf20
 v20:=Tryz.zeroValue20
 t21:=Tryz.underlying21
 a21:=Tryz.isAgg21
 z21:=Tryz.sizeOf21
 v21:=Tryz.zeroValue21
 t37:=Tryz.underlying220
 a37:=Tryz.isAgg220
 z37:=Tryz.sizeOf220
 v37:=Tryz.zeroValue220
 t46:=Tryz.underlying212
 a46:=Tryz.isAgg212
 z46:=Tryz.sizeOf212
 v46:=Tryz.zeroValue212
 t51:=Tryz.underlying288
 a51:=Tryz.isAgg288
 z51:=Tryz.sizeOf288
 v51:=Tryz.zeroValue288
 t53:=Tryz.underlying174
 a53:=Tryz.isAgg174
 z53:=Tryz.sizeOf174
 v53:=Tryz.zeroValue174
 t75:=Tryz.underlying264
 a75:=Tryz.isAgg264
 z75:=Tryz.sizeOf264
 v75:=Tryz.zeroValue264
 t76:=Tryz.underlying265
 a76:=Tryz.isAgg265
 z76:=Tryz.sizeOf265
 v76:=Tryz.zeroValue265
 t85:=Tryz.underlying321
 a85:=Tryz.isAgg321
 z85:=Tryz.sizeOf321
 v85:=Tryz.zeroValue321
 t127:=Tryz.underlying347
 a127:=Tryz.isAgg347
 z127:=Tryz.sizeOf347
 v127:=Tryz.zeroValue347
 t143:=Tryz.underlying348
 a143:=Tryz.isAgg348
 z143:=Tryz.sizeOf348
 v143:=Tryz.zeroValue348
 t145:=Tryz.underlying350
 a145:=Tryz.isAgg350
 z145:=Tryz.sizeOf350
 v145:=Tryz.zeroValue350
 t167:=Tryz.underlying320
 a167:=Tryz.isAgg320
 z167:=Tryz.sizeOf320
 v167:=Tryz.zeroValue320
 t168:=Tryz.underlying323
 a168:=Tryz.isAgg323
 z168:=Tryz.sizeOf323
 v168:=Tryz.zeroValue323
 t171:=Tryz.underlying352
 a171:=Tryz.isAgg352
 z171:=Tryz.sizeOf352
 v171:=Tryz.zeroValue352
 t173:=Tryz.underlying354
 a173:=Tryz.isAgg354
 z173:=Tryz.sizeOf354
 v173:=Tryz.zeroValue354
 t175:=Tryz.underlying339
 a175:=Tryz.isAgg339
 z175:=Tryz.sizeOf339
 v175:=Tryz.zeroValue339
 t210:=Tryz.underlying343
 a210:=Tryz.isAgg343
 z210:=Tryz.sizeOf343
 v210:=Tryz.zeroValue343
 t212:=Tryz.underlying357
 a212:=Tryz.isAgg357
 z212:=Tryz.sizeOf357
 v212:=Tryz.zeroValue357
 t213:=Tryz.underlying358
 a213:=Tryz.isAgg358
 z213:=Tryz.sizeOf358
 t232:=Tryz.underlying360
 a232:=Tryz.isAgg360
 z232:=Tryz.sizeOf360
 v232:=Tryz.zeroValue360
 t233:=Tryz.underlying361
 a233:=Tryz.isAgg361
 z233:=Tryz.sizeOf361
 v233:=Tryz.zeroValue361
 g15:=by kernel_rfl
 g16:=by kernel_rfl
 g17:=by kernel_rfl
 g18:=by kernel_rfl
 g19:=by kernel_rfl}
end Go.Proofs
namespace Go.Proofs.YtglbkodmmogomaaGreatDoor
section
open Go Go.RowKit
attribute [local irreducible] cZ
theorem Gh (w:World)(e:TypeId)(s:ByteArray):ε η w (Lib.bytesWorld w e s):=
 .of_below (Joins.below_bytesWorld _ w e s (ξ _))
def O6 (s:ByteArray)(most:Nat):Option Int:=if(runes s).all (fun p=>GU p.2)=true/\0<s.size/\s.size<=most/\s.size<=18 then Lib.atoi s.data.toList else none
theorem RJ (s:ByteArray)(most:Nat)(hm:most<=1000)(n:Int)(hok:O6 s most=some n)(w:World):Calls Tryz.prog 157 #[.string s,.int .i64 (most:Int)] w (Gives w (.tuple #[.int .i64 n,.bool true])):=by
 obtain⟨w0,hrun,hit,hk0,hs0⟩:=jQ (P:=Tryz.prog) w 9 s Tryz.underlying9;have hlen:=iM s;unfold O6 at hok;have hc:(runes s).all (fun p=>GU p.2)=true/\0<s.size/\s.size<=most/\s.size<=18:=by
  by_cases h:(runes s).all (fun p=>GU p.2)=true/\0<s.size/\s.size<=most/\s.size<=18
  ·exact h
  ·rw[if_neg h]at hok;cases hok
 rw[if_pos hc]at hok;obtain⟨h1,h2,h3,h4⟩:=hc;have hne: ¬s=ByteArray.empty:=fun e=>(by rw[e]at h2;exact absurd h2 (by decide));have hst:s.toList.isEmpty=false:=by
  have h0:(s.toList==ByteArray.empty.toList)=false:=(by rw[<-beq_toListBytes,CP];exact decide_eq_false hne);have h1:ByteArray.empty.toList=[]:=(by simp[ByteArray.toList,ByteArray.toList.loop]);rw[h1]at h0
  cases hl:s.toList with
  |nil=>rw[hl]at h0;cases h0
  |cons b l=>rfl
 have hgt: ¬(most<s.size):=(by omega);have ca: ∀W,Calls Tryz.prog 190 #[.string s] W fun e w'=>e= .returned (.tuple #[.int .i64 n,.nilIface])/\ ∃t,w'=Lib.bytesWorld W 5 t:=fun W=>Any.strconv_Atoi Tryz.atoiL s n h4 hok W;have H:=γ (θ hit (θ hk0 (List.all_eq_true.1 h1)));clear hit hk0 hs0 h1 hok hne;go_enter Tryz.func157,Tryz.ntmps157;go_wp2;go_loopg [5] (runes s).length (fun k i wr=> ∃left,mF wr w.heap.size s left/\left.length=k/\(∀q∈left,q∈runes s)/\i= .bool false/\ε η w wr)
 case atStart=>exact⟨runes s,H.o.1,rfl,fun q h=>h,rfl,H.o.2.1⟩
 case round=>
  obtain⟨left,hit,hk,hall,rfl,hk1⟩:=hrel
  rcases hit.next (P:=Tryz.prog) 0 with⟨rfl,hrun⟩|⟨p,left',w2,hp,hrun,hit2,hk2,hs2⟩
  ·clear hit
   have KK:=γ hk1;clear hk1 hall hk;have ca:=ca wr;go_wp2_with fail;(with_reducible refine ca.mono ?_);rintro e w2 ⟨rfl,t,hw2⟩;have k2:ε η wr w2:=(by rw[hw2];exact Gh _ _ _);have F:=γ (show Gives w (.tuple #[.int .i64 n,.bool true]) (.returned (.tuple #[.int .i64 n,.bool true])) w2 from⟨rfl,KK.o.trans k2⟩);clear k2 hw2;go_wp2_with fail;go_ret2;exact F.o
  ·clear hit
   have hin:=hall p (by rw[hp];simp);have hd:=H.o.2.2 p hin;have hpp:=(EF hin).2;unfold GU at hd;simp only[Φ,decide_eq_true_eq]at hd;have b1: ¬(p.2:Int)<48:=(by omega);have b2: ¬(57:Int)<(p.2:Int):=(by omega);have hk3:ε η w w2:=hk1.new hk2 (fun i hi e=>by unfold one at e;omega);have hm:left'.length<gk:=(by rw[hp]at hk;simp at hk;omega);have G:=γ (θ hit2 (θ hk3 (θ (show∀q∈left',q∈runes s from fun q hq=>hall q (by rw[hp];simp[hq])) hm)));clear hit2 hk3 hm hp hk2 hs2 hall hd hin hk hk1;go_wp2_with fail;go_roundg left'.length
   case rel=>exact⟨left',G.o.1,rfl,G.o.2.2.1,rfl,G.o.2.1⟩
   case measure=>exact G.o.2.2.2
def rP (s:ByteArray):Bool:=(Lib.trimS s.data.toList [32,9]).isEmpty||(match s.data.toList with|b::_=>b==35|[]=>false)
theorem FI (s:ByteArray)(hs:s.size<=maxLen)(w:World):Calls Tryz.prog 123 #[.string s] w (Gives w (.bool (rP s))):=by
 have ct:Calls Tryz.prog 154 #[.string s,.string ⟨#[32,9]⟩] w fun e w'=>e= .returned (.string ⟨(Lib.trimS s.data.toList [32,9]).toArray⟩)/\Below w.heap.size w w':=
  Any.strings_Trim_laid Tryz.trimL (by kernel_rfl) s ⟨#[32,9]⟩ w (by unfold maxLen at hs;omega) (by decide) (ascii_of_all (by decide))
 obtain⟨tl,htl⟩: ∃tl,Lib.trimS s.data.toList [32,9]=tl:=⟨_,rfl⟩;rw[htl]at ct
 cases htE:tl.isEmpty with
 |true=>have hsp:rP s=true:=(by unfold rP;rw[htl,htE];rfl);rw[hsp];clear htl hsp;go_enter Tryz.func123,Tryz.ntmps123;go_wp2_with fail;(with_reducible refine ct.mono ?_);rintro e w2 ⟨rfl,k2⟩;have F:=γ (ε.of_below (S:=η) k2);clear k2 ct;go_wp2_with fail;go_ret;exact⟨rfl,F.o⟩
 |false=>
  obtain⟨b,l,hbl⟩: ∃b l,s.data.toList=b::l:=by
   cases hd:s.data.toList with
   |nil=>rw[hd]at htl;have:tl=[]:=(by rw[<-htl];decide);rw[this]at htE;cases htE
   |cons b l=>exact⟨b,l,rfl⟩
  have hsp:rP s=(b==35):=(by unfold rP;rw[htl,htE,hbl];rfl);rw[hsp];have hsz:0<s.size:=(by have h1:s.size=s.data.toList.length:=(by rw[Array.length_toList];rfl);rw[h1,hbl];exact Nat.succ_pos _);have hb0:s[0]'hsz=b:=(by show s.data[0]'_=b;have h2:s.data.toList[0]?=some b:=(by rw[hbl];rfl);rw[Array.getElem?_toList]at h2;exact(κ.1 h2).2);have HB:=γ hb0;have ahZ:(((b.toNat:Nat):Int)==35)=(b==35):=by
   rw[Bool.eq_iff_iff];simp only[beq_iff_eq];constructor
   ·intro h
    have h1:b.toNat=35:=(by omega);exact UInt8.toNat_inj.1 h1
   ·intro h;rw[h];rfl
  clear htl hsp hbl hb0;go_enter Tryz.func123,Tryz.ntmps123;go_wp2_with fail;(with_reducible refine ct.mono ?_);rintro e w2 ⟨rfl,k2⟩;have F:=γ (ε.of_below (S:=η) k2);clear k2 ct;go_wp2_with fail;go_ret;refine⟨qM ?_,F.o⟩;rw[HB.o];exact ahZ
theorem Qq {nodes:List JN}{uid:ByteArray}{k:Nat}{d:JN}(hd:nodes[k]?=some d)(hu:d.uid=uid)(hp: ∀m e,m<k->nodes[m]?=some e->e.uid≠uid):bP nodes uid=(k:Int):=by have h:nodes.findIdx? (fun d=>decide (d.uid=uid))=some k:=(by rw[List.findIdx?_eq_some_iff_getElem];obtain⟨hk,e⟩:=μ.1 hd;refine⟨hk,by rw[e];exact decide_eq_true hu,fun j hj=>?_⟩;have:=hp j _ hj (ι (by omega));simpa using this);unfold bP;rw[h]
theorem Qp {nodes:List JN}{uid:ByteArray}(hp: ∀m e,m<nodes.length->nodes[m]?=some e->e.uid≠uid):bP nodes uid= -1:=by have h:nodes.findIdx? (fun d=>decide (d.uid=uid))=none:=(by rw[List.findIdx?_eq_none_iff];intro x hx;obtain⟨m,hm⟩:=List.getElem?_of_mem hx;exact decide_eq_false (hp m x (μ.1 hm).1 hm));unfold bP;rw[h]
theorem Ze (d:JN)(a:Array Value)(uid:ByteArray)(B:Nat)(w:World)(h:nO w a d)(hc:w.cell? ⟨B,0,none⟩=some (.string uid)):
 Calls Tryz.prog 92 #[.agg a,.pointer (some ⟨B,0,none⟩)] w (Gives w (.bool (decide (d.uid=uid)))):=by
 obtain⟨pi,ci,p,cap,rfl,_⟩:=h;have kA:ε η w (w.alloc (.cells (bG d pi ci p cap) 42)):=δ.alloc _;have c1:=kA.cell (p:=⟨B,0,none⟩) id hc;have HS:=γ (str_eq d.uid uid);go_enter Tryz.func92,Tryz.ntmps92;go_wp2_with fail;go_ret;exact⟨by first|exact bK HS.o|exact qM rfl|rfl,kA⟩
theorem Zd (nodes:List JN)(v:Value)(uid:ByteArray)(B:Nat)(w:World)(h:gI w v nodes)(hc:w.cell? ⟨B,0,none⟩=some (.string uid)):
 Calls Tryz.prog 91 #[v,.func (.func 92) #[] #[.pointer (some ⟨B,0,none⟩)]] w (Gives w (.int .i64 (bP nodes uid))):=by
 obtain⟨na,cap,rfl,h1,h2,h3⟩:=h.at;unfold maxLen at h2;have H3:=γ (θ h3 hc);clear h3 h hc;go_enter Tryz.func91,Tryz.ntmps91;go_wp2_with fail;go_loopg [8] nodes.length (fun g vi wr=> ∃k:Nat,k<=nodes.length/\vi= .int .i64 (k:Int)/\nodes.length-k<=g/\ε η w wr/\ ∀m e,m<k->nodes[m]?=some e->e.uid≠uid)
 case atStart=>exact⟨0,by omega,rfl,by omega,ε.refl _ _,fun m e hm=>by omega⟩
 case round=>
  obtain⟨k,hk,rfl,hg,hkp,hno⟩:=hrel;by_cases hlt:k<nodes.length
  ·obtain⟨d,hd⟩: ∃d,nodes[k]?=some d:=⟨_,ι hlt⟩
   obtain⟨b,off,pi,ci,p,cap',rfl,hcc,hj⟩:=H3.o.1 k d hd;obtain⟨c0,c1,c2,c3,c4,c5,c6⟩:=hcc.kept hkp id;have cc:=Ze d _ uid B wr (hj.pure hkp) (hkp.cell id H3.o.2);have G:=γ (θ hg (θ hkp (θ hd hno)));clear hg hkp hd hno hj hcc H3;by_cases hu:d.uid=uid
   ·rw[decide_eq_true hu]at cc
    have F:=γ (Qq G.o.2.2.1 hu G.o.2.2.2);clear hu;go_wp2_with (go_at_call 92;refine cc.mono ?_;rintro e w2 ⟨rfl,k2⟩);go_ret;exact⟨gW F.o.symm,G.o.2.1.trans k2⟩
   ·rw[decide_eq_false hu]at cc
    have F:=γ (show∀m e,m<k+1->nodes[m]?=some e->e.uid≠uid from fun m e hm he=>by
     by_cases h:m<k
     ·exact G.o.2.2.2 m e h he
     ·have e1:m=k:=by omega
      subst e1;rw[G.o.2.2.1]at he
      injection he with he
      rw[<-he];exact hu)
    clear hu;go_wp2_with (go_at_call 92;refine cc.mono ?_;rintro e w2 ⟨rfl,k2⟩);go_roundg (nodes.length-(k+1))
    case rel=>exact⟨k+1,by omega,by go_num,ξ _,G.o.2.1.trans k2,F.o⟩
    case measure=>have:=G.o.1;omega
  ·have e1:k=nodes.length:=by omega
   subst e1;have F:=γ (θ (Qp hno) hkp);clear hno hkp;go_wp2_with fail;go_ret;exact⟨gW F.o.1.symm,F.o.2⟩
theorem Qo (j:Jb)(a:Array Value)(uid:ByteArray)(w:World)(h:lK w a j):Calls Tryz.prog 43 #[.agg a,.string uid] w (Gives w (.int .i64 (bP j.nodes uid))):=by obtain⟨v,rfl,hn,hp⟩:=h;obtain⟨na,cap,rfl,h1,h2,h3⟩:=hn.at;have kA:ε η w ((w.alloc (.cells #[.int .i64 j.par,.slice na j.nodes.length cap] 24)).alloc (.cells #[.string uid] 9)):=(δ.alloc _).alloc _;have hB:((w.alloc (.cells #[.int .i64 j.par,.slice na j.nodes.length cap] 24)).alloc (.cells #[.string uid] 9)).cell? ⟨w.heap.size+1,0,none⟩=some (.string uid):=(by simp);have cc:=Zd j.nodes _ uid (w.heap.size+1) _ (hn.pure kA) hB;have K:=γ kA;clear h3 hn hp kA hB h2;go_enter Tryz.func43,Tryz.ntmps43;go_wp2_with fail;refine cc.mono ?_;rintro e w2 ⟨rfl,k2⟩;go_wp2_with fail;go_ret;exact⟨rfl,K.o.trans k2⟩
end
section
open Go
section
variable {P:Program} {ops:Array Oper} {C:World->Prop} {Q:Act->World->Prop}
def Kr (ops:Array Oper)(listed:Array Bool):Option Nat:=
 (List.range ops.size).find? fun k=>xK ops k&&(Region.ready .any ops listed).contains k&&Region.free .any ops listed k
def iC (P:Program)(ops:Array Oper)(C:World->Prop)(Q:Act->World->Prop):Nat->Array Bool->Act->World->Prop
 |0,listed,a,w=>C w/\(List.range ops.size).all (fun k=>listed.getD k true)=true/\Q a w
 |n+1,listed,a,w=>
  match Kr ops listed with
  |some k=>match ops[k]? with
   |none=>False
   |some o=> ∃v,(Region.wanted o (yielded ops a.tmps)=true/\(∀w',C w'->(execOp a.eval o).run P w'= .ok (.value v) w')\/Region.wanted o (yielded ops a.tmps)=false/\v=undef)/\iC P ops C Q n (listed.setIfInBounds k true) (a.put o.dst v) w
  |none=>Region.ready .any ops listed≠[]/\ ∀k∈Region.ready .any ops listed,∃o,ops[k]?=some o/\
    (if Region.wanted o (yielded ops a.tmps)=true then o.wp P a w (fun a' w'=>C w'/\iC P ops C Q n (listed.setIfInBounds k true) a' w') (lu Q)
     else iC P ops C Q n (listed.setIfInBounds k true) (a.put o.dst undef) w)
theorem uT (hs:Region.noSelect ops=true): ∀(n:Nat)(listed:Array Bool)(a:Act)(w:World),C w->iC P ops C Q n listed a w->yX P .any ops C false Q n listed a w
 |0,listed,a,w,hC,h=>by refine⟨fun _=>hC,fun k o hk=>?_,h.2.2⟩;have:=h.2.1;simp only[List.all_eq_true,List.mem_range]at this;exact this k (κ.1 hk).1
 |n+1,listed,a,w,hC,h=>by
  unfold iC at h;split at h
  ·rename_i k hk
   have hk2:=List.find?_some hk;simp only[Φ]at hk2;split at h
   ·exact h.elim
   ·rename_i o hok
    obtain⟨v,hv,hn⟩:=h;have hr:k∈Region.ready .any ops listed:=(by simpa using hk2.1.2);exact wR hok (Region.noSelect_spec hs) n listed a w (Region.free_spec hok hk2.2) hC (fun hb=>by cases hb) hr hv (uT hs n _ _ w hC hn)
  ·refine⟨hC,fun h0=>absurd h0 h.1,fun k hk=>?_⟩
   obtain⟨o,hok,h2⟩:=h.2 k hk;unfold wpOp;simp only[hok];by_cases hw:Region.wanted o (yielded ops a.tmps)=true
   ·simp only[hw,if_true]at h2⊢
    exact .inl (Oper.wp_mono (fun a' w' h'=>uT hs n _ a' w' h'.1 h'.2) h2)
   ·simp only[hw]at h2⊢
    exact uT hs n _ _ w hC h2
theorem uq {id:Nat}{Q:Exit->Act->World->Prop}{a:Act}{w:World}(C:World->Prop)(hm:P.follows .mixedOrders=true)(hs:Region.noSelect ops=true)
 (hC:C w.drew) (h:iC P ops C (Q .normal) ops.size (Array.replicate ops.size false) a w.drew):(Code.region id ops true).wp P Q a w:=
 wp_region_any hm (zF (C:=C) (bar:=false) (Q:=Q .normal) (fun _ _ h=>h) _ _ _ _ (uT hs _ _ _ _ hC h))
theorem bZ {n k:Nat}{listed:Array Bool}{a:Act}{w:World}{o:Oper}{v:Value}(hp:Kr ops listed=some k)(ho:ops[k]?=some o)(hw:Region.wanted o (yielded ops a.tmps)=true)
 (hv: ∀w',C w'->(execOp a.eval o).run P w'= .ok (.value v) w') (h:iC P ops C Q n (listed.setIfInBounds k true) (a.put o.dst v) w):iC P ops C Q (n+1) listed a w:=by
 unfold iC;rw[hp];simp only[ho];exact⟨v,.inl ⟨hw,hv⟩,h⟩
theorem fK {n k:Nat}{listed:Array Bool}{a:Act}{w:World}{o:Oper}(hp:Kr ops listed=none)(hr:Region.ready .any ops listed=[k])(ho:ops[k]?=some o)(hw:Region.wanted o (yielded ops a.tmps)=true)
 (h: ∀K:Act->World->Prop,(∀a' w',C w'->iC P ops C Q n (listed.setIfInBounds k true) a' w'->K a' w')->o.wp P a w K (lu Q)):iC P ops C Q (n+1) listed a w:=by
 unfold iC;rw[hp,hr];refine⟨by simp,fun j hj=>?_⟩;obtain rfl:j=k:=(by simpa using hj);refine⟨o,ho,?_⟩;rw[if_pos hw];exact h _ fun a' w' h1 h2=>⟨h1,h2⟩
theorem zB {n i k:Nat}{listed:Array Bool}{a:Act}{w:World}{o o':Oper}(hp:Kr ops listed=none)(hr:Region.ready .any ops listed=[i,k])(ho:ops[i]?=some o)(hw:Region.wanted o (yielded ops a.tmps)=true)
 (ho':ops[k]?=some o') (hw':Region.wanted o' (yielded ops a.tmps)=true)
 (h: ∀K:Act->World->Prop,(∀a' w',C w'->iC P ops C Q n (listed.setIfInBounds i true) a' w'->K a' w')->o.wp P a w K (lu Q))
 (h': ∀K:Act->World->Prop,(∀a' w',C w'->iC P ops C Q n (listed.setIfInBounds k true) a' w'->K a' w')->o'.wp P a w K (lu Q)):iC P ops C Q (n+1) listed a w:=by
 unfold iC;rw[hp,hr];refine⟨by simp,fun j hj=>?_⟩;have hj:j=i\/j=k:=by simpa using hj
 rcases hj with rfl|rfl
 ·refine⟨o,ho,?_⟩
  rw[if_pos hw];exact h _ fun a' w' h1 h2=>⟨h1,h2⟩
 ·refine⟨o',ho',?_⟩
  rw[if_pos hw'];exact h' _ fun a' w' h1 h2=>⟨h1,h2⟩
theorem wQ {listed:Array Bool}{a:Act}{w:World}(hl:(List.range ops.size).all (fun k=>listed.getD k true)=true)(hC:C w)(h:Q a w):iC P ops C Q 0 listed a w:=⟨hC,hl,h⟩
end
end
