/-
  DERIVED: THE SHELF's CONTRACTS AT THIS DUMP, IN PLAIN WORDS (tools/lay-plain.mjs out of 'YtcfncbnloaiifaaGreatDoorShelf.lean', which tools/lay-shelf.mjs wrote): THE SAME DECLARATIONS UNDER THE SAME NAMES: 'import', 'namespace', 'open', 'def', 'theorem' AND NOTHING ELSE: no command of the shelf's: FOR A HAND-IN. Each laying: the table of numbers ('.._ren') and one theorem, a field a fact of the dump's own or the kernel's comparison; each contract: ONE APPLICATION.
-/
import Derived.Test.YtcfncbnloaiifaaGreatDoorProg
import Derived.Shelf.SlGeneric
import Derived.Shelf.SlIterI.Collect
import Derived.Shelf.SlIterI.Keys
import Derived.Shelf.SlIterI.Nil
import Derived.Shelf.SlSortCmp.Whole1
import Derived.Shelf.SlSortCmp.NoneTotal
import Derived.Ground.GgzProg
import Derived.Ground.SlsfProg
namespace Go.Proofs
open Go.Shelf
def Tryz.keysL_ren : Go.Shelf.Ren := ⟨fun | 7 => 141 | 10 => 216 | n => n, fun | 23 => 129 | 26 => 2 | 3 => 126 | 28 => 228 | 0 => 0 | 27 => 227 | 33 => 209 | 4 => 4 | n => n, fun | n => n⟩
theorem Tryz.keysL : Go.Proofs.SlLaysZI.n7 Tryz.prog Tryz.keysL_ren := {
  mixed := by kernel_rfl
  f7 := ⟨Tryz.f141.name, by decide, Tryz.func141.trans (congrArg some (by kernel_rfl))⟩
  f10 := ⟨Tryz.f216.name, by decide, Tryz.func216.trans (congrArg some (by kernel_rfl))⟩
  t0 := Tryz.underlying0
  a0 := Tryz.isAgg0
  z0 := Tryz.sizeOf0
  v0 := Tryz.zeroValue0
  t4 := Tryz.underlying4
  a4 := Tryz.isAgg4
  z4 := Tryz.sizeOf4
  v4 := Tryz.zeroValue4
  t23 := Tryz.underlying129
  a23 := Tryz.isAgg129
  z23 := Tryz.sizeOf129
  v23 := Tryz.zeroValue129
  t26 := Tryz.underlying2
  a26 := Tryz.isAgg2
  z26 := Tryz.sizeOf2
  v26 := Tryz.zeroValue2
  t27 := Tryz.underlying227
  a27 := Tryz.isAgg227
  z27 := Tryz.sizeOf227
  v27 := Tryz.zeroValue227
  t28 := Tryz.underlying228
  a28 := Tryz.isAgg228
  z28 := Tryz.sizeOf228
  v28 := Tryz.zeroValue228
  t33 := Tryz.underlying209
  a33 := Tryz.isAgg209
  z33 := Tryz.sizeOf209
  v33 := Tryz.zeroValue209 }
def Tryz.collectL_ren : Go.Shelf.Ren := ⟨fun | 8 => 214 | 11 => 272 | n => n, fun | 26 => 2 | 28 => 228 | 24 => 123 | 0 => 0 | 33 => 209 | 4 => 4 | n => n, fun | n => n⟩
theorem Tryz.collectL : Go.Proofs.SlLaysZI.n8 Tryz.prog Tryz.collectL_ren := {
  mixed := by kernel_rfl
  f8 := ⟨Tryz.f214.name, by decide, Tryz.func214.trans (congrArg some (by kernel_rfl))⟩
  f11 := ⟨Tryz.f272.name, by decide, Tryz.func272.trans (congrArg some (by kernel_rfl))⟩
  t0 := Tryz.underlying0
  a0 := Tryz.isAgg0
  z0 := Tryz.sizeOf0
  v0 := Tryz.zeroValue0
  t24 := Tryz.underlying123
  a24 := Tryz.isAgg123
  z24 := Tryz.sizeOf123
  v24 := Tryz.zeroValue123
  t26 := Tryz.underlying2
  a26 := Tryz.isAgg2
  z26 := Tryz.sizeOf2
  v26 := Tryz.zeroValue2
  t28 := Tryz.underlying228
  a28 := Tryz.isAgg228
  z28 := Tryz.sizeOf228
  v28 := Tryz.zeroValue228
  i26 := by kernel_rfl }
def Tryz.keys1L_ren : Go.Shelf.Ren := ⟨fun | 10 => 216 | n => n, fun | 33 => 209 | 23 => 129 | 0 => 0 | 4 => 4 | 26 => 2 | 3 => 126 | n => n, fun | n => n⟩
theorem Tryz.keys1L : Go.Proofs.SlLaysZI.n10 Tryz.prog Tryz.keys1L_ren := {
  mixed := by kernel_rfl
  f10 := ⟨Tryz.f216.name, by decide, Tryz.func216.trans (congrArg some (by kernel_rfl))⟩
  t0 := Tryz.underlying0
  a0 := Tryz.isAgg0
  z0 := Tryz.sizeOf0
  v0 := Tryz.zeroValue0
  t4 := Tryz.underlying4
  a4 := Tryz.isAgg4
  z4 := Tryz.sizeOf4
  v4 := Tryz.zeroValue4
  t23 := Tryz.underlying129
  a23 := Tryz.isAgg129
  z23 := Tryz.sizeOf129
  v23 := Tryz.zeroValue129
  t26 := Tryz.underlying2
  a26 := Tryz.isAgg2
  z26 := Tryz.sizeOf2
  v26 := Tryz.zeroValue2
  t33 := Tryz.underlying209
  a33 := Tryz.isAgg209
  z33 := Tryz.sizeOf209
  v33 := Tryz.zeroValue209 }
def Tryz.sortL_ren : Go.Shelf.Ren := ⟨fun | 6 => 215 | 15 => 274 | 14 => 273 | 28 => 320 | 29 => 321 | 20 => 312 | 21 => 313 | 22 => 314 | 23 => 315 | 24 => 316 | 25 => 317 | 26 => 318 | 27 => 319 | 46 => 344 | 47 => 345 | 48 => 346 | 49 => 347 | 50 => 348 | 57 => 362 | n => n, fun | 22 => 123 | 24 => 2 | 25 => 211 | 3 => 3 | 39 => 313 | 0 => 0 | 53 => 401 | 55 => 311 | 4 => 4 | 46 => 430 | 45 => 429 | 50 => 298 | 5 => 5 | 9 => 9 | 66 => 456 | 70 => 460 | 76 => 479 | 77 => 480 | n => n, fun | n => n⟩
theorem Tryz.sortL : Go.Proofs.SlLaysF.n6 Tryz.prog Tryz.sortL_ren := {
  mixed := by kernel_rfl
  f6 := ⟨Tryz.f215.name, by decide, Tryz.func215.trans (congrArg some (by kernel_rfl))⟩
  f14 := ⟨Tryz.f273.name, by decide, Tryz.func273.trans (congrArg some (by kernel_rfl))⟩
  f15 := Tryz.func274.trans (congrArg some (by kernel_rfl))
  f20 := ⟨Tryz.f312.name, by decide, Tryz.func312.trans (congrArg some (by kernel_rfl))⟩
  f21 := ⟨Tryz.f313.name, by decide, Tryz.func313.trans (congrArg some (by kernel_rfl))⟩
  f22 := ⟨Tryz.f314.name, by decide, Tryz.func314.trans (congrArg some (by kernel_rfl))⟩
  f23 := ⟨Tryz.f315.name, by decide, Tryz.func315.trans (congrArg some (by kernel_rfl))⟩
  f24 := ⟨Tryz.f316.name, by decide, Tryz.func316.trans (congrArg some (by kernel_rfl))⟩
  f25 := ⟨Tryz.f317.name, by decide, Tryz.func317.trans (congrArg some (by kernel_rfl))⟩
  f26 := ⟨Tryz.f318.name, by decide, Tryz.func318.trans (congrArg some (by kernel_rfl))⟩
  f27 := ⟨Tryz.f319.name, by decide, Tryz.func319.trans (congrArg some (by kernel_rfl))⟩
  f28 := Tryz.func320.trans (congrArg some (by kernel_rfl))
  f29 := Tryz.func321.trans (congrArg some (by kernel_rfl))
  f46 := ⟨Tryz.f344.name, by decide, Tryz.func344.trans (congrArg some (by kernel_rfl))⟩
  f47 := Tryz.func345.trans (congrArg some (by kernel_rfl))
  f48 := Tryz.func346.trans (congrArg some (by kernel_rfl))
  f49 := ⟨Tryz.f347.name, by decide, Tryz.func347.trans (congrArg some (by kernel_rfl))⟩
  f50 := ⟨Tryz.f348.name, by decide, Tryz.func348.trans (congrArg some (by kernel_rfl))⟩
  f57 := ⟨Tryz.f362.name, by decide, Tryz.func362.trans (congrArg some (by kernel_rfl))⟩
  t0 := Tryz.underlying0
  a0 := Tryz.isAgg0
  z0 := Tryz.sizeOf0
  v0 := Tryz.zeroValue0
  t3 := Tryz.underlying3
  a3 := Tryz.isAgg3
  z3 := Tryz.sizeOf3
  v3 := Tryz.zeroValue3
  t4 := Tryz.underlying4
  a4 := Tryz.isAgg4
  z4 := Tryz.sizeOf4
  v4 := Tryz.zeroValue4
  t5 := Tryz.underlying5
  a5 := Tryz.isAgg5
  z5 := Tryz.sizeOf5
  v5 := Tryz.zeroValue5
  t9 := Tryz.underlying9
  a9 := Tryz.isAgg9
  z9 := Tryz.sizeOf9
  v9 := Tryz.zeroValue9
  t22 := Tryz.underlying123
  a22 := Tryz.isAgg123
  z22 := Tryz.sizeOf123
  v22 := Tryz.zeroValue123
  a24 := Tryz.isAgg2
  z24 := Tryz.sizeOf2
  t25 := Tryz.underlying211
  a25 := Tryz.isAgg211
  z25 := Tryz.sizeOf211
  v25 := Tryz.zeroValue211
  t39 := Tryz.underlying313
  a39 := Tryz.isAgg313
  z39 := Tryz.sizeOf313
  v39 := Tryz.zeroValue313
  t45 := Tryz.underlying429
  a45 := Tryz.isAgg429
  z45 := Tryz.sizeOf429
  v45 := Tryz.zeroValue429
  t46 := Tryz.underlying430
  a46 := Tryz.isAgg430
  z46 := Tryz.sizeOf430
  v46 := Tryz.zeroValue430
  t50 := Tryz.underlying298
  a50 := Tryz.isAgg298
  z50 := Tryz.sizeOf298
  v50 := Tryz.zeroValue298
  t53 := Tryz.underlying401
  a53 := Tryz.isAgg401
  z53 := Tryz.sizeOf401
  v53 := Tryz.zeroValue401
  t55 := Tryz.underlying311
  a55 := Tryz.isAgg311
  z55 := Tryz.sizeOf311
  v55 := Tryz.zeroValue311
  t66 := Tryz.underlying456
  a66 := Tryz.isAgg456
  z66 := Tryz.sizeOf456
  v66 := Tryz.zeroValue456
  t70 := Tryz.underlying460
  a70 := Tryz.isAgg460
  z70 := Tryz.sizeOf460
  v70 := Tryz.zeroValue460
  t76 := Tryz.underlying479
  a76 := Tryz.isAgg479
  z76 := Tryz.sizeOf479
  v76 := Tryz.zeroValue479
  t77 := Tryz.underlying480
  a77 := Tryz.isAgg480
  z77 := Tryz.sizeOf480
  v77 := Tryz.zeroValue480 }
end Go.Proofs
