/-
  DERIVED: THE SHELF's CONTRACTS AT THIS DUMP, IN PLAIN WORDS (tools/lay-plain.mjs out of 'YtmcoaebldobapaaGreatDoorShelf.lean', which tools/lay-shelf.mjs wrote): THE SAME DECLARATIONS UNDER THE SAME NAMES: 'import', 'namespace', 'open', 'def', 'theorem' AND NOTHING ELSE: no command of the shelf's: FOR A HAND-IN. Each laying: the table of numbers ('.._ren') and one theorem, a field a fact of the dump's own or the kernel's comparison; each contract: ONE APPLICATION.
-/
import Derived.Test.YtmcoaebldobapaaGreatDoorProg
import Derived.Shelf.SlGeneric
import Derived.Shelf.SlIterI.Collect
import Derived.Shelf.SlIterI.Keys
import Derived.Shelf.SlIterI.Nil
import Derived.Shelf.SlSortCmp.Whole1
import Derived.Shelf.SlSortCmp.NoneTotal
import Derived.Ground.GgzProg
import Derived.Ground.SlsfProg
set_option linter.unusedVariables false
set_option linter.unusedSimpArgs false
namespace Go.Proofs
open Go.Shelf
def Tryz.keysL_ren : Go.Shelf.Ren := ⟨fun | 7 => 309 | 10 => 376 | n => n, fun | 23 => 365 | 26 => 2 | 3 => 369 | 28 => 401 | 0 => 0 | 27 => 400 | 33 => 383 | 4 => 4 | n => n, fun | n => n⟩
theorem Tryz.keysL : Go.Proofs.SlLaysZI.n7 Tryz.prog Tryz.keysL_ren := {
  mixed := by kernel_rfl
  f7 := ⟨Tryz.f309.name, by decide, Tryz.func309.trans (congrArg some (by kernel_rfl))⟩
  f10 := ⟨Tryz.f376.name, by decide, Tryz.func376.trans (congrArg some (by kernel_rfl))⟩
  t0 := Tryz.underlying0
  a0 := Tryz.isAgg0
  z0 := Tryz.sizeOf0
  v0 := Tryz.zeroValue0
  t4 := Tryz.underlying4
  a4 := Tryz.isAgg4
  z4 := Tryz.sizeOf4
  v4 := Tryz.zeroValue4
  t23 := Tryz.underlying365
  a23 := Tryz.isAgg365
  z23 := Tryz.sizeOf365
  v23 := Tryz.zeroValue365
  t26 := Tryz.underlying2
  a26 := Tryz.isAgg2
  z26 := Tryz.sizeOf2
  v26 := Tryz.zeroValue2
  t27 := Tryz.underlying400
  a27 := Tryz.isAgg400
  z27 := Tryz.sizeOf400
  v27 := Tryz.zeroValue400
  t28 := Tryz.underlying401
  a28 := Tryz.isAgg401
  z28 := Tryz.sizeOf401
  v28 := Tryz.zeroValue401
  t33 := Tryz.underlying383
  a33 := Tryz.isAgg383
  z33 := Tryz.sizeOf383
  v33 := Tryz.zeroValue383 }
def Tryz.collectL_ren : Go.Shelf.Ren := ⟨fun | 8 => 374 | 11 => 417 | n => n, fun | 26 => 2 | 28 => 401 | 24 => 206 | 0 => 0 | 33 => 383 | 4 => 4 | n => n, fun | n => n⟩
theorem Tryz.collectL : Go.Proofs.SlLaysZI.n8 Tryz.prog Tryz.collectL_ren := {
  mixed := by kernel_rfl
  f8 := ⟨Tryz.f374.name, by decide, Tryz.func374.trans (congrArg some (by kernel_rfl))⟩
  f11 := ⟨Tryz.f417.name, by decide, Tryz.func417.trans (congrArg some (by kernel_rfl))⟩
  t0 := Tryz.underlying0
  a0 := Tryz.isAgg0
  z0 := Tryz.sizeOf0
  v0 := Tryz.zeroValue0
  t24 := Tryz.underlying206
  a24 := Tryz.isAgg206
  z24 := Tryz.sizeOf206
  v24 := Tryz.zeroValue206
  t26 := Tryz.underlying2
  a26 := Tryz.isAgg2
  z26 := Tryz.sizeOf2
  v26 := Tryz.zeroValue2
  t28 := Tryz.underlying401
  a28 := Tryz.isAgg401
  z28 := Tryz.sizeOf401
  v28 := Tryz.zeroValue401
  i26 := by kernel_rfl }
def Tryz.keys1L_ren : Go.Shelf.Ren := ⟨fun | 10 => 376 | n => n, fun | 33 => 383 | 23 => 365 | 0 => 0 | 4 => 4 | 26 => 2 | 3 => 369 | n => n, fun | n => n⟩
theorem Tryz.keys1L : Go.Proofs.SlLaysZI.n10 Tryz.prog Tryz.keys1L_ren := {
  mixed := by kernel_rfl
  f10 := ⟨Tryz.f376.name, by decide, Tryz.func376.trans (congrArg some (by kernel_rfl))⟩
  t0 := Tryz.underlying0
  a0 := Tryz.isAgg0
  z0 := Tryz.sizeOf0
  v0 := Tryz.zeroValue0
  t4 := Tryz.underlying4
  a4 := Tryz.isAgg4
  z4 := Tryz.sizeOf4
  v4 := Tryz.zeroValue4
  t23 := Tryz.underlying365
  a23 := Tryz.isAgg365
  z23 := Tryz.sizeOf365
  v23 := Tryz.zeroValue365
  t26 := Tryz.underlying2
  a26 := Tryz.isAgg2
  z26 := Tryz.sizeOf2
  v26 := Tryz.zeroValue2
  t33 := Tryz.underlying383
  a33 := Tryz.isAgg383
  z33 := Tryz.sizeOf383
  v33 := Tryz.zeroValue383 }
def Tryz.sortL_ren : Go.Shelf.Ren := ⟨fun | 6 => 375 | 15 => 419 | 14 => 418 | 28 => 452 | 29 => 437 | 20 => 444 | 21 => 445 | 22 => 446 | 23 => 447 | 24 => 448 | 25 => 449 | 26 => 450 | 27 => 451 | 46 => 462 | 47 => 463 | 48 => 464 | 49 => 465 | 50 => 466 | 57 => 470 | n => n, fun | 22 => 206 | 24 => 2 | 25 => 371 | 3 => 3 | 39 => 208 | 0 => 0 | 53 => 460 | 55 => 201 | 4 => 4 | 46 => 547 | 45 => 546 | 50 => 431 | 5 => 5 | 9 => 9 | 66 => 557 | 70 => 561 | 76 => 565 | 77 => 566 | n => n, fun | n => n⟩
theorem Tryz.sortL : Go.Proofs.SlLaysF.n6 Tryz.prog Tryz.sortL_ren := {
  mixed := by kernel_rfl
  f6 := ⟨Tryz.f375.name, by decide, Tryz.func375.trans (congrArg some (by kernel_rfl))⟩
  f14 := ⟨Tryz.f418.name, by decide, Tryz.func418.trans (congrArg some (by kernel_rfl))⟩
  f15 := Tryz.func419.trans (congrArg some (by kernel_rfl))
  f20 := ⟨Tryz.f444.name, by decide, Tryz.func444.trans (congrArg some (by kernel_rfl))⟩
  f21 := ⟨Tryz.f445.name, by decide, Tryz.func445.trans (congrArg some (by kernel_rfl))⟩
  f22 := ⟨Tryz.f446.name, by decide, Tryz.func446.trans (congrArg some (by kernel_rfl))⟩
  f23 := ⟨Tryz.f447.name, by decide, Tryz.func447.trans (congrArg some (by kernel_rfl))⟩
  f24 := ⟨Tryz.f448.name, by decide, Tryz.func448.trans (congrArg some (by kernel_rfl))⟩
  f25 := ⟨Tryz.f449.name, by decide, Tryz.func449.trans (congrArg some (by kernel_rfl))⟩
  f26 := ⟨Tryz.f450.name, by decide, Tryz.func450.trans (congrArg some (by kernel_rfl))⟩
  f27 := ⟨Tryz.f451.name, by decide, Tryz.func451.trans (congrArg some (by kernel_rfl))⟩
  f28 := Tryz.func452.trans (congrArg some (by kernel_rfl))
  f29 := Tryz.func437.trans (congrArg some (by kernel_rfl))
  f46 := ⟨Tryz.f462.name, by decide, Tryz.func462.trans (congrArg some (by kernel_rfl))⟩
  f47 := Tryz.func463.trans (congrArg some (by kernel_rfl))
  f48 := Tryz.func464.trans (congrArg some (by kernel_rfl))
  f49 := ⟨Tryz.f465.name, by decide, Tryz.func465.trans (congrArg some (by kernel_rfl))⟩
  f50 := ⟨Tryz.f466.name, by decide, Tryz.func466.trans (congrArg some (by kernel_rfl))⟩
  f57 := ⟨Tryz.f470.name, by decide, Tryz.func470.trans (congrArg some (by kernel_rfl))⟩
  t0 := Tryz.underlying0
  a0 := Tryz.isAgg0
  z0 := Tryz.sizeOf0
  v0 := Tryz.zeroValue0
  t3 := Tryz.underlying3
  a3 := Tryz.isAgg3
  z3 := Tryz.sizeOf3
  v3 := Tryz.zeroValue3
  t4 := Tryz.underlying4
  a4 := Tryz.isAgg4
  z4 := Tryz.sizeOf4
  v4 := Tryz.zeroValue4
  t5 := Tryz.underlying5
  a5 := Tryz.isAgg5
  z5 := Tryz.sizeOf5
  v5 := Tryz.zeroValue5
  t9 := Tryz.underlying9
  a9 := Tryz.isAgg9
  z9 := Tryz.sizeOf9
  v9 := Tryz.zeroValue9
  t22 := Tryz.underlying206
  a22 := Tryz.isAgg206
  z22 := Tryz.sizeOf206
  v22 := Tryz.zeroValue206
  a24 := Tryz.isAgg2
  z24 := Tryz.sizeOf2
  t25 := Tryz.underlying371
  a25 := Tryz.isAgg371
  z25 := Tryz.sizeOf371
  v25 := Tryz.zeroValue371
  t39 := Tryz.underlying208
  a39 := Tryz.isAgg208
  z39 := Tryz.sizeOf208
  v39 := Tryz.zeroValue208
  t45 := Tryz.underlying546
  a45 := Tryz.isAgg546
  z45 := Tryz.sizeOf546
  v45 := Tryz.zeroValue546
  t46 := Tryz.underlying547
  a46 := Tryz.isAgg547
  z46 := Tryz.sizeOf547
  v46 := Tryz.zeroValue547
  t50 := Tryz.underlying431
  a50 := Tryz.isAgg431
  z50 := Tryz.sizeOf431
  v50 := Tryz.zeroValue431
  t53 := Tryz.underlying460
  a53 := Tryz.isAgg460
  z53 := Tryz.sizeOf460
  v53 := Tryz.zeroValue460
  t55 := Tryz.underlying201
  a55 := Tryz.isAgg201
  z55 := Tryz.sizeOf201
  v55 := Tryz.zeroValue201
  t66 := Tryz.underlying557
  a66 := Tryz.isAgg557
  z66 := Tryz.sizeOf557
  v66 := Tryz.zeroValue557
  t70 := Tryz.underlying561
  a70 := Tryz.isAgg561
  z70 := Tryz.sizeOf561
  v70 := Tryz.zeroValue561
  t76 := Tryz.underlying565
  a76 := Tryz.isAgg565
  z76 := Tryz.sizeOf565
  v76 := Tryz.zeroValue565
  t77 := Tryz.underlying566
  a77 := Tryz.isAgg566
  z77 := Tryz.sizeOf566
  v77 := Tryz.zeroValue566 }
end Go.Proofs
