/-
  DERIVED: THE SHELF's CONTRACTS AT THIS DUMP, IN PLAIN WORDS (tools/lay-plain.mjs out of 'YtcfncbnloaiifaaGreatDoorShelj.lean', which tools/lay-shelf.mjs wrote): THE SAME DECLARATIONS UNDER THE SAME NAMES: 'import', 'namespace', 'open', 'def', 'theorem' AND NOTHING ELSE: no command of the shelf's: FOR A HAND-IN. Each laying: the table of numbers ('.._ren') and one theorem, a field a fact of the dump's own or the kernel's comparison; each contract: ONE APPLICATION.
-/
import Derived.Test.YtcfncbnloaiifaaGreatDoorProg
import Derived.Shelf.SlGeneric
import Derived.Shelf.Lays
import Derived.Shelf.Strings.OnBuilder
namespace Go.Proofs
open Go.Shelf
def Tryz.joinL_ren : Go.Shelf.Ren := ⟨fun | 156 => 322 | 165 => 349 | 166 => 350 | 169 => 351 | 240 => 363 | 241 => 364 | 276 => 369 | 277 => 370 | n => n, fun | 31 => 195 | 9 => 9 | 3 => 3 | 4 => 4 | 0 => 0 | 20 => 20 | 72 => 464 | 76 => 371 | 70 => 462 | 37 => 310 | 75 => 370 | 127 => 482 | 164 => 487 | 5 => 5 | 80 => 115 | n => n, fun | n => n⟩
theorem Tryz.joinL : Go.Proofs.Lays.n156 Tryz.prog Tryz.joinL_ren := {
  mixed := by kernel_rfl
  f156 := Tryz.func322.trans (congrArg some (by kernel_rfl))
  f165 := Tryz.func349.trans (congrArg some (by kernel_rfl))
  f166 := Tryz.func350.trans (congrArg some (by kernel_rfl))
  f169 := Tryz.func351.trans (congrArg some (by kernel_rfl))
  f240 := Tryz.func363.trans (congrArg some (by kernel_rfl))
  f241 := Tryz.func364.trans (congrArg some (by kernel_rfl))
  f276 := Tryz.func369.trans (congrArg some (by kernel_rfl))
  f277 := Tryz.func370.trans (congrArg some (by kernel_rfl))
  t0 := Tryz.underlying0
  a0 := Tryz.isAgg0
  z0 := Tryz.sizeOf0
  v0 := Tryz.zeroValue0
  t3 := Tryz.underlying3
  a3 := Tryz.isAgg3
  z3 := Tryz.sizeOf3
  v3 := Tryz.zeroValue3
  t4 := Tryz.underlying4
  a4 := Tryz.isAgg4
  z4 := Tryz.sizeOf4
  v4 := Tryz.zeroValue4
  t9 := Tryz.underlying9
  a9 := Tryz.isAgg9
  z9 := Tryz.sizeOf9
  v9 := Tryz.zeroValue9
  t20 := Tryz.underlying20
  a20 := Tryz.isAgg20
  z20 := Tryz.sizeOf20
  v20 := Tryz.zeroValue20
  t31 := Tryz.underlying195
  a31 := Tryz.isAgg195
  z31 := Tryz.sizeOf195
  v31 := Tryz.zeroValue195
  t37 := Tryz.underlying310
  a37 := Tryz.isAgg310
  z37 := Tryz.sizeOf310
  v37 := Tryz.zeroValue310
  t70 := Tryz.underlying462
  a70 := Tryz.isAgg462
  z70 := Tryz.sizeOf462
  v70 := Tryz.zeroValue462
  t72 := Tryz.underlying464
  a72 := Tryz.isAgg464
  z72 := Tryz.sizeOf464
  v72 := Tryz.zeroValue464
  t75 := Tryz.underlying370
  a75 := Tryz.isAgg370
  z75 := Tryz.sizeOf370
  v75 := Tryz.zeroValue370
  t76 := Tryz.underlying371
  a76 := Tryz.isAgg371
  z76 := Tryz.sizeOf371
  v76 := Tryz.zeroValue371
  t127 := Tryz.underlying482
  a127 := Tryz.isAgg482
  z127 := Tryz.sizeOf482
  v127 := Tryz.zeroValue482
  t164 := Tryz.underlying487
  a164 := Tryz.isAgg487
  z164 := Tryz.sizeOf487
  v164 := Tryz.zeroValue487 }
theorem Tryz.joinX : Builder.Extra Tryz.prog Tryz.joinL_ren := {
  sizeBuilder := by kernel_rfl
  liesBuilder := by kernel_rfl
  t5 := Tryz.underlying5
  a5 := Tryz.isAgg5
  z5 := Tryz.sizeOf5
  v5 := Tryz.zeroValue5
  infoByte := by kernel_rfl
  cellsByte := by kernel_rfl
  sizeByte := by kernel_rfl
  neB5 := by decide }
end Go.Proofs
