/- The law TapePuts: facts for its card (its form, its main). -/
import Derived.Test.YtakhobfamnjnoaaGreatDoorCards
import Derived.Test.YtakhobfamnjnoaaGreatDoorTie
set_option linter.unusedVariables false
set_option linter.unusedSimpArgs false
namespace Go.Proofs.YtakhobfamnjnoaaGreatDoor
namespace tapePuts
open Go
set_option maxRecDepth 100000
theorem cWf:Rows.tapePutsRow.wfByText (OpenSpec.ofChange Rows.tapePutsSpec)=true:=by kernel_rfl
theorem ahz:Tryz.pinned.checked.prog.mainIs=some (true,"fd4063dde94cca76b55131326b468ab4ec5c8d2a1cf94a9960636d6793179a67".toList):=by kernel_rfl
end tapePuts
end Go.Proofs.YtakhobfamnjnoaaGreatDoor
