/- The law TapePuts: facts for its card (its looks). -/
import Derived.Test.YtakhobfamnjnoaaGreatDoorCards
import Derived.Test.YtakhobfamnjnoaaGreatDoorTie
set_option linter.unusedVariables false
set_option linter.unusedSimpArgs false
namespace Go.Proofs.YtakhobfamnjnoaaGreatDoor
namespace tapePuts
open Go
set_option maxRecDepth 100000
theorem agz:true=Tryz.pinned.checked.prog.looks []:=by kernel_rfl
end tapePuts
end Go.Proofs.YtakhobfamnjnoaaGreatDoor
