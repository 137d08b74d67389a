/- The law TapeBack: facts for its card (its looks). -/
import Derived.Test.YtakhobfamnjnoaaGreatDoorCards
import Derived.Test.YtakhobfamnjnoaaGreatDoorTie
set_option linter.unusedVariables false
set_option linter.unusedSimpArgs false
namespace Go.Proofs.YtakhobfamnjnoaaGreatDoor
namespace tapeBack
open Go
set_option maxRecDepth 100000
theorem acV:true=Tryz.pinned.checked.prog.looks []:=by kernel_rfl
end tapeBack
end Go.Proofs.YtakhobfamnjnoaaGreatDoor
