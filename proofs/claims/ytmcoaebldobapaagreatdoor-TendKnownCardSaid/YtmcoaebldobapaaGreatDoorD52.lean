/-
  The law TendKnown: facts for its card (its looks).
-/
import Derived.Test.YtmcoaebldobapaaGreatDoorCards
import Derived.Test.YtmcoaebldobapaaGreatDoorTie
import Derived.SevenTiedAt
import Derived.KernelRfl
set_option linter.unusedVariables false
set_option linter.unusedSimpArgs false
namespace Go.Proofs.YtmcoaebldobapaaGreatDoor.tendKnown
open Go
set_option maxRecDepth 100000
theorem cLooks : true = Tryz.pinned.checked.prog.looks [] := by kernel_rfl
end Go.Proofs.YtmcoaebldobapaaGreatDoor.tendKnown
