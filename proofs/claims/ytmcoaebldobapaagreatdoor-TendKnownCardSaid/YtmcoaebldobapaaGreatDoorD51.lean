/-
  The law TendKnown: facts for its card (its form, its main).
-/
import Derived.Test.YtmcoaebldobapaaGreatDoorCards
import Derived.Test.YtmcoaebldobapaaGreatDoorTie
import Derived.SevenTiedAt
import Derived.KernelRfl
set_option linter.unusedVariables false
set_option linter.unusedSimpArgs false
namespace Go.Proofs.YtmcoaebldobapaaGreatDoor.tendKnown
open Go
set_option maxRecDepth 100000
theorem cWf : Rows.tendKnownRow.wfByText (OpenSpec.ofChange Rows.tendKnownSpec) = true := by kernel_rfl
theorem cMain : Tryz.pinned.checked.prog.mainIs = some (true, "f2f9755e94e8b5ff2bb67333270673ce339ac9f2508bc2ba53ddced99b0967f0".toList) := by kernel_rfl
end Go.Proofs.YtmcoaebldobapaaGreatDoor.tendKnown
