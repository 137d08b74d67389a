/-
  The law RunnerKnown: facts for its card (its form, its main).
-/
import Derived.Test.YtcfncbnloaiifaaGreatDoorCards
import Derived.Test.YtcfncbnloaiifaaGreatDoorTie
import Derived.SevenTiedAt
import Derived.KernelRfl
namespace Go.Proofs.YtcfncbnloaiifaaGreatDoor.runnerKnown
open Go
set_option maxRecDepth 100000
theorem cWf : Rows.runnerKnownRow.wfByText (OpenSpec.ofChange Rows.runnerKnownSpec) = true := by kernel_rfl
theorem cMain : Tryz.pinned.checked.prog.mainIs = some (true, "5a65ae04754e839289e2fb5d6c4efe821ba22864a1f18fd1fec59533cbf819b7".toList) := by kernel_rfl
end Go.Proofs.YtcfncbnloaiifaaGreatDoor.runnerKnown
