/-
  The law RunnerKnown: facts for its card (where it goes).
-/
import Derived.Test.YtcfncbnloaiifaaGreatDoorCards
import Derived.Test.YtcfncbnloaiifaaGreatDoorTie
import Derived.SevenTiedAt
import Derived.KernelRfl
namespace Go.Proofs.YtcfncbnloaiifaaGreatDoor.runnerKnown
open Go
set_option maxRecDepth 100000
theorem cGoes : false = Rows.runnerKnownRow.goesBy Tryz.pinned.checked.prog := by kernel_rfl
end Go.Proofs.YtcfncbnloaiifaaGreatDoor.runnerKnown
