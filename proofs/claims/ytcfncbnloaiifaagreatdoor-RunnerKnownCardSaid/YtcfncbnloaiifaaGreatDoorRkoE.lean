/-
  The law RunnerKnown: facts for its card (its looks).
-/
import Derived.Test.YtcfncbnloaiifaaGreatDoorCards
import Derived.Test.YtcfncbnloaiifaaGreatDoorTie
import Derived.SevenTiedAt
import Derived.KernelRfl
namespace Go.Proofs.YtcfncbnloaiifaaGreatDoor.runnerKnown
open Go
set_option maxRecDepth 100000
theorem cLooks : true = Tryz.pinned.checked.prog.looks [] := by kernel_rfl
end Go.Proofs.YtcfncbnloaiifaaGreatDoor.runnerKnown
