/-
  The law RunnerKnown: reckoned.
-/
import Derived.Test.YtcfncbnloaiifaaGreatDoorEng20
import Derived.Test.YtcfncbnloaiifaaGreatDoorRkw
namespace Go.Proofs.YtcfncbnloaiifaaGreatDoor
open Go
theorem Eng.kn7 : Eng.runW 45 7 [] (fun r _ _ => Eng.isTrue r) = true := by kernel_rfl
theorem rko_walk (w : World) (hg : 8 ≤ w.heap.size) : Calls Tryz.prog 7 #[] w (Gives w (.bool true)) := Eng.knownW rkw_walk ⟨_, Tryz.func45, by kernel_rfl, by kernel_rfl⟩ rfl Eng.kn7 w hg
end Go.Proofs.YtcfncbnloaiifaaGreatDoor
