/-
  What the law RunnerKnown asks first: reckoned.
-/
import Derived.Test.YtcfncbnloaiifaaGreatDoorEng19
namespace Go.Proofs.YtcfncbnloaiifaaGreatDoor
open Go
theorem Eng.kn45 : Eng.runS 45 [] (fun r _ _ => Eng.isTrue r) = true := by kernel_rfl
theorem rkw_walk (w : World) (hg : 8 ≤ w.heap.size) : Calls Tryz.prog 45 #[] w (Gives w (.bool true)) := Eng.known rfl Eng.kn45 w hg
end Go.Proofs.YtcfncbnloaiifaaGreatDoor
