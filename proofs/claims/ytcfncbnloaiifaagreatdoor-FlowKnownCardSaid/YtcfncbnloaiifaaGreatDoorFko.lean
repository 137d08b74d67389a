/-
  The law FlowKnown: reckoned.
-/
import Derived.Test.YtcfncbnloaiifaaGreatDoorEng19
namespace Go.Proofs.YtcfncbnloaiifaaGreatDoor
open Go
theorem Eng.kn5 : Eng.runS 5 [] (fun r _ _ => Eng.isTrue r) = true := by kernel_rfl
theorem fko_walk (w : World) (hg : 8 ≤ w.heap.size) : Calls Tryz.prog 5 #[] w (Gives w (.bool true)) := Eng.known rfl Eng.kn5 w hg
end Go.Proofs.YtcfncbnloaiifaaGreatDoor
