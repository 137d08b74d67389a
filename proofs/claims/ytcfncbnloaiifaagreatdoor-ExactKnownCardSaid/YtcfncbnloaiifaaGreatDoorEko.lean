/-
  The law ExactKnown: reckoned.
-/
import Derived.Test.YtcfncbnloaiifaaGreatDoorEng19
namespace Go.Proofs.YtcfncbnloaiifaaGreatDoor
open Go
theorem Eng.kn4 : Eng.runS 4 [] (fun r _ _ => Eng.isTrue r) = true := by kernel_rfl
theorem eko_walk (w : World) (hg : 8 ≤ w.heap.size) : Calls Tryz.prog 4 #[] w (Gives w (.bool true)) := Eng.known rfl Eng.kn4 w hg
end Go.Proofs.YtcfncbnloaiifaaGreatDoor
