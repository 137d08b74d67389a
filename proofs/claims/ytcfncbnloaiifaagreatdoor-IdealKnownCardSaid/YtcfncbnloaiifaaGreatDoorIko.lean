/-
  The law IdealKnown: reckoned.
-/
import Derived.Test.YtcfncbnloaiifaaGreatDoorEng19
namespace Go.Proofs.YtcfncbnloaiifaaGreatDoor
open Go
theorem Eng.kn3 : Eng.runS 3 [] (fun r _ _ => Eng.isTrue r) = true := by kernel_rfl
theorem iko_walk (w : World) (hg : 8 ≤ w.heap.size) : Calls Tryz.prog 3 #[] w (Gives w (.bool true)) := Eng.known rfl Eng.kn3 w hg
end Go.Proofs.YtcfncbnloaiifaaGreatDoor
