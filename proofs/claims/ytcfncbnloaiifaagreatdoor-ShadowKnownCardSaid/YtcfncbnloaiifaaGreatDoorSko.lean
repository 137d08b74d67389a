/-
  The law ShadowKnown: reckoned.
-/
import Derived.Test.YtcfncbnloaiifaaGreatDoorEng19
namespace Go.Proofs.YtcfncbnloaiifaaGreatDoor
open Go
theorem Eng.kn6 : Eng.runS 6 [] (fun r _ _ => Eng.isTrue r) = true := by kernel_rfl
theorem sko_walk (w : World) (hg : 8 ≤ w.heap.size) : Calls Tryz.prog 6 #[] w (Gives w (.bool true)) := Eng.known rfl Eng.kn6 w hg
end Go.Proofs.YtcfncbnloaiifaaGreatDoor
