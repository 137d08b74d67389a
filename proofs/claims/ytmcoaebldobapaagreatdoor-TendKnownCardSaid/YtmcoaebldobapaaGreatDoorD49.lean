/-
  The law TendKnown: reckoned.
-/
import Derived.Test.YtmcoaebldobapaaGreatDoorD43
import Derived.Test.YtmcoaebldobapaaGreatDoorD48
set_option linter.unusedVariables false
set_option linter.unusedSimpArgs false
namespace Go.Proofs.YtmcoaebldobapaaGreatDoor
open Go
theorem Eng.kn4 : Eng.runW 28 4 [] (fun r _ _ => Eng.isTrue r) = true := by kernel_rfl
theorem tdo_walk (w : World) (hg : 8 ≤ w.heap.size) : Calls Tryz.prog 4 #[] w (Gives w (.bool true)) := Eng.knownW trw_walk ⟨_, Tryz.func28, by kernel_rfl, by kernel_rfl⟩ rfl Eng.kn4 w hg
end Go.Proofs.YtmcoaebldobapaaGreatDoor
