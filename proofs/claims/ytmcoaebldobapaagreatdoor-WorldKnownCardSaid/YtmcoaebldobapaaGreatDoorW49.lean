/-
  The law WorldKnown: reckoned.
-/
import Derived.Test.YtmcoaebldobapaaGreatDoorW42
import Derived.Test.YtmcoaebldobapaaGreatDoorW48
set_option linter.unusedVariables false
set_option linter.unusedSimpArgs false
namespace Go.Proofs.YtmcoaebldobapaaGreatDoor
open Go
theorem Eng.kn3 : Eng.runW 8 3 [] (fun r _ _ => Eng.isTrue r) = true := by kernel_rfl
theorem wro_walk (w : World) (hg : 8 ≤ w.heap.size) : Calls Tryz.prog 3 #[] w (Gives w (.bool true)) := Eng.knownW wrw_walk ⟨_, Tryz.func8, by kernel_rfl, by kernel_rfl⟩ rfl Eng.kn3 w hg
end Go.Proofs.YtmcoaebldobapaaGreatDoor
