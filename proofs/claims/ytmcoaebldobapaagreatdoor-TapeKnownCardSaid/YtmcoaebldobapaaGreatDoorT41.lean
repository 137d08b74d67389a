/-
  The law TapeKnown: reckoned.
-/
import Derived.Test.YtmcoaebldobapaaGreatDoorT39
import Derived.Test.YtmcoaebldobapaaGreatDoorT40
set_option linter.unusedVariables false
set_option linter.unusedSimpArgs false
namespace Go.Proofs.YtmcoaebldobapaaGreatDoor
open Go
theorem Eng.kn5 : Eng.runW 34 5 [] (fun r _ _ => Eng.isTrue r) = true := by kernel_rfl
theorem tpo_walk (w : World) (hg : 8 ≤ w.heap.size) : Calls Tryz.prog 5 #[] w (Gives w (.bool true)) := Eng.knownW tpw_walk ⟨_, Tryz.func34, by kernel_rfl, by kernel_rfl⟩ rfl Eng.kn5 w hg
end Go.Proofs.YtmcoaebldobapaaGreatDoor
