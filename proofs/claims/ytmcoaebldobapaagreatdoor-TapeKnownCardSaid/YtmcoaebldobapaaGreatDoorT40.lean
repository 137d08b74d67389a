/-
  What the law TapeKnown asks first: reckoned.
-/
import Derived.Test.YtmcoaebldobapaaGreatDoorT39
set_option linter.unusedVariables false
set_option linter.unusedSimpArgs false
namespace Go.Proofs.YtmcoaebldobapaaGreatDoor
open Go
theorem Eng.kn34 : Eng.runS 34 [] (fun r _ _ => Eng.isTrue r) = true := by kernel_rfl
theorem tpw_walk (w : World) (hg : 8 ≤ w.heap.size) : Calls Tryz.prog 34 #[] w (Gives w (.bool true)) := Eng.known rfl Eng.kn34 w hg
end Go.Proofs.YtmcoaebldobapaaGreatDoor
