/-
  The law SpeakKnown: reckoned.
-/
import Derived.Test.YtmcoaebldobapaaGreatDoorS40
set_option linter.unusedVariables false
set_option linter.unusedSimpArgs false
namespace Go.Proofs.YtmcoaebldobapaaGreatDoor
open Go
theorem Eng.kn6 : Eng.callB Tryz.prog (Eng.exec Tryz.prog 8 Eng.orcS 1000000) 6 [] Eng.varH 10 (fun r _ _ => Eng.isTrue r) = true := by kernel_rfl
theorem spo_walk {w : World} {t1 t2 : TypeId} {v1 v2 : Value} (hv : Eng.VarsAt w t1 v1 t2 v2) : Calls Tryz.prog 6 #[] w (Gives w (.bool true)) := Eng.knownV Eng.kn6 hv
end Go.Proofs.YtmcoaebldobapaaGreatDoor
