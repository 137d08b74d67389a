/-
  Function 8: reckoned, its calls on record.
-/
import Derived.Test.YtmcoaebldobapaaGreatDoorW43
import Derived.Test.YtmcoaebldobapaaGreatDoorW44
import Derived.Test.YtmcoaebldobapaaGreatDoorW45
import Derived.Test.YtmcoaebldobapaaGreatDoorW46
import Derived.Test.YtmcoaebldobapaaGreatDoorW47
set_option linter.unusedVariables false
set_option linter.unusedSimpArgs false
namespace Go.Proofs.YtmcoaebldobapaaGreatDoor
open Go
namespace Eng
def Wafs : List FuncId := [7, 43, 18]
noncomputable def Warecs : List Rec := [Wa1.c, Wa2.c, Wa3.c, Wa4.c, Wa5.c]
theorem Waoks : ∀ c ∈ Warecs, RecOk c := by
  intro c hc
  simp only [Warecs, List.mem_cons, List.not_mem_nil, or_false] at hc
  rcases hc with rfl | rfl | rfl | rfl | rfl
  · exact Wa1.ok
  · exact Wa2.ok
  · exact Wa3.ok
  · exact Wa4.ok
  · exact Wa5.ok
theorem Wafns : ∀ f ∈ Wafs, ∃ fn, Tryz.prog.funcs[f]? = some fn ∧ (fn.name == "runtime.NumGoroutine") = false ∧ fn.body.isSome = true := by
  intro f hf
  simp only [Wafs, List.mem_cons, List.not_mem_nil, or_false] at hf
  rcases hf with rfl | rfl | rfl
  · exact ⟨_, Tryz.func7, by kernel_rfl, by kernel_rfl⟩
  · exact ⟨_, Tryz.func43, by kernel_rfl, by kernel_rfl⟩
  · exact ⟨_, Tryz.func18, by kernel_rfl, by kernel_rfl⟩
theorem Warun : runR Wafs Warecs 8 [] (fun r _ _ => isTrue r) = true := by kernel_rfl
end Eng
theorem wrw_walk (w : World) (hg : 8 ≤ w.heap.size) : Calls Tryz.prog 8 #[] w (Gives w (.bool true)) := Eng.knownR (Eng.orcR_ok Eng.Waoks Eng.Wafns) rfl Eng.Warun w hg
end Go.Proofs.YtmcoaebldobapaaGreatDoor

