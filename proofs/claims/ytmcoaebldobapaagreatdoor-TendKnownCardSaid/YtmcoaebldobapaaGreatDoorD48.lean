/-
  Function 28: reckoned, its calls on record.
-/
import Derived.Test.YtmcoaebldobapaaGreatDoorD44
import Derived.Test.YtmcoaebldobapaaGreatDoorD45
import Derived.Test.YtmcoaebldobapaaGreatDoorD46
import Derived.Test.YtmcoaebldobapaaGreatDoorD47
set_option linter.unusedVariables false
set_option linter.unusedSimpArgs false
namespace Go.Proofs.YtmcoaebldobapaaGreatDoor
open Go
namespace Eng
def Trfs : List FuncId := [27, 25]
noncomputable def Trrecs : List Rec := [Tr1.c, Tr4.c, Tr5.c, Tr6.c]
theorem Troks : ∀ c ∈ Trrecs, RecOk c := by
  intro c hc
  simp only [Trrecs, List.mem_cons, List.not_mem_nil, or_false] at hc
  rcases hc with rfl | rfl | rfl | rfl
  · exact Tr1.ok
  · exact Tr4.ok
  · exact Tr5.ok
  · exact Tr6.ok
theorem Trfns : ∀ f ∈ Trfs, ∃ fn, Tryz.prog.funcs[f]? = some fn ∧ (fn.name == "runtime.NumGoroutine") = false ∧ fn.body.isSome = true := by
  intro f hf
  simp only [Trfs, List.mem_cons, List.not_mem_nil, or_false] at hf
  rcases hf with rfl | rfl
  · exact ⟨_, Tryz.func27, by kernel_rfl, by kernel_rfl⟩
  · exact ⟨_, Tryz.func25, by kernel_rfl, by kernel_rfl⟩
theorem Trrun : runR Trfs Trrecs 28 [] (fun r _ _ => isTrue r) = true := by kernel_rfl
end Eng
theorem trw_walk (w : World) (hg : 8 ≤ w.heap.size) : Calls Tryz.prog 28 #[] w (Gives w (.bool true)) := Eng.knownR (Eng.orcR_ok Eng.Troks Eng.Trfns) rfl Eng.Trrun w hg
end Go.Proofs.YtmcoaebldobapaaGreatDoor

