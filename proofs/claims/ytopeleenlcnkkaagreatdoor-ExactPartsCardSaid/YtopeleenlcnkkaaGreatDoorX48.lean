/- Facts of the program that each row asks, each by itself (one theorem with all of them takes more memory than a process has). -/
import Derived.Test.YtopeleenlcnkkaaGreatDoorRows
import Derived.JoinedOf
set_option linter.unusedVariables false
set_option linter.unusedSimpArgs false
namespace Go.Proofs.YtopeleenlcnkkaaGreatDoor
open Go
set_option maxRecDepth 100000
theorem CZ:laidOutB Tryz.pinned.checked.prog=true:=by kernel_rfl
theorem yL:mapsRowed Tryz.pinned.checked.prog=true:=by kernel_rfl
theorem wW:Tryz.pinned.checked.prog.stopsHeard=true:=by kernel_rfl
theorem zV:Tryz.pinned.checked.prog.mayEnter=true:=by kernel_rfl
theorem LW:(Rows.idealRisesRow.lifted==Tryz.pinned.checked.prog.liftsFinal)=true:=by kernel_rfl
end Go.Proofs.YtopeleenlcnkkaaGreatDoor
