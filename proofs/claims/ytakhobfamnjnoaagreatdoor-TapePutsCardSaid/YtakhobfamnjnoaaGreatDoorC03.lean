/- Facts of the program that each row asks, each by itself (one theorem with all of them takes more memory than a process has). -/
import Derived.Test.YtakhobfamnjnoaaGreatDoorRows
import Derived.JoinedOf
set_option linter.unusedVariables false
set_option linter.unusedSimpArgs false
namespace Go.Proofs.YtakhobfamnjnoaaGreatDoor
open Go
set_option maxRecDepth 100000
theorem abe:laidOutB Tryz.pinned.checked.prog=true:=by kernel_rfl
theorem WR:mapsRowed Tryz.pinned.checked.prog=true:=by kernel_rfl
theorem TR:Tryz.pinned.checked.prog.stopsHeard=true:=by kernel_rfl
theorem Y9:Tryz.pinned.checked.prog.mayEnter=true:=by kernel_rfl
theorem ae5:(Rows.tapeBackRow.lifted==Tryz.pinned.checked.prog.liftsFinal)=true:=by kernel_rfl
end Go.Proofs.YtakhobfamnjnoaaGreatDoor
