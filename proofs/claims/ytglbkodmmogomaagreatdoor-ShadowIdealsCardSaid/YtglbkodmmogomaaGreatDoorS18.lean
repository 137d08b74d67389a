/- Facts of the program that each row asks, each by itself (one theorem with all of them takes more memory than a process has). -/
import Derived.Test.YtglbkodmmogomaaGreatDoorRows
import Derived.JoinedOf
set_option linter.unusedVariables false
set_option linter.unusedSimpArgs false
namespace Go.Proofs.YtglbkodmmogomaaGreatDoor
open Go
set_option maxRecDepth 100000
theorem aa1:laidOutB Tryz.pinned.checked.prog=true:=by kernel_rfl
theorem VG:mapsRowed Tryz.pinned.checked.prog=true:=by kernel_rfl
theorem Tj:Tryz.pinned.checked.prog.stopsHeard=true:=by kernel_rfl
theorem YL:Tryz.pinned.checked.prog.mayEnter=true:=by kernel_rfl
theorem aek:(Rows.idealFitsRow.lifted==Tryz.pinned.checked.prog.liftsFinal)=true:=by kernel_rfl
