/- The rows' witness: the door's own heap, the pinned table laid beside it. What the rows share. -/
import Derived.Test.YtglbkodmmogomaaGreatDoorRows
import Derived.LaidMore
import Derived.JoinedOf
set_option linter.unusedVariables false
set_option linter.unusedSimpArgs false
namespace Go.Proofs.YtglbkodmmogomaaGreatDoor
open Go
noncomputable def laidWorld (os:Os):World:=
 let w0:=World.doorLaid Tryz.prog 72 os
 {w0 with heap:=w0.heap.modify 1 fun
  | .cells _ t frozen=> .cells (Pinned.utf8FirstZ.map fun(z:Nat)=>Value.int .u8 (z:Int)).toArray t frozen
  |o=>o}
abbrev qQ:List (String×DataW Unit):=Rows.idealFitsRow.laid
set_option maxRecDepth 100000
theorem Ip:(qQ.filter fun x=>x.2.handleName?.isNone)=qQ:=by kernel_rfl
theorem Po (os:Os)(args:Array Value):(DataW.laidRun Tryz.prog ((laidWorld os).forCall (fun _ _=>0) ⟨#[],args,[]⟩).memory 8 (qQ.map (·.1))).map (·.1)=some qQ:=by kernel_rfl
theorem KH (os:Os)(args:Array Value):(DataW.laidRun Tryz.prog ((laidWorld os).forCall (fun _ _=>0) ⟨#[],args,[]⟩).memory 8 (qQ.map (·.1))).map (fun x=>decide x.2.Nodup&&laidRowsB Tryz.prog ((laidWorld os).forCall (fun _ _=>0) ⟨#[],args,[]⟩).memory x.2)=some true:=by kernel_rfl
theorem laid_met (os:Os)(args:Array Value):laidMetH Tryz.prog qQ ((laidWorld os).forCall (fun _ _=>0) ⟨#[],args,[]⟩).memory:=
 laidMetH_of_parts3 (fuel:=8) (by rw[Ip];exact laidMet_of_run' 8 (Po os args) (KH os args)) (by kernel_rfl) (by kernel_rfl)
end Go.Proofs.YtglbkodmmogomaaGreatDoor
set_option linter.unusedVariables false
set_option linter.unusedSimpArgs false
namespace Go.Proofs.YtglbkodmmogomaaGreatDoor
open Go
set_option maxRecDepth 100000
theorem OY:laidOutB Tryz.pinned.checked.prog=true:=by kernel_rfl
theorem Kt:mapsRowed Tryz.pinned.checked.prog=true:=by kernel_rfl
theorem Ig:Tryz.pinned.checked.prog.stopsHeard=true:=by kernel_rfl
theorem ML:Tryz.pinned.checked.prog.mayEnter=true:=by kernel_rfl
theorem Tj:(Rows.idealFitsRow.lifted==Tryz.pinned.checked.prog.liftsFinal)=true:=by kernel_rfl
end Go.Proofs.YtglbkodmmogomaaGreatDoor
