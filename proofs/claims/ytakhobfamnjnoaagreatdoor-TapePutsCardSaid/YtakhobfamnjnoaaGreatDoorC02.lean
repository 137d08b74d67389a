/- The rows' witness: the door's own heap, the pinned table laid beside it. What the rows share. -/
import Derived.Test.YtakhobfamnjnoaaGreatDoorRows
import Derived.LaidMore
set_option linter.unusedVariables false
set_option linter.unusedSimpArgs false
namespace Go.Proofs.YtakhobfamnjnoaaGreatDoor
open Go
noncomputable def laidWorld (os:Os):World:=
 let w0:=World.doorLaid Tryz.prog 72 os
 {w0 with heap:=w0.heap.modify 1 fun
  | .cells _ t frozen=> .cells (Pinned.utf8FirstZ.map fun(z:Nat)=>Value.int .u8 (z:Int)).toArray t frozen
  |o=>o}
abbrev wW:List (String×DataW Unit):=Rows.tapeBackRow.laid
set_option maxRecDepth 100000
theorem TV:(wW.filter fun x=>x.2.handleName?.isNone)=wW:=by kernel_rfl
theorem aby (os:Os)(args:Array Value):(DataW.laidRun Tryz.prog ((laidWorld os).forCall (fun _ _=>0) ⟨#[],args,[]⟩).memory 8 (wW.map (·.1))).map (·.1)=some wW:=by kernel_rfl
theorem Xg (os:Os)(args:Array Value):(DataW.laidRun Tryz.prog ((laidWorld os).forCall (fun _ _=>0) ⟨#[],args,[]⟩).memory 8 (wW.map (·.1))).map (fun x=>decide x.2.Nodup&&laidRowsB Tryz.prog ((laidWorld os).forCall (fun _ _=>0) ⟨#[],args,[]⟩).memory x.2)=some true:=by kernel_rfl
theorem laid_met (os:Os)(args:Array Value):laidMetH Tryz.prog wW ((laidWorld os).forCall (fun _ _=>0) ⟨#[],args,[]⟩).memory:=
 laidMetH_of_parts3 (fuel:=8) (by rw[TV];exact laidMet_of_run' 8 (aby os args) (Xg os args)) (by kernel_rfl) (by kernel_rfl)
end Go.Proofs.YtakhobfamnjnoaaGreatDoor
