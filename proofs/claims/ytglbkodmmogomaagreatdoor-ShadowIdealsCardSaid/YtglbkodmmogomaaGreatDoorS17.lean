/- The rows' witness: the door's own heap, the pinned table laid beside it. What the rows share. -/
import Derived.Test.YtglbkodmmogomaaGreatDoorRows
import Derived.LaidMore
set_option linter.unusedVariables false
set_option linter.unusedSimpArgs false
namespace Go.Proofs.YtglbkodmmogomaaGreatDoor
open List Go.Proofs.Tryz
open Go
noncomputable def laidWorld (os:Os):World:=
 let w0:=World.doorLaid prog 72 os
 {w0 with heap:=w0.heap.modify 1 fun
  | .cells _ t frozen=> .cells (Pinned.utf8FirstZ.map fun(z:Nat)=>Value.int .u8 (z:Int)).toArray t frozen
  |o=>o}
abbrev xq:List (String×DataW Unit):=Rows.idealFitsRow.laid
set_option maxRecDepth 100000
theorem Tz:(xq.filter fun x=>x.2.handleName?.isNone)=xq:=by kernel_rfl
theorem abj (os:Os)(args:Array Value):(DataW.laidRun prog ((laidWorld os).forCall (fun _ _=>0) ⟨#[],args,[]⟩).memory 8 (xq.map (·.1))).map (·.1)=some xq:=by kernel_rfl
theorem VO (os:Os)(args:Array Value):(DataW.laidRun prog ((laidWorld os).forCall (fun _ _=>0) ⟨#[],args,[]⟩).memory 8 (xq.map (·.1))).map (fun x=>decide x.2.Nodup&&laidRowsB prog ((laidWorld os).forCall (fun _ _=>0) ⟨#[],args,[]⟩).memory x.2)=some true:=by kernel_rfl
theorem laid_met (os:Os)(args:Array Value):laidMetH prog xq ((laidWorld os).forCall (fun _ _=>0) ⟨#[],args,[]⟩).memory:=
 laidMetH_of_parts3 (fuel:=8) (by rw[Tz];exact laidMet_of_run' 8 (abj os args) (VO os args)) (by kernel_rfl) (by kernel_rfl)
