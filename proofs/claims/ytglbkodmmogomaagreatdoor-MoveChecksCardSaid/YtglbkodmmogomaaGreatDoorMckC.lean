/- The law MoveChecks: its card. -/
import Derived.Test.YtglbkodmmogomaaGreatDoorMckR
import Derived.Test.YtglbkodmmogomaaGreatDoorM54
import Derived.Test.YtglbkodmmogomaaGreatDoorCards
import Derived.Test.YtglbkodmmogomaaGreatDoorTie
set_option linter.unusedVariables false
set_option linter.unusedSimpArgs false
namespace Go.Proofs.YtglbkodmmogomaaGreatDoor
namespace moveChecks
open Go
set_option maxRecDepth 100000
theorem proved:Rows.MoveChecksCardSaid:=
 Claim7.holds_tied_plain_at .later [] [.data, .data, .data, .data, .sentinel, .sentinel, .pinned] true (true,"3a55106789e388af8f5056190e5bf8567fb27339d8663f930565edd9732ae833") true
  over (fun _ h=>by cases h) (by kernel_rfl) (fun _ h=>by cases h) moveChecks_row_tie rfl ⟨rfl,rfl⟩ (by kernel_rfl) rfl
  (fun f fn hf hfn=>by
    obtain rfl:f=3:=Option.some.inj (NU.symm.trans hf)|>.symm
    obtain rfl:fn=Tryz.f3:=(Option.some.inj (Tryz.func3.symm.trans hfn)).symm
    exact⟨by kernel_rfl,fun j t ht=>by
     rw[Tryz.params3]at ht
     have hm:t∈[24,24,25]:=by simpa using Array.mem_of_getElem? ht
     have hall:([24,24,25].all fun u=>!Tryz.prog.wantsStandIn u)=true:=by kernel_rfl
     exact(show Tryz.prog.wantsStandIn t=false by simpa using List.all_eq_true.1 hall t hm)⟩)
  (Gw XA _)
#print axioms proved
end moveChecks
end Go.Proofs.YtglbkodmmogomaaGreatDoor
