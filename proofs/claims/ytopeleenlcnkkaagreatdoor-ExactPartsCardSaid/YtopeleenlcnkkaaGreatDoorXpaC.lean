/- The law ExactParts: its card. -/
import Derived.Test.YtopeleenlcnkkaaGreatDoorXpaR
import Derived.Test.YtopeleenlcnkkaaGreatDoorCards
import Derived.Test.YtopeleenlcnkkaaGreatDoorTie
set_option linter.unusedVariables false
set_option linter.unusedSimpArgs false
namespace Go.Proofs.YtopeleenlcnkkaaGreatDoor
namespace exactParts
open Go
set_option maxRecDepth 100000
theorem proved:Rows.ExactPartsCardSaid:=
 Claim7.holds_tied_plain_at .later [] [.data, .data, .data, .data, .sentinel, .sentinel, .pinned] true (true,"f5337fdfab683e7149e482bc0e5e9f7e49b15c96ee6f72787b416a31e454c355") true
  over (fun _ h=>by cases h) (by kernel_rfl) (fun _ h=>by cases h) exactParts_row_tie rfl ⟨rfl,rfl⟩ (by kernel_rfl) rfl
  (fun f fn hf hfn=>by
    obtain rfl:f=14:=Option.some.inj (sO.symm.trans hf)|>.symm
    obtain rfl:fn=Tryz.f14:=(Option.some.inj (Tryz.func14.symm.trans hfn)).symm
    exact⟨by kernel_rfl,fun j t ht=>by
     rw[Tryz.params14]at ht
     have hm:t∈[24,76,49,3]:=by simpa using Array.mem_of_getElem? ht
     have hall:([24,76,49,3].all fun u=>!Tryz.prog.wantsStandIn u)=true:=by kernel_rfl
     exact(show Tryz.prog.wantsStandIn t=false by simpa using List.all_eq_true.1 hall t hm)⟩)
  (by kernel_rfl)
#print axioms proved
end exactParts
end Go.Proofs.YtopeleenlcnkkaaGreatDoor
