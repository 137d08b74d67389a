/- The law ShadowIdeals: its card. -/
import Derived.Test.YtglbkodmmogomaaGreatDoorSwhR
import Derived.Test.YtglbkodmmogomaaGreatDoorS29
import Derived.Test.YtglbkodmmogomaaGreatDoorCards
import Derived.Test.YtglbkodmmogomaaGreatDoorTie
set_option linter.unusedVariables false
set_option linter.unusedSimpArgs false
namespace Go.Proofs.YtglbkodmmogomaaGreatDoor
namespace shadowIdeals
open Go
set_option maxRecDepth 100000
theorem proved:Rows.ShadowIdealsCardSaid:=
 Claim7.holds_tied_plain_at .later [] [.data, .data, .data, .data, .sentinel, .sentinel, .pinned] true (true,"3a55106789e388af8f5056190e5bf8567fb27339d8663f930565edd9732ae833") true
  over (fun _ h=>by cases h) (by kernel_rfl) (fun _ h=>by cases h) shadowIdeals_row_tie rfl ⟨rfl,rfl⟩ (by kernel_rfl) rfl
  (fun f fn hf hfn=>by
    obtain rfl:f=5:=Option.some.inj (ZN.symm.trans hf)|>.symm
    obtain rfl:fn=Tryz.f5:=(Option.some.inj (Tryz.func5.symm.trans hfn)).symm
    exact⟨by kernel_rfl,fun j t ht=>by
     rw[Tryz.params5]at ht
     have hm:t∈[53,53,54]:=by simpa using Array.mem_of_getElem? ht
     have hall:([53,53,54].all fun u=>!Tryz.prog.wantsStandIn u)=true:=by kernel_rfl
     exact(show Tryz.prog.wantsStandIn t=false by simpa using List.all_eq_true.1 hall t hm)⟩)
  (QY aik _)
#print axioms proved
end shadowIdeals
