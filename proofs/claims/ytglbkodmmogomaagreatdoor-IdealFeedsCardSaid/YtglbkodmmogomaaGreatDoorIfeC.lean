/- The law IdealFeeds: its card. -/
import Derived.Test.YtglbkodmmogomaaGreatDoorIfeR
import Derived.Test.YtglbkodmmogomaaGreatDoorI53
import Derived.Test.YtglbkodmmogomaaGreatDoorCards
import Derived.Test.YtglbkodmmogomaaGreatDoorTie
set_option linter.unusedVariables false
set_option linter.unusedSimpArgs false
namespace Go.Proofs.YtglbkodmmogomaaGreatDoor
namespace idealFeeds
open Go
set_option maxRecDepth 100000
theorem proved:Rows.IdealFeedsCardSaid:=
 Claim7.holds_tied_plain_at .later [] [.data, .data, .data, .data, .sentinel, .sentinel, .pinned] true (true,"3a55106789e388af8f5056190e5bf8567fb27339d8663f930565edd9732ae833") true
  over (fun _ h=>by cases h) (by kernel_rfl) (fun _ h=>by cases h) idealFeeds_row_tie rfl ⟨rfl,rfl⟩ (by kernel_rfl) rfl
  (fun f fn hf hfn=>by
    obtain rfl:f=6:=Option.some.inj (Zb.symm.trans hf)|>.symm
    obtain rfl:fn=Tryz.f6:=(Option.some.inj (Tryz.func6.symm.trans hfn)).symm
    exact⟨by kernel_rfl,fun j t ht=>by
     rw[Tryz.params6]at ht
     have hm:t∈[24,25,60]:=by simpa using Array.mem_of_getElem? ht
     have hall:([24,25,60].all fun u=>!Tryz.prog.wantsStandIn u)=true:=by kernel_rfl
     exact(show Tryz.prog.wantsStandIn t=false by simpa using List.all_eq_true.1 hall t hm)⟩)
  (Qk ahz _)
#print axioms proved
end idealFeeds
