/- The law TapePuts: its card. -/
import Derived.Test.YtakhobfamnjnoaaGreatDoorTpuR
import Derived.Test.YtakhobfamnjnoaaGreatDoorTpuD
import Derived.Test.YtakhobfamnjnoaaGreatDoorTpuE
import Derived.Test.YtakhobfamnjnoaaGreatDoorZgp
set_option linter.unusedVariables false
set_option linter.unusedSimpArgs false
namespace Go.Proofs.YtakhobfamnjnoaaGreatDoor
namespace tapePuts
open Go
set_option maxRecDepth 100000
theorem proved:Rows.TapePutsCardSaid:=
 Claim7.holds_tied_plain_at .later [] [.data, .data, .data, .data, .sentinel, .sentinel, .pinned] true (true,"fd4063dde94cca76b55131326b468ab4ec5c8d2a1cf94a9960636d6793179a67") true
  over (fun _ h=>by cases h) cWf (fun _ h=>by cases h) tapePuts_row_tie rfl ⟨rfl,rfl⟩ ahz rfl
  (fun f fn hf hfn=>by
    obtain rfl:f=3:=Option.some.inj (ZW.symm.trans hf)|>.symm
    obtain rfl:fn=Tryz.f3:=(Option.some.inj (Tryz.func3.symm.trans hfn)).symm
    exact⟨agz,fun j t ht=>by
     rw[Tryz.params3]at ht
     have hm:t∈[27,27,9]:=by simpa using Array.mem_of_getElem? ht
     have hall:([27,27,9].all fun u=>!Tryz.prog.wantsStandIn u)=true:=by kernel_rfl
     exact(show Tryz.prog.wantsStandIn t=false by simpa using List.all_eq_true.1 hall t hm)⟩)
  (RF aif _)
#print axioms proved
end tapePuts
end Go.Proofs.YtakhobfamnjnoaaGreatDoor
