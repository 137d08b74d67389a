/- The law TapeBack: its card. -/
import Derived.Test.YtakhobfamnjnoaaGreatDoorTbkR
import Derived.Test.YtakhobfamnjnoaaGreatDoorTbkD
import Derived.Test.YtakhobfamnjnoaaGreatDoorTbkE
import Derived.Test.YtakhobfamnjnoaaGreatDoorZgo
set_option linter.unusedVariables false
set_option linter.unusedSimpArgs false
namespace Go.Proofs.YtakhobfamnjnoaaGreatDoor
namespace tapeBack
open Go
set_option maxRecDepth 100000
theorem proved:Rows.TapeBackCardSaid:=
 Claim7.holds_tied_plain_at .later [] [.data, .data, .data, .data, .sentinel, .sentinel, .pinned] true (true,"fd4063dde94cca76b55131326b468ab4ec5c8d2a1cf94a9960636d6793179a67") true
  over (fun _ h=>by cases h) cWf (fun _ h=>by cases h) tapeBack_row_tie rfl ⟨rfl,rfl⟩ adR rfl
  (fun f fn hf hfn=>by
    obtain rfl:f=4:=Option.some.inj (V7.symm.trans hf)|>.symm
    obtain rfl:fn=Tryz.f4:=(Option.some.inj (Tryz.func4.symm.trans hfn)).symm
    exact⟨acV,fun j t ht=>by
     rw[Tryz.params4]at ht
     have hm:t∈[27,3,9]:=by simpa using Array.mem_of_getElem? ht
     have hall:([27,3,9].all fun u=>!Tryz.prog.wantsStandIn u)=true:=by kernel_rfl
     exact(show Tryz.prog.wantsStandIn t=false by simpa using List.all_eq_true.1 hall t hm)⟩)
  (Nz aeC _)
#print axioms proved
end tapeBack
end Go.Proofs.YtakhobfamnjnoaaGreatDoor
