/- No function of the program starts a goroutine. -/
import Derived.Test.YtakhobfamnjnoaaGreatDoorRows
import GoSem.ClaimGoes
set_option linter.unusedVariables false
set_option linter.unusedSimpArgs false
namespace Go.Proofs.YtakhobfamnjnoaaGreatDoor
open Go
set_option maxRecDepth 100000
theorem aif:Tryz.pinned.checked.prog.funcs.any Func.goes=false:=by kernel_rfl
theorem JQ {P:Program}(h:P.funcs.any Func.goes=false)(f:FuncId):P.goes f=false:=by
 have h1: ∀g:FuncId,((P.funcs[g]?).any Func.goes)=false:=fun g=>by
  cases e:P.funcs[g]? with
  |none=>rfl
  |some fn=>
   have hm:=Array.mem_of_getElem? e
   rw[Array.any_eq_false']at h
   simpa using h fn hm
 unfold Program.goes
 simp[h1,h]
theorem RF {P:Program}(h:P.funcs.any Func.goes=false)(c:OpenClaim):false=c.goesBy P:=by
 unfold OpenClaim.goesBy Program.goesAt Program.goesFrom
 have h2: ∀o:Option FuncId,o.any P.goes=false:=fun o=>by cases o<;>simp[JQ h]
 have h3:P.inits.toList.any P.goes=false:=by
  rw[List.any_eq_false]
  intro x _
  simp[JQ h]
 rw[h2]
 cases c.start<;>simp[h3]
end Go.Proofs.YtakhobfamnjnoaaGreatDoor
