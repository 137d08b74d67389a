/- The machine's run: loud operations, calls, regions, codes; that it tells the truth. -/
import Derived.Test.YtakhobfamnjnoaaGreatDoorC44
import Derived.RangeFuncLeaves
import Derived.OrdersIn
import Derived.LoopNIn
set_option linter.unusedVariables false
set_option linter.unusedSimpArgs false
namespace Go.Proofs.YtakhobfamnjnoaaGreatDoor
namespace bU
open Go Go.RowKit
inductive Ans where
 |call (a:List AV->Hp->Nat->KV->Bool)
 |val (a:List AV->(RV->Bool)->Bool)
 |spine
abbrev mV:=FuncId->Option Ans
def W (ro:Option Nat):Fence:={Fence.wide with round:=ro}
section
variable {P:Program} {ro:Option Nat}
theorem OY (m:Machine):m.fenced P (W ro):=fenced_wide P m
theorem aeS (n:Nat):(W ro).room n:=fun _ h=>by simp[W,Fence.wide]at h
theorem Yq {m m':Machine}:StepsIn (Machine.fenced P (W ro)) P m m'↔Steps P m m':=stepsIn_wide
theorem Ol {n:Nat}{f:FuncId}{args:Array Value}{w:World}{R:Ending->World->Prop}:CallsIn (W ro) n P f args w R↔Calls P f args w R:=
 ⟨fun h cs=>let⟨e,w',fr,r,s,x⟩:=h.2 cs (aeS _);⟨e,w',fr,r,comesIn_wide.1 s,x⟩,
  fun h=>⟨trivial,fun cs _=>let⟨e,w',fr,r,s,x⟩:=h cs;⟨e,w',fr,r,comesIn_wide.2 s,x⟩⟩⟩
theorem aa0 {n:Nat}{row:String}{args:Array Value}{w:World}{R:Value->World->Prop}(h:Rows P row args w R):RowsIn (W ro) n P row args w R:=
 fun c cs _=>let⟨v,w',r,s⟩:=h c cs;⟨v,w',r,Yq.2 s⟩
theorem Zc {o:Oper}{a:Act}{w:World}{K:Act->World->Prop}{Q:Exit->Act->World->Prop}(hd: ∀c,o.op≠ .defer c)(h:o.wp P a w K Q):o.wpIn (W ro) 0 P a w K Q:=by
 refine⟨fun _ _=>trivial,?_⟩
 have he:o.semAt (W ro).round a.eval=execOp a.eval o:=by
  cases ro with
  |none=>rfl
  |some l=>exact Oper.semAt_some l _ _ hd
 rw[he]
 unfold Oper.wp at h
 generalize(execOp a.eval o).run P w=r at h⊢
 cases r with
 |ok x w'=>
  cases x<;>first
   |exact h
   |exact⟨fun h=>by simp[W,Fence.wide]at h,Ol.2 h⟩
   |exact⟨fun h=>by simp[W,Fence.wide]at h,aa0 h⟩
   |exact h.elim
 |halt s w'=>cases s<;>first|exact h|exact h.elim
end
section
variable (P:Program) (g:Nat) (w0:World)
def yM (ih:Run):Prop:= ∀c N env h nx k,ih c N env h nx k=true-> ∀{ro:Option Nat}{D:List Deferred}(ρ:Ren)(a:Act)(w:World),HR P g w0 ρ h nx w->Fr D ρ N env a-> ∀Q:Exit->Act->World->Prop,
 (∀e env' h' nx' ρ' a' w',k e env' h' nx'=true->Ext nx nx' ρ ρ'->HR P g w0 ρ' h' nx' w'->Fr D ρ' N env' a'->Q e.to a' w')->c.wpIn (W ro) 0 P Q a w
def AX (ρ:Ren)(nx:Nat)(f:FuncId)(xs:List Value)(w:World)(k:KV):Prop:=Calls P f xs.toArray w fun e w'=> ∃r x ρ' h' nx',e= .returned x/\k r h' nx'=true/\Ext nx nx' ρ ρ'/\HR P g w0 ρ' h' nx' w'/\GR ρ' r x
def yO (bG:mV):Prop:= ∀f ans,bG f=some ans->match ans with
 | .call ans=>(∃fn,P.funcs[f]?=some fn/\(fn.name== "runtime.NumGoroutine")=false/\fn.body.isSome=true)/\ ∀args h nx k,ans args h nx k=true-> ∀ρ w xs,HR P g w0 ρ h nx w->F2 (GA ρ) args xs->AX P g w0 ρ nx f xs w k
 | .val ans=> ∀args k,ans args k=true-> ∀(ρ:Ren) xs,F2 (GA ρ) args xs-> ∃r x,k r=true/\GR ρ r x/\ ∀w,(callFunc f xs.toArray).run P w= .ok (.value x) w
 | .spine=>True
end
noncomputable def IK (l:List AV):Nat->Env->(Env->Bool)->Bool:=
 List.rec (motive:=fun _=>Nat->Env->(Env->Bool)->Bool) (fun _ env k=>k env) (fun v _ ih i env k=>env.iZ i (some v.rv) fun env=>ih (Nat.succ i) env k) l
theorem Yu {ρ:Ren}{l:List AV}{xs:List Value}(hx:F2 (GA ρ) l xs): ∀{i:Nat}{env:Env}{t:Array Value}{k:Env->Bool},ER ρ env t->(∀j x,xs[j]?=some x->t[i+j]?=some x)->IK l i env k=true-> ∃env',k env'=true/\ER ρ env' t:=by
 induction hx with
 |nil=>intro i env t k he _ hk;exact⟨env,hk,he⟩
 |cons a _ ih=>
  intro i env t k he ht hk
  obtain⟨env',hk,hh⟩:=Tr.bJ hk
  refine ih (fun j v hv=>?_) (fun j x hx=>?_) hk
  ·rw[hh]at hv
   split at hv
   ·rename_i e;cases hv;subst e;exact⟨_,by simpa using ht 0 _ rfl,a.rv⟩
   ·exact he j v hv
  ·have:=ht (j+1) x (by simpa using hx)
   rwa[show i+(j+1)=i+1+j by omega]at this
noncomputable def DL (P:Program)(env:Env)(h:Hp)(l:List ResultVar):(List AV->Bool)->Bool:=
 List.rec (motive:=fun _=>(List AV->Bool)->Bool) (fun k=>k []) (fun x _ ih k=>match x with
  | .tmp t=>au (env.get t) fun r=>zW r fun a=>ih fun l=>k (a::l)
  | .cell c t=>au (env.get c) fun p=>OU P h t p fun r _=>zW r fun a=>ih fun l=>k (a::l)) l
noncomputable def vK (l:List AV)(k:RV->Bool):Bool:=match l with
 |[a]=>k a.rv
 |l=>k (.aK l)
def vZ (tmps:Array Value):ResultVar->Sem Value
 | .tmp t=>pure (tmps.getD t undef)
 | .cell c t=>do loadVar t (<-asAddr (tmps.getD c undef))
theorem tu (fn:Func)(tmps:Array Value):results fn tmps=(fn.results.mapM (vZ tmps)>>=fun vs=>pure (if h:vs.size=1 then vs[0]else .tuple vs)):=by
 unfold results
 congr 1
section
variable {P:Program} {g:Nat} {w0:World} {ρ:Ren} {h:Hp} {nx:Nat} {w:World} {N:Nat} {env:Env} {a:Act} {D:List Deferred}
theorem adD (H:HR P g w0 ρ h nx w)(hF:Fr D ρ N env a){l:List ResultVar}: ∀{k:List AV->Bool},DL P env h l k=true-> ∃vs xs,k vs=true/\F2 (GA ρ) vs xs/\
 (l.mapM (vZ a.tmps):Sem (List Value)).run P w= .ok xs w:=by
 induction l with
 |nil=>intro k hk;exact⟨[],[],hk, .nil,by simp⟩
 |cons x l ih=>
  intro k hk
  cases x with
  |tmp t=>
   obtain⟨r,hr,hk⟩:=ah hk
   obtain⟨y,h1,h2⟩:=hF.er _ _ hr
   obtain⟨v,hk,hv⟩:=oC h2 hk
   obtain⟨vs,xs,hk,hx,hrun⟩:=ih (k:=fun l=>k (v::l)) hk
   refine⟨_,y::xs,hk, .cons hv hx,?_⟩
   have:a.tmps.getD t undef=y:=by simp[Array.getD_eq_getD_getElem?,h1]
   simp only[List.mapM_cons,vZ,Sem.run_bind,Sem.run_pure,Result.andThen_ok,hrun,this]
  |cell c t=>
   obtain⟨r,hr,hk⟩:=ah hk
   obtain⟨y,h1,h2⟩:=hF.er _ _ hr
   obtain⟨r',x,ids,hk,hx',hnn,hrun'⟩:=QO H h2 hk
   obtain⟨v,hk,hv⟩:=oC hx' hk
   obtain⟨vs,xs,hk,hx,hrun⟩:=ih (k:=fun l=>k (v::l)) hk
   refine⟨_,x::xs,hk, .cons hv hx,?_⟩
   have:a.tmps.getD c undef=y:=by simp[Array.getD_eq_getD_getElem?,h1]
   have hl:=hrun' w fun id hid o ho=>H.objs id o ho (hnn id hid)
   have hl2:(do loadVar t (<-asAddr y):Sem Value).run P w= .ok x w:=by
    rw[<-hl]
    cases y with
    |pointer p=>cases p with
     |none=>simp[Instr.loadAt,Instr.sureAddr]at hl
     |some p=>simp[Instr.loadAt,Instr.sureAddr,asAddr]
    |_=>simp[Instr.loadAt,Instr.sureAddr]at hl
   simp only[List.mapM_cons,vZ,Sem.run_bind,this]at hl2⊢
   rw[hl2]
   simp only[Result.andThen_ok,hrun,Sem.run_pure]
theorem wL (H:HR P g w0 ρ h nx w)(hF:Fr D ρ N env a){fn:Func}{k:RV->Bool}(hk:DL P env h fn.results.toList (fun l=>vK l k)=true): ∃r x,k r=true/\GR ρ r x/\(results fn a.tmps).run P w= .ok x w:=by
 obtain⟨vs,xs,hk,hx,hrun⟩:=adD H hF hk
 have hrun':(fn.results.mapM (vZ a.tmps):Sem (Array Value)).run P w= .ok xs.toArray w:=by
  rw[Array.mapM_eq_mapM_toList]
  simp[hrun]
 unfold vK at hk
 split at hk
 ·cases hx with
  |cons h1 t1=>cases t1;exact⟨_,_,hk,h1.rv,by simp only[tu,Sem.run_bind];rw[hrun'];simp⟩
 ·rename_i hne
  refine⟨_,_,hk, .aK hx,?_⟩
  have hlen:=dw hx
  have: ¬xs.toArray.size=1:=by
   intro e
   simp at e
   cases vs with
   |nil=>simp at hlen;omega
   |cons b t=>cases t with
    |nil=>exact hne b rfl
    |cons=>simp at hlen;omega
  simp only[tu,Sem.run_bind]
  rw[hrun']
  simp only[Result.andThen_ok,dif_neg this,Sem.run_pure]
noncomputable def XT (P:Program)(ih:Run)(f:FuncId)(args:List AV)(h:Hp)(nx:Nat)(k:KV):Bool:=
 au (fnL P f) fun fn=>au fn.body fun c=>iff (!(fn.name== "runtime.NumGoroutine")) (IK args 0 .leaf fun env=>
  ih c (Nat.add (llen args) (Nat.sub fn.ntmps (llen args))) env h nx fun e env h nx=>(match e with
   | .normal=>DL P env h fn.results.toList fun l=>vK l fun r=>k r h nx
   | .ret=>DL P env h fn.results.toList fun l=>vK l fun r=>k r h nx
   |_=>false))
theorem GN {f:FuncId}{xs:List Value}{fn:Func}(hf:P.funcs[f]?=some fn)(hn:(fn.name== "runtime.NumGoroutine")=false)(hb:fn.body.isSome=true):(callFunc f xs.toArray).run P w= .ok (.enter f xs.toArray) w:=by
 have hb': ¬fn.body=none:=by cases h:fn.body<;>simp_all
 have hn': ¬fn.name= "runtime.NumGoroutine":=by simpa using hn
 simp[callFunc,hf,hn',hb']
theorem ZY {f:FuncId}{args:List AV}{xs:List Value}(hx:F2 (GA ρ) args xs){n:Nat}{k:Env->Bool}(hk:IK args 0 .leaf k=true):
 ∃env,k env=true/\Fr [] ρ (Nat.add (llen args) (Nat.sub n (llen args))) env {tmps:=xs.toArray++Array.replicate (n-xs.toArray.size) undef,defers:=[]}:=by
 have hE:ER ρ .leaf (xs.toArray++Array.replicate (n-xs.toArray.size) undef):=fun i v hv=>by cases hv
 replace hk:=Yu hx hE (fun j x hj=>by
  have:=(List.getElem?_eq_some_iff.1 hj).1
  rw[Nat.zero_add,Array.getElem?_append_left (by simpa using this)];simpa using hj) hk
 obtain⟨env,hk,hE⟩:=hk
 have hl:=dw hx
 exact⟨env,hk,hE,by rw[aI];simp[hl],rfl⟩
theorem CQ {ih:Run}(hI:yM P g w0 ih)(H:HR P g w0 ρ h nx w){f:FuncId}{args:List AV}{xs:List Value}(hx:F2 (GA ρ) args xs){k:KV}(hk:XT P ih f args h nx k=true):
 (∀w,(callFunc f xs.toArray).run P w= .ok (.enter f xs.toArray) w)/\AX P g w0 ρ nx f xs w k:=by
 replace hk:=ah hk
 obtain⟨fn,hf,hk⟩:=hk
 try simp only[aG,aH,aW]at hf
 replace hk:=ah hk
 obtain⟨c,hc,hk⟩:=hk
 replace hk:=aj hk
 obtain⟨hn,hk⟩:=hk
 have hn:(fn.name== "runtime.NumGoroutine")=false:=by simpa using hn
 refine⟨fun w=>GN hf hn (by rw[hc];rfl),?_⟩
 obtain⟨env,hk,hF⟩:=ZY (f:=f) hx hk
 refine calls_of_wp hf hc (wpIn_wide.1 (hI c _ env h nx _ hk (ro:=none) ρ _ w H hF _ fun e env' h' nx' ρ' a' w' hk' hle H' hF'=>?_))
 have fin:DL P env' h' fn.results.toList (fun l=>vK l fun r=>k r h' nx')=true->a'.defers=[]/\ ∃v,(results fn a'.tmps).run P w'= .ok v w'/\ ∃r x ρ' h' nx',Ending.returned v= .returned x/\k r h' nx'=true/\Ext nx nx' ρ ρ'/\HR P g w0 ρ' h' nx' w'/\GR ρ' r x:=fun hk=>by
  obtain⟨r,x,hk,hr,hrun⟩:=wL H' hF' hk
  exact⟨hF'.kE,x,hrun,r,x,ρ',h',nx',rfl,hk,hle,H',hr⟩
 cases e with
 |normal=>exact fin hk'
 |ret=>exact fin hk'
 |exit=>cases hk'
 |goto=>cases hk'
abbrev Tf:=Ex->Env->Hp->Nat->List Nat->Bool
noncomputable def Lm (P:Program)(g:Nat)(ih:Run)(JM:Operand)(ps:List Tmp)(yH bd:Code)(N:Nat)(env:Env)(h:Hp)(nx:Nat)(M:List Nat)(k:Tf):Bool:=
 dN g env JM fun r=>(match r with
  | .c (.clo i)=>au (h.get i) fun o=>(match o with
    | .clo f first caps=>pU h nx .kE fun db h nx=>pU h nx (.loop N env ps yH bd false none) fun l h nx=>fL (first++(.c (.Io l)::caps)) fun args=>XT P ih f args h nx fun _ h nx=>
       au (h.get l) fun o=>(match o with
        | .loop _ _ _ _ _ false pend=>h.iZ l (some .any) fun h=>(match pend with
          |none=>k .normal env h nx (db::M)
          |some none=>k .ret env h nx (db::M)
          |some (some i)=>k (.exit i) env h nx (db::M))
        |_=>false)
    |_=>false)
  |_=>false)
noncomputable def Yr (P:Program)(g:Nat)(ih:Run)(rec:Code->Nat->Env->Hp->Nat->List Nat->Tf->Bool)(c:Code):Nat->Env->Hp->Nat->List Nat->Tf->Bool:=match c with
 | .seq a b=>fun N env h nx M k=>rec a N env h nx M fun e env h nx M=>(match e with| .normal=>rec b N env h nx M k|e=>k e env h nx M)
 | .block id c=>fun N env h nx M k=>rec c N env h nx M fun e env h nx M=>(match e with| .exit i=>Bool.casesOn (Nat.beq i id) (k (.exit i) env h nx M) (k .normal env h nx M)|e=>k e env h nx M)
 | .rangeFunc JM ps yH bd=>fun N env h nx M k=>Lm P g ih JM ps.toList yH bd N env h nx M k
 |c=>fun N env h nx M k=>ih c N env h nx fun e env h nx=>k e env h nx M
noncomputable def spine (P:Program)(g:Nat)(ih:Run)(fuel:Nat):Code->Nat->Env->Hp->Nat->List Nat->Tf->Bool:=
 Nat.rec (motive:=fun _=>Code->Nat->Env->Hp->Nat->List Nat->Tf->Bool) (fun _ _ _ _ _ _ _=>false) (fun _ rec=>Yr P g ih rec) fuel
def KJ (g:Nat)(ρ:Ren):List Nat->List Deferred->Prop:=F2 fun id d=>g<=id/\ ∃b,ρ id=some (.blk b 0 0)/\d={target:= .collected b,args:= #[]}
theorem KJ.mono {g:Nat}{ρ ρ':Ren}(h:ρ.le ρ'){M:List Nat}{D:List Deferred}(hd:KJ g ρ M D):KJ g ρ' M D:=oK (fun _ _ ⟨h0,b,h1,h2⟩=>⟨h0,b,h _ _ h1,h2⟩) hd
theorem WJ {ih:Run}(hI:yM P g w0 ih){JM:Operand}{ps:Array Tmp}{yH bd:Code}{M:List Nat}{k:Tf}(hk:Lm P g ih JM ps.toList yH bd N env h nx M k=true)(H:HR P g w0 ρ h nx w)(hF:Fr D ρ N env a)(hM:KJ g ρ M D){Q:Exit->Act->World->Prop}
 (hQ: ∀e env' h' nx' M' D' ρ' a' w',k e env' h' nx' M'=true->Ext nx nx' ρ ρ'->HR P g w0 ρ' h' nx' w'->Fr D' ρ' N env' a'->KJ g ρ' M' D'->Q e.to a' w'):(Code.rangeFunc JM ps yH bd).wpIn (W none) 0 P Q a w:=by
 unfold Lm at hk
 obtain⟨r,hk,hr⟩:=uf H.glob hF.er hk
 split at hk
 case h_2=>cases hk
 rename_i i
 obtain⟨ob,hob,hk⟩:=ah hk
 cases ob<;>try(cases hk;done)
 rename_i f first caps
 dsimp only at hk
 obtain⟨fx,cx,hf,h1,h2⟩: ∃fx cx:List Value,a.eval JM= .func (.func f) fx.toArray cx.toArray/\F2 (GA ρ) first fx/\F2 (GA ρ) caps cx:=by
  generalize a.eval JM=X at hr
  cases hr with
  |c hr=>cases hr with
   |clo hr=>
    cases H.ob hob hr with
    |clo hr' hx hy=>rw[hr]at hr';cases hr';exact⟨_,_,rfl,hx,hy⟩
 replace hk:=Tr.bJ hk
 obtain⟨ha,hk,hha⟩:=hk
 obtain⟨ρ1,hle1,hr1,H1⟩:=H.new (.deferred (some [])) (base:=0) (cap:=0) hha fun ρ' _ hr'=> .kE hr' (heap_alloc_new _ _)
 replace hk:=Tr.bJ hk
 obtain⟨hb,hk,hhb⟩:=hk
 dsimp only at hk
 rw[iF]at hk
 refine wpIn_rangeFunc fun fn _=>?_
 let lp:Loop:={state:= .ready,pending:=none,fn,tmps:=a.tmps,params:=ps,assign:=yH,body:=bd,defers:=w.heap.size}
 obtain⟨ρ2,hle2,hr2,H2⟩:=H1.new (.loop lp) (base:=0) (cap:=0) hhb fun ρ' hle hr'=> .loop (r:=lp) hr' (heap_alloc_new _ _) hF.size (fun i v hv=>let⟨x,e1,e2⟩:=hF.er i v hv;⟨x,e1,e2.mono (hle1.le.le_trans hle)⟩) rfl rfl rfl rfl rfl
 have hsz:(w.alloc (.deferred (some []))).heap.size=w.heap.size+1:=World.size_alloc _ _
 have hle:=hle1.le.le_trans hle2.le
 have hargs:F2 (GA ρ2) (first++(.c (.Io (nx+1))::caps)) (fx++(.func (.yield (w.heap.size+1)) #[] #[]::cx)):=
  dR (yQ.mono hle h1) (.cons (.c (.Io (base:=0) (cap:=0) (by rw[<-hsz];exact hr2))) (yQ.mono hle h2))
 obtain⟨hrun,hcall⟩:=CQ hI H2 hargs hk
 have e1:(fx++(Value.func (.yield (w.heap.size+1)) #[] #[]::cx)).toArray=fx.toArray++ #[Value.func (.yield (w.heap.size+1)) #[] #[]]++cx.toArray:=by apply Array.ext';simp
 refine⟨w.heap.size+1,[{target:= .collected w.heap.size,args:= #[]}],(w.alloc (.deferred (some []))).alloc (.loop lp),{target:= .fn (.func f) cx.toArray,args:=fx.toArray++ #[Value.func (.yield (w.heap.size+1)) #[] #[]]},(w.alloc (.deferred (some []))).alloc (.loop lp),f,_,_,?_,?_,fun _ _=>trivial,?_,fun h=>by simp[W,Fence.wide]at h,Ol.2 (Calls.mono hcall fun e w' hq=>?_)⟩
 ·simp only[Instr.enterLoop,W,Sem.run_bind,run_newObj_alloc,Result.andThen_ok,Sem.run_pure,hsz,lp]
 ·simp[resolve,hf,Deferred.ofValue]
  rfl
 ·show(callFunc f (fx.toArray++ #[Value.func (.yield (w.heap.size+1)) #[] #[]]++cx.toArray)).run P _=_
  rw[<-e1]
  exact hrun _
 ·obtain⟨r,x,ρ3,h3,nx3,rfl,hk,hE3,H3,_⟩:=hq
  obtain⟨ol,hol,hk⟩:=ah hk
  cases ol<;>try(cases hk;done)
  rename_i N' env' ps' asg' bd' busy pend
  cases busy<;>try(cases hk;done)
  dsimp only at hk
  replace hk:=Tr.bJ hk
  obtain⟨h4,hk,hh4⟩:=hk
  have hrl:ρ3 (nx+1)=some (.blk (w.heap.size+1) 0 0):=hE3.le _ _ (by rw[<-hsz];exact hr2)
  have hrd:ρ3 nx=some (.blk w.heap.size 0 0):=hE3.le _ _ (hle2.le _ _ hr1)
  have hgl:g<=nx+1:=by have:=H.tV;omega
  cases H3.ob hol hrl with
  | @loop _ bl _ _ _ _ _ _ _ lq hr' hh hn he hp ha hd hs hq=>
    rw[hrl]at hr';cases hr'
    have H4:=H3.dO (x:= .loop {lq with state:= .exhausted}) hol hgl ⟨_,_,hrl⟩ (fun w' _=> .any hrl) hh4
    have hend:(Instr.endLoop (w.heap.size+1)).run P w'= .ok (pend.map yZ) (dO w' (w.heap.size+1) (.loop {lq with state:= .exhausted})):=by
     have h0:(lq.state== .busy)=false:=by rw[hs];cases pend<;>rfl
     have hget:=aY (P:=P) hh (fun _ _ _=>by simp)
     simp only[Instr.endLoop,Instr.getLoop,Sem.run_bind,hget,Result.andThen_ok,Sem.run_pure,h0,Bool.false_eq_true,if_false,fH hh (fun _ _ _=>by simp)]
     rw[<-hq]
    have afT:=hle.le_trans hE3.le
    have hF':Fr ([{target:= .collected w.heap.size,args:= #[]}]++D) ρ3 N env {a with defers:=[{target:= .collected w.heap.size,args:= #[]}]++a.defers}:=
     ⟨(hF.er.mono afT),hF.size,by show _++a.defers=_;rw[hF.kE]⟩
    have hM':KJ g ρ3 (nx::M) ([{target:= .collected w.heap.size,args:= #[]}]++D):= .cons ⟨by have:=H.tV;omega,_,hrd,rfl⟩ (hM.mono afT)
    have abU:Ext nx nx3 ρ ρ3:=(hle1.trans hle2).trans hE3
    refine⟨pend.map yZ,_,hend,?_⟩
    cases pend with
    |none=>exact hQ .normal _ _ _ _ _ _ _ _ hk abU H4 hF' hM'
    |some q=>cases q with
     |none=>exact wpIn_ret (hQ .ret _ _ _ _ _ _ _ _ hk abU H4 hF' hM')
     |some i=>exact wpIn_exit (hQ (.exit i) _ _ _ _ _ _ _ _ hk abU H4 hF' hM')
theorem Bf {ih:Run}(hI:yM P g w0 ih): ∀(n:Nat){c:Code}{N:Nat}{env:Env}{h:Hp}{nx:Nat}{M:List Nat}{k:Tf}{ρ:Ren}{a:Act}{w:World}{D:List Deferred},spine P g ih n c N env h nx M k=true->HR P g w0 ρ h nx w->Fr D ρ N env a->KJ g ρ M D-> ∀{Q:Exit->Act->World->Prop},
 (∀e env' h' nx' M' D' ρ' a' w',k e env' h' nx' M'=true->Ext nx nx' ρ ρ'->HR P g w0 ρ' h' nx' w'->Fr D' ρ' N env' a'->KJ g ρ' M' D'->Q e.to a' w')->c.wpIn (W none) 0 P Q a w
 |0,_,_,_,_,_,_,_,_,_,_,_,hk,_,_,_,_,_=>by cases hk
 |n+1,c,N,env,h,nx,M,k,ρ,a,w,D,hk,H,hF,hM,Q,hQ=>by
  have hk:Yr P g ih (spine P g ih n) c N env h nx M k=true:=hk
  have plain:ih c N env h nx (fun e env h nx=>k e env h nx M)=true->c.wpIn (W none) 0 P Q a w:=fun hk=>
   hI _ _ _ _ _ _ hk ρ a w H hF _ fun e env' h' nx' ρ' a' w' hk' hE H' hF'=>hQ e env' h' nx' M D ρ' a' w' hk' hE H' hF' (hM.mono hE.le)
  cases c with
  |seq x y=>
   refine wpIn_seq (Bf hI n (c:=x) hk H hF hM fun e env' h' nx' M' D' ρ' a' w' hk' hE H' hF' hM'=>?_)
   cases e with
   |normal=>exact Bf hI n hk' H' hF' hM' fun e CJ h'' uJ M'' D'' ρ'' a'' w'' h1 h2 h3 h4 h5=>hQ e CJ h'' uJ M'' D'' ρ'' a'' w'' h1 (hE.trans h2) h3 h4 h5
   |exit i=>exact hQ (.exit i) env' h' nx' M' D' ρ' a' w' hk' hE H' hF' hM'
   |goto i=>exact hQ (.goto i) env' h' nx' M' D' ρ' a' w' hk' hE H' hF' hM'
   |ret=>exact hQ .ret env' h' nx' M' D' ρ' a' w' hk' hE H' hF' hM'
  |block id c=>
   refine wpIn_block (Bf hI n (c:=c) hk H hF hM fun e env' h' nx' M' D' ρ' a' w' hk' hE H' hF' hM'=>?_)
   cases e with
   |normal=>exact hQ .normal env' h' nx' M' D' ρ' a' w' hk' hE H' hF' hM'
   |exit i=>
    simp only[Ex.to,Exit.inBlock]
    dsimp only at hk'
    cases hb:Nat.beq i id with
    |true=>
     rw[hb]at hk'
     rw[if_pos (aQ hb)]
     exact hQ .normal env' h' nx' M' D' ρ' a' w' hk' hE H' hF' hM'
    |false=>
     rw[hb]at hk'
     rw[if_neg (qA hb)]
     exact hQ (.exit i) env' h' nx' M' D' ρ' a' w' hk' hE H' hF' hM'
   |goto i=>exact hQ (.goto i) env' h' nx' M' D' ρ' a' w' hk' hE H' hF' hM'
   |ret=>exact hQ .ret env' h' nx' M' D' ρ' a' w' hk' hE H' hF' hM'
  |rangeFunc JM ps yH bd=>exact WJ hI hk H hF hM hQ
  |_=>exact plain hk
noncomputable def JD (M:List Nat):Hp->(Hp->Bool)->Bool:=
 List.rec (motive:=fun _=>Hp->(Hp->Bool)->Bool) (fun h k=>k h) (fun i _ ih h k=>au (h.get i) fun o=>(match o with| .kE=>h.iZ i (some .any) fun h=>ih h k|_=>false)) M
noncomputable def adb (P:Program)(g:Nat)(ih:Run)(f:FuncId)(args:List AV)(h:Hp)(nx:Nat)(k:KV):Bool:=
 au (fnL P f) fun fn=>au fn.body fun c=>iff (!(fn.name== "runtime.NumGoroutine")) (IK args 0 .leaf fun env=>
  spine P g ih 100 c (Nat.add (llen args) (Nat.sub fn.ntmps (llen args))) env h nx [] fun e env h nx M=>(match e with
   | .normal=>JD M h fun h=>DL P env h fn.results.toList fun l=>vK l fun r=>k r h nx
   | .ret=>JD M h fun h=>DL P env h fn.results.toList fun l=>vK l fun r=>k r h nx
   |_=>false))
theorem Zw {fn:Func}{R:Ending->World->Prop}{tmps:Array Value}{M:List Nat}{D:List Deferred}(hM:KJ g ρ M D): ∀{h:Hp}{w:World}{k:Hp->Bool},JD M h k=true->HR P g w0 ρ h nx w->
 (∀h' w',k h'=true->HR P g w0 ρ h' nx w'-> ∃v,(results fn tmps).run P w'= .ok v w'/\R (.returned v) w')->LeavesInM (W none) 0 P fn tmps R D .returning w:=by
 induction hM with
 |nil=>intro h w k hk H hR;exact hR h w hk H
 | @cons i d M D hd _ ih=>
   intro h w k hk H hR
   obtain⟨o,ho,hk⟩:=ah hk
   cases o<;>try(cases hk;done)
   replace hk:=Tr.bJ hk
   obtain⟨h1,hk,hh⟩:=hk
   obtain⟨hgi,b,hb,rfl⟩:=hd
   cases H.ob ho hb with
   |kE hr hhb=>
    rw[hb]at hr;cases hr
    have H1:=H.dO (x:= .deferred none) ho hgi ⟨_,_,hb⟩ (fun w' _=> .any hb) hh
    refine⟨by simp, .inl ⟨b,dO w b (.deferred none),rfl,?_,ih hk H1 hR⟩⟩
    have hget:=aY (P:=P) hhb (fun _ _ _=>by simp)
    simp only[Instr.takeDeferred,Sem.run_bind,hget,Result.andThen_ok,fH hhb (fun _ _ _=>by simp),Sem.run_pure]
theorem Sv {ih:Run}(hI:yM P g w0 ih)(H:HR P g w0 ρ h nx w){f:FuncId}{args:List AV}{xs:List Value}(hx:F2 (GA ρ) args xs){k:KV}(hk:adb P g ih f args h nx k=true):
 (∀w,(callFunc f xs.toArray).run P w= .ok (.enter f xs.toArray) w)/\AX P g w0 ρ nx f xs w k:=by
 replace hk:=ah hk
 obtain⟨fn,hf,hk⟩:=hk
 try simp only[aG,aH,aW]at hf
 replace hk:=ah hk
 obtain⟨c,hc,hk⟩:=hk
 replace hk:=aj hk
 obtain⟨hn,hk⟩:=hk
 have hn:(fn.name== "runtime.NumGoroutine")=false:=by simpa using hn
 refine⟨fun w=>GN hf hn (by rw[hc];rfl),?_⟩
 obtain⟨env,hk,hF⟩:=ZY (f:=f) hx hk
 refine callsIn_wide.1 (callsIn_of_wp_marks (F:=W none) (n:=0) hf hc trivial (Bf hI 100 hk H hF .nil fun e env' h' nx' M' D' ρ' a' w' hk' hle H' hF' hM'=>?_))
 have fin:(JD M' h' fun h=>DL P env' h fn.results.toList (fun l=>vK l fun r=>k r h nx'))=true->LeavesInM (W none) 0 P fn a'.tmps (fun e w'=> ∃r x ρ' h' nx',e= .returned x/\k r h' nx'=true/\Ext nx nx' ρ ρ'/\HR P g w0 ρ' h' nx' w'/\GR ρ' r x) a'.defers .returning w':=fun hk=>by
  rw[hF'.kE]
  refine Zw hM' hk H' fun h'' w'' hk Tm=>?_
  obtain⟨r,x,hk,hr,hrun⟩:=wL Tm hF' hk
  exact⟨x,hrun,r,x,ρ',h'',nx',rfl,hk,hle,Tm,hr⟩
 cases e with
 |normal=>exact fin hk'
 |ret=>exact fin hk'
 |exit=>cases hk'
 |goto=>cases hk'
noncomputable def zn (P:Program)(g:Nat)(bG:mV)(ih:Run)(f:FuncId)(args:List AV)(h:Hp)(nx:Nat)(k:KV):Bool:=
 match bG f with
 |some (.call ans)=>ans args h nx k
 |some (.val ans)=>ans args fun r=>k r h nx
 |some .spine=>adb P g ih f args h nx k
 |none=>XT P ih f args h nx k
theorem Sz {bG:mV}{ih:Run}(hO:yO P g w0 bG)(hI:yM P g w0 ih)(H:HR P g w0 ρ h nx w){f:FuncId}{args:List AV}{xs:List Value}(hx:F2 (GA ρ) args xs){k:KV}(hk:zn P g bG ih f args h nx k=true):
 ((callFunc f xs.toArray).run P w= .ok (.enter f xs.toArray) w/\AX P g w0 ρ nx f xs w k)\/ ∃r x,k r h nx=true/\GR ρ r x/\(callFunc f xs.toArray).run P w= .ok (.value x) w:=by
 unfold zn at hk
 split at hk
 ·rename_i ans ha
  obtain⟨⟨fn,hf,hn,hb⟩,hans⟩:=hO f _ ha
  exact .inl ⟨GN hf hn hb,hans args h nx k hk ρ w xs H hx⟩
 ·rename_i ans ha
  obtain⟨r,x,h1,h2,h3⟩:=hO f _ ha args _ hk ρ xs hx
  exact .inr ⟨r,x,h1,h2,h3 w⟩
 ·exact .inl ⟨(Sv hI H hx hk).1 w,(Sv hI H hx hk).2⟩
 ·exact .inl ⟨(CQ hI H hx hk).1 w,(CQ hI H hx hk).2⟩
noncomputable def aek (P:Program)(g:Nat)(bG:mV)(ih:Run)(f:Operand)(args:List Operand)(env:Env)(h:Hp)(nx:Nat)(k:KV):Bool:=
 dN g env f fun r=>(match r with
  | .c (.fn i)=>Es g env args fun l=>zn P g bG ih i l h nx k
  | .c (.clo id)=>au (h.get id) fun o=>(match o with
    | .clo i first caps=>Es g env args fun l=>fL (first++(l++caps)) fun l=>zn P g bG ih i l h nx k
    |_=>false)
  |_=>false)
noncomputable def opL (P:Program)(g:Nat)(bG:mV)(ih:Run)(op:Op)(env:Env)(h:Hp)(nx:Nat)(k:KV):Bool:=match op with
 | .alloc t=>aaD P h nx t k
 | .box t x=>dN g env x fun r=>agF h nx t r k
 | .buildSlice t len parts=>Jj g env parts.toList fun ps=>Gt P h nx t len ps k
 | .store t p x=>dN g env p fun p=>dN g env x fun r=>PN P g h t p r fun h=>k .undef h nx
 | .mapUpdate t m x y=>dN g env m fun m=>dN g env x fun x=>dN g env y fun y=>LK P g h t m x y fun h=>k .undef h nx
 | .insert t m x y=>dN g env m fun m=>dN g env x fun x=>dN g env y fun y=>LK P g h t m x y fun h=>k .undef h nx
 | .mapEntry t m x=>dN g env m fun m=>dN g env x fun x=>NJ P g h t m x fun r h=>k r h nx
 | .entryStore _ m s y=>dN g env m fun m=>dN g env s fun s=>dN g env y fun y=>zI g h m s y fun h=>k .undef h nx
 | .makeMap t r=>RX g env r fun r=>QG P h nx t r k
 | .makeSlice t l c=>dN g env l fun l=>dN g env c fun c=>Jw P h nx t l c k
 | .makeChan t x=>dN g env x fun r=>NP P h nx t r k
 | .range t x=>dN g env x fun r=>YV P h nx t r k
 | .next x s=>dN g env x fun r=>nextK g h r s fun r h=>k r h nx
 | .convert s d x=>dN g env x fun r=>agv P h nx s d r k
 | .call c=>(match c.callee with
   | .builtin .append=>(match c.argTypes.toList,c.args.toList with|[t,t2],[s,x]=>dN g env s fun s=>dN g env x fun x=>VQ P g h nx t t2 s x k|_,_=>false)
   | .builtin .delete=>(match c.argTypes.toList,c.args.toList with|[t,_],[m,x]=>dN g env m fun m=>dN g env x fun x=>VJ P g h t m x fun h=>k .undef h nx|_,_=>false)
   | .builtin .copy=>(match c.argTypes.toList,c.args.toList with|[t,_],[d,x]=>dN g env d fun d=>dN g env x fun x=>agw P g h t d x fun r h=>k r h nx|_,_=>false)
   | .builtin .unsafeSliceData=>(match c.args.toList with|[x]=>dN g env x fun r=>KO r fun r=>k r h nx|_=>false)
   | .builtin .unsafeString=>(match c.argTypes.toList,c.args.toList with|[t,_],[x,y]=>dN g env x fun p=>dN g env y fun n=>Po P g h t p n fun r h=>k r h nx|_,_=>false)
   | .value f=>aek P g bG ih f c.args.toList env h nx k
   |_=>false)
 |_=>false
theorem afd {bG:mV}{ih:Run}(hO:yO P g w0 bG)(hI:yM P g w0 ih)(H:HR P g w0 ρ h nx w)(hF:Fr D ρ N env a){o:Oper}{k:KV}(hk:opL P g bG ih o.op env h nx k=true){K:Act->World->Prop}{Q:Exit->Act->World->Prop}
 (hK: ∀r x ρ' h' nx' w',k r h' nx'=true->Ext nx nx' ρ ρ'->HR P g w0 ρ' h' nx' w'->GR ρ' r x->K (a.put o.dst x) w'):o.wp P a w K Q:=by
 obtain⟨dst,op,type,pos,after,guard⟩:=o
 have ev: ∀{x:Operand}{k:RV->Bool},dN g env x k=true-> ∃r,k r=true/\GR ρ r (a.eval x):=fun hk=>uf H.glob hF.er hk
 have val: ∀{s:Sem Value}{s':Sem Next},Do P g w0 ρ nx w k s->(s'=do pure (.value (<-s)))->execOp a.eval {dst,op,type,pos,after,guard}=s'->Oper.wp P {dst,op,type,pos,after,guard} a w K Q:=fun{s s'} hd e1 e2=>by
  obtain⟨r,x,ρ',h',nx',w',h1,h2,h3,h4,h5⟩:=hd
  unfold Oper.wp
  rw[e2,e1]
  simp only[Sem.run_bind,h5,Result.andThen_ok,Sem.run_pure,Oper.upon_value]
  exact hK r x ρ' h' nx' w' h1 h2 h3 h4
 have Pq: ∀{s:Sem Unit}{s':Sem Next},Gx P g w0 ρ nx w (fun h nx=>k .undef h nx) s->(s'=do s;pure .skip)->execOp a.eval {dst,op,type,pos,after,guard}=s'->Oper.wp P {dst,op,type,pos,after,guard} a w K Q:=fun{s s'} hd e1 e2=>by
  obtain⟨ρ',h',nx',w',h1,h2,h3,h5⟩:=hd
  unfold Oper.wp
  rw[e2,e1]
  simp only[Sem.run_bind,h5,Result.andThen_ok,Sem.run_pure,Oper.upon_skip]
  exact hK _ _ ρ' h' nx' w' h1 h2 h3 .undef
 cases op<;>simp only[opL]at hk<;>(try(cases hk;done))
 case alloc t=>exact val (aaC H hk) rfl rfl
 case box t x=>obtain⟨r,hk,hr⟩:=ev hk;exact val (ael H hr hk) rfl rfl
 case buildSlice t len parts=>
  obtain⟨ps,hk,hps⟩:=DW H hF hk
  have e1:(List.map (fun p=>(p.1,a.eval p.2)) parts.toList).toArray=parts.map fun p=>(p.1,a.eval p.2):=by apply Array.ext';simp
  have:=Mc H hps hk
  rw[e1]at this
  exact val this rfl rfl
 case store t p x=>obtain⟨r,hk,hr⟩:=ev hk;obtain⟨s,hk,hs⟩:=ev hk;exact Pq (Yp H hr hs hk) rfl rfl
 case mapUpdate t m x y=>obtain⟨r,hk,hr⟩:=ev hk;obtain⟨s,hk,hs⟩:=ev hk;obtain⟨u,hk,hu⟩:=ev hk;exact Pq (Jv (k:=fun h nx=>k .undef h nx) H hr hs hu hk) rfl rfl
 case insert t m x y=>obtain⟨r,hk,hr⟩:=ev hk;obtain⟨s,hk,hs⟩:=ev hk;obtain⟨u,hk,hu⟩:=ev hk;exact Pq (Jv (k:=fun h nx=>k .undef h nx) H hr hs hu hk) rfl rfl
 case mapEntry t m x=>obtain⟨r,hk,hr⟩:=ev hk;obtain⟨s,hk,hs⟩:=ev hk;exact val (QE (k:=k) H hr hs hk) rfl rfl
 case entryStore t m s y=>obtain⟨r,hk,hr⟩:=ev hk;obtain⟨s,hk,hs⟩:=ev hk;obtain⟨u,hk,hu⟩:=ev hk;exact Pq (LZ (k:=fun h nx=>k .undef h nx) H hr hs hu hk) rfl rfl
 case makeMap t r=>obtain⟨r,hk,hr⟩:=Fq H hF hk;exact val (TS H hr hk) rfl rfl
 case makeSlice t l c=>obtain⟨r,hk,hr⟩:=ev hk;obtain⟨s,hk,hs⟩:=ev hk;exact val (OA H hr hs hk) rfl rfl
 case makeChan t x=>obtain⟨r,hk,hr⟩:=ev hk;exact val (QJ H hr hk) rfl rfl
 case range t x=>obtain⟨r,hk,hr⟩:=ev hk;exact val (YU H hr hk) rfl rfl
 case next x s=>obtain⟨r,hk,hr⟩:=ev hk;exact val (abo H hr hk) rfl rfl
 case convert s d x=>obtain⟨r,hk,hr⟩:=ev hk;exact val (aeb H hr hk) rfl rfl
 case call c=>
  obtain⟨callee,args,argTypes⟩:=c
  simp only at hk
  split at hk
  ·split at hk
   ·rename_i t t2 s x e1 e2
    obtain⟨r,hk,hr⟩:=ev hk
    obtain⟨s',hk,hs⟩:=ev hk
    have e1:argTypes= #[t,t2]:=by apply Array.ext';simpa using e1
    have e2:args= #[s,x]:=by apply Array.ext';simpa using e2
    subst e1 e2
    exact val (XZ (ty:=type) H hr hs hk) rfl (by simp[execOp,resolve,invoke,builtin])
   ·cases hk
  ·split at hk
   ·rename_i t t2 m x e1 e2
    obtain⟨r,hk,hr⟩:=ev hk
    obtain⟨s',hk,hs⟩:=ev hk
    have e1:argTypes= #[t,t2]:=by apply Array.ext';simpa using e1
    have e2:args= #[m,x]:=by apply Array.ext';simpa using e2
    subst e1 e2
    exact val (XO (t2:=t2) (ty:=type) H hr hs hk) rfl (by simp[execOp,resolve,invoke,builtin])
   ·cases hk
  ·split at hk
   ·rename_i t t2 d x e1 e2
    obtain⟨r,hk,hr⟩:=ev hk
    obtain⟨s',hk,hs⟩:=ev hk
    have e1:argTypes= #[t,t2]:=by apply Array.ext';simpa using e1
    have e2:args= #[d,x]:=by apply Array.ext';simpa using e2
    subst e1 e2
    exact val (aec (t2:=t2) (ty:=type) (k:=k) H hr hs hk) rfl (by simp[execOp,resolve,invoke,builtin])
   ·cases hk
  ·split at hk
   ·rename_i x e2
    obtain⟨r,hk,hr⟩:=ev hk
    have e2:args= #[x]:=by apply Array.ext';simpa using e2
    subst e2
    obtain⟨q,v,hk1,hq,hrun⟩:=V4 (P:=P) (ts:=argTypes) (ty:=type) hr hk
    have hd:Do P g w0 ρ nx w k (Builtin.unsafeSliceData_ argTypes type #[a.eval x]):=⟨_,_,ρ,h,nx,w,hk1,Ext.refl _ _,H,hq,hrun w⟩
    exact val hd rfl (by simp[execOp,resolve,invoke,builtin])
   ·cases hk
  ·split at hk
   ·rename_i t t2 x y e1 e2
    obtain⟨r,hk,hr⟩:=ev hk
    obtain⟨s',hk,hs⟩:=ev hk
    have e1:argTypes= #[t,t2]:=by apply Array.ext';simpa using e1
    have e2:args= #[x,y]:=by apply Array.ext';simpa using e2
    subst e1 e2
    exact val (Yc (it:=t2) (ty:=type) (k:=k) H hr hs hk) rfl (by simp[execOp,resolve,invoke,builtin])
   ·cases hk
  ·rename_i f
   obtain⟨r,hk,hr⟩:=ev hk
   have enter: ∀{i:FuncId}{l:List AV}{xs:List Value},F2 (GA ρ) l xs->zn P g bG ih i l h nx k=true->((execOp a.eval {dst,op:= .call {callee:= .value f,args,argTypes},type,pos,after,guard}).run P w=(callFunc i xs.toArray).run P w)->Oper.wp P {dst,op:= .call {callee:= .value f,args,argTypes},type,pos,after,guard} a w K Q:=fun hx hk he=>by
    rcases Sz hO hI H hx hk with⟨h1,h2⟩|⟨r,x,h1,h2,h3⟩
    case inr=>
     unfold Oper.wp
     rw[he,h3,Oper.upon_value]
     exact hK r x ρ h nx w h1 (Ext.refl _ _) H h2
    unfold Oper.wp
    rw[he,h1,Oper.upon_enter]
    refine Calls.mono h2 fun e w' hq=>?_
    obtain⟨r,x,ρ',h',nx',rfl,h3,h4,h5,h6⟩:=hq
    exact hK r x ρ' h' nx' w' h3 h4 h5 h6
   have e1:(List.map a.eval args.toList).toArray=args.map a.eval:=by apply Array.ext';simp
   split at hk
   ·rename_i i
    obtain⟨l,hk,hl⟩:=uV H hF hk
    have hf:a.eval f= .func (.func i) #[] #[]:=by
     generalize a.eval f=X at hr
     cases hr with
     |c hr=>cases hr;rfl
    exact enter hl hk (by rw[e1];simp[execOp,resolve,hf,Deferred.ofValue,invoke])
   ·rename_i id
    obtain⟨ob,hob,hk⟩:=ah hk
    cases ob<;>try(cases hk;done)
    rename_i i first caps
    dsimp only at hk
    obtain⟨l,hk,hl⟩:=uV H hF hk
    rw[iF]at hk
    obtain⟨fx,cx,hf,h1,h2⟩: ∃fx cx:List Value,a.eval f= .func (.func i) fx.toArray cx.toArray/\F2 (GA ρ) first fx/\F2 (GA ρ) caps cx:=by
     generalize a.eval f=X at hr
     cases hr with
     |c hr=>cases hr with
      |clo hr=>
       cases H.ob hob hr with
       |clo hr' hx hy=>rw[hr]at hr';cases hr';exact⟨_,_,rfl,hx,hy⟩
    exact enter (dR h1 (dR hl h2)) hk (by
     have e2:(fx++(List.map a.eval args.toList++cx)).toArray=fx.toArray++args.map a.eval++cx.toArray:=by rw[<-e1];simp
     rw[e2];simp[execOp,resolve,hf,Deferred.ofValue,invoke])
   ·cases hk
  ·cases hk
end
end bU
end Go.Proofs.YtakhobfamnjnoaaGreatDoor
