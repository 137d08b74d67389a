/- The machine's regions tell the truth: one operation; a region whose order is not drawn. -/
import Derived.Test.YtakhobfamnjnoaaGreatDoorB44
set_option linter.unusedVariables false
set_option linter.unusedSimpArgs false
namespace Go.Proofs.YtakhobfamnjnoaaGreatDoor
namespace bC
open Go Go.RowKit
section
variable {P:Program} {g:Nat} {w0:World} {ρ:Ren} {h:Hp} {nx:Nat} {w:World} {N:Nat} {env:Env} {a:Act} {D:List Deferred}
def One (P:Program)(g:Nat)(w0:World)(ρ:Ren)(nx:Nat)(a:Act)(w:World)(o:Oper)(k:KF):Prop:=
 ∀(K:Act->World->Prop)(Q:Exit->Act->World->Prop),(∀r x ρ' h' nx' w' ids,k r h' nx' ids=true->Ext nx nx' ρ ρ'->HR P g w0 ρ' h' nx' w'->GR ρ' r x->K (a.put o.dst x) w')->o.wp P a w K Q
theorem P8 {aU:jW}{ih:Run}(hO:vF P g w0 aU)(hI:vw P g w0 ih)(H:HR P g w0 ρ h nx w)(hF:Fr D ρ N env a){o:Oper}{k:KF}(hk:Hl P g aU ih o env h nx k=true):One P g w0 ρ nx a w o k:=by
 intro K Q hK
 unfold Hl at hk
 have fl:LU P g o.op env h nx k=true->o.wp P a w K Q:=fun hk=>by
  obtain⟨r,x,ρ',h',nx',ids,h1,h2,h3,h4,_,h5,h6⟩:=Vl H hF hk
  have hrun:=h6 w fun id hid o ho=>H.objs id o ho (h4 id hid)
  unfold Oper.wp
  rw[hrun,Oper.upon_value]
  exact hK r x ρ' h' nx' w ids h1 h2 (h5 w H) h3
 have ld:Y7 P g aU ih o.op env h nx (fun r h nx=>k r h nx [])=true->o.wp P a w K Q:=fun hk=>
  abw hO hI H hF hk fun r x ρ' h' nx' w' h1 h2 h3 h4=>hK r x ρ' h' nx' w' [] h1 h2 h3 h4
 generalize(Bool.casesOn (Zj P o.op) (floats o.op) false:Bool)=b at hk
 cases b with
 |true=>exact fl hk
 |false=>exact ld hk
theorem aad {aU:jW}{ih:Run}{o:Oper}{k:KF}(hk:Hl P g aU ih o env h nx k=true): ∀c,o.op≠ .defer c:=fun c e=>by
 unfold Hl at hk
 rw[e]at hk
 cases hk
theorem P5: ∀{l:List (Tmp×AV)}{zs:List (Tmp×Value)}{t:Array Value}{env:Env}{k:Env->Bool},F2 (fun a b=>a.1=b.1/\GA ρ a.2 b.2) l zs->abn N l env k=true->ER ρ env t->t.size=N->
 ∃env',k env'=true/\Fr [] ρ N env' {tmps:=zs.foldl (fun t p=>t.setIfInBounds p.1 p.2) t,defers:=[]}
 |[],_,t,env,k, .nil,hk,he,hs=>⟨env,hk,he,hs,rfl⟩
 |(i,v)::l,(j,x)::zs,t,env,k, .cons ⟨hij,hv⟩ hz,hk,he,hs=>by
  obtain⟨hi,hk⟩:=aj hk
  have hi:i<N:=aK hi
  obtain⟨jw,hk,hh⟩:=Tr.aW hk
  cases hij
  have he1:ER ρ jw (t.setIfInBounds i x):=fun m r hr=>by
   rw[hh]at hr
   split at hr
   ·rename_i e
    cases hr;subst e
    exact⟨x,by simp[hs,hi],hv.rv⟩
   ·rename_i hne
    obtain⟨y,h1,h2⟩:=he m r hr
    exact⟨y,by rw[Array.getElem?_setIfInBounds_ne (Ne.symm hne)];exact h1,h2⟩
  exact P5 (zs:=zs) (t:=t.setIfInBounds i x) hz hk he1 (by simp[hs])
theorem acB {ps:List Tmp}{vs:List AV}{xs:List Value}(h:F2 (GA ρ) vs xs):F2 (fun a b=>a.1=b.1/\GA ρ a.2 b.2) (ps.zip vs) (ps.zip xs):=by
 induction h generalizing ps with
 |nil=>cases ps<;>exact .nil
 |cons a _ ih=>cases ps with
  |nil=>exact .nil
  |cons p ps=>exact .cons ⟨rfl,a⟩ ih
theorem ZH {ro:Option Nat}{ih:Run}(hI:vw P g w0 ih)(H:HR P g w0 ρ h nx w)(hF:Fr D ρ N env a){o:Oper}{id:Nat}{args:List Operand}(hy:Tf o env=some (id,args)){k:KV}(hk:Xf g ih id args env h nx k=true){K:Act->World->Prop}{Q:Exit->Act->World->Prop}
 (hK: ∀r x ρ' h' nx' w',k r h' nx'=true->Ext nx nx' ρ ρ'->HR P g w0 ρ' h' nx' w'->GR ρ' r x->K (a.put o.dst x) w'):o.wpIn (W ro) 0 P a w K Q:=by
 obtain⟨dst,op,type,pos,after,guard⟩:=o
 unfold Tf at hy
 split at hy
 case h_2=>cases hy
 rename_i c hop
 dsimp only at hop
 subst hop
 split at hy
 case h_2=>cases hy
 rename_i t hc
 split at hy
 case h_2=>cases hy
 rename_i id' het
 cases hy
 obtain⟨callee,BZ,argTypes⟩:=c
 dsimp only at hc
 subst hc
 unfold Xf at hk
 obtain⟨vs,hk,hvs⟩:=qV H hF hk
 obtain⟨hgi,hk⟩:=aj hk
 have hgi:=aK hgi
 obtain⟨ob,hob,hk⟩:=ah hk
 split at hk
 case h_2=>cases hk
 rename_i N0 nV ps asg bd
 obtain⟨hlen,hk⟩:=aj hk
 have hlen:=aJ hlen
 rw[aG,aG]at hlen
 rw[eP]at hk
 obtain⟨b,base,cap,hrb,hval⟩: ∃b base cap,ρ id=some (.blk b base cap)/\a.eval (.tmp t)= .func (.yield b) #[] #[]:=by
  obtain⟨x,h1,h2⟩:=hF.er t _ het
  have e:a.eval (.tmp t)=x:=by simp[Act.eval,Array.getD_eq_getD_getElem?,h1]
  cases h2 with
  |c h2=>cases h2 with
   |Ef hr=>exact⟨_,_,_,hr,e⟩
 cases H.ob hob hrb with
 | @loop _ b' _ _ _ _ _ _ _ r hr' hh hn he hp ha hd hs hq=>
   rw[hrb]at hr';cases hr'
   have hget:=aP (P:=P) hh (fun _ _ _=>by simp)
   have hsz:(BZ.map a.eval).size=r.params.size:=by
    have h1:=bJ hvs
    have h2:ps.length=r.params.size:=by rw[<-hp];simp
    simp at h1
    simp
    omega
   have hrun:((({dst,op:= .call {callee:= .value (.tmp t),args:=BZ,argTypes},type,pos,after,guard}:Oper).semAt (W ro).round a.eval).run P w)= .ok (.round b r.fn ((r.params.zip (BZ.map a.eval)).foldl (fun tmps (t,a)=>tmps.setIfInBounds t a) r.tmps) r.assign r.body) w:=by
    have e0:(({dst,op:= .call {callee:= .value (.tmp t),args:=BZ,argTypes},type,pos,after,guard}:Oper).semAt (W ro).round a.eval)=execOp a.eval {dst,op:= .call {callee:= .value (.tmp t),args:=BZ,argTypes},type,pos,after,guard}:=by
     cases ro with
     |none=>rfl
     |some l=>exact Oper.semAt_some l _ _ (fun c e=>by cases e)
    rw[e0]
    simp[execOp,resolve,hval,Deferred.ofValue,invoke,Instr.yield,Instr.getLoop,hget,hsz]
   have hzs:F2 (fun a b=>a.1=b.1/\GA ρ a.2 b.2) (ps.zip vs) (r.params.zip (BZ.map a.eval)).toList:=by
    have:=acB (ps:=ps) hvs
    rw[<-hp]at this⊢
    simpa using this
   obtain⟨jw,hk,hF1⟩:=P5 (t:=r.tmps) hzs hk he hn
   rw[Array.foldl_toList]at hF1
   refine⟨fun _ _=>trivial,?_⟩
   rw[hrun]
   refine⟨fun h=>by simp[W,Fence.wide]at h,roundIn_of_wpIn trivial ?_⟩
   subst ha hd
   refine hI _ _ _ _ _ _ hk (ro:=some b) ρ _ w H hF1 _ fun e acO h2 nx2 ρ2 a2 w2 hk hE2 H2 hF2=>?_
   cases e<;>try(cases hk;done)
   dsimp only at hk
   obtain⟨ob2,ab7,hk⟩:=ah hk
   split at hk
   case h_2=>cases hk
   have Nr:ρ2 id=some (.blk b 0 0):=hE2.le _ _ hrb
   replace hk:=Tr.aW hk
   obtain⟨h3,hk,hh3⟩:=hk
   cases H2.ob ab7 Nr with
   | @loop _ b2 _ _ _ _ _ _ _ r2 hr2' acg hn2 he2 hp2 ha2 hd2 hs2 hq2=>
     rw[Nr]at hr2';cases hr2'
     have adL:=aP (P:=P) acg (fun _ _ _=>by simp)
     have hs2:r2.state= .ready:=hs2
     have H3:=H2.bV (x:= .loop {r2 with state:= .busy}) ab7 hgi ⟨_,_,Nr⟩ (fun w' hw'=> .loop (r:={r2 with state:= .busy}) Nr hw' hn2 he2 hp2 ha2 hd2 rfl hq2) hh3
     refine⟨_,?_,hI _ _ _ _ _ _ hk (ro:=some b) ρ2 a2 _ H3 hF2 _ fun e acN h4 nx4 ρ4 a4 w4 hk hE4 H4 hF4=>?_⟩
     ·simp only[Instr.beginRound,Instr.getLoop,Sem.run_bind,adL,Result.andThen_ok,Sem.run_pure,dL acg (fun _ _ _=>by simp),hs2]
     ·obtain⟨ob4,ab6,hk⟩:=ah hk
      split at hk
      case h_2=>cases hk
      have Tz:ρ4 id=some (.blk b 0 0):=hE4.le _ _ Nr
      cases H4.ob ab6 Tz with
      | @loop _ b4 _ _ _ _ _ _ _ r4 ab5 acf hn4 he4 hp4 ha4 hd4 hs4 hq4=>
        rw[Tz]at ab5;cases ab5
        have adK:=aP (P:=P) acf (fun _ _ _=>by simp)
        have hE:=hE2.trans hE4
        have fin: ∀(j:Option (Option Nat))(v:Bool),v=j.isNone->(h4.fU id (some (.loop _ _ _ _ _ false j)) fun h=>k (.c (.bool v)) h nx4)=true-> ∃x w',(Instr.endRound b (j.map vW)).run P w4= .ok x w'/\K (a.put dst x) w':=fun j v hv hk=>by
         replace hk:=Tr.aW hk
         obtain⟨h5,hk,hh5⟩:=hk
         have H5:=H4.bV (x:= .loop {r4 with state:=if(j.map vW).isNone then .ready else .done,pending:=j.map vW}) ab6 hgi ⟨_,_,Tz⟩ (fun w' hw'=> .loop (r:={r4 with state:=if(j.map vW).isNone then .ready else .done,pending:=j.map vW}) Tz hw' hn4 he4 hp4 ha4 hd4 (by cases j<;>rfl) rfl) hh5
         refine⟨.bool v,_,?_,hK _ _ ρ4 h5 nx4 _ hk hE H5 (.c (.bool _))⟩
         simp only[Instr.endRound,Instr.getLoop,Sem.run_bind,adK,Result.andThen_ok,Sem.run_pure,dL acf (fun _ _ _=>by simp)]
         rw[hv]
         cases j<;>rfl
        cases e with
        |normal=>exact fin none true rfl hk
        |ret=>exact fin (some none) false rfl hk
        |exit i=>exact fin (some (some i)) false rfl hk
        |goto=>cases hk
theorem BG {ro:Option Nat}{aU:jW}{ih:Run}(hO:vF P g w0 aU)(hI:vw P g w0 ih){ops:Array Oper}{Q:Exit->Act->World->Prop}{k:Env->Hp->Nat->Bool}: ∀(l:List Oper){ρ:Ren}{h:Hp}{nx:Nat}{w:World}{env:Env}{a:Act},
 HR P g w0 ρ h nx w->Fr D ρ N env a->Sj P g aU ih ops.toList N l env h nx k=true->
 (∀env' h' nx' ρ' a' w',k env' h' nx'=true->Ext nx nx' ρ ρ'->HR P g w0 ρ' h' nx' w'->Fr D ρ' N env' a'->Q .normal a' w')->wpListIn (W ro) 0 P ops Q l a w
 |[],ρ,h,nx,w,env,a,H,hF,hk,hQ=>hQ env h nx ρ a w hk (Ext.refl _ _) H hF
 |o::l,ρ,h,nx,w,env,a,H,hF,hk,hQ=>by
  have hk:=AL (ops:=ops) hF hk
  unfold wpListIn
  cases hw:Region.wanted o (yielded ops a.tmps)with
  |false=>
   rw[hw]at hk
   obtain⟨env',hk,hF'⟩:=Hf hF GR.undef hk
   simp only[Bool.false_eq_true,if_false]
   exact⟨fun _ _=>trivial,BG hO hI l H hF' hk hQ⟩
  |true=>
   rw[hw]at hk
   simp only[if_true]
   dsimp only at hk
   have on: ∀r x ρ' h' nx' w',(lZ N env o.dst r fun env=>Sj P g aU ih ops.toList N l env h' nx' k)=true->Ext nx nx' ρ ρ'->HR P g w0 ρ' h' nx' w'->GR ρ' r x->wpListIn (W ro) 0 P ops Q l (a.put o.dst x) w':=fun r x ρ' h' nx' w' hk' hE H' hx=>by
    obtain⟨env',hk',hF'⟩:=Hf (hF.mono hE.le) hx hk'
    exact BG hO hI l H' hF' hk' fun zo h'' qK ρ'' a' w' h1 h2 h3 h4=>hQ zo h'' qK ρ'' a' w' h1 (hE.trans h2) h3 h4
   split at hk
   ·rename_i p hy
    exact ZH hI H hF (args:=p.2) (id:=p.1) hy hk on
   ·exact Vk (aad hk) (P8 hO hI H hF hk _ _ fun r x ρ' h' nx' w' ids hk' hE H' hx=>on r x ρ' h' nx' w' hk' hE H' hx)
theorem zW {ro:Option Nat}{P:Program}{Q:Exit->Act->World->Prop}{a:Act}{w:World}{c:Code}(h:c.wpIn (W ro) 0 P (Exit.noGoto Q) a w):(Code.scope c).wpIn (W ro) 0 P Q a w:=by
 intro b k cs hro hb hr
 have s1:step P (lone (b.atR a (.code (.scope c)::k)) cs w)= .next (lone (b.atR a (.code c:: .inScope c::k)) cs w):=step_lone_go (by simp[stepG,stepG.exec,Frame.atR])
 have s2: ∀a w,step P (lone (b.atR a (.inScope c::k)) cs w)= .next (lone (b.atR a k) cs w):=fun a w=>step_lone_go (by simp[stepG,stepG.exec,Frame.atR])
 obtain⟨e,a₁,w₁,hq,harr⟩:=h b (.inScope c::k) cs hro hb hr
 have harr:=ArrivesIn.of_steps (.one (Kr _) s1) harr
 cases e with
 |normal=>exact⟨.normal,a₁,w₁,hq,StepsIn.trans harr (.one (Kr _) (s2 _ _))⟩
 |exit id=>exact⟨.exit id,a₁,w₁,hq,fun k' hk=>harr.1 k' (by simp[exitTo,hk]),fun h1 h2=>harr.2 h1 (by simp[exitTo,h2])⟩
 |goto l=>exact hq.elim
 |ret=>exact⟨_,a₁,w₁,hq,harr⟩
 |panic ch=>exact⟨_,a₁,w₁,hq,harr⟩
 |outgrown=>exact⟨_,a₁,w₁,hq,harr⟩
def YX (P:Program)(g:Nat)(w0:World)(aU:jW):Prop:= ∀(ih:Run),vw P g w0 ih-> ∀id ops N env h nx (k:Env->Hp->Nat->Bool),TP P g aU ih ops N env h nx k=true-> ∀{ro:Option Nat}{D:List Deferred}(ρ:Ren)(a:Act)(w:World),HR P g w0 ρ h nx w->Fr D ρ N env a-> ∀Q:Exit->Act->World->Prop,
 (∀env' h' nx' ρ' a' w',k env' h' nx'=true->Ext nx nx' ρ ρ'->HR P g w0 ρ' h' nx' w'->Fr D ρ' N env' a'->Q .normal a' w')->(Code.region id ops true).wpIn (W ro) 0 P Q a w
theorem Jt (aU:jW)(n:Nat):exec P g aU (n+1)=Kt P g aU (exec P g aU n):=rfl
theorem YA {ro:Option Nat}{aU:jW}(hO:vF P g w0 aU)(hD:YX P g w0 aU){ih:Run}(hI:vw P g w0 ih){c:Code}(hl: ∀b,c≠ .loop b){k:KX}(hk:Kt P g aU ih c N env h nx k=true)(H:HR P g w0 ρ h nx w)(hF:Fr D ρ N env a){Q:Exit->Act->World->Prop}
 (hQ: ∀e env' h' nx' ρ' a' w',k e env' h' nx'=true->Ext nx nx' ρ ρ'->HR P g w0 ρ' h' nx' w'->Fr D ρ' N env' a'->Q e.to a' w'):c.wpIn (W ro) 0 P Q a w:=by
 cases c with
 |skip=>exact wpIn_skip (hQ .normal env h nx ρ a w hk (Ext.refl _ _) H hF)
 |label=>exact wpIn_label (hQ .normal env h nx ρ a w hk (Ext.refl _ _) H hF)
 |exit id=>exact wpIn_exit (hQ (.exit id) env h nx ρ a w hk (Ext.refl _ _) H hF)
 |ret=>exact wpIn_ret (hQ .ret env h nx ρ a w hk (Ext.refl _ _) H hF)
 |loop b=>exact absurd rfl (hl b)
 |region id ops draw=>
  cases draw with
  |false=>
   simp only[Kt,PX]at hk
   cases hs:Rx ops with
   |none=>rw[hs]at hk;exact wpIn_region_list (BG hO hI ops.toList H hF hk fun env' h' nx' ρ' a' w' h1 h2 h3 h4=>hQ .normal env' h' nx' ρ' a' w' h1 h2 h3 h4)
   |some s=>
    rw[hs]at hk
    unfold Rx at hs
    split at hs
    case h_2=>cases hs
    rename_i o rest ho
    split at hs
    case h_2=>cases hs
    rename_i cases hop
    split at hs
    case h_2=>cases hs
    rename_i hgd
    cases hs
    refine ZT (ro:=ro) H hF ho hop hgd hk fun r x h' w' h1 h2 h3=>?_
    obtain⟨env',h1,h4⟩:=Hf hF h3 h1
    exact BG hO hI rest h2 h4 h1 fun env' h' nx' ρ' a' w' h1 h2 h3 h4=>hQ .normal env' h' nx' ρ' a' w' h1 h2 h3 h4
  |true=>exact hD ih hI id ops N env h nx _ hk ρ a w H hF Q fun env' h' nx' ρ' a' w' h1 h2 h3 h4=>hQ .normal env' h' nx' ρ' a' w' h1 h2 h3 h4
 |seq x y=>
  refine wpIn_seq (hI _ _ _ _ _ _ hk ρ a w H hF _ fun e env' h' nx' ρ' a' w' hk' hE H' hF'=>?_)
  cases e with
  |normal=>exact hI _ _ _ _ _ _ hk' ρ' a' w' H' hF' _ fun e zo h'' qK ρ'' a'' w'' h1 h2 h3 h4=>hQ e zo h'' qK ρ'' a'' w'' h1 (hE.trans h2) h3 h4
  |exit i=>exact hQ (.exit i) env' h' nx' ρ' a' w' hk' hE H' hF'
  |goto i=>exact hQ (.goto i) env' h' nx' ρ' a' w' hk' hE H' hF'
  |ret=>exact hQ .ret env' h' nx' ρ' a' w' hk' hE H' hF'
 |cond c x y=>
  obtain⟨r,hk,hr⟩:=qj H.glob hF.er hk
  split at hk
  ·rename_i b
   have hc:a.eval c= .bool b:=by
    generalize a.eval c=X at hr
    cases hr with
    |c hr=>cases hr;rfl
   refine wpIn_cond hc ?_
   cases b with
   |false=>exact hI _ _ _ _ _ _ hk ρ a w H hF _ hQ
   |true=>exact hI _ _ _ _ _ _ hk ρ a w H hF _ hQ
  ·cases hk
 |block id c=>
  refine wpIn_block (hI _ _ _ _ _ _ hk ρ a w H hF _ fun e env' h' nx' ρ' a' w' hk' hE H' hF'=>?_)
  cases e with
  |normal=>exact hQ .normal env' h' nx' ρ' a' w' hk' hE H' hF'
  |exit i=>
   simp only[Ex.to,Exit.inBlock]
   dsimp only at hk'
   cases hb:Nat.beq i id with
   |true=>
    rw[hb]at hk'
    rw[if_pos (aJ hb)]
    exact hQ .normal env' h' nx' ρ' a' w' hk' hE H' hF'
   |false=>
    rw[hb]at hk'
    rw[if_neg (nN hb)]
    exact hQ (.exit i) env' h' nx' ρ' a' w' hk' hE H' hF'
  |goto i=>exact hQ (.goto i) env' h' nx' ρ' a' w' hk' hE H' hF'
  |ret=>exact hQ .ret env' h' nx' ρ' a' w' hk' hE H' hF'
 |scope c=>
  refine zW (hI _ _ _ _ _ _ hk ρ a w H hF _ fun e env' h' nx' ρ' a' w' hk' hE H' hF'=>?_)
  cases e with
  |normal=>exact hQ .normal env' h' nx' ρ' a' w' hk' hE H' hF'
  |exit i=>exact hQ (.exit i) env' h' nx' ρ' a' w' hk' hE H' hF'
  |goto i=>cases hk'
  |ret=>exact hQ .ret env' h' nx' ρ' a' w' hk' hE H' hF'
 |_=>cases hk
theorem Qp {ro:Option Nat}{aU:jW}: ∀(n:Nat),(∀m,m<n->vw P g w0 (exec P g aU m))-> ∀{c:Code}{N:Nat}{env:Env}{h:Hp}{nx:Nat}{k:KX},exec P g aU n (.loop c) N env h nx k=true-> ∀{D:List Deferred}{ρ:Ren}{a:Act}{w:World},HR P g w0 ρ h nx w->Fr D ρ N env a-> ∀{Q:Exit->Act->World->Prop},
 (∀e env' h' nx' ρ' a' w',k e env' h' nx'=true->Ext nx nx' ρ ρ'->HR P g w0 ρ' h' nx' w'->Fr D ρ' N env' a'->Q e.to a' w')->Code.roundsIn (W ro) 0 P c Q n a w
 |0,_,_,_,_,_,_,_,hk,_,_,_,_,_,_,_,_=>by cases hk
 |n+1,hI,c,N,env,h,nx,k,hk,D,ρ,a,w,H,hF,Q,hQ=>by
  rw[roundsIn_succ]
  rw[Jt]at hk
  refine hI n (Nat.lt_succ_self n) _ _ _ _ _ _ hk ρ a w H hF _ fun e env' h' nx' ρ' a' w' hk' hE H' hF'=>?_
  cases e with
  |normal=>exact Qp n (fun m hm=>hI m (Nat.lt_succ_of_lt hm)) hk' H' hF' fun e zo h'' qK ρ'' a'' w'' h1 h2 h3 h4=>hQ e zo h'' qK ρ'' a'' w'' h1 (hE.trans h2) h3 h4
  |exit i=>exact hQ (.exit i) env' h' nx' ρ' a' w' hk' hE H' hF'
  |goto i=>exact hQ (.goto i) env' h' nx' ρ' a' w' hk' hE H' hF'
  |ret=>exact hQ .ret env' h' nx' ρ' a' w' hk' hE H' hF'
theorem aau {aU:jW}(hO:vF P g w0 aU)(hD:YX P g w0 aU): ∀n,∀m,m<=n->vw P g w0 (exec P g aU m):=by
 intro n
 induction n with
 |zero=>
  intro m hm
  obtain rfl:m=0:=by omega
  intro c N env h nx k hk
  cases hk
 |succ n ih=>
  intro m hm
  by_cases hmn:m<=n
  ·exact ih m hmn
  obtain rfl:m=n+1:=by omega
  intro c N env h nx k hk ro D ρ a w H hF Q hQ
  by_cases hl: ∃b,c= .loop b
  ·obtain⟨b,rfl⟩:=hl
   exact wpIn_loop_rounds (n+1) (Qp (n+1) (fun m hm=>ih m (by omega)) hk H hF hQ)
  ·rw[Jt]at hk
   exact YA hO hD (ih n (Nat.le_refl _)) (fun b e=>hl ⟨b,e⟩) hk H hF hQ
end
end bC
end Go.Proofs.YtakhobfamnjnoaaGreatDoor
