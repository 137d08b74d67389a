/- Symbolic runs: regions that draw their order; what floats is taken first. -/
import Derived.Test.YtakhobfamnjnoaaGreatDoorB14
set_option linter.unusedVariables false
set_option linter.unusedSimpArgs false
namespace Go.Proofs.YtakhobfamnjnoaaGreatDoor
namespace Sx
open Go Go.RowKit
def VL (L:List Bool)(i:Nat):Bool:=match aA L i with|some b=>b|none=>true
def Zi (L:List Bool)(i:Nat):Bool:=match aA L i with|some b=>b|none=>false
def CJ:List Bool->Nat->List Bool
 |[],_=>[]
 |_::l,0=>true::l
 |b::l,n+1=>b::CJ l n
def vg (o:Oper):List Nat:=(o.after.toList.filter (Region.binds .any)).map (·.on)
def allIn (L:List Bool):List Nat->Bool
 |[]=>true
 |j::js=>(match Zi L j with|true=>allIn L js|false=>false)
def IY (L:List Bool):Nat->List Oper->List Nat
 |_,[]=>[]
 |i,o::os=>(match VL L i with
  |true=>IY L (Nat.succ i) os
  |false=>(match allIn L (vg o)with|true=>i::IY L (Nat.succ i) os|false=>IY L (Nat.succ i) os))
def zN (i:Nat):List Nat->Bool
 |[]=>false
 |j::l=>(match Nat.beq i j with|true=>true|false=>zN i l)
def tY (ops:Array Oper)(L:List Bool)(i:Nat)(oi:Oper):Nat->List Oper->Bool
 |_,[]=>true
 |j,o::os=>(match Nat.beq j i with
  |true=>tY ops L i oi (Nat.succ j) os
  |false=>(match VL L j with
   |true=>tY ops L i oi (Nat.succ j) os
   |false=>(match zN i (vg o)with
    |true=>tY ops L i oi (Nat.succ j) os
    |false=>(match oi.apart ops o with|true=>tY ops L i oi (Nat.succ j) os|false=>false))))
def TQ (all:List Oper):Nat->List Nat->List Nat
 |0,l=>l
 |k+1,l=>TQ all k (match zN k l with
  |true=>(match aA all k with|some o=>app (vg o) l|none=>l)
  |false=>l)
def TR (all:List Oper)(i j:Nat):Bool:=match Nat.beq i j with|true=>true|false=>zN i (TQ all (Nat.succ j) [j])
def hits (T:List Nat):Ids->Bool
 |[]=>false
 |(i,_)::l=>(match zN i T with|true=>true|false=>hits T l)
def clash (all:List Oper)(i:Nat)(T:List Nat):List (Nat×Ids)->Bool
 |[]=>false
 |(m,ids)::F=>(match TR all m i with
  |true=>clash all i T F
  |false=>(match hits T ids with|true=>true|false=>clash all i T F))
def pick (ops:Array Oper)(l:List RO)(no:List Nat)(L:List Bool):List Nat->Option Nat
 |[]=>none
 |i::rs=>(match aA l i,aA ops.toList i with
  |some r,some o=>(match Zq r.o,zN i no,tY ops L i o 0 ops.toList with
   |true,false,true=>some i
   |_,_,_=>pick ops l no L rs)
  |_,_=>none)
def YO (k:Nat->Prop):List Nat->Prop
 |[]=>True
 |[i]=>k i
 |i::j::l=>k i/\YO k (j::l)
def Kw:List Bool->Bool
 |[]=>true
 |b::l=>(match b with|true=>Kw l|false=>false)
section
variable (bx:{α:Type}->α->α) (P:Program) (ops:Array Oper) (l:List RO) (no:List Nat) (k:aX->Hp->Prop)
def Gj:Nat->List Bool->List (Nat×Ids)->aX->Hp->Prop
 |0,L,_,e,h=>(match Kw L with|true=>k e h|false=>False)
 |n+1,L,F,e,h=>(match IY L 0 ops.toList with
  |[]=>k e h
  |i0::rs=>(match pick ops l no L (i0::rs)with
   |some i=>(match aA l i with
    |some o=>wants o.g e (fun e=>gy bx P o.o e h fun r ids=>Gj n (CJ L i) ((i,ids)::F) (es e o.d r) h) (fun e=>Gj n (CJ L i) F (es e o.d .undef) h)
    |none=>False)
   |none=>YO (fun i=>match aA l i with
    |some o=>wants o.g e (fun e=>ng bx P o.o e h fun T r h'=>(match clash ops.toList i T F with|true=>False|false=>Gj n (CJ L i) F (es e o.d r) h')) (fun e=>Gj n (CJ L i) F (es e o.d .undef) h)
    |none=>False) (i0::rs)))
end
def Qd:List Oper->Bool
 |[]=>true
 |o::l=>(match o.op with| .select .. =>false|_=>Qd l)
theorem Vx: ∀{l:List Oper},Qd l=true-> ∀o∈l,∀cs b,o.op≠ .select cs b
 |[],_,_,h=>by cases h
 |o::l,h,p,hp=>by
  unfold Qd at h
  split at h
  ·cases h
  ·rename_i hne
   intro cs b
   cases hp with
   |head=>exact hne cs b
   |tail _ hp=>exact Vx h p hp cs b
theorem VK (L:List Bool)(i:Nat):VL L i=L.toArray.getD i true:=by
 unfold VL
 rw[aF,Array.getD_eq_getD_getElem?]
 simp
 cases L[i]?<;>rfl
theorem abU (L:List Bool)(i:Nat):Zi L i=L.toArray.getD i false:=by
 unfold Zi
 rw[aF,Array.getD_eq_getD_getElem?]
 simp
 cases L[i]?<;>rfl
theorem MJ: ∀(L:List Bool)(i:Nat),CJ L i=L.set i true
 |[],i=>rfl
 |_::_,0=>rfl
 |b::l,n+1=>congrArg (b:: ·) (MJ l n)
theorem uh (L:List Bool)(i:Nat):(CJ L i).toArray=L.toArray.setIfInBounds i true:=by rw[MJ];simp
theorem DF {o:Oper}{j:Nat}:j∈vg o↔ ∃e∈o.after,Region.binds .any e=true/\e.on=j:=by
 unfold vg
 simp[List.mem_map,List.mem_filter,and_assoc]
theorem Ec {L:List Bool}: ∀{js:List Nat},allIn L js=true↔ ∀j∈js,L.toArray.getD j false=true
 |[]=>by simp[allIn]
 |j::js=>by
  have ih:=Ec (L:=L) (js:=js)
  have e:=abU L j
  simp only[List.mem_cons,forall_eq_or_imp,<-e]
  unfold allIn
  cases Zi L j<;>simp[ih]
theorem uQ {i:Nat}: ∀{l:List Nat},zN i l=true↔i∈l
 |[]=>by simp[zN]
 |j::l=>by
  have ih:=uQ (i:=i) (l:=l)
  unfold zN
  cases h:Nat.beq i j with
  |true=>simp[aJ h]
  |false=>
   have:i≠j:=fun e=>by subst e;simp at h
   simp[ih,this]
theorem Qk {L:List Bool}: ∀{os:List Oper}{i j:Nat},j∈IY L i os↔ ∃m,j=i+m/\L.toArray.getD j true=false/\ ∃o,os[m]?=some o/\allIn L (vg o)=true
 |[],i,j=>by simp[IY]
 |o::os,i,j=>by
  have ih:=Qk (L:=L) (os:=os) (i:=Nat.succ i) (j:=j)
  have e:=VK L i
  have split:(∃m,j=i+m/\L.toArray.getD j true=false/\ ∃o',(o::os)[m]?=some o'/\allIn L (vg o')=true)↔((j=i/\L.toArray.getD i true=false/\allIn L (vg o)=true)\/ ∃m,j=Nat.succ i+m/\L.toArray.getD j true=false/\ ∃o',os[m]?=some o'/\allIn L (vg o')=true):=by
   constructor
   ·rintro⟨m,rfl,h1,o',h2,h3⟩
    cases m with
    |zero=>simp at h2;subst h2;exact .inl ⟨rfl,h1,h3⟩
    |succ m=>simp at h2;exact .inr ⟨m,by omega,h1,o',h2,h3⟩
   ·rintro(⟨rfl,h1,h2⟩|⟨m,rfl,h1,o',h2,h3⟩)
    ·exact⟨0,rfl,h1,o,rfl,h2⟩
    ·exact⟨m+1,by omega,h1,o',by simpa using h2,h3⟩
  rw[split,<-e]
  unfold IY
  cases h1:VL L i with
  |true=>simp[ih]
  |false=>
   cases h2:allIn L (vg o)with
   |true=>simp[ih]
   |false=>simp[ih]
theorem EI {ops:Array Oper}{L:List Bool}{j:Nat}:j∈IY L 0 ops.toList↔j∈Region.ready .any ops L.toArray:=by
 rw[Qk,mem_ready]
 constructor
 ·rintro⟨m,rfl,h1,o,h2,h3⟩
  refine⟨h1,o,by simpa using h2,fun e he hb=>Ec.1 h3 _ (DF.2 ⟨e,he,hb,rfl⟩)⟩
 ·rintro⟨h1,o,h2,h3⟩
  refine⟨j,by omega,h1,o,by simpa using h2,Ec.2 fun m hm=>?_⟩
  obtain⟨e,he,hb,rfl⟩:=DF.1 hm
  exact h3 e he hb
theorem NC {ops:Array Oper}{L:List Bool}{i:Nat}{oi:Oper}: ∀{os:List Oper}{j:Nat},tY ops L i oi j os=true-> ∀{m:Nat}{o:Oper},os[m]?=some o->j+m≠i->L.toArray.getD (j+m) true=false->(∀e∈o.after,Region.binds .any e=true->e.on≠i)->oi.apart ops o=true
 |[],_,_,_,_,h,_,_,_=>by simp at h
 |p::os,j,hq,m,o,hm,hne,hl,hno=>by
  unfold tY at hq
  have next:tY ops L i oi (Nat.succ j) os=true->(∃n,m=n+1)->oi.apart ops o=true:=fun h ⟨n,hn⟩=>by
   subst hn
   have e:Nat.succ j+n=j+(n+1):=by omega
   exact NC h (m:=n) (by simpa using hm) (by rw[e];exact hne) (by rw[e];exact hl) hno
  cases m with
  |succ n=>
   split at hq
   ·exact next hq ⟨n,rfl⟩
   ·split at hq
    ·exact next hq ⟨n,rfl⟩
    ·split at hq
     ·exact next hq ⟨n,rfl⟩
     ·split at hq
      ·exact next hq ⟨n,rfl⟩
      ·cases hq
  |zero=>
   simp at hm
   subst hm
   split at hq
   ·rename_i h;exact absurd (aJ h) hne
   ·split at hq
    ·rename_i h;rw[VK]at h;rw[Nat.add_zero]at hl;rw[hl]at h;cases h
    ·split at hq
     ·rename_i h
      obtain⟨e,he,hb,hon⟩:=DF.1 (uQ.1 h)
      exact absurd hon (hno e he hb)
     ·split at hq
      ·assumption
      ·cases hq
theorem QN {ops:Array Oper}: ∀(n:Nat)(l:List Nat),TQ ops.toList n l=bC.D6 ops n l
 |0,_=>rfl
 |n+1,l=>by
  simp only[TQ,bC.D6]
  rw[QN n]
  congr 1
  by_cases h:n∈l
  ·rw[uQ.2 h,if_pos (by simpa using h)]
   rw[aF]
   simp only[Array.getElem?_toList]
   cases ops[n]? with
   |none=>rfl
   |some o=>simp only[iG,vg]
  ·have:zN n l=false:=by
    cases hi:zN n l with
    |false=>rfl
    |true=>exact absurd (uQ.1 hi) h
   rw[this,if_neg (by simpa using h)]
theorem aaA {ops:Array Oper}{i j:Nat}:TR ops.toList i j=bC.sN ops i j:=by
 unfold TR bC.sN
 rw[QN]
 cases h:Nat.beq i j with
 |true=>rw[aJ h];simp
 |false=>
  have: ¬i=j:=fun e=>by subst e;simp at h
  have h2:(i==j)=false:=by simpa using this
  simp only[h2,Bool.false_or]
  cases hi:zN i (bC.D6 ops (Nat.succ j) [j])with
  |true=>exact(List.contains_iff_mem.2 (uQ.1 hi)).symm
  |false=>
   have: ¬i∈bC.D6 ops (Nat.succ j) [j]:=fun h=>by rw[uQ.2 h]at hi;cases hi
   simpa using this
theorem QG {T:List Nat}: ∀{ids:Ids},hits T ids=false-> ∀id∈ids,id.1∉T
 |[],_,_,h=>by cases h
 |(i,j)::l,h,id,hid=>by
  unfold hits at h
  split at h
  ·cases h
  ·rename_i hn
   cases hid with
   |head=>exact fun hm=>by rw[uQ.2 hm]at hn;cases hn
   |tail _ hid=>exact QG h id hid
theorem D8 {all:List Oper}{i:Nat}{T:List Nat}: ∀{F:List (Nat×Ids)},clash all i T F=false-> ∀m ids,(m,ids)∈F->TR all m i=false->hits T ids=false
 |[],_,_,_,h,_=>by cases h
 |(n,js)::F,h,m,ids,hm,hd=>by
  unfold clash at h
  cases hm with
  |head=>
   rw[hd]at h
   dsimp only at h
   split at h
   ·cases h
   ·assumption
  |tail _ hm=>
   split at h
   ·exact D8 h m ids hm hd
   ·split at h
    ·cases h
    ·exact D8 h m ids hm hd
theorem PY {ops:Array Oper}{l:List RO}{no:List Nat}{L:List Bool}: ∀{rs:List Nat}{i:Nat},pick ops l no L rs=some i->i∈rs/\ ∃r o,aA l i=some r/\aA ops.toList i=some o/\Zq r.o=true/\tY ops L i o 0 ops.toList=true
 |[],_,h=>by cases h
 |j::rs,i,h=>by
  unfold pick at h
  split at h
  ·rename_i r o h1 h2
   split at h
   ·cases h;exact⟨.head _,r,o,h1,h2,by assumption,by assumption⟩
   ·obtain⟨h3,h4⟩:=PY h;exact⟨.tail _ h3,h4⟩
  ·cases h
theorem QY {k:Nat->Prop}: ∀{l:List Nat},YO k l-> ∀i∈l,k i
 |[],_,_,h=>by cases h
 |[_],h,i,hi=>by simp at hi;subst hi;exact h
 |_::_::_,h,i,hi=>by
  cases hi with
  |head=>exact h.1
  |tail _ hi=>exact QY h.2 i hi
theorem QZ: ∀{L:List Bool},Kw L=true-> ∀i,L.toArray.getD i true=true
 |[],_,i=>by simp
 |b::L,h,i=>by
  unfold Kw at h
  split at h
  ·have:=QZ h
   cases i with
   |zero=>simp
   |succ i=>simpa using this i
  ·cases h
def Uk (F:List (Nat×Ids))(ρ:Ren)(O:Own)(w:World)(m:Nat)(u:World):Prop:=(∀ids,(m,ids)∈F->Uh ids O w u)/\zH ρ.fz u
section
variable {P:Program} {T:gV} [jG P T] {N:Nat} {ops:Array Oper} {l:List RO} {no:List Nat} {k:aX->Hp->Prop}
theorem Dk {N:Nat}{all:List Oper}: ∀{os:List Oper}{l:List RO},Dl T N all os=some l-> ∀{i:Nat}{r:RO},aA l i=some r-> ∃o,aA os i=some o/\XD T N all o=some r
 |[],l,h,i,r,hr=>by cases h;cases hr
 |o::os,l,h,i,r,hr=>by
  obtain⟨r1,h1,h2⟩:=ay h
  obtain⟨m,h3,h4⟩:=ay h2
  cases h4
  cases i with
  |zero=>cases hr;exact⟨o,rfl,h1⟩
  |succ i=>exact Dk h3 hr
theorem Ba (hm:Dl T N ops.toList ops.toList=some l)(hsel:Qd ops.toList=true){Q:Act->World->Prop}: ∀(n:Nat){L:List Bool}{F:List (Nat×Ids)}{ρ:Ren}{h:Hp}{O:Own}{w:World}{e:aX}{a:Act},Gj I0 P ops l no k n L F e h->HR P ρ h O w->Fr ρ N e a->bC.Closed ops L.toArray->(L.length=ops.size)->
 (∀e' h' ρ' O' a' w',k e' h'->ρ.le ρ'->Fm ρ.fz O w ρ'.fz O' w'->HR P ρ' h' O' w'->h.length<=h'.length->Fr ρ' N e' a'->Q a' w')->bC.iw P ops false Q n L.toArray (Uk F ρ O w) a w
 |0,L,F,ρ,h,O,w,e,a,hk,H,hF,hcl,hlen,hQ=>by
  simp only[Gj]at hk
  split at hk
  ·rename_i hL
   exact⟨fun _ m=>⟨fun ids _ id _ q _=>rfl,fun b cs hb=>(H.fz b cs hb).1⟩,fun i o _=>QZ hL i,hQ e h ρ O a w hk ρ.le_refl (Fm.refl _ _ _) H (Nat.le_refl _) hF⟩
  ·exact hk.elim
 |n+1,L,F,ρ,h,O,w,e,a,hk,H,hF,hcl,hlen,hQ=>by
  have hC: ∀m,Uk F ρ O w m w:=fun m=>⟨fun ids _ id _ q _=>rfl,fun b cs hb=>(H.fz b cs hb).1⟩
  have hs: ∀(j:Nat)(o:Oper) cs b,ops[j]?=some o->o.op≠ .select cs b:=fun j o cs b ho=>Vx hsel o (by simpa using Array.mem_of_getElem? ho) cs b
  have hlen': ∀i,(CJ L i).length=ops.size:=fun i=>by rw[MJ,List.length_set];exact hlen
  simp only[Gj]at hk
  split at hk
  ·rename_i hr
   refine⟨hC,fun _=>hQ e h ρ O a w hk ρ.le_refl (Fm.refl _ _ _) H (Nat.le_refl _) hF,fun i hi=>?_⟩
   rw[<-EI,hr]at hi
   cases hi
  ·rename_i i0 rs hrd
   split at hk
   ·rename_i i hp
    obtain⟨hi,r,o,h1,h2,h3,h4⟩:=PY hp
    rw[<-hrd,EI]at hi
    rw[h1]at hk
    dsimp only at hk
    obtain⟨o',g1,g2⟩:=Dk hm h1
    rw[h2]at g1;cases g1
    obtain⟨q1,q2,q3,q4⟩:=G9 g2
    rw[aF]at h2
    have ho:ops[i]?=some o:=by simpa using h2
    have hcl':bC.Closed ops (CJ L i).toArray:=by rw[uh];exact bC.qp hcl hi
    have hfree: ∀(j:Nat) oj,ops[j]?=some oj->j≠i->L.toArray.getD j true=false->(∀e∈oj.after,Region.binds .any e=true->e.on≠i)->o.apart ops oj=true:=fun j oj hj hne hl hno=>
     NC h4 (m:=j) (by simpa using hj) (by omega) (by rw[Nat.zero_add];exact hl) hno
    rcases C9 hF q2 hk with⟨hw,e',hy,hF'⟩|⟨hw,e',hn,hF'⟩
    ·obtain⟨rv,x,ids,h5,h6,h7⟩:=Wu H hF' q1 hy
     have ih:=Ba hm hsel n h5 H (hF'.put q4 h6) hcl' (hlen' i) hQ
     rw[uh,q3]at ih
     refine bC.Ci (C:=Uk ((i,ids)::F) ρ O w) (fun m u hu=>⟨fun js hj=>hu.1 js (.tail _ hj),hu.2⟩) (bC.o9 ho hs n L.toArray _ a w hfree (fun m=>⟨fun ids _ id _ q _=>rfl,fun b cs hb=>(H.fz b cs hb).1⟩) hcl (fun hb=>by cases hb) hi (.inl ⟨hw,fun u hu=>h7 u (hu.1 ids (.head _)) hu.2⟩) ih)
    ·have ih:=Ba hm hsel n hn H (hF'.put q4 GR.undef) hcl' (hlen' i) hQ
     rw[uh,q3]at ih
     exact bC.o9 ho hs n L.toArray _ a w hfree hC hcl (fun hb=>by cases hb) hi (.inr ⟨hw,rfl⟩) ih
   ·rename_i hp
    refine⟨hC,fun h0=>?_,fun i hi=>?_⟩
    ·have:i0∈Region.ready .any ops L.toArray:=EI.1 (by rw[hrd];exact .head _)
     rw[h0]at this;cases this
    ·have hk:=QY hk i (by rw[<-hrd];exact EI.2 hi)
     split at hk
     ·rename_i r hr
      obtain⟨o,g1,g2⟩:=Dk hm hr
      obtain⟨q1,q2,q3,q4⟩:=G9 g2
      rw[aF]at g1
      have ho:ops[i]?=some o:=by simpa using g1
      have hcl':bC.Closed ops (CJ L i).toArray:=by rw[uh];exact bC.qp hcl hi
      unfold Go.wpOp
      simp only[ho]
      rcases C9 hF q2 hk with⟨hw,e',hy,hF'⟩|⟨hw,e',hn,hF'⟩
      ·rw[if_pos hw]
       left
       refine Wx H hF' q1 hy fun T v x ρ' h' O' w' hk' hle hFm H' hl hU hx=>?_
       split at hk'
       ·exact hk'.elim
       ·rename_i hc
        refine⟨Uk F ρ' O' w',fun m hd u hu=>⟨fun ids ace id hid q hq=>?_,fun b cs hb=>hu.2 b cs (hle.fz _ _ hb)⟩,?_⟩
        ·have hh:=QG (D8 hc m ids ace (by rw[aaA];exact hd)) id hid
         obtain⟨u1,u2⟩:=hU id.1 id.2 q hh hq
         exact(hu.1 ids ace id hid q u1).trans u2
        ·have ih:=Ba hm hsel n hk' H' ((hF'.mono hle).put q4 hx) hcl' (hlen' i) fun e'' h'' ρ'' Bh a'' w'' r1 r2 r3 r4 r5 r6=>hQ e'' h'' ρ'' Bh a'' w'' r1 (hle.le_trans r2) (hFm.trans r3) r4 (Nat.le_trans hl r5) r6
         rw[uh,q3]at ih
         exact ih
      ·rw[if_neg (by simp[hw])]
       have ih:=Ba hm hsel n hn H (hF'.put q4 GR.undef) hcl' (hlen' i) hQ
       rw[uh,q3]at ih
       exact⟨_,fun _ _ _ h=>h,ih⟩
     ·exact hk.elim
theorem IB (n:Nat):(List.replicate n false).toArray=Array.replicate n false:=by simp
def RF:Nat->List Bool
 |0=>[]
 |n+1=>false::RF n
theorem PW: ∀n,RF n=List.replicate n false
 |0=>rfl
 |n+1=>congrArg (false:: ·) (PW n)
theorem draw {bx:{α:Type}->α->α}(hb: ∀{α:Type}(x:α),bx x=x){P Q:Program}(hQ:Q=P)(hP:P.follows .mixedOrders=true){n:Nat}{e:aX}{h:Hp}(no:List Nat)(hk:Gj bx Q ops l no k (llen ops.toList) (RF (llen ops.toList)) [] e h)(hs:Qd ops.toList=true:=by cbv):Ky Q N n ops l e h k:=by
 subst hQ
 have eb: @bx= @I0:=rF hb
 subst eb
 refine⟨fun T hT hm id hn ρ O a w H hF K hK=>wp_region_any hP ?_⟩
 have hsz:llen ops.toList=ops.size:=by rw[aG];simp
 rw[hsz,PW]at hk
 have:=Ba hm hs ops.size (Q:=fun a' w'=>K .normal a' w') hk H.drew hF (by
  rw[IB]
  intro i o ho hl
  rw[Array.getD_eq_getD_getElem?]at hl
  by_cases hi:i<ops.size
  ·simp[Array.getElem?_replicate,hi]at hl
  ·simp[Array.getElem?_replicate,hi]at hl) (by simp) fun e' h' ρ' O' a' w' q1 q2 q3 q4 q5 q6=>hK .normal e' h' ρ' O' a' w' q1 (q2.to n) q3.Gm q4 (Nat.le_trans hn q5) q6
 rw[IB]at this
 exact bC.Ej (fun a w h=>h) _ _ _ _ _ this
structure adq (P:Program)(n:Nat)(e:aX)(h:Hp)(e0:aX)(h0:Hp):Prop where
 h:Q8 P n e h e0 h0
theorem rZ {bx:{α:Type}->α->α}(hb: ∀{α:Type}(x:α),bx x=x){P Q:Program}(hQ:Q=P)(hP:P.follows .mixedOrders=true){n:Nat}{e:aX}{h:Hp}(no:List Nat)(V:List (Nat×RV))(U:List (Nat×eH))(hk:Gj bx Q ops l no (fun e' h'=>adq Q n e' h' (oC (D7 l e) V) (kV h U)) (llen ops.toList) (RF (llen ops.toList)) [] e h)(h2:k (oC (D7 l e) V) (kV h U))
 (hs:Qd ops.toList=true:=by cbv) (hl:Nat.ble n (llen (kV h U))=true:=by cbv):Ky Q N n ops l e h k:=by
 have D:=draw (N:=N) (n:=n) (k:=fun e' h'=>adq Q n e' h' (oC (D7 l e) V) (kV h U)) hb hQ hP no hk hs
 refine⟨fun T hT hm id hn ρ O a w H hF K hK=>D.h T hT hm id hn ρ O a w H hF K fun x e' h' ρ' O' a' w' q1 q2 q3 q4 q5 q6=>?_⟩
 cases x with
 |normal=>
  obtain⟨ρ3,O3,s1,s2,s3,s4⟩:=q1.h ρ' O' a' w' N q4 q6
  exact hK .normal _ _ ρ3 O3 a' w' h2 (q2.trans s1 (Nat.le_refl _)) (q3.trans s2) s3 (by rw[<-aG];exact Nat.le_of_ble_eq_true hl) s4
 |exit i=>exact q1.elim
 |ret=>exact q1.elim
end
end Sx
end Go.Proofs.YtakhobfamnjnoaaGreatDoor
