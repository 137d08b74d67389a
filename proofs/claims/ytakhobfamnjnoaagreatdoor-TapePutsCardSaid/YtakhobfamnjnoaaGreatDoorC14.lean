/- Symbolic runs: regions that draw their order; what floats is taken first. -/
import Derived.Test.YtakhobfamnjnoaaGreatDoorC13
set_option linter.unusedVariables false
set_option linter.unusedSimpArgs false
namespace Go.Proofs.YtakhobfamnjnoaaGreatDoor
section
namespace Sx
open Go Go.RowKit
def ZA (L:List Bool)(i:Nat):Bool:=match aF L i with|some b=>b|none=>true
def lbF (L:List Bool)(i:Nat):Bool:=match aF L i with|some b=>b|none=>false
def Gg:List Bool->Nat->List Bool
 |[],_=>[]
 |_::l,0=>true::l
 |b::l,n+1=>b::Gg l n
def yK (o:Oper):List Nat:=(o.after.toList.filter (Region.binds .any)).map (·.on)
def allIn (L:List Bool):List Nat->Bool
 |[]=>true
 |j::js=>(match lbF L j with|true=>allIn L js|false=>false)
def Nk (L:List Bool):Nat->List Oper->List Nat
 |_,[]=>[]
 |i,o::os=>(match ZA L i with
  |true=>Nk L (Nat.succ i) os
  |false=>(match allIn L (yK o)with|true=>i::Nk L (Nat.succ i) os|false=>Nk L (Nat.succ i) os))
def Dk (i:Nat):List Nat->Bool
 |[]=>false
 |j::l=>(match Nat.beq i j with|true=>true|false=>Dk i l)
def wZ (ops:Array Oper)(L:List Bool)(i:Nat)(oi:Oper):Nat->List Oper->Bool
 |_,[]=>true
 |j,o::os=>(match Nat.beq j i with
  |true=>wZ ops L i oi (Nat.succ j) os
  |false=>(match ZA L j with
   |true=>wZ ops L i oi (Nat.succ j) os
   |false=>(match Dk i (yK o)with
    |true=>wZ ops L i oi (Nat.succ j) os
    |false=>(match oi.apart ops o with|true=>wZ ops L i oi (Nat.succ j) os|false=>false))))
def XL (all:List Oper):Nat->List Nat->List Nat
 |0,l=>l
 |k+1,l=>XL all k (match Dk k l with
  |true=>(match aF all k with|some o=>app (yK o) l|none=>l)
  |false=>l)
def XM (all:List Oper)(i j:Nat):Bool:=match Nat.beq i j with|true=>true|false=>Dk i (XL all (Nat.succ j) [j])
def hits (T:List Nat):Ids->Bool
 |[]=>false
 |(i,_)::l=>(match Dk i T with|true=>true|false=>hits T l)
def clash (all:List Oper)(i:Nat)(T:List Nat):List (Nat×Ids)->Bool
 |[]=>false
 |(m,ids)::F=>(match XM all m i with
  |true=>clash all i T F
  |false=>(match hits T ids with|true=>true|false=>clash all i T F))
def pick (ops:Array Oper)(l:List RO)(no:List Nat)(L:List Bool):List Nat->Option Nat
 |[]=>none
 |i::rs=>(match aF l i,aF ops.toList i with
  |some r,some o=>(match flB r.o,Dk i no,wZ ops L i o 0 ops.toList with
   |true,false,true=>some i
   |_,_,_=>pick ops l no L rs)
  |_,_=>none)
def ach (k:Nat->Prop):List Nat->Prop
 |[]=>True
 |[i]=>k i
 |i::j::l=>k i/\ach k (j::l)
def O6:List Bool->Bool
 |[]=>true
 |b::l=>(match b with|true=>O6 l|false=>false)
section
variable (bx:{α:Type}->α->α) (P:Program) (ops:Array Oper) (l:List RO) (no:List Nat) (k:bK->Hp->Prop)
def Kq:Nat->List Bool->List (Nat×Ids)->bK->Hp->Prop
 |0,L,_,e,h=>(match O6 L with|true=>k e h|false=>False)
 |n+1,L,F,e,h=>(match Nk L 0 ops.toList with
  |[]=>k e h
  |i0::rs=>(match pick ops l no L (i0::rs)with
   |some i=>(match aF l i with
    |some o=>wants o.g e (fun e=>jl bx P o.o e h fun r ids=>Kq n (Gg L i) ((i,ids)::F) (es e o.d r) h) (fun e=>Kq n (Gg L i) F (es e o.d .undef) h)
    |none=>False)
   |none=>ach (fun i=>match aF l i with
    |some o=>wants o.g e (fun e=>qc bx P o.o e h fun T r h'=>(match clash ops.toList i T F with|true=>False|false=>Kq n (Gg L i) F (es e o.d r) h')) (fun e=>Kq n (Gg L i) F (es e o.d .undef) h)
    |none=>False) (i0::rs)))
end
def U3:List Oper->Bool
 |[]=>true
 |o::l=>(match o.op with| .select .. =>false|_=>U3 l)
theorem Zl: ∀{l:List Oper},U3 l=true-> ∀o∈l,∀cs b,o.op≠ .select cs b
 |[],_,_,h=>by cases h
 |o::l,h,p,hp=>by
  unfold U3 at h
  split at h
  ·cases h
  ·rename_i hne
   intro cs b
   cases hp with
   |head=>exact hne cs b
   |tail _ hp=>exact Zl h p hp cs b
theorem Zz (L:List Bool)(i:Nat):ZA L i=L.toArray.getD i true:=by
 unfold ZA
 rw[aJ,Array.getD_eq_getD_getElem?]
 simp
 cases L[i]?<;>rfl
theorem afC (L:List Bool)(i:Nat):lbF L i=L.toArray.getD i false:=by
 unfold lbF
 rw[aJ,Array.getD_eq_getD_getElem?]
 simp
 cases L[i]?<;>rfl
theorem QK: ∀(L:List Bool)(i:Nat),Gg L i=L.set i true
 |[],i=>rfl
 |_::_,0=>rfl
 |b::l,n+1=>congrArg (b:: ·) (QK l n)
theorem xA (L:List Bool)(i:Nat):(Gg L i).toArray=L.toArray.setIfInBounds i true:=by rw[QK];simp
theorem Hr {o:Oper}{j:Nat}:j∈yK o↔ ∃e∈o.after,Region.binds .any e=true/\e.on=j:=by
 unfold yK
 simp[List.mem_map,List.mem_filter,and_assoc]
theorem Ik {L:List Bool}: ∀{js:List Nat},allIn L js=true↔ ∀j∈js,L.toArray.getD j false=true
 |[]=>by simp[allIn]
 |j::js=>by
  have ih:=Ik (L:=L) (js:=js)
  have e:=afC L j
  simp only[List.mem_cons,forall_eq_or_imp,<-e]
  unfold allIn
  cases lbF L j<;>simp[ih]
theorem yx {i:Nat}: ∀{l:List Nat},Dk i l=true↔i∈l
 |[]=>by simp[Dk]
 |j::l=>by
  have ih:=yx (i:=i) (l:=l)
  unfold Dk
  cases h:Nat.beq i j with
  |true=>simp[aQ h]
  |false=>
   have:i≠j:=fun e=>by subst e;simp at h
   simp[ih,this]
theorem Va {L:List Bool}: ∀{os:List Oper}{i j:Nat},j∈Nk L i os↔ ∃m,j=i+m/\L.toArray.getD j true=false/\ ∃o,os[m]?=some o/\allIn L (yK o)=true
 |[],i,j=>by simp[Nk]
 |o::os,i,j=>by
  have ih:=Va (L:=L) (os:=os) (i:=Nat.succ i) (j:=j)
  have e:=Zz L i
  have split:(∃m,j=i+m/\L.toArray.getD j true=false/\ ∃o',(o::os)[m]?=some o'/\allIn L (yK o')=true)↔((j=i/\L.toArray.getD i true=false/\allIn L (yK o)=true)\/ ∃m,j=Nat.succ i+m/\L.toArray.getD j true=false/\ ∃o',os[m]?=some o'/\allIn L (yK o')=true):=by
   constructor
   ·rintro⟨m,rfl,h1,o',h2,h3⟩
    cases m with
    |zero=>simp at h2;subst h2;exact .inl ⟨rfl,h1,h3⟩
    |succ m=>simp at h2;exact .inr ⟨m,by omega,h1,o',h2,h3⟩
   ·rintro(⟨rfl,h1,h2⟩|⟨m,rfl,h1,o',h2,h3⟩)
    ·exact⟨0,rfl,h1,o,rfl,h2⟩
    ·exact⟨m+1,by omega,h1,o',by simpa using h2,h3⟩
  rw[split,<-e]
  unfold Nk
  cases h1:ZA L i with
  |true=>simp[ih]
  |false=>
   cases h2:allIn L (yK o)with
   |true=>simp[ih]
   |false=>simp[ih]
theorem I9 {ops:Array Oper}{L:List Bool}{j:Nat}:j∈Nk L 0 ops.toList↔j∈Region.ready .any ops L.toArray:=by
 rw[Va,mem_ready]
 constructor
 ·rintro⟨m,rfl,h1,o,h2,h3⟩
  refine⟨h1,o,by simpa using h2,fun e he hb=>Ik.1 h3 _ (Hr.2 ⟨e,he,hb,rfl⟩)⟩
 ·rintro⟨h1,o,h2,h3⟩
  refine⟨j,by omega,h1,o,by simpa using h2,Ik.2 fun m hm=>?_⟩
  obtain⟨e,he,hb,rfl⟩:=Hr.1 hm
  exact h3 e he hb
theorem RG {ops:Array Oper}{L:List Bool}{i:Nat}{oi:Oper}: ∀{os:List Oper}{j:Nat},wZ ops L i oi j os=true-> ∀{m:Nat}{o:Oper},os[m]?=some o->j+m≠i->L.toArray.getD (j+m) true=false->(∀e∈o.after,Region.binds .any e=true->e.on≠i)->oi.apart ops o=true
 |[],_,_,_,_,h,_,_,_=>by simp at h
 |p::os,j,hq,m,o,hm,hne,hl,hno=>by
  unfold wZ at hq
  have next:wZ ops L i oi (Nat.succ j) os=true->(∃n,m=n+1)->oi.apart ops o=true:=fun h ⟨n,hn⟩=>by
   subst hn
   have e:Nat.succ j+n=j+(n+1):=by omega
   exact RG h (m:=n) (by simpa using hm) (by rw[e];exact hne) (by rw[e];exact hl) hno
  cases m with
  |succ n=>
   split at hq
   ·exact next hq ⟨n,rfl⟩
   ·split at hq
    ·exact next hq ⟨n,rfl⟩
    ·split at hq
     ·exact next hq ⟨n,rfl⟩
     ·split at hq
      ·exact next hq ⟨n,rfl⟩
      ·cases hq
  |zero=>
   simp at hm
   subst hm
   split at hq
   ·rename_i h;exact absurd (aQ h) hne
   ·split at hq
    ·rename_i h;rw[Zz]at h;rw[Nat.add_zero]at hl;rw[hl]at h;cases h
    ·split at hq
     ·rename_i h
      obtain⟨e,he,hb,hon⟩:=Hr.1 (yx.1 h)
      exact absurd hon (hno e he hb)
     ·split at hq
      ·assumption
      ·cases hq
theorem VH {ops:Array Oper}: ∀(n:Nat)(l:List Nat),XL ops.toList n l=bU.Ie ops n l
 |0,_=>rfl
 |n+1,l=>by
  simp only[XL,bU.Ie]
  rw[VH n]
  congr 1
  by_cases h:n∈l
  ·rw[yx.2 h,if_pos (by simpa using h)]
   rw[aJ]
   simp only[Array.getElem?_toList]
   cases ops[n]? with
   |none=>rfl
   |some o=>simp only[jP,yK]
  ·have:Dk n l=false:=by
    cases hi:Dk n l with
    |false=>rfl
    |true=>exact absurd (yx.1 hi) h
   rw[this,if_neg (by simpa using h)]
theorem aea {ops:Array Oper}{i j:Nat}:XM ops.toList i j=bU.wo ops i j:=by
 unfold XM bU.wo
 rw[VH]
 cases h:Nat.beq i j with
 |true=>rw[aQ h];simp
 |false=>
  have: ¬i=j:=fun e=>by subst e;simp at h
  have h2:(i==j)=false:=by simpa using this
  simp only[h2,Bool.false_or]
  cases hi:Dk i (bU.Ie ops (Nat.succ j) [j])with
  |true=>exact(List.contains_iff_mem.2 (yx.1 hi)).symm
  |false=>
   have: ¬i∈bU.Ie ops (Nat.succ j) [j]:=fun h=>by rw[yx.2 h]at hi;cases hi
   simpa using this
theorem Vx {T:List Nat}: ∀{ids:Ids},hits T ids=false-> ∀id∈ids,id.1∉T
 |[],_,_,h=>by cases h
 |(i,j)::l,h,id,hid=>by
  unfold hits at h
  split at h
  ·cases h
  ·rename_i hn
   cases hid with
   |head=>exact fun hm=>by rw[yx.2 hm]at hn;cases hn
   |tail _ hid=>exact Vx h id hid
theorem Ih {all:List Oper}{i:Nat}{T:List Nat}: ∀{F:List (Nat×Ids)},clash all i T F=false-> ∀m ids,(m,ids)∈F->XM all m i=false->hits T ids=false
 |[],_,_,_,h,_=>by cases h
 |(n,js)::F,h,m,ids,hm,hd=>by
  unfold clash at h
  cases hm with
  |head=>
   rw[hd]at h
   dsimp only at h
   split at h
   ·cases h
   ·assumption
  |tail _ hm=>
   split at h
   ·exact Ih h m ids hm hd
   ·split at h
    ·cases h
    ·exact Ih h m ids hm hd
theorem UO {ops:Array Oper}{l:List RO}{no:List Nat}{L:List Bool}: ∀{rs:List Nat}{i:Nat},pick ops l no L rs=some i->i∈rs/\ ∃r o,aF l i=some r/\aF ops.toList i=some o/\flB r.o=true/\wZ ops L i o 0 ops.toList=true
 |[],_,h=>by cases h
 |j::rs,i,h=>by
  unfold pick at h
  split at h
  ·rename_i r o h1 h2
   split at h
   ·cases h;exact⟨.head _,r,o,h1,h2,by assumption,by assumption⟩
   ·obtain⟨h3,h4⟩:=UO h;exact⟨.tail _ h3,h4⟩
  ·cases h
theorem VT {k:Nat->Prop}: ∀{l:List Nat},ach k l-> ∀i∈l,k i
 |[],_,_,h=>by cases h
 |[_],h,i,hi=>by simp at hi;subst hi;exact h
 |_::_::_,h,i,hi=>by
  cases hi with
  |head=>exact h.1
  |tail _ hi=>exact VT h.2 i hi
theorem VU: ∀{L:List Bool},O6 L=true-> ∀i,L.toArray.getD i true=true
 |[],_,i=>by simp
 |b::L,h,i=>by
  unfold O6 at h
  split at h
  ·have:=VU h
   cases i with
   |zero=>simp
   |succ i=>simpa using this i
  ·cases h
def X7 (F:List (Nat×Ids))(ρ:Ren)(O:Own)(w:World)(m:Nat)(u:World):Prop:=(∀ids,(m,ids)∈F->X4 ids O w u)/\CZ ρ.fz u
section
variable {P:Program} {T:jE} [lN P T] {N:Nat} {ops:Array Oper} {l:List RO} {no:List Nat} {k:bK->Hp->Prop}
theorem GZ {N:Nat}{all:List Oper}: ∀{os:List Oper}{l:List RO},G6 T N all os=some l-> ∀{i:Nat}{r:RO},aF l i=some r-> ∃o,aF os i=some o/\aa7 T N all o=some r
 |[],l,h,i,r,hr=>by cases h;cases hr
 |o::os,l,h,i,r,hr=>by
  obtain⟨r1,h1,h2⟩:=aA h
  obtain⟨m,h3,h4⟩:=aA h2
  cases h4
  cases i with
  |zero=>cases hr;exact⟨o,rfl,h1⟩
  |succ i=>exact GZ h3 hr
theorem Ey (hm:G6 T N ops.toList ops.toList=some l)(hsel:U3 ops.toList=true){Q:Act->World->Prop}: ∀(n:Nat){L:List Bool}{F:List (Nat×Ids)}{ρ:Ren}{h:Hp}{O:Own}{w:World}{e:bK}{a:Act},Kq I0 P ops l no k n L F e h->HR P ρ h O w->Fr ρ N e a->bU.Closed ops L.toArray->(L.length=ops.size)->
 (∀e' h' ρ' O' a' w',k e' h'->ρ.le ρ'->Fm ρ.fz O w ρ'.fz O' w'->HR P ρ' h' O' w'->h.length<=h'.length->Fr ρ' N e' a'->Q a' w')->bU.jJ P ops false Q n L.toArray (X7 F ρ O w) a w
 |0,L,F,ρ,h,O,w,e,a,hk,H,hF,hcl,hlen,hQ=>by
  simp only[Kq]at hk
  split at hk
  ·rename_i hL
   exact⟨fun _ m=>⟨fun ids _ id _ q _=>rfl,fun b cs hb=>(H.fz b cs hb).1⟩,fun i o _=>VU hL i,hQ e h ρ O a w hk ρ.le_refl (Fm.refl _ _ _) H (Nat.le_refl _) hF⟩
  ·exact hk.elim
 |n+1,L,F,ρ,h,O,w,e,a,hk,H,hF,hcl,hlen,hQ=>by
  have hC: ∀m,X7 F ρ O w m w:=fun m=>⟨fun ids _ id _ q _=>rfl,fun b cs hb=>(H.fz b cs hb).1⟩
  have hs: ∀(j:Nat)(o:Oper) cs b,ops[j]?=some o->o.op≠ .select cs b:=fun j o cs b ho=>Zl hsel o (by simpa using Array.mem_of_getElem? ho) cs b
  have hlen': ∀i,(Gg L i).length=ops.size:=fun i=>by rw[QK,List.length_set];exact hlen
  simp only[Kq]at hk
  split at hk
  ·rename_i hr
   refine⟨hC,fun _=>hQ e h ρ O a w hk ρ.le_refl (Fm.refl _ _ _) H (Nat.le_refl _) hF,fun i hi=>?_⟩
   rw[<-I9,hr]at hi
   cases hi
  ·rename_i i0 rs hrd
   split at hk
   ·rename_i i hp
    obtain⟨hi,r,o,h1,h2,h3,h4⟩:=UO hp
    rw[<-hrd,I9]at hi
    rw[h1]at hk
    dsimp only at hk
    obtain⟨o',g1,g2⟩:=GZ hm h1
    rw[h2]at g1;cases g1
    obtain⟨q1,q2,q3,q4⟩:=Lp g2
    rw[aJ]at h2
    have ho:ops[i]?=some o:=by simpa using h2
    have hcl':bU.Closed ops (Gg L i).toArray:=by rw[xA];exact bU.uj hcl hi
    have hfree: ∀(j:Nat) oj,ops[j]?=some oj->j≠i->L.toArray.getD j true=false->(∀e∈oj.after,Region.binds .any e=true->e.on≠i)->o.apart ops oj=true:=fun j oj hj hne hl hno=>
     RG h4 (m:=j) (by simpa using hj) (by omega) (by rw[Nat.zero_add];exact hl) hno
    rcases Gz hF q2 hk with⟨hw,e',hy,hF'⟩|⟨hw,e',hn,hF'⟩
    ·obtain⟨rv,x,ids,h5,h6,h7⟩:=aae H hF' q1 hy
     have ih:=Ey hm hsel n h5 H (hF'.put q4 h6) hcl' (hlen' i) hQ
     rw[xA,q3]at ih
     refine bU.FQ (C:=X7 ((i,ids)::F) ρ O w) (fun m u hu=>⟨fun js hj=>hu.1 js (.tail _ hj),hu.2⟩) (bU.sN ho hs n L.toArray _ a w hfree (fun m=>⟨fun ids _ id _ q _=>rfl,fun b cs hb=>(H.fz b cs hb).1⟩) hcl (fun hb=>by cases hb) hi (.inl ⟨hw,fun u hu=>h7 u (hu.1 ids (.head _)) hu.2⟩) ih)
    ·have ih:=Ey hm hsel n hn H (hF'.put q4 GR.undef) hcl' (hlen' i) hQ
     rw[xA,q3]at ih
     exact bU.sN ho hs n L.toArray _ a w hfree hC hcl (fun hb=>by cases hb) hi (.inr ⟨hw,rfl⟩) ih
   ·rename_i hp
    refine⟨hC,fun h0=>?_,fun i hi=>?_⟩
    ·have:i0∈Region.ready .any ops L.toArray:=I9.1 (by rw[hrd];exact .head _)
     rw[h0]at this;cases this
    ·have hk:=VT hk i (by rw[<-hrd];exact I9.2 hi)
     split at hk
     ·rename_i r hr
      obtain⟨o,g1,g2⟩:=GZ hm hr
      obtain⟨q1,q2,q3,q4⟩:=Lp g2
      rw[aJ]at g1
      have ho:ops[i]?=some o:=by simpa using g1
      have hcl':bU.Closed ops (Gg L i).toArray:=by rw[xA];exact bU.uj hcl hi
      unfold Go.wpOp
      simp only[ho]
      rcases Gz hF q2 hk with⟨hw,e',hy,hF'⟩|⟨hw,e',hn,hF'⟩
      ·rw[if_pos hw]
       left
       refine aag H hF' q1 hy fun T v x ρ' h' O' w' hk' hle hFm H' hl hU hx=>?_
       split at hk'
       ·exact hk'.elim
       ·rename_i hc
        refine⟨X7 F ρ' O' w',fun m hd u hu=>⟨fun ids afU id hid q hq=>?_,fun b cs hb=>hu.2 b cs (hle.fz _ _ hb)⟩,?_⟩
        ·have hh:=Vx (Ih hc m ids afU (by rw[aea];exact hd)) id hid
         obtain⟨u1,u2⟩:=hU id.1 id.2 q hh hq
         exact(hu.1 ids afU id hid q u1).trans u2
        ·have ih:=Ey hm hsel n hk' H' ((hF'.mono hle).put q4 hx) hcl' (hlen' i) fun e'' h'' ρ'' EF a'' w'' r1 r2 r3 r4 r5 r6=>hQ e'' h'' ρ'' EF a'' w'' r1 (hle.le_trans r2) (hFm.trans r3) r4 (Nat.le_trans hl r5) r6
         rw[xA,q3]at ih
         exact ih
      ·rw[if_neg (by simp[hw])]
       have ih:=Ey hm hsel n hn H (hF'.put q4 GR.undef) hcl' (hlen' i) hQ
       rw[xA,q3]at ih
       exact⟨_,fun _ _ _ h=>h,ih⟩
     ·exact hk.elim
theorem MN (n:Nat):(List.replicate n false).toArray=Array.replicate n false:=by simp
def WH:Nat->List Bool
 |0=>[]
 |n+1=>false::WH n
theorem UM: ∀n,WH n=List.replicate n false
 |0=>rfl
 |n+1=>congrArg (false:: ·) (UM n)
theorem draw {bx:{α:Type}->α->α}(hb: ∀{α:Type}(x:α),bx x=x){P Q:Program}(hQ:Q=P)(hP:P.follows .mixedOrders=true){n:Nat}{e:bK}{h:Hp}(no:List Nat)(hk:Kq bx Q ops l no k (llen ops.toList) (WH (llen ops.toList)) [] e h)(hs:U3 ops.toList=true:=by cbv):O8 Q N n ops l e h k:=by
 subst hQ
 have eb: @bx= @I0:=o9 hb
 subst eb
 refine⟨fun T hT hm id hn ρ O a w H hF K hK=>wp_region_any hP ?_⟩
 have hsz:llen ops.toList=ops.size:=by rw[aI];simp
 rw[hsz,UM]at hk
 have:=Ey hm hs ops.size (Q:=fun a' w'=>K .normal a' w') hk H.drew hF (by
  rw[MN]
  intro i o ho hl
  rw[Array.getD_eq_getD_getElem?]at hl
  by_cases hi:i<ops.size
  ·simp[Array.getElem?_replicate,hi]at hl
  ·simp[Array.getElem?_replicate,hi]at hl) (by simp) fun e' h' ρ' O' a' w' q1 q2 q3 q4 q5 q6=>hK .normal e' h' ρ' O' a' w' q1 (q2.to n) q3.Kt q4 (Nat.le_trans hn q5) q6
 rw[MN]at this
 exact bU.Ir (fun a w h=>h) _ _ _ _ _ this
structure ag5 (P:Program)(n:Nat)(e:bK)(h:Hp)(e0:bK)(h0:Hp):Prop where
 h:Tq P n e h e0 h0
theorem mD {bx:{α:Type}->α->α}(hb: ∀{α:Type}(x:α),bx x=x){P Q:Program}(hQ:Q=P)(hP:P.follows .mixedOrders=true){n:Nat}{e:bK}{h:Hp}(no:List Nat)(V:List (Nat×RV))(U:List (Nat×gU))(hk:Kq bx Q ops l no (fun e' h'=>ag5 Q n e' h' (lH (Ig l e) V) (jv h U)) (llen ops.toList) (WH (llen ops.toList)) [] e h)(h2:k (lH (Ig l e) V) (jv h U))
 (hs:U3 ops.toList=true:=by cbv) (hl:Nat.ble n (llen (jv h U))=true:=by cbv):O8 Q N n ops l e h k:=by
 have D:=draw (N:=N) (n:=n) (k:=fun e' h'=>ag5 Q n e' h' (lH (Ig l e) V) (jv h U)) hb hQ hP no hk hs
 refine⟨fun T hT hm id hn ρ O a w H hF K hK=>D.h T hT hm id hn ρ O a w H hF K fun x e' h' ρ' O' a' w' q1 q2 q3 q4 q5 q6=>?_⟩
 cases x with
 |normal=>
  obtain⟨ρ3,O3,s1,s2,s3,s4⟩:=q1.h ρ' O' a' w' N q4 q6
  exact hK .normal _ _ ρ3 O3 a' w' h2 (q2.trans s1 (Nat.le_refl _)) (q3.trans s2) s3 (by rw[<-aI];exact Nat.le_of_ble_eq_true hl) s4
 |exit i=>exact q1.elim
 |ret=>exact q1.elim
end
end Sx
end
section
namespace Sx
open Go Go.RowKit
def RD:List Pl->List Nat
 |[]=>[]
 | .gone a::l=>a::RD l
 |_::l=>RD l
theorem QB {i:Nat}: ∀{l:List Pl}{j:Nat},aF l j=some (.gone i)->i∈RD l
 |[],_,h=>by cases h
 |p::l,0,h=>by cases h;exact .head _
 |p::l,j+1,h=>by
  have:=QB (l:=l) (j:=j) h
  cases p with
  |gone a=>exact .tail _ this
  |_=>exact this
theorem Jz {i:Nat}{c:gU}: ∀{fs:List Nat}{h:Hp},zk fs h=true->aF (uh fs h) i=some c->c= .no\/aF h i=some c
 |[],_,_,hc=> .inr hc
 |j::fs,h,hf,hc=>by
  unfold zk at hf
  split at hf
  ·rename_i l hl
   have hlt:j<h.length:=by
    unfold Ji at hl
    split at hl
    ·rename_i h0;exact cZ h0
    ·rename_i h0;exact cZ h0
    ·cases hl
   rcases Jz (fs:=fs) hf hc with e|e
   ·exact .inl e
   ·unfold iV at e
    rw[fD _ hlt]at e
    split at e
    ·cases e;exact .inl rfl
    ·exact .inr e
  ·cases hf
theorem iM.Aa {P:Program}{f:FuncId}{args args2:List AV}{H:Hp}{K':List Nat->RV->Hp->Prop}(fs:List Nat)(js:List Pl)(H2:Hp)(C:iM P f args2 H2 fun T r h'=>K' (app (RD js) T) r h')
 (hs:vY js (llen H) (zH fs H) (uh fs H) js H2:=by((try cbv)<;>repeat' (first|trivial|rfl|apply And.intro|exact eP _|exact ql _ _ _ _|exact qo _ _ _ _|(refine⟨?_⟩;(first|exact hms _ _ _|(try cbv)))|(simp only[Nat.beq_refl];done)|(simp[hb];done)|(simp only[hb];omega)))) (ha:zF js (llen H) (zH fs H) args2 args:=by((try cbv)<;>repeat' (first|trivial|rfl|apply And.intro|exact eP _|exact ql _ _ _ _|exact qo _ _ _ _|(refine⟨?_⟩;(first|exact hms _ _ _|(try cbv)))|(simp only[Nat.beq_refl];done)|(simp[hb];done)|(simp only[hb];omega)))) (h1:zk fs H=true:=by cbv) (h2:Eo 0 (llen H) js=true:=by cbv) (h3:oU js=true:=by cbv):iM P f args H K':=by
 refine⟨C.enter,fun ρ O w xs R hx=>?_⟩
 obtain⟨ρ1,O1,q1,q2,q3,q4,q5⟩:=R.freezes h1
 rw[aI,<-q5]at hs ha
 have R2:=q3.sub q4 h3 hs
 have hx2:=uP q3.fr q4 ha (oK (fun _ _=>GA.mono q1) hx)
 refine(C.run _ _ w xs R2 hx2).mono fun e w'=>?_
 rintro⟨T,r,x,c,h',Oc,rfl,hk,hle,hfm,hc,hl,hU,hr⟩
 rw[aI]at h2
 have nm1: ∀i k x,ρ.nm i k=some x->(eY ρ1 js).nm i k=some x:=fun i k x hx=>by
  rcases Nat.lt_or_ge i H.length with hi|hi
  ·have:=q1.nm i k x hx
   rcases nG h2 hi with e|e<;>(simp only[Nat.zero_add]at e;simp[eY,e,this])
  ·rw[R.fr i k hi]at hx;cases hx
 have on1: ∀i,ρ.on i=true->(eY ρ1 js).on i=true:=fun i hx=>by
  rcases Nat.lt_or_ge i H.length with hi|hi
  ·have:=q1.on i hx
   rcases nG h2 hi with e|e<;>(simp only[Nat.zero_add]at e;simp[eY,e,this])
  ·rw[R.of i hi]at hx;cases hx
 have le1:ρ.le (eY ρ1 js):=⟨nm1,q1.fz,on1⟩
 have hlen:=(mJ hs).1
 have hjs:H.length<=js.length:=by
  rcases Nat.lt_or_ge js.length H.length with hl|hl
  ·rcases nG h2 hl with e|e<;>(rw[aJ,List.getElem?_eq_none (by omega)]at e;cases e)
  ·exact hl
 refine⟨_,r,x,c,h',Oc,rfl,hk,le1.le_trans hle,(q2.trans Fm.sub).trans hfm,hc,by omega,fun i k q hn hq=>?_,hr⟩
 rw[jP]at hn
 have hg:i∉RD js:=fun h=>hn (List.mem_append_left _ h)
 have hT:i∉T:=fun h=>hn (List.mem_append_right _ h)
 obtain⟨o,ho⟩:=R.live i k q hq
 have hi:=cZ ho
 have hall:aF js i=some (.all i):=by
  rcases nG h2 hi with e|e
  ·simpa using e
  ·exact absurd (QB (j:=i) (by simpa using e)) hg
 obtain⟨c0,hc0⟩:=LM (l:=H2) (i:=i) (by omega)
 obtain⟨p,hp,Ru⟩:=(mJ hs).2 hc0
 rw[hall]at hp
 cases hp
 have Ru:(match aF (uh fs H) i with|some c'=>NQ js (uh fs H).length (zH fs H) c0 c'|none=>False):=by
  cases c0 with
  |no=>exact Ru
  |one=>exact Ru
  |many=>exact Ru
 split at Ru
 ·rename_i c' hc'
  rcases Jz h1 hc' with e|e
  ·subst e
   cases c0<;>exact Ru.elim
  ·have ho1:bI (uh fs H) i k=some o:=by
    unfold bI at ho⊢
    rw[hc']
    rw[e]at ho
    exact ho
   obtain⟨o2,ho2⟩:=PK hs (yw h3 hall k) ho1
   have hq2:=Ob.same (R.ob i k o ho) (R2.ob i k o2 ho2) le1 hq
   exact hU i k q hT hq2
 ·exact Ru.elim
section
variable {is:List Pl} {L:Nat} {F:Fs}
theorem Zy {a b:PV}(h:a=b):QY a b:=h▸eP a
theorem ad1 {k:IntKind}{n m:Int}(h:n=m):Gi is L F (.a (.c (.p (.int k n)))) (.a (.c (.p (.int k m)))):=Zy (a:= .int k n) (b:= .int k m) (by rw[h])
theorem vF {b c:Bool}(h:b=c):Gi is L F (.a (.c (.p (.bool b)))) (.a (.c (.p (.bool c)))):=Zy (a:= .bool b) (b:= .bool c) (by rw[h])
theorem vC {b:Bool}(h:b=true):Gi is L F (.a (.c (.p (.bool b)))) (.a (.c (.p .tt))):=h
theorem lF {b:Bool}(h:b=false):Gi is L F (.a (.c (.p (.bool b)))) (.a (.c (.p .ff))):=h
theorem rD {n:Int}(h: -9223372036854775808<=n/\n<=9223372036854775807):wr .i64 n=n:=by
 show RowKit.wrap64 n=n
 unfold RowKit.wrap64;omega
end
end Sx
end
section
namespace Sx
open Go Go.RowKit _root_.Go.Proofs.Tryz
set_option maxRecDepth 100000
noncomputable def tys:jE:= #[
 fun _=>t0,fun _=>t1,fun _=>t2,fun _=>t3,fun _=>t4,fun _=>t5,fun _=>t6,fun _=>t7,fun _=>t8,fun _=>t9,fun _=>t10,fun _=>t11,
 fun _=>t12,fun _=>t13,fun _=>t14,fun _=>t15,fun _=>t16,fun _=>t17,fun _=>t18,fun _=>t19,fun _=>t20,fun _=>t21,fun _=>t22,fun _=>t23,
 fun _=>t24,fun _=>t25,fun _=>t26,fun _=>t27,fun _=>t28,fun _=>t29,fun _=>t30,fun _=>t31,fun _=>t32,fun _=>t33,fun _=>t34,fun _=>t35,
 fun _=>t36,fun _=>t37,fun _=>t38,fun _=>t39,fun _=>t40,fun _=>t41,fun _=>t42,fun _=>t43,fun _=>t44,fun _=>t45,fun _=>t46,fun _=>t47,
 fun _=>t48,fun _=>t49,fun _=>t50,fun _=>t51,fun _=>t52,fun _=>t53,fun _=>t54,fun _=>t55,fun _=>t56,fun _=>t57,fun _=>t58,fun _=>t59,
 fun _=>t60,fun _=>t61,fun _=>t62,fun _=>t63,fun _=>t64,fun _=>t65,fun _=>t66,fun _=>t67,fun _=>t68,fun _=>t69,fun _=>t70,fun _=>t71,
 fun _=>t72,fun _=>t73,fun _=>t74,fun _=>t75,fun _=>t76,fun _=>t77,fun _=>t78,fun _=>t79,fun _=>t80,fun _=>t81,fun _=>t82,fun _=>t83,
 fun _=>t84,fun _=>t85,fun _=>t86,fun _=>t87,fun _=>t88,fun _=>t89,fun _=>t90,fun _=>t91,fun _=>t92,fun _=>t93,fun _=>t94,fun _=>t95,
 fun _=>t96,fun _=>t97,fun _=>t98,fun _=>t99,fun _=>t100,fun _=>t101,fun _=>t102,fun _=>t103,fun _=>t104,fun _=>t105,fun _=>t106,fun _=>t107,
 fun _=>t108,fun _=>t109,fun _=>t110,fun _=>t111,fun _=>t112,fun _=>t113,fun _=>t114,fun _=>t115,fun _=>t116,fun _=>t117,fun _=>t118,fun _=>t119,
 fun _=>t120,fun _=>t121,fun _=>t122,fun _=>t123,fun _=>t124,fun _=>t125,fun _=>t126,fun _=>t127,fun _=>t128,fun _=>t129,fun _=>t130,fun _=>t131,
 fun _=>t132,fun _=>t133,fun _=>t134,fun _=>t135,fun _=>t136,fun _=>t137,fun _=>t138,fun _=>t139,fun _=>t140,fun _=>t141,fun _=>t142,fun _=>t143,
 fun _=>t144,fun _=>t145,fun _=>t146,fun _=>t147,fun _=>t148,fun _=>t149,fun _=>t150,fun _=>t151,fun _=>t152,fun _=>t153,fun _=>t154,fun _=>t155,
 fun _=>t156,fun _=>t157,fun _=>t158,fun _=>t159,fun _=>t160,fun _=>t161,fun _=>t162,fun _=>t163,fun _=>t164,fun _=>t165,fun _=>t166,fun _=>t167,
 fun _=>t168,fun _=>t169,fun _=>t170,fun _=>t171,fun _=>t172,fun _=>t173,fun _=>t174,fun _=>t175,fun _=>t176,fun _=>t177,fun _=>t178,fun _=>t179,
 fun _=>t180,fun _=>t181,fun _=>t182,fun _=>t183,fun _=>t184,fun _=>t185,fun _=>t186,fun _=>t187,fun _=>t188,fun _=>t189,fun _=>t190,fun _=>t191,
 fun _=>t192,fun _=>t193,fun _=>t194,fun _=>t195,fun _=>t196,fun _=>t197,fun _=>t198,fun _=>t199,fun _=>t200,fun _=>t201,fun _=>t202,fun _=>t203,
 fun _=>t204,fun _=>t205,fun _=>t206,fun _=>t207,fun _=>t208,fun _=>t209,fun _=>t210,fun _=>t211,fun _=>t212,fun _=>t213,fun _=>t214,fun _=>t215,
 fun _=>t216,fun _=>t217,fun _=>t218,fun _=>t219,fun _=>t220,fun _=>t221,fun _=>t222,fun _=>t223,fun _=>t224,fun _=>t225,fun _=>t226,fun _=>t227,
 fun _=>t228,fun _=>t229,fun _=>t230,fun _=>t231,fun _=>t232,fun _=>t233,fun _=>t234,fun _=>t235,fun _=>t236,fun _=>t237,fun _=>t238,fun _=>t239,
 fun _=>t240,fun _=>t241,fun _=>t242,fun _=>t243,fun _=>t244,fun _=>t245,fun _=>t246,fun _=>t247,fun _=>t248,fun _=>t249,fun _=>t250,fun _=>t251,
 fun _=>t252,fun _=>t253,fun _=>t254,fun _=>t255,fun _=>t256,fun _=>t257,fun _=>t258,fun _=>t259,fun _=>t260,fun _=>t261,fun _=>t262,fun _=>t263,
 fun _=>t264,fun _=>t265,fun _=>t266,fun _=>t267,fun _=>t268,fun _=>t269,fun _=>t270,fun _=>t271,fun _=>t272,fun _=>t273,fun _=>t274,fun _=>t275,
 fun _=>t276,fun _=>t277,fun _=>t278,fun _=>t279,fun _=>t280,fun _=>t281,fun _=>t282,fun _=>t283,fun _=>t284,fun _=>t285,fun _=>t286,fun _=>t287,
 fun _=>t288,fun _=>t289,fun _=>t290,fun _=>t291,fun _=>t292,fun _=>t293,fun _=>t294,fun _=>t295,fun _=>t296,fun _=>t297,fun _=>t298,fun _=>t299,
 fun _=>t300,fun _=>t301,fun _=>t302,fun _=>t303,fun _=>t304,fun _=>t305,fun _=>t306,fun _=>t307,fun _=>t308,fun _=>t309,fun _=>t310,fun _=>t311,
 fun _=>t312,fun _=>t313,fun _=>t314,fun _=>t315,fun _=>t316,fun _=>t317,fun _=>t318,fun _=>t319,fun _=>t320,fun _=>t321,fun _=>t322,fun _=>t323,
 fun _=>t324,fun _=>t325,fun _=>t326,fun _=>t327,fun _=>t328,fun _=>t329,fun _=>t330,fun _=>t331,fun _=>t332,fun _=>t333,fun _=>t334,fun _=>t335,
 fun _=>t336,fun _=>t337,fun _=>t338,fun _=>t339,fun _=>t340,fun _=>t341,fun _=>t342,fun _=>t343,fun _=>t344,fun _=>t345,fun _=>t346,fun _=>t347,
 fun _=>t348,fun _=>t349,fun _=>t350,fun _=>t351,fun _=>t352,fun _=>t353,fun _=>t354,fun _=>t355,fun _=>t356,fun _=>t357,fun _=>t358,fun _=>t359,
 fun _=>t360,fun _=>t361,fun _=>t362,fun _=>t363,fun _=>t364,fun _=>t365,fun _=>t366,fun _=>t367,fun _=>t368,fun _=>t369,fun _=>t370,fun _=>t371,
 fun _=>t372,fun _=>t373,fun _=>t374,fun _=>t375,fun _=>t376,fun _=>t377,fun _=>t378,fun _=>t379,fun _=>t380,fun _=>t381,fun _=>t382,fun _=>t383,
 fun _=>t384,fun _=>t385,fun _=>t386,fun _=>t387,fun _=>t388,fun _=>t389,fun _=>t390,fun _=>t391,fun _=>t392,fun _=>t393,fun _=>t394,fun _=>t395,
 fun _=>t396,fun _=>t397,fun _=>t398,fun _=>t399,fun _=>t400,fun _=>t401,fun _=>t402,fun _=>t403,fun _=>t404,fun _=>t405,fun _=>t406,fun _=>t407,
 fun _=>t408,fun _=>t409,fun _=>t410,fun _=>t411,fun _=>t412,fun _=>t413,fun _=>t414,fun _=>t415,fun _=>t416,fun _=>t417,fun _=>t418,fun _=>t419,
 fun _=>t420,fun _=>t421,fun _=>t422,fun _=>t423,fun _=>t424,fun _=>t425,fun _=>t426,fun _=>t427,fun _=>t428,fun _=>t429,fun _=>t430,fun _=>t431,
 fun _=>t432,fun _=>t433,fun _=>t434,fun _=>t435,fun _=>t436,fun _=>t437,fun _=>t438,fun _=>t439,fun _=>t440,fun _=>t441,fun _=>t442,fun _=>t443,
 fun _=>t444,fun _=>t445,fun _=>t446,fun _=>t447,fun _=>t448,fun _=>t449,fun _=>t450,fun _=>t451,fun _=>t452,fun _=>t453,fun _=>t454,fun _=>t455,
 fun _=>t456,fun _=>t457,fun _=>t458,fun _=>t459,fun _=>t460,fun _=>t461,fun _=>t462,fun _=>t463,fun _=>t464,fun _=>t465,fun _=>t466,fun _=>t467,
 fun _=>t468,fun _=>t469,fun _=>t470,fun _=>t471,fun _=>t472,fun _=>t473,fun _=>t474,fun _=>t475,fun _=>t476,fun _=>t477,fun _=>t478,fun _=>t479,
 fun _=>t480,fun _=>t481,fun _=>t482,fun _=>t483,fun _=>t484,fun _=>t485,fun _=>t486,fun _=>t487,fun _=>t488,fun _=>t489,fun _=>t490,fun _=>t491,
 fun _=>t492,fun _=>t493,fun _=>t494,fun _=>t495,fun _=>t496,fun _=>t497,fun _=>t498,fun _=>t499,fun _=>t500,fun _=>t501,fun _=>t502,fun _=>t503,
 fun _=>t504,fun _=>t505,fun _=>t506,fun _=>t507,fun _=>t508,fun _=>t509,fun _=>t510,fun _=>t511,fun _=>t512,fun _=>t513,fun _=>t514,fun _=>t515,
 fun _=>t516,fun _=>t517,fun _=>t518,fun _=>t519,fun _=>t520,fun _=>t521,fun _=>t522,fun _=>t523,fun _=>t524,fun _=>t525,fun _=>t526,fun _=>t527,
 fun _=>t528,fun _=>t529,fun _=>t530,fun _=>t531,fun _=>t532,fun _=>t533,fun _=>t534,fun _=>t535,fun _=>t536,fun _=>t537,fun _=>t538,fun _=>t539,
 fun _=>t540,fun _=>t541,fun _=>t542,fun _=>t543,fun _=>t544,fun _=>t545,fun _=>t546,fun _=>t547,fun _=>t548,fun _=>t549,fun _=>t550,fun _=>t551,
 fun _=>t552,fun _=>t553,fun _=>t554,fun _=>t555,fun _=>t556,fun _=>t557,fun _=>t558,fun _=>t559,fun _=>t560,fun _=>t561,fun _=>t562,fun _=>t563,
 fun _=>t564,fun _=>t565,fun _=>t566,fun _=>t567,fun _=>t568,fun _=>t569,fun _=>t570]
instance:lN prog tys:=⟨by kernel_rfl⟩
theorem eU:prog.follows .mixedOrders=true:=by kernel_rfl
theorem ct {bx:{α:Type}->α->α}(hb: ∀{α:Type}(x:α),bx x=x){f:FuncId}{F:Func}(hf:prog.funcs[f]?=some F){args:List AV}{h:Hp}{K:RV->Hp->Prop}(hk: ∀Q:Program,Q=prog-> ∀K':RV->Hp->Prop,(∀r h1 r' h2,EI Q (llen h) r h1 r' h2->K r' h2->K' r h1)->body bx Q args h K' (JX tys F)):Ct prog f args h K:=fn hb hf hk
theorem ci {bx:{α:Type}->α->α}(hb: ∀{α:Type}(x:α),bx x=x){Q:Program}(hQ:Q=prog){f:FuncId}{F:Func}(hf:prog.funcs[f]?=some F){args:List AV}{h:Hp}{K:List Nat->RV->Hp->Prop}(hk:body bx Q args h (K (rng (llen h))) (JX tys F)):iM Q f args h K:=inl hb hQ hf hk
end Sx
end
end Go.Proofs.YtakhobfamnjnoaaGreatDoor
