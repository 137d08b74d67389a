/- PLAIN WORDS, no program in sight: numbers and tables as bytes, put and taken. -/
import Derived.Test.YtglbkodmmogomaaGreatDoorM10
set_option linter.unusedVariables false
set_option linter.unusedSimpArgs false
namespace Go.Proofs.YtglbkodmmogomaaGreatDoor
open Go Go.RowKit
def gy (n:Int):Nat:=if 0<=n then(2*n).toNat else(-2*n-1).toNat
theorem yZ {n:Int}(h:bF n):gy n<18446744073709551616:=by
 unfold gy;unfold bF at h;split<;>omega
def iF (u:Nat):List UInt8:=if u<128 then[UInt8.ofNat u]else UInt8.ofNat (u%128+128)::iF (u/128)
termination_by u
decreasing_by omega
theorem mJ {u:Nat}(h:u<128):iF u=[UInt8.ofNat u]:=by rw[iF,if_pos h]
theorem sH {u:Nat}(h: ¬u<128):iF u=UInt8.ofNat (u%128+128)::iF (u/128):=by rw[iF,if_neg h]
def cZ (l:List Int):List UInt8:=l.flatMap fun n=>iF (gy n)
theorem zD: ∀(j u:Nat),u<128^(j+1)->(iF u).length<=j+1
 |0,u,h=>by rw[mJ (by simpa using h)];simp
 |j+1,u,h=>by
  by_cases hu:u<128
  ·rw[mJ hu];simp
  ·rw[sH hu,List.length_cons]
   have:=zD j (u/128) (by rw[Nat.pow_succ]at h;exact Nat.div_lt_of_lt_mul (by rw[Nat.mul_comm];exact h))
   omega
theorem vT {n:Int}(h:bF n):(iF (gy n)).length<=10:=zD 9 _ (Nat.lt_of_lt_of_le (yZ h) (by decide))
theorem oZ {l:List Int}(h: ∀n∈l,bF n):(cZ l).length<=10*l.length:=by
 unfold cZ
 induction l with
 |nil=>simp
 |cons x l ih=>
  have h1:=vT (h x (by simp))
  have h2:=ih (fun n hn=>h n (by simp[hn]))
  simp only[List.flatMap_cons,List.length_append,List.length_cons];omega
theorem Df {l:List Int}{k:Nat}{x:Int}(h:l[k]?=some x):cZ (l.take (k+1))=cZ (l.take k)++iF (gy x):=by
 unfold cZ;rw[List.take_add_one,h,List.flatMap_append];simp
def strOf (l:List UInt8):ByteArray:=⟨l.toArray⟩
theorem iR (l m:List UInt8):strOf l++strOf m=strOf (l++m):=by
 simp[strOf,ByteArray.ext_iff]
theorem nY (l:List UInt8):(strOf l).size=l.length:=rfl
def iI (p:Int×Cell):List Int:=p.1::p.2.1::(p.2.2.length:Int)::p.2.2
def oP (T:Tab):List Int:=(T.length:Int)::T.flatMap iI
theorem tX (l m:List Int):cZ (l++m)=cZ l++cZ m:=by unfold cZ;rw[List.flatMap_append]
theorem CV {T:Tab}{k:Nat}{p:Int×Cell}(h:T[k]?=some p):(T.take (k+1)).flatMap iI=(T.take k).flatMap iI++iI p:=by
 rw[List.take_add_one,h,List.flatMap_append];simp
theorem rows_ok {T:Tab}(h: ∀p∈T,bF p.1)(hc: ∀p∈T,Hr p.2):(∀n∈T.flatMap iI,bF n)/\(T.flatMap iI).length<=19*T.length:=by
 induction T with
 |nil=>simp
 |cons p T ih=>
  obtain⟨i1,i2⟩:=ih (fun q hq=>h q (by simp[hq])) (fun q hq=>hc q (by simp[hq]))
  have c:=hc p (by simp)
  refine⟨fun n hn=>?_,?_⟩
  ·rw[List.flatMap_cons]at hn
   rcases List.mem_append.1 hn with hn|hn
   ·unfold iI at hn
    simp only[List.mem_cons]at hn
    rcases hn with rfl|rfl|rfl|hn
    ·exact h p (by simp)
    ·exact c.1
    ·have:=c.2.2;exact .small (by omega) (by omega)
    ·exact c.2.1 n hn
   ·exact i1 n hn
  ·rw[List.flatMap_cons,List.length_append]
   have:=c.2.2
   simp only[iI,List.length_cons]at*
   omega
def je (u:Nat):Int:=if u%2=0 then((u/2:Nat):Int)else-((u/2:Nat):Int)-1
def eF (i u:Nat):List UInt8->Int×Nat×Int
 |[]=>(0,0,20)
 |c::r=>
  if i=9/\1<c.toNat then(0,0,21)
  else if 128<=c.toNat then eF (i+1) (u+c.toNat%128*128^i) r
  else if c.toNat=0/\0<i then(0,0,21)
  else(je (u+c.toNat%128*128^i),i+1,0)
def tk (l:List UInt8):Int×Nat×Int:=eF 0 0 l
theorem Kr:128^9=9223372036854775808:=by decide
inductive Rd (α:Type) where
 |ok (a:α) (r:List UInt8)
 |err (e:Int)
def Rd.bind {α β:Type}(x:Rd α)(f:α->List UInt8->Rd β):Rd β:=match x with| .ok a r=>f a r| .err e=> .err e
def num (lo hi:Int)(l:List UInt8):Rd Int:=
 if(tk l).2.2≠0 then .err (tk l).2.2 else if(tk l).1<lo\/hi<(tk l).1 then .err 21 else .ok (tk l).1 (l.drop (tk l).2.1)
def aP:Int:= -9223372036854775808
def hi64:Int:=9223372036854775807
def nums:Nat->List UInt8->Rd (List Int)
 |0,l=> .ok [] l
 |k+1,l=>(num aP hi64 l).bind fun n r=>(nums k r).bind fun ns r=> .ok (n::ns) r
def row (l:List UInt8):Rd (Int×Cell):=
 (num aP hi64 l).bind fun key r=>(num aP hi64 r).bind fun acc r=>(num 0 16 r).bind fun n r=>(nums n.toNat r).bind fun ns r=> .ok (key,(acc,ns)) r
def eX (T:Tab)(key:Int):Bool:=(match T.getLast? with|some p=>bD p.1 key|none=>true)&&decide (aO T (grp key)<40)
def bZ:Nat->Tab->List UInt8->Rd Tab
 |0,T,l=> .ok T l
 |k+1,T,l=>(row l).bind fun p r=>if eX T p.1 then bZ k (T++[p]) r else .err 21
def gK (l:List UInt8):Rd Tab:=(num 0 320 l).bind fun n r=>(bZ n.toNat [] r).bind fun T r=>if r=[]then .ok T []else .err 21
theorem Jc {lo hi:Int}{l:List UInt8}{f:Int}(h:num lo hi l= .err f):f≠0:=by
 unfold num at h
 split at h
 ·rename_i h0;injection h with h;subst h;exact h0
 ·split at h
  ·injection h with h;subst h;decide
  ·cases h
theorem Hu {u:Nat}:gy (je u)=u:=by
 unfold je gy
 split<;>split<;>omega
theorem Oo {u:Nat}(h:u<18446744073709551616):bF (je u):=by
 unfold je bF
 split<;>omega
theorem CG: ∀(l:List UInt8)(i u:Nat)(n:Int)(z:Nat),i<=9->u<128^i->eF i u l=(n,z,0)->
 ∃v,i<z/\z-i<=l.length/\l.take (z-i)=iF v/\n=je (u+v*128^i)/\u+v*128^i<18446744073709551616/\(0<i->0<v)
 |[],i,u,n,z,_,_,h=>by simp[eF]at h
 |c::r,i,u,n,z,hi,hu,h=>by
  have hc:=c.toNat_lt
  unfold eF at h
  split at h
  ·simp at h
  ·rename_i h9
   split at h
   ·rename_i hbig
    have hi9:i≠9:=by rintro rfl;exact h9 ⟨rfl,by omega⟩
    have hu':u+c.toNat%128*128^i<128^(i+1):=by
     have h1:c.toNat%128<=127:=by omega
     have h2:c.toNat%128*128^i<=127*128^i:=Nat.mul_le_mul_right _ h1
     rw[Nat.pow_succ];omega
    obtain⟨v,h1,h2,h3,h4,h5,h6⟩:=CG r (i+1) _ n z (by omega) hu' h
    have h6':=h6 (by omega)
    have hd: ¬(c.toNat%128+128*v)<128:=by omega
    have e2:(c.toNat%128+128*v)*128^i=c.toNat%128*128^i+v*128^(i+1):=by
     rw[Nat.pow_succ,Nat.add_mul,Nat.mul_comm 128 v,Nat.mul_assoc,Nat.mul_comm 128 (128^i)]
    refine⟨c.toNat%128+128*v,by omega,by rw[List.length_cons];omega,?_,by rw[h4,e2];congr 1;omega,by rw[e2];omega,fun _=>by omega⟩
    rw[sH hd]
    have e1:z-i=(z-(i+1))+1:=by omega
    rw[e1,List.take_succ_cons,h3,show(c.toNat%128+128*v)/128=v by omega,show(c.toNat%128+128*v)%128+128=c.toNat by omega,UInt8.ofNat_toNat]
   ·rename_i hsm
    split at h
    ·simp at h
    ·rename_i h0
     injection h with h1 h2
     injection h2 with h2 h3
     subst h1 h2
     have e1:i+1-i=1:=by omega
     refine⟨c.toNat,by omega,by rw[e1,List.length_cons];omega,?_,by rw[Nat.mod_eq_of_lt (by omega)],?_,fun h=>by omega⟩
     ·rw[e1,List.take_succ_cons,List.take_zero,mJ (by omega),UInt8.ofNat_toNat]
     ·have hp:i=9\/i<=8:=by omega
      rcases hp with rfl|hp
      ·have:c.toNat<=1:=by have:=fun h=>h9 ⟨rfl,h⟩;omega
       rw[Kr]at*
       have:c.toNat*9223372036854775808<=1*9223372036854775808:=Nat.mul_le_mul_right _ this
       omega
      ·have h1:128^i<=128^8:=Nat.pow_le_pow_right (by omega) hp
       have h2:c.toNat*128^i<=127*128^i:=Nat.mul_le_mul_right _ (by omega)
       have h3:(128:Nat)^8=72057594037927936:=by decide
       omega
theorem Qy {l:List UInt8}{n:Int}{z:Nat}(h:tk l=(n,z,0)):0<z/\z<=l.length/\l.take z=iF (gy n)/\bF n:=by
 obtain⟨v,h1,h2,h3,h4,h5,_⟩:=CG l 0 0 n z (by omega) (by simp) h
 simp only[Nat.pow_zero,Nat.mul_one,Nat.zero_add,Nat.sub_zero]at*
 refine⟨h1,h2,?_,?_⟩
 ·rw[h3,h4,Hu]
 ·rw[h4];exact Oo h5
theorem zO: ∀(l:List UInt8)(i u:Nat),(eF i u l).2.2≠0->eF i u l=(0,0,(eF i u l).2.2)
 |[],i,u,_=>rfl
 |c::r,i,u,h=>by
  unfold eF at h⊢
  split
  ·rfl
  ·split
   ·rw[if_neg (by assumption),if_pos (by assumption)]at h
    exact zO r _ _ h
   ·split
    ·rfl
    ·rw[if_neg (by assumption),if_neg (by assumption),if_neg (by assumption)]at h
     exact absurd rfl h
theorem xk {n lo hi:Int}{l r:List UInt8}(h:num lo hi l= .ok n r):l=iF (gy n)++r/\bF n/\lo<=n/\n<=hi:=by
 unfold num at h
 split at h
 ·cases h
 ·rename_i h0
  split at h
  ·cases h
  ·rename_i h1
   injection h with h2 h3
   have hh:tk l=(n,(tk l).2.1,0):=by
    rw[<-h2]
    have:(tk l).2.2=0:=by omega
    rw[<-this]
   obtain⟨_,_,h4,h5⟩:=Qy hh
   refine⟨?_,h5,by omega,by omega⟩
   rw[<-h4,<-h3,List.take_append_drop]
theorem bF.in {n:Int}(h:bF n):aP<=n/\n<=hi64:=h
theorem I9: ∀(k:Nat)(l:List UInt8)(ns:List Int)(r:List UInt8),nums k l= .ok ns r->l=cZ ns++r/\(∀n∈ns,bF n)/\ns.length=k
 |0,l,ns,r,h=>by
  injection h with h1 h2
  subst h1 h2
  simp[cZ]
 |k+1,l,ns,r,h=>by
  unfold nums at h
  cases h1:num aP hi64 l with
  |err e=>rw[h1]at h;cases h
  |ok n r1=>
   rw[h1]at h
   simp only[Rd.bind]at h
   cases h2:nums k r1 with
   |err e=>rw[h2]at h;cases h
   |ok ms r2=>
    rw[h2]at h
    injection h with h3 h4
    subst h3 h4
    obtain⟨a1,a2,_⟩:=xk h1
    obtain⟨b1,b2,b3⟩:=I9 k r1 ms r2 h2
    refine⟨?_,fun m hm=>?_,by simp[b3]⟩
    ·rw[a1,b1];unfold cZ;rw[List.flatMap_cons,List.append_assoc]
    ·rcases List.mem_cons.1 hm with rfl|hm
     ·exact a2
     ·exact b2 m hm
theorem uF {l r:List UInt8}{p:Int×Cell}(h:row l= .ok p r):l=cZ (iI p)++r/\bF p.1/\Hr p.2:=by
 unfold row at h
 cases h1:num aP hi64 l with
 |err e=>rw[h1]at h;cases h
 |ok key r1=>
  rw[h1]at h
  simp only[Rd.bind]at h
  cases h2:num aP hi64 r1 with
  |err e=>rw[h2]at h;cases h
  |ok acc r2=>
   rw[h2]at h
   simp only at h
   cases h3:num 0 16 r2 with
   |err e=>rw[h3]at h;cases h
   |ok n r3=>
    rw[h3]at h
    simp only at h
    cases h4:nums n.toNat r3 with
    |err e=>rw[h4]at h;cases h
    |ok ns r4=>
     rw[h4]at h
     injection h with h5 h6
     subst h5 h6
     obtain⟨a1,a2,_⟩:=xk h1
     obtain⟨b1,b2,_⟩:=xk h2
     obtain⟨c1,c2,c3,c4⟩:=xk h3
     obtain⟨d1,d2,d3⟩:=I9 _ _ _ _ h4
     refine⟨?_,a2,b2,d2,by show ns.length<=16;omega⟩
     rw[a1,b1,c1,d1]
     have e:(ns.length:Int)=n:=by omega
     unfold iI cZ;simp only[List.flatMap_cons,List.append_assoc,e]
theorem cu.snoc {T:Tab}{p:Int×Cell}(h:cu (T++[p])):cu T/\eX T p.1=decide (aO T (grp p.1)<40):=by
 unfold cu at h⊢
 rw[List.pairwise_append]at h
 refine⟨h.1,?_⟩
 unfold eX
 cases hl:T.getLast? with
 |none=>simp
 |some q=>
  have:=h.2.2 q (List.mem_of_getLast? hl) p (by simp)
  simp only[this,Bool.true_and]
theorem cu.push {T:Tab}{p:Int×Cell}(h:cu T)(hm:eX T p.1=true):cu (T++[p]):=by
 unfold eX at hm
 unfold cu at h⊢
 rw[List.pairwise_append]
 refine⟨h,by simp,fun a ha b hb=>?_⟩
 cases List.mem_singleton.1 hb
 rw[Bool.and_eq_true]at hm
 cases hl:T.getLast? with
 |none=>rw[List.getLast?_eq_none_iff]at hl;subst hl;cases ha
 |some q=>
  have hq:bD q.1 p.1=true:=by have:=hm.1;rw[hl]at this;exact this
  obtain⟨ys,rfl⟩: ∃ys,T=ys++[q]:=List.getLast?_eq_some_iff.1 hl
  rcases List.mem_append.1 ha with ha|ha
  ·rw[List.pairwise_append]at h
   exact kU (h.2.2 a ha q (by simp)) hq
  ·cases List.mem_singleton.1 ha;exact hq
theorem JO (T:Tab)(p:Int×Cell)(g:Int):aO (T++[p]) g=aO T g+if grp p.1=g then 1 else 0:=by
 unfold aO
 rw[List.countP_append]
 simp[List.countP_cons]
theorem iy.push {T:Tab}{p:Int×Cell}(h:iy T)(h1:bF p.1)(h2:Hr p.2)(hm:eX T p.1=true):iy (T++[p]):=by
 refine⟨h.rises.push hm,fun q hq=>?_,fun q hq=>?_,fun g=>?_⟩
 ·rcases List.mem_append.1 hq with hq|hq
  ·exact h.key q hq
  ·cases List.mem_singleton.1 hq;exact h1
 ·rcases List.mem_append.1 hq with hq|hq
  ·exact h.cell q hq
  ·cases List.mem_singleton.1 hq;exact h2
 ·rw[JO]
  unfold eX at hm
  rw[Bool.and_eq_true]at hm
  have:=of_decide_eq_true hm.2
  split
  ·rename_i e;subst e;omega
  ·have:=h.many g;omega
theorem ES: ∀(k:Nat)(T:Tab)(l:List UInt8)(V:Tab)(r:List UInt8),iy T->bZ k T l= .ok V r->iy V/\ ∃U,V=T++U/\U.length=k/\l=cZ (U.flatMap iI)++r
 |0,T,l,V,r,hT,h=>by
  injection h with h1 h2
  subst h1 h2
  exact⟨hT,[],by simp,rfl,by simp[cZ]⟩
 |k+1,T,l,V,r,hT,h=>by
  unfold bZ at h
  cases h1:row l with
  |err e=>rw[h1]at h;cases h
  |ok p r1=>
   rw[h1]at h
   simp only[Rd.bind]at h
   split at h
   ·rename_i hm
    obtain⟨a1,a2,a3⟩:=uF h1
    obtain⟨b1,U,b2,b3,b4⟩:=ES k _ _ _ _ (hT.push a2 a3 hm) h
    refine⟨b1,p::U,by rw[b2];simp,by simp[b3],?_⟩
    rw[a1,b4,List.flatMap_cons,tX,List.append_assoc]
   ·cases h
theorem iy.nil:iy []:=⟨by simp[cu],by simp,by simp,fun g=>by simp[aO]⟩
theorem OI {l r:List UInt8}{T:Tab}(h:gK l= .ok T r):iy T/\l=cZ (oP T):=by
 unfold gK at h
 cases h1:num 0 320 l with
 |err e=>rw[h1]at h;cases h
 |ok n r1=>
  rw[h1]at h
  simp only[Rd.bind]at h
  cases h2:bZ n.toNat [] r1 with
  |err e=>rw[h2]at h;cases h
  |ok V r2=>
   rw[h2]at h
   simp only at h
   split at h
   ·rename_i hr
    injection h with h3 h4
    subst h3
    obtain⟨a1,a2,a3,a4⟩:=xk h1
    obtain⟨b1,U,b2,b3,b4⟩:=ES _ _ _ _ _ iy.nil h2
    refine⟨b1,?_⟩
    rw[List.nil_append]at b2
    subst b2
    rw[a1,b4,hr]
    have e:(V.length:Int)=n:=by omega
    unfold oP cZ;rw[List.flatMap_cons,List.append_nil,e]
   ·cases h
def nodeAt (nodes:List JN)(i:Int):JN:=nodes.getD i.toNat default
def bT (nodes:List JN):List St->Tabs->Except Int Tabs
 |[],Ts=> .ok Ts
 |s::l,Ts=>
  if aA nodes s.1<0\/stateful (nodeAt nodes (aA nodes s.1)).kind=false\/(Ts.getD (aA nodes s.1).toNat none).isSome=true then .error 180
  else match gK s.2.data.toList with
   | .err e=> .error e
   | .ok T _=>if dD (nodeAt nodes (aA nodes s.1)).kind (nodeAt nodes (aA nodes s.1)).n T=true then bT nodes l (Ts.set (aA nodes s.1).toNat (some T))else .error 181
def bf (nodes:List JN):Tabs:=List.replicate nodes.length none
def dH (j:Jb)(l:List St):Except Int Tabs:=
 if fU j=true then(match bT j.nodes l (bf j.nodes)with| .ok Ts=> .ok (gV j.nodes Ts)| .error e=> .error e)else .error 2
def qX (p:JN×Option Tab):Option St:=p.2.map fun T=>(p.1.uid,strOf (cZ (oP T)))
def kT (nodes:List JN)(Ts:Tabs):List St:=(nodes.zip Ts).filterMap qX
structure Ot (nodes:List JN)(Ts:Tabs):Prop where
 len:Ts.length=nodes.length
 has: ∀(i:Nat)(d:JN),nodes[i]?=some d->stateful d.kind=true-> ∃T,Ts[i]?=some (some T)/\iy T/\dD d.kind d.n T=true
 not: ∀(i:Nat)(d:JN),nodes[i]?=some d->stateful d.kind=false->Ts[i]?=some none
structure qE (nodes:List JN)(Ts:Tabs):Prop where
 len:Ts.length=nodes.length
 has: ∀(i:Nat)(d:JN)(T:Tab),nodes[i]?=some d->Ts[i]?=some (some T)->stateful d.kind=true/\iy T/\dD d.kind d.n T=true
theorem dI (nodes:List JN)(uid:ByteArray):(aA nodes uid= -1/\ ∀d∈nodes,d.uid≠uid)\/
 ∃i d,aA nodes uid=((i:Nat):Int)/\nodes[i]?=some d/\d.uid=uid/\nodeAt nodes (aA nodes uid)=d/\ ∀(k:Nat)(e:JN),k<i->nodes[k]?=some e->e.uid≠uid:=by
 unfold aA
 cases h:nodes.findIdx? (fun d=>decide (d.uid=uid))with
 |none=>
  left
  rw[List.findIdx?_eq_none_iff]at h
  exact⟨rfl,fun d hd=>by simpa using h d hd⟩
 |some i=>
  right
  obtain⟨hi,h1,h2⟩:=List.findIdx?_eq_some_iff_getElem.1 h
  refine⟨i,nodes[i],rfl,List.getElem?_eq_getElem hi,by simpa using h1,?_,fun k e hk he=>?_⟩
  ·unfold nodeAt;simp[List.getD_eq_getElem?_getD,hi]
  ·obtain⟨hk',rfl⟩:=List.getElem?_eq_some_iff.1 he
   simpa using h2 k hk
theorem MP (nodes:List JN):qE nodes (bf nodes):=⟨by simp[bf],fun i d T _ h=>by
 unfold bf at h
 rw[List.getElem?_replicate]at h
 split at h<;>simp at h⟩
theorem qE.set {nodes:List JN}{Ts:Tabs}(h:qE nodes Ts){i:Nat}{d:JN}{T:Tab}(hd:nodes[i]?=some d)(hs:stateful d.kind=true)(hT:iy T)(hf:dD d.kind d.n T=true):qE nodes (Ts.set i (some T)):=by
 refine⟨by simpa using h.len,fun k e U he hU=>?_⟩
 rw[List.getElem?_set]at hU
 split at hU
 ·rename_i hik
  subst hik
  split at hU
  ·injection hU with hU;injection hU with hU;subst hU
   rw[hd]at he;injection he with he;subst he
   exact⟨hs,hT,hf⟩
  ·cases hU
 ·exact h.has k e U he hU
theorem FD {nodes:List JN}: ∀{l:List St}{Ts Us:Tabs},qE nodes Ts->bT nodes l Ts= .ok Us->qE nodes Us
 |[],Ts,Us,h,e=>by injection e with e;subst e;exact h
 |s::l,Ts,Us,h,e=>by
  unfold bT at e
  split at e
  ·cases e
  ·rename_i hno
   simp only[not_or,Bool.not_eq_false,Bool.not_eq_true]at hno
   obtain⟨h1,h2,h3⟩:=hno
   rcases dI nodes s.1 with⟨h4,_⟩|⟨i,d,h4,h5,_,h6,_⟩
   ·omega
   rw[h6]at h2 e
   split at e
   ·cases e
   ·rename_i T r ht
    split at e
    ·rename_i hf
     refine FD (h.set (i:=(aA nodes s.1).toNat) (d:=d) ?_ h2 (OI ht).1 hf) e
     rw[h4];exact h5
    ·cases e
theorem DL (nodes:List JN)(Ts:Tabs)(i:Nat){d:JN}{t:Option Tab}(hd:nodes[i]?=some d)(ht:Ts[i]?=some t):(gV nodes Ts)[i]?=some (if t.isNone&&stateful d.kind then some []else t):=by
 unfold gV
 rw[List.getElem?_zipWith,hd,ht]
theorem DK (nodes:List JN)(Ts:Tabs)(h:Ts.length=nodes.length):(gV nodes Ts).length=nodes.length:=by unfold gV;simp[h]
theorem Qi {kind n:Int}(h:stateful kind=true):dD kind n []=true:=by unfold dD;simp[h]
theorem qE.fill {nodes:List JN}{Ts:Tabs}(h:qE nodes Ts):Ot nodes (gV nodes Ts):=by
 have get: ∀(i:Nat)(d:JN),nodes[i]?=some d-> ∃t,Ts[i]?=some t:=fun i d hd=>by
  have:=(List.getElem?_eq_some_iff.1 hd).1
  exact⟨_,List.getElem?_eq_getElem (by rw[h.len];exact this)⟩
 refine⟨DK _ _ h.len,fun i d hd hs=>?_,fun i d hd hs=>?_⟩
 ·obtain⟨t,ht⟩:=get i d hd
  rw[DL nodes Ts i hd ht,hs]
  cases t with
  |none=>exact⟨[],rfl,iy.nil,Qi hs⟩
  |some T=>exact⟨T,rfl,(h.has i d T hd ht).2⟩
 ·obtain⟨t,ht⟩:=get i d hd
  rw[DL nodes Ts i hd ht,hs]
  cases t with
  |none=>rfl
  |some T=>have:=(h.has i d T hd ht).1;rw[hs]at this;cases this
theorem RH {j:Jb}{l:List St}{Ts:Tabs}(h:dH j l= .ok Ts):fU j=true/\Ot j.nodes Ts:=by
 unfold dH at h
 split at h
 ·rename_i hj
  cases e:bT j.nodes l (bf j.nodes)with
  |error f=>rw[e]at h;cases h
  |ok Us=>rw[e]at h;injection h with h;subst h;exact⟨hj,(FD (MP _) e).fill⟩
 ·cases h
end Go.Proofs.YtglbkodmmogomaaGreatDoor
