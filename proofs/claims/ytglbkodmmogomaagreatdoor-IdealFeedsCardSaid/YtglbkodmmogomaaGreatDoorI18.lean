/- PLAIN WORDS, no program in sight: numbers and tables as bytes, put and taken. -/
import Derived.Test.YtglbkodmmogomaaGreatDoorI16
set_option linter.unusedVariables false
set_option linter.unusedSimpArgs false
set_option maxHeartbeats 4000000
set_option maxRecDepth 100000
namespace Go.Proofs.YtglbkodmmogomaaGreatDoor
section
open Go Go.RowKit
def je (n:Int):Nat:=if 0<=n then(2*n).toNat else(-2*n-1).toNat
theorem Ew {n:Int}(h:aH n):je n<18446744073709551616:=by unfold je;unfold aH at h;split<;>omega
def jW (u:Nat):List UInt8:=if u<128 then[UInt8.ofNat u]else UInt8.ofNat (u%128+128)::jW (u/128)
termination_by u
decreasing_by omega
theorem qE {u:Nat}(h:u<128):jW u=[UInt8.ofNat u]:=by rw[jW,if_pos h]
theorem xR {u:Nat}(h: ¬u<128):jW u=UInt8.ofNat (u%128+128)::jW (u/128):=by rw[jW,if_neg h]
def dV (l:List Int):List UInt8:=l.flatMap fun n=>jW (je n)
theorem E8: ∀(j u:Nat),u<128^(j+1)->(jW u).length<=j+1
 |0,u,h=>by rw[qE (by simpa using h)];simp
 |j+1,u,h=>by
  by_cases hu:u<128
  ·rw[qE hu];simp
  ·rw[xR hu,φ]
   have:=E8 j (u/128) (by rw[Nat.pow_succ]at h;exact Nat.div_lt_of_lt_mul (by rw[Nat.mul_comm];exact h));omega
theorem Aj {n:Int}(h:aH n):(jW (je n)).length<=10:=E8 9 _ (Pe (Ew h) (by decide))
theorem uH {l:List Int}(h: ∀n∈l,aH n):(dV l).length<=10*l.length:=by
 unfold dV
 induction l with
 |nil=>simp
 |cons x l ih=>have h1:=Aj (h x (by simp));have h2:=ih (fun n hn=>h n (by simp[hn]));simp only[List.flatMap_cons,ν,φ];omega
theorem Jd {l:List Int}{k:Nat}{x:Int}(h:l[k]?=some x):dV (l.take (k+1))=dV (l.take k)++jW (je x):=by unfold dV;rw[ψ,h,List.flatMap_append];simp
def strOf (l:List UInt8):ByteArray:=⟨l.toArray⟩
theorem kP (l m:List UInt8):strOf l++strOf m=strOf (l++m):=by simp[strOf,ByteArray.ext_iff]
theorem sN (l:List UInt8):(strOf l).size=l.length:=rfl
def ku (p:Int×Cell):List Int:=p.1::p.2.1::(p.2.2.length:Int)::p.2.2
def uy (T:Tab):List Int:=(T.length:Int)::T.flatMap ku
theorem yL (l m:List Int):dV (l++m)=dV l++dV m:=by unfold dV;rw[List.flatMap_append]
theorem IY {T:Tab}{k:Nat}{p:Int×Cell}(h:T[k]?=some p):(T.take (k+1)).flatMap ku=(T.take k).flatMap ku++ku p:=by rw[ψ,h,List.flatMap_append];simp
theorem rows_ok {T:Tab}(h: ∀p∈T,aH p.1)(hc: ∀p∈T,G8 p.2):(∀n∈T.flatMap ku,aH n)/\(T.flatMap ku).length<=19*T.length:=by
 induction T with
 |nil=>simp
 |cons p T ih=>
  obtain⟨i1,i2⟩:=ih (fun q hq=>h q (by simp[hq])) (fun q hq=>hc q (by simp[hq]));have c:=hc p (by simp);refine⟨fun n hn=>?_,?_⟩
  ·rw[List.flatMap_cons]at hn
   rcases abL.1 hn with hn|hn
   ·unfold ku at hn
    simp only[abR]at hn
    rcases hn with rfl|rfl|rfl|hn
    ·exact h p (by simp)
    ·exact c.1
    ·have:=c.2.2;exact .small (by omega) (by omega)
    ·exact c.2.1 n hn
   ·exact i1 n hn
  ·rw[List.flatMap_cons,ν]
   have:=c.2.2;simp only[ku,φ]at*;omega
def lD (u:Nat):Int:=if u%2=0 then((u/2:Nat):Int)else-((u/2:Nat):Int)-1
def gJ (i u:Nat):List UInt8->Int×Nat×Int
 |[]=>(0,0,20)
 |c::r=>
  if i=9/\1<c.toNat then(0,0,21)
  else if 128<=c.toNat then gJ (i+1) (u+c.toNat%128*128^i) r
  else if c.toNat=0/\0<i then(0,0,21)
  else(lD (u+c.toNat%128*128^i),i+1,0)
def tk (l:List UInt8):Int×Nat×Int:=gJ 0 0 l
theorem Va:128^9=9223372036854775808:=by decide
inductive Rd (α:Type) where
 |ok (a:α) (r:List UInt8)
 |err (e:Int)
def Rd.bind {α β:Type}(x:Rd α)(f:α->List UInt8->Rd β):Rd β:=match x with| .ok a r=>f a r| .err e=> .err e
def num (lo hi:Int)(l:List UInt8):Rd Int:=
 if(tk l).2.2≠0 then .err (tk l).2.2 else if(tk l).1<lo\/hi<(tk l).1 then .err 21 else .ok (tk l).1 (l.drop (tk l).2.1)
def bg:Int:= -9223372036854775808
def hi64:Int:=9223372036854775807
def nums:Nat->List UInt8->Rd (List Int)
 |0,l=> .ok [] l
 |k+1,l=>(num bg hi64 l).bind fun n r=>(nums k r).bind fun ns r=> .ok (n::ns) r
def row (l:List UInt8):Rd (Int×Cell):=
 (num bg hi64 l).bind fun key r=>(num bg hi64 r).bind fun acc r=>(num 0 16 r).bind fun n r=>(nums n.toNat r).bind fun ns r=> .ok (key,(acc,ns)) r
def gY (T:Tab)(key:Int):Bool:=(match T.getLast? with|some p=>bH p.1 key|none=>true)&&decide (aV T (grp key)<40)
def dZ:Nat->Tab->List UInt8->Rd Tab
 |0,T,l=> .ok T l
 |k+1,T,l=>(row l).bind fun p r=>if gY T p.1 then dZ k (T++[p]) r else .err 21
def mZ (l:List UInt8):Rd Tab:=(num 0 320 l).bind fun n r=>(dZ n.toNat [] r).bind fun T r=>if r=[]then .ok T []else .err 21
theorem ac2 {lo hi:Int}{l:List UInt8}{f:Int}(h:num lo hi l= .err f):f≠0:=by
 unfold num at h;split at h
 ·rename_i h0;injection h with h;subst h;exact h0
 ·split at h
  ·injection h with h;subst h;decide
  ·cases h
theorem Ri {u:Nat}:je (lD u)=u:=by unfold lD je;split<;>split<;>omega
theorem ZB {u:Nat}(h:u<18446744073709551616):aH (lD u):=by unfold lD aH;split<;>omega
theorem IC: ∀(l:List UInt8)(i u:Nat)(n:Int)(z:Nat),i<=9->u<128^i->gJ i u l=(n,z,0)->
 ∃v,i<z/\z-i<=l.length/\l.take (z-i)=jW v/\n=lD (u+v*128^i)/\u+v*128^i<18446744073709551616/\(0<i->0<v)
 |[],i,u,n,z,_,_,h=>by simp[gJ]at h
 |c::r,i,u,n,z,hi,hu,h=>by
  have hc:=c.toNat_lt;unfold gJ at h;split at h
  ·simp at h
  ·rename_i h9
   split at h
   ·rename_i hbig
    have hi9:i≠9:=(by rintro rfl;exact h9 ⟨rfl,by omega⟩);have hu':u+c.toNat%128*128^i<128^(i+1):=(by have h1:c.toNat%128<=127:=(by omega);have h2:c.toNat%128*128^i<=127*128^i:=Nat.mul_le_mul_right _ h1;rw[Nat.pow_succ];omega);obtain⟨v,h1,h2,h3,h4,h5,h6⟩:=IC r (i+1) _ n z (by omega) hu' h;have h6':=h6 (by omega);have hd: ¬(c.toNat%128+128*v)<128:=(by omega);have e2:(c.toNat%128+128*v)*128^i=c.toNat%128*128^i+v*128^(i+1):=(by rw[Nat.pow_succ,Nat.add_mul,Nat.mul_comm 128 v,Nat.mul_assoc,Nat.mul_comm 128 (128^i)]);refine⟨c.toNat%128+128*v,by omega,by rw[φ];omega,?_,by rw[h4,e2];congr 1;omega,by rw[e2];omega,fun _=>by omega⟩;rw[xR hd];have e1:z-i=(z-(i+1))+1:=(by omega);rw[e1,List.take_succ_cons,h3,show(c.toNat%128+128*v)/128=v by omega,show(c.toNat%128+128*v)%128+128=c.toNat by omega,UInt8.ofNat_toNat]
   ·rename_i hsm
    split at h
    ·simp at h
    ·rename_i h0
     injection h with h1 h2
     injection h2 with h2 h3
     subst h1 h2;have e1:i+1-i=1:=(by omega);refine⟨c.toNat,by omega,by rw[e1,φ];omega,?_,by rw[Nat.mod_eq_of_lt (by omega)],?_,fun h=>by omega⟩
     ·rw[e1,List.take_succ_cons,List.take_zero,qE (by omega),UInt8.ofNat_toNat]
     ·have hp:i=9\/i<=8:=by omega
      rcases hp with rfl|hp
      ·have:c.toNat<=1:=by have:=fun h=>h9 ⟨rfl,h⟩;omega
       rw[Va]at*;have:c.toNat*9223372036854775808<=1*9223372036854775808:=Nat.mul_le_mul_right _ this;omega
      ·have h1:128^i<=128^8:=Nat.pow_le_pow_right (by omega) hp
       have h2:c.toNat*128^i<=127*128^i:=Nat.mul_le_mul_right _ (by omega);have h3:(128:Nat)^8=72057594037927936:=(by decide);omega
theorem abC {l:List UInt8}{n:Int}{z:Nat}(h:tk l=(n,z,0)):0<z/\z<=l.length/\l.take z=jW (je n)/\aH n:=by
 obtain⟨v,h1,h2,h3,h4,h5,_⟩:=IC l 0 0 n z (by omega) (by simp) h;simp only[Nat.pow_zero,Nat.mul_one,Nat.zero_add,Nat.sub_zero]at*;refine⟨h1,h2,?_,?_⟩
 ·rw[h3,h4,Ri]
 ·rw[h4];exact ZB h5
theorem Fz: ∀(l:List UInt8)(i u:Nat),(gJ i u l).2.2≠0->gJ i u l=(0,0,(gJ i u l).2.2)
 |[],i,u,_=>rfl
 |c::r,i,u,h=>by
  unfold gJ at h⊢;split
  ·rfl
  ·split
   ·rw[if_neg (by assumption),if_pos (by assumption)]at h
    exact Fz r _ _ h
   ·split
    ·rfl
    ·rw[if_neg (by assumption),if_neg (by assumption),if_neg (by assumption)]at h
     exact absurd rfl h
theorem BN {n lo hi:Int}{l r:List UInt8}(h:num lo hi l= .ok n r):l=jW (je n)++r/\aH n/\lo<=n/\n<=hi:=by
 unfold num at h;split at h
 ·cases h
 ·rename_i h0
  split at h
  ·cases h
  ·rename_i h1
   injection h with h2 h3
   have hh:tk l=(n,(tk l).2.1,0):=(by rw[<-h2];have:(tk l).2.2=0:=(by omega);rw[<-this]);obtain⟨_,_,h4,h5⟩:=abC hh;refine⟨?_,h5,by omega,by omega⟩;rw[<-h4,<-h3,List.take_append_drop]
theorem aH.in {n:Int}(h:aH n):bg<=n/\n<=hi64:=h
theorem TK: ∀(k:Nat)(l:List UInt8)(ns:List Int)(r:List UInt8),nums k l= .ok ns r->l=dV ns++r/\(∀n∈ns,aH n)/\ns.length=k
 |0,l,ns,r,h=>by
  injection h with h1 h2
  subst h1 h2;simp[dV]
 |k+1,l,ns,r,h=>by
  unfold nums at h
  cases h1:num bg hi64 l with
  |err e=>rw[h1]at h;cases h
  |ok n r1=>
   rw[h1]at h;simp only[Rd.bind]at h
   cases h2:nums k r1 with
   |err e=>rw[h2]at h;cases h
   |ok ms r2=>
    rw[h2]at h
    injection h with h3 h4
    subst h3 h4;obtain⟨a1,a2,_⟩:=BN h1;obtain⟨b1,b2,b3⟩:=TK k r1 ms r2 h2;refine⟨?_,fun m hm=>?_,by simp[b3]⟩
    ·rw[a1,b1];unfold dV;rw[List.flatMap_cons,List.append_assoc]
    ·rcases abR.1 hm with rfl|hm
     ·exact a2
     ·exact b2 m hm
theorem y8 {l r:List UInt8}{p:Int×Cell}(h:row l= .ok p r):l=dV (ku p)++r/\aH p.1/\G8 p.2:=by
 unfold row at h
 cases h1:num bg hi64 l with
 |err e=>rw[h1]at h;cases h
 |ok key r1=>
  rw[h1]at h;simp only[Rd.bind]at h
  cases h2:num bg hi64 r1 with
  |err e=>rw[h2]at h;cases h
  |ok acc r2=>
   rw[h2]at h;simp only at h
   cases h3:num 0 16 r2 with
   |err e=>rw[h3]at h;cases h
   |ok n r3=>
    rw[h3]at h;simp only at h
    cases h4:nums n.toNat r3 with
    |err e=>rw[h4]at h;cases h
    |ok ns r4=>
     rw[h4]at h
     injection h with h5 h6
     subst h5 h6;obtain⟨a1,a2,_⟩:=BN h1;obtain⟨b1,b2,_⟩:=BN h2;obtain⟨c1,c2,c3,c4⟩:=BN h3;obtain⟨d1,d2,d3⟩:=TK _ _ _ _ h4;refine⟨?_,a2,b2,d2,by show ns.length<=16;omega⟩;rw[a1,b1,c1,d1];have e:(ns.length:Int)=n:=(by omega);unfold ku dV;simp only[List.flatMap_cons,List.append_assoc,e]
theorem dJ.snoc {T:Tab}{p:Int×Cell}(h:dJ (T++[p])):dJ T/\gY T p.1=decide (aV T (grp p.1)<40):=by
 unfold dJ at h⊢;rw[List.pairwise_append]at h;refine⟨h.1,?_⟩;unfold gY
 cases hl:T.getLast? with
 |none=>simp
 |some q=>have:=h.2.2 q (List.mem_of_getLast? hl) p (by simp);simp only[this,Bool.true_and]
theorem dJ.push {T:Tab}{p:Int×Cell}(h:dJ T)(hm:gY T p.1=true):dJ (T++[p]):=by
 unfold gY at hm;unfold dJ at h⊢;rw[List.pairwise_append];refine⟨h,by simp,fun a ha b hb=>?_⟩;cases abQ.1 hb;rw[Φ]at hm
 cases hl:T.getLast? with
 |none=>rw[List.getLast?_eq_none_iff]at hl;subst hl;cases ha
 |some q=>
  have hq:bH q.1 p.1=true:=(by have:=hm.1;rw[hl]at this;exact this);obtain⟨ys,rfl⟩: ∃ys,T=ys++[q]:=List.getLast?_eq_some_iff.1 hl
  rcases abL.1 ha with ha|ha
  ·rw[List.pairwise_append]at h
   exact iI (h.2.2 a ha q (by simp)) hq
  ·cases abQ.1 ha;exact hq
theorem UE (T:Tab)(p:Int×Cell)(g:Int):aV (T++[p]) g=aV T g+if grp p.1=g then 1 else 0:=by unfold aV;rw[List.countP_append];simp[List.countP_cons]
theorem eP.push {T:Tab}{p:Int×Cell}(h:eP T)(h1:aH p.1)(h2:G8 p.2)(hm:gY T p.1=true):eP (T++[p]):=by
 refine⟨h.rises.push hm,fun q hq=>?_,fun q hq=>?_,fun g=>?_⟩
 ·rcases abL.1 hq with hq|hq
  ·exact h.key q hq
  ·cases abQ.1 hq;exact h1
 ·rcases abL.1 hq with hq|hq
  ·exact h.cell q hq
  ·cases abQ.1 hq;exact h2
 ·rw[UE]
  unfold gY at hm;rw[Φ]at hm;have:=of_decide_eq_true hm.2;split
  ·rename_i e;subst e;omega
  ·have:=h.many g;omega
theorem OO: ∀(k:Nat)(T:Tab)(l:List UInt8)(V:Tab)(r:List UInt8),eP T->dZ k T l= .ok V r->eP V/\ ∃U,V=T++U/\U.length=k/\l=dV (U.flatMap ku)++r
 |0,T,l,V,r,hT,h=>by
  injection h with h1 h2
  subst h1 h2;exact⟨hT,[],by simp,rfl,by simp[dV]⟩
 |k+1,T,l,V,r,hT,h=>by
  unfold dZ at h
  cases h1:row l with
  |err e=>rw[h1]at h;cases h
  |ok p r1=>
   rw[h1]at h;simp only[Rd.bind]at h;split at h
   ·rename_i hm
    obtain⟨a1,a2,a3⟩:=y8 h1;obtain⟨b1,U,b2,b3,b4⟩:=OO k _ _ _ _ (hT.push a2 a3 hm) h;refine⟨b1,p::U,by rw[b2];simp,by simp[b3],?_⟩;rw[a1,b4,List.flatMap_cons,yL,List.append_assoc]
   ·cases h
theorem eP.nil:eP []:=⟨by simp[dJ],by simp,by simp,fun g=>by simp[aV]⟩
theorem ZY {l r:List UInt8}{T:Tab}(h:mZ l= .ok T r):eP T/\l=dV (uy T):=by
 unfold mZ at h
 cases h1:num 0 320 l with
 |err e=>rw[h1]at h;cases h
 |ok n r1=>
  rw[h1]at h;simp only[Rd.bind]at h
  cases h2:dZ n.toNat [] r1 with
  |err e=>rw[h2]at h;cases h
  |ok V r2=>
   rw[h2]at h;simp only at h;split at h
   ·rename_i hr
    injection h with h3 h4
    subst h3;obtain⟨a1,a2,a3,a4⟩:=BN h1;obtain⟨b1,U,b2,b3,b4⟩:=OO _ _ _ _ _ eP.nil h2;refine⟨b1,?_⟩;rw[List.nil_append]at b2;subst b2;rw[a1,b4,hr];have e:(V.length:Int)=n:=(by omega);unfold uy dV;rw[List.flatMap_cons,List.append_nil,e]
   ·cases h
def nodeAt (nodes:List JN)(i:Int):JN:=nodes.getD i.toNat default
def jg (nodes:List JN):List St->Tabs->Except Int Tabs
 |[],Ts=> .ok Ts
 |s::l,Ts=>
  if bP nodes s.1<0\/stateful (nodeAt nodes (bP nodes s.1)).kind=false\/(Ts.getD (bP nodes s.1).toNat none).isSome=true then .error 180
  else match mZ s.2.data.toList with
   | .err e=> .error e
   | .ok T _=>if fD (nodeAt nodes (bP nodes s.1)).kind (nodeAt nodes (bP nodes s.1)).n T=true then jg nodes l (Ts.set (bP nodes s.1).toNat (some T))else .error 181
def dU (nodes:List JN):Tabs:=List.replicate nodes.length none
def og (j:Jb)(l:List St):Except Int Tabs:=
 if gu j=true then(match jg j.nodes l (dU j.nodes)with| .ok Ts=> .ok (oh j.nodes Ts)| .error e=> .error e)else .error 2
def wM (p:JN×Option Tab):Option St:=p.2.map fun T=>(p.1.uid,strOf (dV (uy T)))
def rO (nodes:List JN)(Ts:Tabs):List St:=(nodes.zip Ts).filterMap wM
structure eH (nodes:List JN)(Ts:Tabs):Prop where
 len:Ts.length=nodes.length
 has: ∀(i:Nat)(d:JN),nodes[i]?=some d->stateful d.kind=true-> ∃T,Ts[i]?=some (some T)/\eP T/\fD d.kind d.n T=true
 not: ∀(i:Nat)(d:JN),nodes[i]?=some d->stateful d.kind=false->Ts[i]?=some none
structure vX (nodes:List JN)(Ts:Tabs):Prop where
 len:Ts.length=nodes.length
 has: ∀(i:Nat)(d:JN)(T:Tab),nodes[i]?=some d->Ts[i]?=some (some T)->stateful d.kind=true/\eP T/\fD d.kind d.n T=true
theorem vJ (nodes:List JN)(uid:ByteArray):(bP nodes uid= -1/\ ∀d∈nodes,d.uid≠uid)\/
 ∃i d,bP nodes uid=((i:Nat):Int)/\nodes[i]?=some d/\d.uid=uid/\nodeAt nodes (bP nodes uid)=d/\ ∀(k:Nat)(e:JN),k<i->nodes[k]?=some e->e.uid≠uid:=by
 unfold bP
 cases h:nodes.findIdx? (fun d=>decide (d.uid=uid))with
 |none=>left;rw[List.findIdx?_eq_none_iff]at h;exact⟨rfl,fun d hd=>by simpa using h d hd⟩
 |some i=>
  right;obtain⟨hi,h1,h2⟩:=List.findIdx?_eq_some_iff_getElem.1 h;refine⟨i,nodes[i],rfl,ι hi,by simpa using h1,?_,fun k e hk he=>?_⟩
  ·unfold nodeAt;simp[σ,hi]
  ·obtain⟨hk',rfl⟩:=μ.1 he
   simpa using h2 k hk
theorem Yp (nodes:List JN):vX nodes (dU nodes):=⟨by simp[dU],fun i d T _ h=>by
 unfold dU at h;rw[List.getElem?_replicate]at h
 split at h<;>simp at h⟩
theorem vX.set {nodes:List JN}{Ts:Tabs}(h:vX nodes Ts){i:Nat}{d:JN}{T:Tab}(hd:nodes[i]?=some d)(hs:stateful d.kind=true)(hT:eP T)(hf:fD d.kind d.n T=true):vX nodes (Ts.set i (some T)):=by
 refine⟨by simpa using h.len,fun k e U he hU=>?_⟩;rw[List.getElem?_set]at hU;split at hU
 ·rename_i hik
  subst hik;split at hU
  ·injection hU with hU;injection hU with hU;subst hU
   rw[hd]at he;injection he with he;subst he
   exact⟨hs,hT,hf⟩
  ·cases hU
 ·exact h.has k e U he hU
theorem Pm {nodes:List JN}: ∀{l:List St}{Ts Us:Tabs},vX nodes Ts->jg nodes l Ts= .ok Us->vX nodes Us
 |[],Ts,Us,h,e=>by injection e with e;subst e;exact h
 |s::l,Ts,Us,h,e=>by
  unfold jg at e;split at e
  ·cases e
  ·rename_i hno
   simp only[not_or,Bool.not_eq_false,Bool.not_eq_true]at hno;obtain⟨h1,h2,h3⟩:=hno
   rcases vJ nodes s.1 with⟨h4,_⟩|⟨i,d,h4,h5,_,h6,_⟩
   ·omega
   rw[h6]at h2 e;split at e
   ·cases e
   ·rename_i T r ht
    split at e
    ·rename_i hf
     refine Pm (h.set (i:=(bP nodes s.1).toNat) (d:=d) ?_ h2 (ZY ht).1 hf) e;rw[h4];exact h5
    ·cases e
theorem JB (nodes:List JN)(Ts:Tabs)(i:Nat){d:JN}{t:Option Tab}(hd:nodes[i]?=some d)(ht:Ts[i]?=some t):(oh nodes Ts)[i]?=some (if t.isNone&&stateful d.kind then some []else t):=by unfold oh;rw[List.getElem?_zipWith,hd,ht]
theorem Zf (nodes:List JN)(Ts:Tabs)(h:Ts.length=nodes.length):(oh nodes Ts).length=nodes.length:=by unfold oh;simp[h]
theorem aa9 {kind n:Int}(h:stateful kind=true):fD kind n []=true:=by unfold fD;simp[h]
theorem vX.fill {nodes:List JN}{Ts:Tabs}(h:vX nodes Ts):eH nodes (oh nodes Ts):=by
 have get: ∀(i:Nat)(d:JN),nodes[i]?=some d-> ∃t,Ts[i]?=some t:=fun i d hd=>(by have:=(μ.1 hd).1;exact⟨_,ι (by rw[h.len];exact this)⟩);refine⟨Zf _ _ h.len,fun i d hd hs=>?_,fun i d hd hs=>?_⟩
 ·obtain⟨t,ht⟩:=get i d hd
  rw[JB nodes Ts i hd ht,hs]
  cases t with
  |none=>exact⟨[],rfl,eP.nil,aa9 hs⟩
  |some T=>exact⟨T,rfl,(h.has i d T hd ht).2⟩
 ·obtain⟨t,ht⟩:=get i d hd
  rw[JB nodes Ts i hd ht,hs]
  cases t with
  |none=>rfl
  |some T=>have:=(h.has i d T hd ht).1;rw[hs]at this;cases this
theorem TU {j:Jb}{l:List St}{Ts:Tabs}(h:og j l= .ok Ts):gu j=true/\eH j.nodes Ts:=by
 unfold og at h;split at h
 ·rename_i hj
  cases e:jg j.nodes l (dU j.nodes)with
  |error f=>rw[e]at h;cases h
  |ok Us=>rw[e]at h;injection h with h;subst h;exact⟨hj,(Pm (Yp _) e).fill⟩
 ·cases h
end
section
open Go Go.RowKit
attribute [local irreducible] cZ
theorem acP (a b:ByteArray):(a.toList==b.toList)=decide (a=b):=by rw[<-beq_toListBytes,CP]
structure Tok where
 kind:Int
 text:ByteArray
 n:Int
 at_:Int
def lH (s:ByteArray):List Tok->Option (List Tok)
 |[]=>none
 |t::r=>if t.kind=0\/t.kind=2\/t.text≠s then none else some r
theorem zl {s:ByteArray}{t:Tok}{r:List Tok}(h:t.kind=0\/t.kind=2\/t.text≠s):lH s (t::r)=none:=if_pos h
theorem Di {s:ByteArray}{t:Tok}{r:List Tok}(h: ¬(t.kind=0\/t.kind=2\/t.text≠s)):lH s (t::r)=some r:=if_neg h
structure Ky (w:World)(b o:Nat)(t:Tok):Prop where
 c0:w.cell? ⟨b,o,none⟩=some (.int .u8 t.kind)
 c1:w.cell? ⟨b,o+1,none⟩=some (.string t.text)
 c2:w.cell? ⟨b,o+2,none⟩=some (.int .i64 t.n)
 c3:w.cell? ⟨b,o+3,none⟩=some (.int .i64 t.at_)
structure iH (w:World)(R:Nat)(l:List Tok)(e:Int):Prop where
 obj: ∃ta cap,w.heap[R]?=some (.cells #[.slice ta l.length cap,.int .i64 e,.bool false,.int .i64 0] 274 (0,0))/\l.length<=cap/\cap<=maxLen/\
  (l=[]\/ ∃b off,ta=some ⟨b,off,none⟩/\b<R/\ ∀(i:Nat)(t:Tok),l[i]?=some t->Ky w b (off+i*4) t)
theorem Ky.kept {w w':World}{S:Nat->Prop}{b o:Nat}{t:Tok}(h:Ky w b o t)(hk:ε S w w')(hb: ¬S b):Ky w' b o t:=
 ⟨hk.cell (p:=⟨b,o,none⟩) hb h.c0,hk.cell (p:=⟨b,o+1,none⟩) hb h.c1,hk.cell (p:=⟨b,o+2,none⟩) hb h.c2,hk.cell (p:=⟨b,o+3,none⟩) hb h.c3⟩
theorem iH.pure {w w':World}{R:Nat}{l:List Tok}{e:Int}(h:iH w R l e)(hk:ε η w w'):iH w' R l e:=by
 obtain⟨ta,cap,h1,h2,h3,h4⟩:=h.obj;refine⟨ta,cap,hk.heap h1 id,h2,h3,?_⟩
 rcases h4 with h4|⟨b,off,hb,hne,h4⟩
 ·exact .inl h4
 ·exact .inr ⟨b,off,hb,hne,fun i t ht=>(h4 i t ht).kept hk id⟩
theorem iH.lt {w:World}{R:Nat}{l:List Tok}{e:Int}(h:iH w R l e):R<w.heap.size:=by obtain⟨ta,cap,h1,_⟩:=h.obj;exact(κ.1 h1).1
theorem iH.mD {w w':World}{S:Nat->Prop}{R:Nat}{l:List Tok}{e:Int}(h:iH w R l e)(hk:ε S w w')(hS: ∀k,S k->R<k):iH w' R l e:=by
 obtain⟨ta,cap,h1,h2,h3,h4⟩:=h.obj;refine⟨ta,cap,hk.heap h1 (fun h=>by have:=hS R h;omega),h2,h3,?_⟩
 rcases h4 with h4|⟨b,off,hb,hne,h4⟩
 ·exact .inl h4
 ·exact .inr ⟨b,off,hb,hne,fun i t ht=>(h4 i t ht).kept hk (fun h=>by have:=hS b h;omega)⟩
abbrev Hg (t:Tok):Value:= .agg #[.int .u8 t.kind,.string t.text,.int .i64 t.n,.int .i64 t.at_]
def Kt (l:List Tok)(e:Int):Tok:=match l with|t::_=>t|[]=>⟨0,Df,0,e⟩
theorem next_any (R:Nat)(l:List Tok)(e:Int)(w:World)(h:iH w R l e):Calls Tryz.prog 231 #[.pointer (some ⟨R,0,none⟩)] w fun e' w'=>e'= .returned (Hg (Kt l e))/\ε η w w':=by
 obtain⟨ta,cap,h1,h2,h3,h4⟩:=h.obj;have x0:w.cell? ⟨R,0,none⟩=some (.slice ta l.length cap):=ζ h1 rfl;have x1:w.cell? ⟨R,1,none⟩=some (.int .i64 e):=ζ h1 rfl;have hl:=h.lt;unfold maxLen at h3;clear h1
 cases l with
 |nil=>clear h4;go_enter Tryz.func231,Tryz.ntmps231;go_wp2_with fail;refine bodyPost_ret (v:=Hg ⟨0,Df,0,e⟩) (by simp[results,Tryz.results231,go_sem];rfl) rfl ⟨rfl,δ.alloc _⟩
 |cons t r=>obtain⟨b,off,rfl,hne,hc⟩:=h4.resolve_left (by simp);obtain⟨c0,c1,c2,c3⟩:=hc 0 t rfl;rw[Nat.zero_mul,Nat.add_zero]at c0 c1 c2 c3;have hb:b<w.heap.size:=(by have:=block_lt_of_cell c0;simpa using this);have hlen: ¬((r.length:Int)+1=0):=(by omega);clear hc h4 h;go_enter Tryz.func231,Tryz.ntmps231;go_wp2_with fail;refine bodyPost_ret (v:=Hg t) (by simp[results,Tryz.results231,go_sem]) rfl ⟨rfl,δ.alloc _⟩
def zx (w:World)(R:Nat)(e:Int)(o:Option (List Tok))(l:List Tok)(e':Ending)(w':World):Prop:=
 ε (one R) w w'/\match o with|some l'=>e'= .returned (.bool true)/\iH w' R l' e|none=>e'= .returned (.bool false)/\iH w' R l e
theorem uG (R:Nat)(l:List Tok)(e:Int)(s:ByteArray)(w:World)(h:iH w R l e):Calls Tryz.prog 258 #[.pointer (some ⟨R,0,none⟩),.string s] w (zx w R e (lH s l) l):=by
 have cn:=next_any R l e w h;obtain⟨ta,cap,h1,h2,h3,h4⟩:=h.obj;have x0:w.cell? ⟨R,0,none⟩=some (.slice ta l.length cap):=ζ h1 rfl;have x2:w.cell? ⟨R,2,none⟩=some (.bool false):=ζ h1 rfl;have f0:=free_at h1 0;have hl:=h.lt;unfold maxLen at h3;have H:=γ (θ h h1);clear h h1
 cases l with
 |nil=>clear h4;unfold Kt at cn;go_enter Tryz.func258,Tryz.ntmps258;go_wp2_with fail;(with_reducible refine cn.mono ?_);clear cn;rintro e' w2 ⟨rfl,k2⟩;have x2:=k2.cell (p:=⟨R,2,none⟩) id x2;have hl2:R<w2.heap.size:=Pe hl k2.size;have F:=γ (show∀w',ε η w2 w'->zx w R e (lH s []) [] (.returned (.bool false)) w' from fun w' hk=>⟨(k2.trans hk).pure,rfl,H.o.1.pure (k2.trans hk)⟩);clear k2 f0 x0;go_wp2_with fail;go_ret;exact F.o _ (δ.alloc _)
 |cons t r=>
  obtain⟨b,off,rfl,hne,hc⟩:=h4.resolve_left (by simp);have H4:=γ hc;clear h4 hc;simp only[Kt,Hg]at cn;obtain⟨tk,tt,tn,ta⟩:=t;simp only at cn;by_cases h0:tk=0
  ·subst h0
   have e1:lH s (⟨0,tt,tn,ta⟩::r)=none:=zl (.inl rfl);have F:=γ (show∀w',ε η w w'->zx w R e (lH s (⟨0,tt,tn,ta⟩::r)) (⟨0,tt,tn,ta⟩::r) (.returned (.bool false)) w' from fun w' hk=>⟨hk.pure,by rw[e1];exact⟨rfl,H.o.1.pure hk⟩⟩);clear e1;go_enter Tryz.func258,Tryz.ntmps258;go_wp2_with fail;(with_reducible refine cn.mono ?_);clear cn;rintro e' w2 ⟨rfl,k2⟩;have x2:=k2.cell (p:=⟨R,2,none⟩) id x2;have hl2:R<w2.heap.size:=Pe hl k2.size;have K2:=γ k2;clear k2 f0 x0;go_wp2_with fail;go_ret;exact F.o _ (K2.o.trans (δ.alloc _))
  ·have g0:(tk==0)=false:=by simpa using h0
   by_cases h1:tk=2
   ·subst h1
    have e1:lH s (⟨2,tt,tn,ta⟩::r)=none:=zl (.inr (.inl rfl));have F:=γ (show∀w',ε η w w'->zx w R e (lH s (⟨2,tt,tn,ta⟩::r)) (⟨2,tt,tn,ta⟩::r) (.returned (.bool false)) w' from fun w' hk=>⟨hk.pure,by rw[e1];exact⟨rfl,H.o.1.pure hk⟩⟩);clear e1;go_enter Tryz.func258,Tryz.ntmps258;go_wp2_with fail;(with_reducible refine cn.mono ?_);clear cn;rintro e' w2 ⟨rfl,k2⟩;have x2:=k2.cell (p:=⟨R,2,none⟩) id x2;have hl2:R<w2.heap.size:=Pe hl k2.size;have K2:=γ k2;clear k2 f0 x0;go_wp2_with fail;go_ret;exact F.o _ (K2.o.trans (δ.alloc _))
   ·have g1:(tk==2)=false:=by simpa using h1
    by_cases ht:tt=s
    ·subst ht
     have e1:lH tt (⟨tk,tt,tn,ta⟩::r)=some r:=Di (by simp[h0,h1]);rw[e1];clear e1;have HT:=γ (θ h0 h1);go_enter Tryz.func258,Tryz.ntmps258;go_wp2_with fail;(with_reducible refine cn.mono ?_);clear cn;rintro e' w2 ⟨rfl,k2⟩;have x2:=k2.cell (p:=⟨R,2,none⟩) id x2;have x0:=k2.cell (p:=⟨R,0,none⟩) id x0;have hl2:R<w2.heap.size:=Pe hl k2.size;have f0:w2.frozen? ⟨R,0,none⟩=false:=free_at (k2.heap H.o.2 id) 0;have K2:=γ k2;have hcap:1<=cap:=(by simp at h2;omega);have hn1:(1:Int)<=(r.length:Int)+1:=(by omega);clear k2;have fin: ∀(ta':Option Addr)(cap':Nat),(r=[]\/ta'=some ⟨b,off+4,none⟩)->r.length<=cap'->cap'<=maxLen->
      zx w R e (some r) (⟨tk,tt,tn,ta⟩::r) (.returned (.bool true)) ((w2.setCell ⟨R,0,none⟩ (.slice ta' r.length cap')).alloc (.cells #[.int .u8 tk,.string tt,.int .i64 tn,.int .i64 ta] 299)):=by
      intro ta' cap' q1 q2 q3;have ks:ε (one R) w2 (w2.setCell ⟨R,0,none⟩ (.slice ta' r.length cap')):=ε.setCell (p:=⟨R,0,none⟩) (ε.refl (one R) _) (.inl rfl) _;have ka:ε η (w2.setCell ⟨R,0,none⟩ (.slice ta' r.length cap')) ((w2.setCell ⟨R,0,none⟩ (.slice ta' r.length cap')).alloc (.cells #[.int .u8 tk,.string tt,.int .i64 tn,.int .i64 ta] 299)):=δ.alloc _;refine⟨(K2.o.pure.trans ks).trans ka.pure,rfl,⟨ta',cap',?_,q2,q3,?_⟩⟩
      ·have:=bD (K2.o.heap H.o.2 id) 0 (.slice ta' r.length cap')
       exact ka.heap this id
      ·rcases q1 with q1|q1
       ·exact .inl q1
       ·refine .inr ⟨b,off+4,q1,hne,fun i t ht=>?_⟩
        have:=H4.o (i+1) t (by simpa using ht);rw[show off+(i+1)*4=off+4+i*4 by omega]at this;exact(((this.kept K2.o id).kept ks (fun h=>by unfold one at h;omega))).kept ka id
     have FIN:=γ fin;have hrl:r.length+1<=cap:=(by simpa using h2);clear fin;by_cases hc1:cap=1
     ·subst hc1
      have hr:r=[]:=τ (by omega);subst hr;go_wp2_with fail;go_ret;exact FIN.o _ _ (.inl (by trivial)) (ξ _) (by unfold maxLen;omega)
     ·have hc2: ¬(cap-1=0):=by omega
      go_wp2_with fail;go_ret;exact FIN.o _ _ (.inr rfl) (by omega) (by unfold maxLen;omega)
    ·have g2:(tt.toList==s.toList)=false:=by rw[acP,decide_eq_false ht]
     have e1:lH s (⟨tk,tt,tn,ta⟩::r)=none:=zl (.inr (.inr ht));have F:=γ (show∀w',ε η w w'->zx w R e (lH s (⟨tk,tt,tn,ta⟩::r)) (⟨tk,tt,tn,ta⟩::r) (.returned (.bool false)) w' from fun w' hk=>⟨hk.pure,by rw[e1];exact⟨rfl,H.o.1.pure hk⟩⟩);clear e1;go_enter Tryz.func258,Tryz.ntmps258;go_wp2_with fail;(with_reducible refine cn.mono ?_);clear cn;rintro e' w2 ⟨rfl,k2⟩;have x2:=k2.cell (p:=⟨R,2,none⟩) id x2;have hl2:R<w2.heap.size:=Pe hl k2.size;have K2:=γ k2;clear k2 f0 x0;go_wp2_with fail;go_ret;exact F.o _ (K2.o.trans (δ.alloc _))
abbrev sF:=ByteArray×Int
def BA (l:List sF):List Value:=l.flatMap fun s=>[.string s.1,.int .u8 s.2]
def firstT:List sF->List Tok->Nat->Option (Nat×Int×List Tok)
 |[],_,_=>none
 |s::l,ts,k=>match lH s.1 ts with|some r=>some (k,s.2,r)|none=>firstT l ts (k+1)
def afj (w:World)(sv:Value)(l:List sF):Prop:= ∃b,sv= .slice (some ⟨b,0,none⟩) l.length l.length/\ ∀(i:Nat)(s:sF),l[i]?=some s->w.cell? ⟨b,i*2,none⟩=some (.string s.1)/\w.cell? ⟨b,i*2+1,none⟩=some (.int .u8 s.2)
theorem aah (R B:Nat)(l:List Tok)(e:Int)(s:ByteArray)(op:Int)(w:World)(h:iH w R l e)(hB:w.cell? ⟨B,0,none⟩=some (.pointer (some ⟨R,0,none⟩))):
 Calls Tryz.prog 257 #[.agg #[.string s,.int .u8 op],.pointer (some ⟨B,0,none⟩)] w (zx w R e (lH s l) l):=by
 have k1:ε η w (w.alloc (.cells #[.string s,.int .u8 op] 305)):=δ.alloc _;have hBl:B<w.heap.size:=(by have:=block_lt_of_cell hB;simpa using this);have ci:=uG R l e s _ (h.pure k1);have K1:=γ k1;clear k1 h;go_enter Tryz.func257,Tryz.ntmps257;go_wp2_with fail;(with_reducible refine ci.mono ?_);clear ci;rintro e' w2 ⟨k2,h2⟩;have K2:=γ (K1.o.pure.trans k2)
 cases hi:lH s l with
 |some l'=>rw[hi]at h2;obtain⟨rfl,h2⟩:=h2;have F:=γ (show zx w R e (lH s l) l (.returned (.bool true)) w2 from⟨K2.o,by rw[hi];exact⟨rfl,h2⟩⟩);clear h2 k2 hi;go_wp2_with fail;go_ret;exact F.o
 |none=>rw[hi]at h2;obtain⟨rfl,h2⟩:=h2;have F:=γ (show zx w R e (lH s l) l (.returned (.bool false)) w2 from⟨K2.o,by rw[hi];exact⟨rfl,h2⟩⟩);clear h2 k2 hi;go_wp2_with fail;go_ret;exact F.o
def Q8 (w:World)(R:Nat)(e:Int)(o:Option (Nat×Int×List Tok))(l:List Tok)(e':Ending)(w':World):Prop:=
 ε (one R) w w'/\match o with|some r=>e'= .returned (.int .i64 (r.1:Int))/\iH w' R r.2.2 e|none=>e'= .returned (.int .i64 (-1))/\iH w' R l e
theorem Sv {l:List sF}{ts:List Tok}{k:Nat}{s:sF}(h:l[k]?=some s):firstT (l.drop k) ts k=match lH s.1 ts with|some r=>some (k,s.2,r)|none=>firstT (l.drop (k+1)) ts (k+1):=by obtain⟨hk,e⟩:=μ.1 h;rw[abS hk,e];rfl
theorem Si (R B:Nat)(l:List Tok)(e:Int)(sg:List sF)(sv:Value)(hsg:sg.length<=10)(w:World)(h:iH w R l e)(hB:w.cell? ⟨B,0,none⟩=some (.pointer (some ⟨R,0,none⟩)))(hBR:B≠R)
 (hs:afj w sv sg) (hsR: ∀b,sv= .slice (some ⟨b,0,none⟩) sg.length sg.length->b≠R):
 Calls Tryz.prog 256 #[sv,.func (.func 257) #[] #[.pointer (some ⟨B,0,none⟩)]] w (Q8 w R e (firstT sg l 0) l):=by
 obtain⟨sb,rfl,hsc⟩:=hs;have hsb:sb≠R:=hsR sb rfl;have H:=γ (θ h (θ hB hsc));clear h hB hsc hsR;go_enter Tryz.func256,Tryz.ntmps256;go_wp2_with fail;go_loopg [8] sg.length (fun g vi wr=> ∃k:Nat,k<=sg.length/\vi= .int .i64 (k:Int)/\sg.length-k<=g/\firstT sg l 0=firstT (sg.drop k) l k/\iH wr R l e/\ε (one R) w wr)
 case atStart=>exact⟨0,by omega,rfl,by omega,rfl,H.o.1,ε.refl _ _⟩
 case round=>
  obtain⟨k,hkl,rfl,hg,hf,hrd,hkp⟩:=hrel;obtain⟨wo,rfl⟩: ∃wo:World,wo=wr:=⟨_,rfl⟩;by_cases hlt:k<sg.length
  ·obtain⟨s,hs⟩: ∃s,sg[k]?=some s:=⟨_,ι hlt⟩
   obtain⟨x0,x1⟩:=H.o.2.2 k s hs;have x0:=hkp.cell (p:=⟨sb,k*2,none⟩) hsb x0;have x1:=hkp.cell (p:=⟨sb,k*2+1,none⟩) hsb x1;have xB:=hkp.cell (p:=⟨B,0,none⟩) hBR H.o.2.1;have cr:=aah R B l e s.1 s.2 wo hrd xB;rw[Sv hs]at hf;have G:=γ (θ hg (θ hf hkp));clear hg hf hkp hs hrd;go_wp2_with fail;(with_reducible refine cr.mono ?_);clear cr;rintro e' w2 ⟨k2,h2⟩;have K2:=γ (G.o.2.2.trans k2)
   cases hi:lH s.1 l with
   |some l'=>rw[hi]at h2;obtain⟨rfl,h2⟩:=h2;have F:=γ (show Q8 w R e (firstT sg l 0) l (.returned (.int .i64 (k:Int))) w2 from⟨K2.o,by rw[G.o.2.1,hi];exact⟨rfl,h2⟩⟩);clear h2 k2 hi;go_wp2_with fail;go_ret;exact F.o
   |none=>
    rw[hi]at h2;obtain⟨rfl,h2⟩:=h2;have F:=γ (θ h2 (show firstT sg l 0=firstT (sg.drop (k+1)) l (k+1) by rw[G.o.2.1,hi]));clear h2 k2 hi;go_wp2_with fail;go_roundg (sg.length-(k+1))
    case rel=>exact⟨k+1,by omega,by go_num,ξ _,F.o.2,F.o.1,K2.o⟩
    case measure=>have:=G.o.1;omega
  ·have hke:k=sg.length:=by omega
   subst hke;rw[List.drop_of_length_le (ξ _)]at hf;have F:=γ (show Q8 w R e (firstT sg l 0) l (.returned (.int .i64 (-1))) wo from⟨hkp,by rw[hf];exact⟨rfl,hrd⟩⟩);clear hkp hf hrd hg;go_wp2_with fail;go_ret;exact F.o
def lG (w:World)(D:Nat->Prop)(a:Array Value)(x:Ex):Prop:= ∀(S:Nat->Prop)(w':World),ε S w w'->(∀k,D k-> ¬S k)->aC w' a x
theorem lG.at {w:World}{D:Nat->Prop}{a:Array Value}{x:Ex}(h:lG w D a x):aC w a x:=h η w δ (fun _ _ h=>h)
theorem lG.kept {w w':World}{S D:Nat->Prop}{a:Array Value}{x:Ex}(h:lG w D a x)(hk:ε S w w')(hS: ∀k,D k-> ¬S k):lG w' D a x:=fun S2 w2 h2 hd=>
 h (fun k=>S k\/S2 k) w2 ((hk.mono (fun _ _ h=> .inl h)).trans (h2.mono (fun _ _ h=> .inr h))) (fun k hk=>by rintro(h|h);exact hS k hk h;exact hd k hk h)
theorem lG.leaf (w:World){op:Int}(h0:0<=op)(h1:op<=255):lG w η #[.int .u8 op,.int .i64 0,.slice none 0 0] (.mk op 0 []):=
 fun _ w' _ _=> .mk h0 h1 eX (Reads.nil w' 3) rfl (by simp)
abbrev iZ (x:Ex)(p:Option Addr)(c:Nat):List Value:=[.int .u8 x.op,.int .i64 x.n,.slice p x.args.length c]
theorem lG.two {w:World}{D E:Nat->Prop}{x y:Ex}{p q:Option Addr}{c d:Nat}(hx:lG w D (iZ x p c).toArray x)(hy:lG w E (iZ y q d).toArray y){op:Int}(h0:0<=op)(h1:op<=255):
 lG (w.alloc (.cells (iZ x p c++iZ y q d).toArray 40)) (fun k=>D k\/E k\/k=w.heap.size) #[.int .u8 op,.int .i64 0,.slice (some ⟨w.heap.size,0,none⟩) 2 2] (.mk op 0 [x,y]):=by
 intro S w' hk hS;have hl:=Reads.lit w (iZ x p c++iZ y q d) 40 3 2 rfl (by unfold maxLen;omega);have ka:ε η w (w.alloc (.cells (iZ x p c++iZ y q d).toArray 40)):=δ.alloc _;have kw:ε S w w':=ka.pure.trans hk;refine .mk h0 h1 eX (hl.kept hk (fun b hb hs=>?_)) rfl (fun i u hu=>?_)
 ·have:w.heap.size=b:=by simpa[Value.blk]using hb
  exact hS b (.inr (.inr this.symm)) hs
 ·match i,hu with
  |0,hu=>cases hu;exact hx S w' kw (fun k hk=>hS k (.inl hk))
  |1,hu=>cases hu;exact hy S w' kw (fun k hk=>hS k (.inr (.inl hk)))
def qI (w:World)(R:Nat)(e:Int)(x:Ex)(l':List Tok)(en:Ending)(w':World):Prop:=
 ∃p c D,en= .returned (.agg (iZ x p c).toArray)/\lG w' D (iZ x p c).toArray x/\(∀k,D k->w.heap.size<=k/\k<w'.heap.size)/\iH w' R l' e/\ε (one R) w w'
def JQ (F:FuncId)(R:Nat)(e:Int)(pl:List Tok->Option (Ex×List Tok)):Prop:=
 ∀(w:World)(l l':List Tok)(x:Ex),iH w R l e->pl l=some (x,l')->Calls Tryz.prog F #[.pointer (some ⟨R,0,none⟩)] w (qI w R e x l')
abbrev keyS:ByteArray:=⟨#[107,101,121]⟩
abbrev G9:ByteArray:=⟨#[118,97,108]⟩
abbrev QI:ByteArray:=⟨#[97,99,99]⟩
def zW (l:List Tok):Option (Ex×List Tok):=
 match l with
 |[]=>none
 |t::r=>if t.kind=0\/t.kind=2 then none else if t.text=keyS then some (.mk 2 0 [],r)else if t.text=G9 then some (.mk 3 0 [],r)else if t.text=QI then some (.mk 4 0 [],r)else none
theorem jE {w:World}{b E:Nat}{x0 x1 x2:Value}(h:w.heap[b]?=some (.cells #[x0,x1,x2] E (0,0)))(y0 y1 y2:Value):
 (((w.setCell ⟨b,0,none⟩ y0).setCell ⟨b,1,none⟩ y1).setCell ⟨b,2,none⟩ y2).heap[b]?=some (.cells #[y0,y1,y2] E (0,0))/\ε (one b) w (((w.setCell ⟨b,0,none⟩ y0).setCell ⟨b,1,none⟩ y1).setCell ⟨b,2,none⟩ y2):=by
 refine⟨?_,?_⟩
 ·have:=bD (bD (bD h 0 y0) 1 y1) 2 y2
  simpa using this
 ·exact ε.setCell (p:=⟨b,2,none⟩) (ε.setCell (p:=⟨b,1,none⟩) (ε.setCell (p:=⟨b,0,none⟩) (ε.refl (one b) _) (.inl rfl) _) (.inl rfl) _) (.inl rfl) _
theorem iH.bad {w:World}{R:Nat}{l:List Tok}{e:Int}(h:iH w R l e):w.cell? ⟨R,2,none⟩=some (.bool false):=by obtain⟨ta,cap,h1,_⟩:=h.obj;exact ζ h1 rfl
theorem iH.list {w:World}{R:Nat}{l:List Tok}{e:Int}(h:iH w R l e): ∃ta cap,w.cell? ⟨R,0,none⟩=some (.slice ta l.length cap):=by obtain⟨ta,cap,h1,_⟩:=h.obj;exact⟨ta,cap,ζ h1 rfl⟩
theorem zx.no {w w':World}{R:Nat}{e:Int}{l:List Tok}{s:ByteArray}{en:Ending}(h:zx w R e (lH s l) l en w')(hn:lH s l=none):en= .returned (.bool false)/\iH w' R l e/\ε (one R) w w':=by rw[hn]at h;exact⟨h.2.1,h.2.2,h.1⟩
theorem zx.yes {w w':World}{R:Nat}{e:Int}{l l':List Tok}{s:ByteArray}{en:Ending}(h:zx w R e (lH s l) l en w')(hn:lH s l=some l'):en= .returned (.bool true)/\iH w' R l' e/\ε (one R) w w':=by rw[hn]at h;exact⟨h.2.1,h.2.2,h.1⟩
theorem qI.Ih {w w5:World}{R:Nat}{e op:Int}{r:List Tok}(h0:0<=op)(h1:op<=255)(hR:R<w.heap.size)(hk:ε (one R) w w5)(hr:iH w5 R r e){x0 x1 x2:Value}(hT:w5.heap[w.heap.size]?=some (.cells #[x0,x1,x2] 40 (0,0))):
 qI w R e (.mk op 0 []) r (.returned (.agg #[.int .u8 op,.int .i64 0,.slice none 0 0])) (((w5.setCell ⟨w.heap.size,0,none⟩ (.int .u8 op)).setCell ⟨w.heap.size,1,none⟩ (.int .i64 0)).setCell ⟨w.heap.size,2,none⟩ (.slice none 0 0)):=by
 obtain⟨_,k3⟩:=jE hT (.int .u8 op) (.int .i64 0) (.slice none 0 0);exact⟨none,0,η,rfl,lG.leaf _ h0 h1,fun k h=>h.elim,hr.mD k3 (fun k hk=>by unfold one at hk;omega),hk.new k3 (fun i hi hs=>by unfold one at hs;omega)⟩
theorem aaj (R:Nat)(e:Int):JQ 283 R e zW:=by
 intro w l l' x h hl
 cases l with
 |nil=>cases hl
 |cons t r=>
  unfold zW at hl;simp only at hl;have hk: ¬(t.kind=0\/t.kind=2):=fun h=>(by rw[if_pos h]at hl;cases hl);rw[if_neg hk]at hl;have hlt:=h.lt;have kA:ε η w (w.alloc (.cells #[.int .u8 0,.int .i64 0,.slice none 0 0] 40)):=δ.alloc _;have tA:(w.alloc (.cells #[.int .u8 0,.int .i64 0,.slice none 0 0] 40)).heap[w.heap.size]?=some (.cells #[.int .u8 0,.int .i64 0,.slice none 0 0] 40 (0,0)):=heap_alloc_new _ _;have cn:=next_any R (t::r) e _ (h.pure kA);obtain⟨tk,tt,tn,ta⟩:=t;simp only[Kt,Hg]at cn hl hk;have g0:(tk==2)=false:=(by simp;omega);have H:=γ (θ kA (θ tA (θ h hlt)));clear kA tA h;go_enter Tryz.func283,Tryz.ntmps283;go_wp2_with fail;(with_reducible refine cn.mono ?_);clear cn;rintro e' w2 ⟨rfl,k2⟩;obtain⟨W3,hW3⟩:=acf (w2.alloc (.cells #[.int .u8 tk,.string tt,.int .i64 tn,.int .i64 ta] 299));have k3:ε η w W3:=(by rw[<-hW3];exact(H.o.1.trans k2).alloc _);have t3:W3.heap[w.heap.size]?=some (.cells #[.int .u8 0,.int .i64 0,.slice none 0 0] 40 (0,0)):=(by rw[<-hW3];exact((ε.refl η _).alloc _).heap (k2.heap H.o.2.1 id) id);have n3:W3.cell? ⟨w2.heap.size,0,none⟩=some (.int .u8 tk):=(by rw[<-hW3];simp);have r3:=H.o.2.2.1.pure k3;have b3:=r3.bad;have ck:=uG R (⟨tk,tt,tn,ta⟩::r) e keyS W3 r3;have hl3:=hlt;have hs3:w.heap.size<W3.heap.size:=(κ.1 t3).1;have hs4:w2.heap.size<W3.heap.size:=(by rw[<-hW3];simp);have hR3:R<W3.heap.size:=(by omega);have K3:=γ (θ k3 (θ t3 r3));clear k3 t3 r3 H k2;go_wp2_with fail;have cq:=ck;clear ck;have KQ:=γ (θ (show ε (one R) w W3 from K3.o.1.pure) K3.o.2.1);by_cases e0:tt=keyS
  ·have hy:lH keyS (⟨tk,tt,tn,ta⟩::r)=some r:=Di (by simp[e0];omega)
   have hx:x= .mk 2 0 []/\l'=r:=by
    rw[if_pos e0]at hl
    injection hl with hl;injection hl with h1 h2;exact⟨h1.symm,h2.symm⟩
   obtain⟨rfl,rfl⟩:=hx;(with_reducible refine cq.mono ?_);clear cq;rintro e' w5 hq;obtain⟨rfl,r5,k5⟩:=hq.yes hy;have t5:=k5.heap KQ.o.2 (fun h=>by unfold one at h;omega);have f0:=free_at t5 0;have f1:=free_at t5 1;have f2:=free_at t5 2;have z0:=ζ t5 (j:=0) rfl;have z1:=ζ t5 (j:=1) rfl;have z2:=ζ t5 (j:=2) rfl;have F:=qI.Ih (w:=w) (R:=R) (e:=e) (op:=2) (r:=l') (by decide) (by decide) hlt (KQ.o.1.trans k5) r5 t5;have s5:=(jE t5 (.int .u8 2) (.int .i64 0) (.slice none 0 0)).1;have hs5:w.heap.size<w5.heap.size:=(κ.1 t5).1;clear hq r5 k5 t5 hy hl;go_wp2_with fail;obtain⟨WF,lI⟩: ∃WF,(((w5.setCell ⟨w.heap.size,0,none⟩ (.int .u8 2)).setCell ⟨w.heap.size,1,none⟩ (.int .i64 0)).setCell ⟨w.heap.size,2,none⟩ (.slice none 0 0))=WF:=⟨_,rfl⟩;rw[lI]at s5 F⊢;have q0:=ζ s5 (j:=0) rfl;have q1:=ζ s5 (j:=1) rfl;have q2:=ζ s5 (j:=2) rfl;refine bodyPost_ret (v:= .agg #[.int .u8 2,.int .i64 0,.slice none 0 0]) (by simp[results,Tryz.results283,go_sem,q0,q1,q2]) rfl F
  ·have hn:lH keyS (⟨tk,tt,tn,ta⟩::r)=none:=zl (.inr (.inr e0))
   (with_reducible refine cq.mono ?_);clear cq;rintro e' w6 hq;obtain⟨rfl,r5,k5⟩:=hq.no hn;have kq:=KQ.o.1.trans k5;have t5:=k5.heap KQ.o.2 (fun h=>by unfold one at h;omega);clear KQ;have KQ:=γ (θ kq t5);have cq:=uG R (⟨tk,tt,tn,ta⟩::r) e G9 w6 r5;clear hq kq t5 r5 k5 hn;go_wp2_with fail;by_cases e1:tt=G9
   ·have hy:lH G9 (⟨tk,tt,tn,ta⟩::r)=some r:=Di (by simp[e1];omega)
    have hx:x= .mk 3 0 []/\l'=r:=by
     rw[if_neg e0]at hl;rw[if_pos e1]at hl
     injection hl with hl;injection hl with h1 h2;exact⟨h1.symm,h2.symm⟩
    obtain⟨rfl,rfl⟩:=hx;(with_reducible refine cq.mono ?_);clear cq;rintro e' w5 hq;obtain⟨rfl,r5,k5⟩:=hq.yes hy;have t5:=k5.heap KQ.o.2 (fun h=>by unfold one at h;omega);have f0:=free_at t5 0;have f1:=free_at t5 1;have f2:=free_at t5 2;have z0:=ζ t5 (j:=0) rfl;have z1:=ζ t5 (j:=1) rfl;have z2:=ζ t5 (j:=2) rfl;have F:=qI.Ih (w:=w) (R:=R) (e:=e) (op:=3) (r:=l') (by decide) (by decide) hlt (KQ.o.1.trans k5) r5 t5;have s5:=(jE t5 (.int .u8 3) (.int .i64 0) (.slice none 0 0)).1;have hs5:w.heap.size<w5.heap.size:=(κ.1 t5).1;clear hq r5 k5 t5 hy hl;go_wp2_with fail;obtain⟨WF,lI⟩: ∃WF,(((w5.setCell ⟨w.heap.size,0,none⟩ (.int .u8 3)).setCell ⟨w.heap.size,1,none⟩ (.int .i64 0)).setCell ⟨w.heap.size,2,none⟩ (.slice none 0 0))=WF:=⟨_,rfl⟩;rw[lI]at s5 F⊢;have q0:=ζ s5 (j:=0) rfl;have q1:=ζ s5 (j:=1) rfl;have q2:=ζ s5 (j:=2) rfl;refine bodyPost_ret (v:= .agg #[.int .u8 3,.int .i64 0,.slice none 0 0]) (by simp[results,Tryz.results283,go_sem,q0,q1,q2]) rfl F
   ·have hn:lH G9 (⟨tk,tt,tn,ta⟩::r)=none:=zl (.inr (.inr e1))
    (with_reducible refine cq.mono ?_);clear cq;rintro e' w7 hq;obtain⟨rfl,r5,k5⟩:=hq.no hn;have kq:=KQ.o.1.trans k5;have t5:=k5.heap KQ.o.2 (fun h=>by unfold one at h;omega);clear KQ;have KQ:=γ (θ kq t5);have cq:=uG R (⟨tk,tt,tn,ta⟩::r) e QI w7 r5;clear hq kq t5 r5 k5 hn;go_wp2_with fail;by_cases e2:tt=QI
    ·have hy:lH QI (⟨tk,tt,tn,ta⟩::r)=some r:=Di (by simp[e2];omega)
     have hx:x= .mk 4 0 []/\l'=r:=by
      rw[if_neg e0]at hl;rw[if_neg e1]at hl;rw[if_pos e2]at hl
      injection hl with hl;injection hl with h1 h2;exact⟨h1.symm,h2.symm⟩
     obtain⟨rfl,rfl⟩:=hx;(with_reducible refine cq.mono ?_);clear cq;rintro e' w5 hq;obtain⟨rfl,r5,k5⟩:=hq.yes hy;have t5:=k5.heap KQ.o.2 (fun h=>by unfold one at h;omega);have f0:=free_at t5 0;have f1:=free_at t5 1;have f2:=free_at t5 2;have z0:=ζ t5 (j:=0) rfl;have z1:=ζ t5 (j:=1) rfl;have z2:=ζ t5 (j:=2) rfl;have F:=qI.Ih (w:=w) (R:=R) (e:=e) (op:=4) (r:=l') (by decide) (by decide) hlt (KQ.o.1.trans k5) r5 t5;have s5:=(jE t5 (.int .u8 4) (.int .i64 0) (.slice none 0 0)).1;have hs5:w.heap.size<w5.heap.size:=(κ.1 t5).1;clear hq r5 k5 t5 hy hl;go_wp2_with fail;obtain⟨WF,lI⟩: ∃WF,(((w5.setCell ⟨w.heap.size,0,none⟩ (.int .u8 4)).setCell ⟨w.heap.size,1,none⟩ (.int .i64 0)).setCell ⟨w.heap.size,2,none⟩ (.slice none 0 0))=WF:=⟨_,rfl⟩;rw[lI]at s5 F⊢;have q0:=ζ s5 (j:=0) rfl;have q1:=ζ s5 (j:=1) rfl;have q2:=ζ s5 (j:=2) rfl;refine bodyPost_ret (v:= .agg #[.int .u8 4,.int .i64 0,.slice none 0 0]) (by simp[results,Tryz.results283,go_sem,q0,q1,q2]) rfl F
    ·rw[if_neg e0,if_neg e1,if_neg e2]at hl
     cases hl
end
