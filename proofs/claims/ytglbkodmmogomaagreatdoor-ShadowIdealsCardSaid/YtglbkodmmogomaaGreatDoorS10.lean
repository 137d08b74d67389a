/- PLAIN WORDS, no program in sight: numbers and tables as bytes, put and taken. -/
import Derived.Test.YtglbkodmmogomaaGreatDoorS09
set_option linter.unusedVariables false
set_option linter.unusedSimpArgs false
set_option maxHeartbeats 4000000
set_option maxRecDepth 100000
namespace Go.Proofs.YtglbkodmmogomaaGreatDoor
open List Go.Proofs.Tryz
section
open Go Go.RowKit
def F5 (n:Int):Nat:=if 0<=n then(2*n).toNat else(-2*n-1).toNat
def zk (u:Nat):List UInt8:=if u<128 then[UInt8.ofNat u]else UInt8.ofNat (u%128+128)::zk (u/128)
termination_by u
decreasing_by omega
theorem WQ {u:Nat}(h:u<128):zk u=[UInt8.ofNat u]:=by rw[zk,if_pos h]
theorem abP {u:Nat}(h: ¬u<128):zk u=UInt8.ofNat (u%128+128)::zk (u/128):=by rw[zk,if_neg h]
def uS (l:List Int):List UInt8:=l.flatMap fun n=>zk (F5 n)
def Vu (p:Int×Cell):List Int:=p.1::p.2.1::(p.2.2.length:Int)::p.2.2
def aea (T:Tab):List Int:=(T.length:Int)::T.flatMap Vu
theorem Tc (l m:List Int):uS (l++m)=uS l++uS m:=by unfold uS;rw[flatMap_append]
def mF (u:Nat):Int:=if u%2=0 then((u/2:Nat):Int)else-((u/2:Nat):Int)-1
def gY (i u:Nat):List UInt8->Int×Nat×Int
 |[]=>(0,0,20)
 |c::r=>
  if i=9/\1<c.toNat then(0,0,21)
  else if 128<=c.toNat then gY (i+1) (u+c.toNat%128*128^i) r
  else if c.toNat=0/\0<i then(0,0,21)
  else(mF (u+c.toNat%128*128^i),i+1,0)
def tk (l:List UInt8):Int×Nat×Int:=gY 0 0 l
theorem VD:128^9=9223372036854775808:=by decide
inductive Rd (α:Type) where
 |ok (a:α) (r:List UInt8)
 |err (e:Int)
def Rd.bind {α β:Type}(x:Rd α)(f:α->List UInt8->Rd β):Rd β:=match x with| .ok a r=>f a r| .err e=> .err e
def num (lo hi:Int)(l:List UInt8):Rd Int:=
 if(tk l).2.2≠0 then .err (tk l).2.2 else if(tk l).1<lo\/hi<(tk l).1 then .err 21 else .ok (tk l).1 (l.drop (tk l).2.1)
def bC:Int:= -9223372036854775808
def hi64:Int:=9223372036854775807
def nums:Nat->List UInt8->Rd (List Int)
 |0,l=> .ok [] l
 |k+1,l=>(num bC hi64 l).bind fun n r=>(nums k r).bind fun ns r=> .ok (n::ns) r
def row (l:List UInt8):Rd (Int×Cell):=
 (num bC hi64 l).bind fun key r=>(num bC hi64 r).bind fun acc r=>(num 0 16 r).bind fun n r=>(nums n.toNat r).bind fun ns r=> .ok (key,(acc,ns)) r
def iG (T:Tab)(key:Int):Bool:=(match T.getLast? with|some p=>bH p.1 key|none=>true)&&decide (aX T (grp key)<40)
def fA:Nat->Tab->List UInt8->Rd Tab
 |0,T,l=> .ok T l
 |k+1,T,l=>(row l).bind fun p r=>if iG T p.1 then fA k (T++[p]) r else .err 21
def nR (l:List UInt8):Rd Tab:=(num 0 320 l).bind fun n r=>(fA n.toNat [] r).bind fun T r=>if r=[]then .ok T []else .err 21
theorem adK {lo hi:Int}{l:List UInt8}{f:Int}(h:num lo hi l= .err f):f≠0:=by
 unfold num at h;split at h
 ·rename_i h0;injection h with h;subst h;exact h0
 ·split at h
  ·injection h with h;subst h;decide
  ·cases h
theorem Sz {u:Nat}:F5 (mF u)=u:=by unfold mF F5;split<;>split<;>omega
theorem aan {u:Nat}(h:u<18446744073709551616):aJ (mF u):=by unfold mF aJ;split<;>omega
theorem Jm: ∀(l:List UInt8)(i u:Nat)(n:Int)(z:Nat),i<=9->u<128^i->gY i u l=(n,z,0)->
 ∃v,i<z/\z-i<=l.length/\l.take (z-i)=zk v/\n=mF (u+v*128^i)/\u+v*128^i<18446744073709551616/\(0<i->0<v)
 |[],i,u,n,z,_,_,h=>by simp[gY]at h
 |c::r,i,u,n,z,hi,hu,h=>by
  have hc:=c.toNat_lt;unfold gY at h;split at h
  ·simp at h
  ·rename_i h9
   split at h
   ·rename_i hbig
    have hi9:i≠9:=(by rintro rfl;exact h9 ⟨rfl,by omega⟩);have hu':u+c.toNat%128*128^i<128^(i+1):=(by have h1:c.toNat%128<=127:=(by omega);have h2:c.toNat%128*128^i<=127*128^i:=Nat.mul_le_mul_right _ h1;rw[Nat.pow_succ];omega);obtain⟨v,h1,h2,h3,h4,h5,h6⟩:=Jm r (i+1) _ n z (by omega) hu' h;have h6':=h6 (by omega);have hd: ¬(c.toNat%128+128*v)<128:=(by omega);have e2:(c.toNat%128+128*v)*128^i=c.toNat%128*128^i+v*128^(i+1):=(by rw[Nat.pow_succ,Nat.add_mul,Nat.mul_comm 128 v,Nat.mul_assoc,Nat.mul_comm 128 (128^i)]);refine⟨c.toNat%128+128*v,by omega,by rw[φ];omega,?_,by rw[h4,e2];congr 1;omega,by rw[e2];omega,fun _=>by omega⟩;rw[abP hd];have e1:z-i=(z-(i+1))+1:=(by omega);rw[e1,take_succ_cons,h3,show(c.toNat%128+128*v)/128=v by omega,show(c.toNat%128+128*v)%128+128=c.toNat by omega,UInt8.ofNat_toNat]
   ·rename_i hsm
    split at h
    ·simp at h
    ·rename_i h0
     injection h with h1 h2
     injection h2 with h2 h3
     subst h1 h2;have e1:i+1-i=1:=(by omega);refine⟨c.toNat,by omega,by rw[e1,φ];omega,?_,by rw[Nat.mod_eq_of_lt (by omega)],?_,fun h=>by omega⟩
     ·rw[e1,take_succ_cons,take_zero,WQ (by omega),UInt8.ofNat_toNat]
     ·have hp:i=9\/i<=8:=by omega
      rcases hp with rfl|hp
      ·have:c.toNat<=1:=by have:=fun h=>h9 ⟨rfl,h⟩;omega
       rw[VD]at*;have:c.toNat*9223372036854775808<=1*9223372036854775808:=Nat.mul_le_mul_right _ this;omega
      ·have h1:128^i<=128^8:=Nat.pow_le_pow_right (by omega) hp
       have h2:c.toNat*128^i<=127*128^i:=Nat.mul_le_mul_right _ (by omega);have h3:(128:Nat)^8=72057594037927936:=(by decide);omega
theorem ace {l:List UInt8}{n:Int}{z:Nat}(h:tk l=(n,z,0)):0<z/\z<=l.length/\l.take z=zk (F5 n)/\aJ n:=by
 obtain⟨v,h1,h2,h3,h4,h5,_⟩:=Jm l 0 0 n z (by omega) (by simp) h;simp only[Nat.pow_zero,Nat.mul_one,Nat.zero_add,Nat.sub_zero]at*;refine⟨h1,h2,?_,?_⟩
 ·rw[h3,h4,Sz]
 ·rw[h4];exact aan h5
theorem Gf: ∀(l:List UInt8)(i u:Nat),(gY i u l).2.2≠0->gY i u l=(0,0,(gY i u l).2.2)
 |[],i,u,_=>rfl
 |c::r,i,u,h=>by
  unfold gY at h⊢;split
  ·rfl
  ·split
   ·rw[if_neg (by assumption),if_pos (by assumption)]at h
    exact Gf r _ _ h
   ·split
    ·rfl
    ·rw[if_neg (by assumption),if_neg (by assumption),if_neg (by assumption)]at h
     exact absurd rfl h
theorem Ci {n lo hi:Int}{l r:List UInt8}(h:num lo hi l= .ok n r):l=zk (F5 n)++r/\aJ n/\lo<=n/\n<=hi:=by
 unfold num at h;split at h
 ·cases h
 ·rename_i h0
  split at h
  ·cases h
  ·rename_i h1
   injection h with h2 h3
   have hh:tk l=(n,(tk l).2.1,0):=(by rw[<-h2];have:(tk l).2.2=0:=(by omega);rw[<-this]);obtain⟨_,_,h4,h5⟩:=ace hh;refine⟨?_,h5,by omega,by omega⟩;rw[<-h4,<-h3,take_append_drop]
theorem aJ.in {n:Int}(h:aJ n):bC<=n/\n<=hi64:=h
theorem Ut: ∀(k:Nat)(l:List UInt8)(ns:List Int)(r:List UInt8),nums k l= .ok ns r->l=uS ns++r/\(∀n∈ns,aJ n)/\ns.length=k
 |0,l,ns,r,h=>by
  injection h with h1 h2
  subst h1 h2;simp[uS]
 |k+1,l,ns,r,h=>by
  unfold nums at h
  cases h1:num bC hi64 l with
  |err e=>rw[h1]at h;cases h
  |ok n r1=>
   rw[h1]at h;simp only[Rd.bind]at h
   cases h2:nums k r1 with
   |err e=>rw[h2]at h;cases h
   |ok ms r2=>
    rw[h2]at h
    injection h with h3 h4
    subst h3 h4;obtain⟨a1,a2,_⟩:=Ci h1;obtain⟨b1,b2,b3⟩:=Ut k r1 ms r2 h2;refine⟨?_,fun m hm=>?_,by simp[b3]⟩
    ·rw[a1,b1];unfold uS;rw[flatMap_cons,append_assoc]
    ·rcases aci.1 hm with rfl|hm
     ·exact a2
     ·exact b2 m hm
theorem zD {l r:List UInt8}{p:Int×Cell}(h:row l= .ok p r):l=uS (Vu p)++r/\aJ p.1/\KO p.2:=by
 unfold row at h
 cases h1:num bC hi64 l with
 |err e=>rw[h1]at h;cases h
 |ok key r1=>
  rw[h1]at h;simp only[Rd.bind]at h
  cases h2:num bC hi64 r1 with
  |err e=>rw[h2]at h;cases h
  |ok acc r2=>
   rw[h2]at h;simp only at h
   cases h3:num 0 16 r2 with
   |err e=>rw[h3]at h;cases h
   |ok n r3=>
    rw[h3]at h;simp only at h
    cases h4:nums n.toNat r3 with
    |err e=>rw[h4]at h;cases h
    |ok ns r4=>
     rw[h4]at h
     injection h with h5 h6
     subst h5 h6;obtain⟨a1,a2,_⟩:=Ci h1;obtain⟨b1,b2,_⟩:=Ci h2;obtain⟨c1,c2,c3,c4⟩:=Ci h3;obtain⟨d1,d2,d3⟩:=Ut _ _ _ _ h4;refine⟨?_,a2,b2,d2,by show ns.length<=16;omega⟩;rw[a1,b1,c1,d1];have e:(ns.length:Int)=n:=(by omega);unfold Vu uS;simp only[flatMap_cons,append_assoc,e]
theorem dO.snoc {T:Tab}{p:Int×Cell}(h:dO (T++[p])):dO T/\iG T p.1=decide (aX T (grp p.1)<40):=by
 unfold dO at h⊢;rw[pairwise_append]at h;refine⟨h.1,?_⟩;unfold iG
 cases hl:T.getLast? with
 |none=>simp
 |some q=>have:=h.2.2 q (mem_of_getLast? hl) p (by simp);simp only[this,Bool.true_and]
theorem dO.push {T:Tab}{p:Int×Cell}(h:dO T)(hm:iG T p.1=true):dO (T++[p]):=by
 unfold iG at hm;unfold dO at h⊢;rw[pairwise_append];refine⟨h,by simp,fun a ha b hb=>?_⟩;cases ach.1 hb;rw[Φ]at hm
 cases hl:T.getLast? with
 |none=>rw[getLast?_eq_none_iff]at hl;subst hl;cases ha
 |some q=>
  have hq:bH q.1 p.1=true:=(by have:=hm.1;rw[hl]at this;exact this);obtain⟨ys,rfl⟩: ∃ys,T=ys++[q]:=getLast?_eq_some_iff.1 hl
  rcases aax.1 ha with ha|ha
  ·rw[pairwise_append]at h
   exact iY (h.2.2 a ha q (by simp)) hq
  ·cases ach.1 ha;exact hq
theorem Vb (T:Tab)(p:Int×Cell)(g:Int):aX (T++[p]) g=aX T g+if grp p.1=g then 1 else 0:=by unfold aX;rw[countP_append];simp[countP_cons]
theorem fC.push {T:Tab}{p:Int×Cell}(h:fC T)(h1:aJ p.1)(h2:KO p.2)(hm:iG T p.1=true):fC (T++[p]):=by
 refine⟨h.rises.push hm,fun q hq=>?_,fun q hq=>?_,fun g=>?_⟩
 ·rcases aax.1 hq with hq|hq
  ·exact h.key q hq
  ·cases ach.1 hq;exact h1
 ·rcases aax.1 hq with hq|hq
  ·exact h.cell q hq
  ·cases ach.1 hq;exact h2
 ·rw[Vb]
  unfold iG at hm;rw[Φ]at hm;have:=of_decide_eq_true hm.2;split
  ·rename_i e;subst e;omega
  ·have:=h.many g;omega
theorem Py: ∀(k:Nat)(T:Tab)(l:List UInt8)(V:Tab)(r:List UInt8),fC T->fA k T l= .ok V r->fC V/\ ∃U,V=T++U/\U.length=k/\l=uS (U.flatMap Vu)++r
 |0,T,l,V,r,hT,h=>by
  injection h with h1 h2
  subst h1 h2;exact⟨hT,[],by simp,rfl,by simp[uS]⟩
 |k+1,T,l,V,r,hT,h=>by
  unfold fA at h
  cases h1:row l with
  |err e=>rw[h1]at h;cases h
  |ok p r1=>
   rw[h1]at h;simp only[Rd.bind]at h;split at h
   ·rename_i hm
    obtain⟨a1,a2,a3⟩:=zD h1;obtain⟨b1,U,b2,b3,b4⟩:=Py k _ _ _ _ (hT.push a2 a3 hm) h;refine⟨b1,p::U,by rw[b2];simp,by simp[b3],?_⟩;rw[a1,b4,flatMap_cons,Tc,append_assoc]
   ·cases h
theorem fC.nil:fC []:=⟨by simp[dO],by simp,by simp,fun g=>by simp[aX]⟩
theorem aaG {l r:List UInt8}{T:Tab}(h:nR l= .ok T r):fC T/\l=uS (aea T):=by
 unfold nR at h
 cases h1:num 0 320 l with
 |err e=>rw[h1]at h;cases h
 |ok n r1=>
  rw[h1]at h;simp only[Rd.bind]at h
  cases h2:fA n.toNat [] r1 with
  |err e=>rw[h2]at h;cases h
  |ok V r2=>
   rw[h2]at h;simp only at h;split at h
   ·rename_i hr
    injection h with h3 h4
    subst h3;obtain⟨a1,a2,a3,a4⟩:=Ci h1;obtain⟨b1,U,b2,b3,b4⟩:=Py _ _ _ _ _ fC.nil h2;refine⟨b1,?_⟩;rw[nil_append]at b2;subst b2;rw[a1,b4,hr];have e:(V.length:Int)=n:=(by omega);unfold aea uS;rw[flatMap_cons,append_nil,e]
   ·cases h
def nodeAt (nodes:List JN)(i:Int):JN:=nodes.getD i.toNat default
def jA (nodes:List JN):List St->Tabs->Except Int Tabs
 |[],Ts=> .ok Ts
 |s::l,Ts=>
  if bJ nodes s.1<0\/stateful (nodeAt nodes (bJ nodes s.1)).kind=false\/(Ts.getD (bJ nodes s.1).toNat none).isSome=true then .error 180
  else match nR s.2.data.toList with
   | .err e=> .error e
   | .ok T _=>if fP (nodeAt nodes (bJ nodes s.1)).kind (nodeAt nodes (bJ nodes s.1)).n T=true then jA nodes l (Ts.set (bJ nodes s.1).toNat (some T))else .error 181
def eG (nodes:List JN):Tabs:=replicate nodes.length none
def fG (j:Jb)(l:List St):Except Int Tabs:=
 if iD j=true then(match jA j.nodes l (eG j.nodes)with| .ok Ts=> .ok (oO j.nodes Ts)| .error e=> .error e)else .error 2
structure iI (nodes:List JN)(Ts:Tabs):Prop where
 len:Ts.length=nodes.length
 has: ∀(i:Nat)(d:JN),nodes[i]?=some d->stateful d.kind=true-> ∃T,Ts[i]?=some (some T)/\fC T/\fP d.kind d.n T=true
 not: ∀(i:Nat)(d:JN),nodes[i]?=some d->stateful d.kind=false->Ts[i]?=some none
structure wL (nodes:List JN)(Ts:Tabs):Prop where
 len:Ts.length=nodes.length
 has: ∀(i:Nat)(d:JN)(T:Tab),nodes[i]?=some d->Ts[i]?=some (some T)->stateful d.kind=true/\fC T/\fP d.kind d.n T=true
theorem vV (nodes:List JN)(uid:ByteArray):(bJ nodes uid= -1/\ ∀d∈nodes,d.uid≠uid)\/
 ∃i d,bJ nodes uid=((i:Nat):Int)/\nodes[i]?=some d/\d.uid=uid/\nodeAt nodes (bJ nodes uid)=d/\ ∀(k:Nat)(e:JN),k<i->nodes[k]?=some e->e.uid≠uid:=by
 unfold bJ
 cases h:nodes.findIdx? (fun d=>decide (d.uid=uid))with
 |none=>left;rw[findIdx?_eq_none_iff]at h;exact⟨rfl,fun d hd=>by simpa using h d hd⟩
 |some i=>
  right;obtain⟨hi,h1,h2⟩:=findIdx?_eq_some_iff_getElem.1 h;refine⟨i,nodes[i],rfl,ι hi,by simpa using h1,?_,fun k e hk he=>?_⟩
  ·unfold nodeAt;simp[σ,hi]
  ·obtain⟨hk',rfl⟩:=μ.1 he
   simpa using h2 k hk
theorem YS (nodes:List JN):wL nodes (eG nodes):=⟨by simp[eG],fun i d T _ h=>by
 unfold eG at h;rw[getElem?_replicate]at h
 split at h<;>simp at h⟩
theorem wL.set {nodes:List JN}{Ts:Tabs}(h:wL nodes Ts){i:Nat}{d:JN}{T:Tab}(hd:nodes[i]?=some d)(hs:stateful d.kind=true)(hT:fC T)(hf:fP d.kind d.n T=true):wL nodes (Ts.set i (some T)):=by
 refine⟨by simpa using h.len,fun k e U he hU=>?_⟩;rw[getElem?_set]at hU;split at hU
 ·rename_i hik
  subst hik;split at hU
  ·injection hU with hU;injection hU with hU;subst hU
   rw[hd]at he;injection he with he;subst he
   exact⟨hs,hT,hf⟩
  ·cases hU
 ·exact h.has k e U he hU
theorem P7 {nodes:List JN}: ∀{l:List St}{Ts Us:Tabs},wL nodes Ts->jA nodes l Ts= .ok Us->wL nodes Us
 |[],Ts,Us,h,e=>by injection e with e;subst e;exact h
 |s::l,Ts,Us,h,e=>by
  unfold jA at e;split at e
  ·cases e
  ·rename_i hno
   simp only[not_or,Bool.not_eq_false,Bool.not_eq_true]at hno;obtain⟨h1,h2,h3⟩:=hno
   rcases vV nodes s.1 with⟨h4,_⟩|⟨i,d,h4,h5,_,h6,_⟩
   ·omega
   rw[h6]at h2 e;split at e
   ·cases e
   ·rename_i T r ht
    split at e
    ·rename_i hf
     refine P7 (h.set (i:=(bJ nodes s.1).toNat) (d:=d) ?_ h2 (aaG ht).1 hf) e;rw[h4];exact h5
    ·cases e
theorem J9 (nodes:List JN)(Ts:Tabs)(i:Nat){d:JN}{t:Option Tab}(hd:nodes[i]?=some d)(ht:Ts[i]?=some t):(oO nodes Ts)[i]?=some (if t.isNone&&stateful d.kind then some []else t):=by unfold oO;rw[getElem?_zipWith,hd,ht]
theorem ZR (nodes:List JN)(Ts:Tabs)(h:Ts.length=nodes.length):(oO nodes Ts).length=nodes.length:=by unfold oO;simp[h]
theorem abL {kind n:Int}(h:stateful kind=true):fP kind n []=true:=by unfold fP;simp[h]
theorem wL.fill {nodes:List JN}{Ts:Tabs}(h:wL nodes Ts):iI nodes (oO nodes Ts):=by
 have get: ∀(i:Nat)(d:JN),nodes[i]?=some d-> ∃t,Ts[i]?=some t:=fun i d hd=>(by have:=(μ.1 hd).1;exact⟨_,ι (by rw[h.len];exact this)⟩);refine⟨ZR _ _ h.len,fun i d hd hs=>?_,fun i d hd hs=>?_⟩
 ·obtain⟨t,ht⟩:=get i d hd
  rw[J9 nodes Ts i hd ht,hs]
  cases t with
  |none=>exact⟨[],rfl,fC.nil,abL hs⟩
  |some T=>exact⟨T,rfl,(h.has i d T hd ht).2⟩
 ·obtain⟨t,ht⟩:=get i d hd
  rw[J9 nodes Ts i hd ht,hs]
  cases t with
  |none=>rfl
  |some T=>have:=(h.has i d T hd ht).1;rw[hs]at this;cases this
theorem IY {j:Jb}{l:List St}{Ts:Tabs}(h:fG j l= .ok Ts):iD j=true/\iI j.nodes Ts:=by
 unfold fG at h;split at h
 ·rename_i hj
  cases e:jA j.nodes l (eG j.nodes)with
  |error f=>rw[e]at h;cases h
  |ok Us=>rw[e]at h;injection h with h;subst h;exact⟨hj,(P7 (YS _) e).fill⟩
 ·cases h
end
section
open Go Go.RowKit
attribute [local irreducible] dI
theorem adw (a b:ByteArray):(a.toList==b.toList)=decide (a=b):=by rw[<-beq_toListBytes,Dl]
structure Tok where
 kind:Int
 text:ByteArray
 n:Int
 at_:Int
def mM (s:ByteArray):List Tok->Option (List Tok)
 |[]=>none
 |t::r=>if t.kind=0\/t.kind=2\/t.text≠s then none else some r
theorem zK {s:ByteArray}{t:Tok}{r:List Tok}(h:t.kind=0\/t.kind=2\/t.text≠s):mM s (t::r)=none:=if_pos h
theorem DL {s:ByteArray}{t:Tok}{r:List Tok}(h: ¬(t.kind=0\/t.kind=2\/t.text≠s)):mM s (t::r)=some r:=if_neg h
structure Lu (w:World)(b o:Nat)(t:Tok):Prop where
 c0:w.cell? ⟨b,o,none⟩=some (.int .u8 t.kind)
 c1:w.cell? ⟨b,o+1,none⟩=some (.string t.text)
 c2:w.cell? ⟨b,o+2,none⟩=some (.int .i64 t.n)
 c3:w.cell? ⟨b,o+3,none⟩=some (.int .i64 t.at_)
structure iV (w:World)(R:Nat)(l:List Tok)(e:Int):Prop where
 obj: ∃ta cap,w.heap[R]?=some (.cells #[.slice ta l.length cap,.int .i64 e,.bool false,.int .i64 0] 274 (0,0))/\l.length<=cap/\cap<=maxLen/\
  (l=[]\/ ∃b off,ta=some ⟨b,off,none⟩/\b<R/\ ∀(i:Nat)(t:Tok),l[i]?=some t->Lu w b (off+i*4) t)
theorem Lu.kept {w w':World}{S:Nat->Prop}{b o:Nat}{t:Tok}(h:Lu w b o t)(hk:ε S w w')(hb: ¬S b):Lu w' b o t:=
 ⟨hk.cell (p:=⟨b,o,none⟩) hb h.c0,hk.cell (p:=⟨b,o+1,none⟩) hb h.c1,hk.cell (p:=⟨b,o+2,none⟩) hb h.c2,hk.cell (p:=⟨b,o+3,none⟩) hb h.c3⟩
theorem iV.pure {w w':World}{R:Nat}{l:List Tok}{e:Int}(h:iV w R l e)(hk:ε η w w'):iV w' R l e:=by
 obtain⟨ta,cap,h1,h2,h3,h4⟩:=h.obj;refine⟨ta,cap,hk.heap h1 id,h2,h3,?_⟩
 rcases h4 with h4|⟨b,off,hb,hne,h4⟩
 ·exact .inl h4
 ·exact .inr ⟨b,off,hb,hne,fun i t ht=>(h4 i t ht).kept hk id⟩
theorem iV.lt {w:World}{R:Nat}{l:List Tok}{e:Int}(h:iV w R l e):R<w.heap.size:=by obtain⟨ta,cap,h1,_⟩:=h.obj;exact(κ.1 h1).1
theorem iV.iT {w w':World}{S:Nat->Prop}{R:Nat}{l:List Tok}{e:Int}(h:iV w R l e)(hk:ε S w w')(hS: ∀k,S k->R<k):iV w' R l e:=by
 obtain⟨ta,cap,h1,h2,h3,h4⟩:=h.obj;refine⟨ta,cap,hk.heap h1 (fun h=>by have:=hS R h;omega),h2,h3,?_⟩
 rcases h4 with h4|⟨b,off,hb,hne,h4⟩
 ·exact .inl h4
 ·exact .inr ⟨b,off,hb,hne,fun i t ht=>(h4 i t ht).kept hk (fun h=>by have:=hS b h;omega)⟩
abbrev Iz (t:Tok):Value:= .agg #[.int .u8 t.kind,.string t.text,.int .i64 t.n,.int .i64 t.at_]
def Ll (l:List Tok)(e:Int):Tok:=match l with|t::_=>t|[]=>⟨0,Ae,0,e⟩
theorem next_any (R:Nat)(l:List Tok)(e:Int)(w:World)(h:iV w R l e):Calls prog 231 #[.pointer (some ⟨R,0,none⟩)] w fun e' w'=>e'= .returned (Iz (Ll l e))/\ε η w w':=by
 obtain⟨ta,cap,h1,h2,h3,h4⟩:=h.obj;have x0:w.cell? ⟨R,0,none⟩=some (.slice ta l.length cap):=ζ h1 rfl;have x1:w.cell? ⟨R,1,none⟩=some (.int .i64 e):=ζ h1 rfl;have hl:=h.lt;unfold maxLen at h3;clear h1
 cases l with
 |nil=>clear h4;go_enter func231,ntmps231;go_wp2;refine bodyPost_ret (v:=Iz ⟨0,Ae,0,e⟩) (by simp[results,results231,go_sem];rfl) rfl ⟨rfl,δ.alloc _⟩
 |cons t r=>obtain⟨b,off,rfl,hne,hc⟩:=h4.resolve_left (by simp);obtain⟨c0,c1,c2,c3⟩:=hc 0 t rfl;rw[Nat.zero_mul,Nat.add_zero]at c0 c1 c2 c3;have hb:b<w.heap.size:=(by have:=block_lt_of_cell c0;simpa using this);have hlen: ¬((r.length:Int)+1=0):=(by omega);clear hc h4 h;go_enter func231,ntmps231;go_wp2;refine bodyPost_ret (v:=Iz t) (by simp[results,results231,go_sem]) rfl ⟨rfl,δ.alloc _⟩
def zO (w:World)(R:Nat)(e:Int)(o:Option (List Tok))(l:List Tok)(e':Ending)(w':World):Prop:=
 ε (one R) w w'/\match o with|some l'=>e'= .returned (.bool true)/\iV w' R l' e|none=>e'= .returned (.bool false)/\iV w' R l e
theorem uQ (R:Nat)(l:List Tok)(e:Int)(s:ByteArray)(w:World)(h:iV w R l e):Calls prog 258 #[.pointer (some ⟨R,0,none⟩),.string s] w (zO w R e (mM s l) l):=by
 have cn:=next_any R l e w h;obtain⟨ta,cap,h1,h2,h3,h4⟩:=h.obj;have x0:w.cell? ⟨R,0,none⟩=some (.slice ta l.length cap):=ζ h1 rfl;have x2:w.cell? ⟨R,2,none⟩=some (.bool false):=ζ h1 rfl;have f0:=free_at h1 0;have hl:=h.lt;unfold maxLen at h3;have H:=γ (θ h h1);clear h h1
 cases l with
 |nil=>clear h4;unfold Ll at cn;go_enter func258,ntmps258;go_wp2_with fail;refine cn.mono ?_;clear cn;rintro e' w2 ⟨rfl,k2⟩;have x2:=k2.cell (p:=⟨R,2,none⟩) id x2;have hl2:R<w2.heap.size:=Pe hl k2.size;have F:=γ (show∀w',ε η w2 w'->zO w R e (mM s []) [] (.returned (.bool false)) w' from fun w' hk=>⟨(k2.trans hk).pure,rfl,H.o.1.pure (k2.trans hk)⟩);clear k2 f0 x0;go_wp2;go_ret;exact F.o _ (δ.alloc _)
 |cons t r=>
  obtain⟨b,off,rfl,hne,hc⟩:=h4.resolve_left (by simp);have H4:=γ hc;clear h4 hc;simp only[Ll,Iz]at cn;obtain⟨tk,tt,tn,ta⟩:=t;simp only at cn;by_cases h0:tk=0
  ·subst h0
   have e1:mM s (⟨0,tt,tn,ta⟩::r)=none:=zK (.inl rfl);have F:=γ (show∀w',ε η w w'->zO w R e (mM s (⟨0,tt,tn,ta⟩::r)) (⟨0,tt,tn,ta⟩::r) (.returned (.bool false)) w' from fun w' hk=>⟨hk.pure,by rw[e1];exact⟨rfl,H.o.1.pure hk⟩⟩);clear e1;go_enter func258,ntmps258;go_wp2_with fail;refine cn.mono ?_;clear cn;rintro e' w2 ⟨rfl,k2⟩;have x2:=k2.cell (p:=⟨R,2,none⟩) id x2;have hl2:R<w2.heap.size:=Pe hl k2.size;have K2:=γ k2;clear k2 f0 x0;go_wp2;go_ret;exact F.o _ (K2.o.trans (δ.alloc _))
  ·have g0:(tk==0)=false:=by simpa using h0
   by_cases h1:tk=2
   ·subst h1
    have e1:mM s (⟨2,tt,tn,ta⟩::r)=none:=zK (.inr (.inl rfl));have F:=γ (show∀w',ε η w w'->zO w R e (mM s (⟨2,tt,tn,ta⟩::r)) (⟨2,tt,tn,ta⟩::r) (.returned (.bool false)) w' from fun w' hk=>⟨hk.pure,by rw[e1];exact⟨rfl,H.o.1.pure hk⟩⟩);clear e1;go_enter func258,ntmps258;go_wp2_with fail;refine cn.mono ?_;clear cn;rintro e' w2 ⟨rfl,k2⟩;have x2:=k2.cell (p:=⟨R,2,none⟩) id x2;have hl2:R<w2.heap.size:=Pe hl k2.size;have K2:=γ k2;clear k2 f0 x0;go_wp2;go_ret;exact F.o _ (K2.o.trans (δ.alloc _))
   ·have g1:(tk==2)=false:=by simpa using h1
    by_cases ht:tt=s
    ·subst ht
     have e1:mM tt (⟨tk,tt,tn,ta⟩::r)=some r:=DL (by simp[h0,h1]);rw[e1];clear e1;have HT:=γ (θ h0 h1);go_enter func258,ntmps258;go_wp2_with fail;refine cn.mono ?_;clear cn;rintro e' w2 ⟨rfl,k2⟩;have x2:=k2.cell (p:=⟨R,2,none⟩) id x2;have x0:=k2.cell (p:=⟨R,0,none⟩) id x0;have hl2:R<w2.heap.size:=Pe hl k2.size;have f0:w2.frozen? ⟨R,0,none⟩=false:=free_at (k2.heap H.o.2 id) 0;have K2:=γ k2;have hcap:1<=cap:=(by simp at h2;omega);have hn1:(1:Int)<=(r.length:Int)+1:=(by omega);clear k2;have fin: ∀(ta':Option Addr)(cap':Nat),(r=[]\/ta'=some ⟨b,off+4,none⟩)->r.length<=cap'->cap'<=maxLen->
      zO w R e (some r) (⟨tk,tt,tn,ta⟩::r) (.returned (.bool true)) ((w2.setCell ⟨R,0,none⟩ (.slice ta' r.length cap')).alloc (.cells #[.int .u8 tk,.string tt,.int .i64 tn,.int .i64 ta] 299)):=by
      intro ta' cap' q1 q2 q3;have ks:ε (one R) w2 (w2.setCell ⟨R,0,none⟩ (.slice ta' r.length cap')):=ε.setCell (p:=⟨R,0,none⟩) (ε.refl (one R) _) (.inl rfl) _;have ka:ε η (w2.setCell ⟨R,0,none⟩ (.slice ta' r.length cap')) ((w2.setCell ⟨R,0,none⟩ (.slice ta' r.length cap')).alloc (.cells #[.int .u8 tk,.string tt,.int .i64 tn,.int .i64 ta] 299)):=δ.alloc _;refine⟨(K2.o.pure.trans ks).trans ka.pure,rfl,⟨ta',cap',?_,q2,q3,?_⟩⟩
      ·have:=aU (K2.o.heap H.o.2 id) 0 (.slice ta' r.length cap')
       exact ka.heap this id
      ·rcases q1 with q1|q1
       ·exact .inl q1
       ·refine .inr ⟨b,off+4,q1,hne,fun i t ht=>?_⟩
        have:=H4.o (i+1) t (by simpa using ht);rw[show off+(i+1)*4=off+4+i*4 by omega]at this;exact(((this.kept K2.o id).kept ks (fun h=>by unfold one at h;omega))).kept ka id
     have FIN:=γ fin;have hrl:r.length+1<=cap:=(by simpa using h2);clear fin;by_cases hc1:cap=1
     ·subst hc1
      have hr:r=[]:=τ (by omega);subst hr;go_wp2;go_ret;exact FIN.o _ _ (.inl (by trivial)) (ξ _) (by unfold maxLen;omega)
     ·have hc2: ¬(cap-1=0):=by omega
      go_wp2;go_ret;exact FIN.o _ _ (.inr rfl) (by omega) (by unfold maxLen;omega)
    ·have g2:(tt.toList==s.toList)=false:=by rw[adw,decide_eq_false ht]
     have e1:mM s (⟨tk,tt,tn,ta⟩::r)=none:=zK (.inr (.inr ht));have F:=γ (show∀w',ε η w w'->zO w R e (mM s (⟨tk,tt,tn,ta⟩::r)) (⟨tk,tt,tn,ta⟩::r) (.returned (.bool false)) w' from fun w' hk=>⟨hk.pure,by rw[e1];exact⟨rfl,H.o.1.pure hk⟩⟩);clear e1;go_enter func258,ntmps258;go_wp2_with fail;refine cn.mono ?_;clear cn;rintro e' w2 ⟨rfl,k2⟩;have x2:=k2.cell (p:=⟨R,2,none⟩) id x2;have hl2:R<w2.heap.size:=Pe hl k2.size;have K2:=γ k2;clear k2 f0 x0;go_wp2;go_ret;exact F.o _ (K2.o.trans (δ.alloc _))
abbrev sS:=ByteArray×Int
def BM (l:List sS):List Value:=l.flatMap fun s=>[.string s.1,.int .u8 s.2]
def firstT:List sS->List Tok->Nat->Option (Nat×Int×List Tok)
 |[],_,_=>none
 |s::l,ts,k=>match mM s.1 ts with|some r=>some (k,s.2,r)|none=>firstT l ts (k+1)
def afS (w:World)(sv:Value)(l:List sS):Prop:= ∃b,sv= .slice (some ⟨b,0,none⟩) l.length l.length/\ ∀(i:Nat)(s:sS),l[i]?=some s->w.cell? ⟨b,i*2,none⟩=some (.string s.1)/\w.cell? ⟨b,i*2+1,none⟩=some (.int .u8 s.2)
theorem aaP (R B:Nat)(l:List Tok)(e:Int)(s:ByteArray)(op:Int)(w:World)(h:iV w R l e)(hB:w.cell? ⟨B,0,none⟩=some (.pointer (some ⟨R,0,none⟩))):
 Calls prog 257 #[.agg #[.string s,.int .u8 op],.pointer (some ⟨B,0,none⟩)] w (zO w R e (mM s l) l):=by
 have k1:ε η w (w.alloc (.cells #[.string s,.int .u8 op] 305)):=δ.alloc _;have hBl:B<w.heap.size:=(by have:=block_lt_of_cell hB;simpa using this);have ci:=uQ R l e s _ (h.pure k1);have K1:=γ k1;clear k1 h;go_enter func257,ntmps257;go_wp2_with fail;refine ci.mono ?_;clear ci;rintro e' w2 ⟨k2,h2⟩;have K2:=γ (K1.o.pure.trans k2)
 cases hi:mM s l with
 |some l'=>rw[hi]at h2;obtain⟨rfl,h2⟩:=h2;have F:=γ (show zO w R e (mM s l) l (.returned (.bool true)) w2 from⟨K2.o,by rw[hi];exact⟨rfl,h2⟩⟩);clear h2 k2 hi;go_wp2;go_ret;exact F.o
 |none=>rw[hi]at h2;obtain⟨rfl,h2⟩:=h2;have F:=γ (show zO w R e (mM s l) l (.returned (.bool false)) w2 from⟨K2.o,by rw[hi];exact⟨rfl,h2⟩⟩);clear h2 k2 hi;go_wp2;go_ret;exact F.o
def Sl (w:World)(R:Nat)(e:Int)(o:Option (Nat×Int×List Tok))(l:List Tok)(e':Ending)(w':World):Prop:=
 ε (one R) w w'/\match o with|some r=>e'= .returned (.int .i64 (r.1:Int))/\iV w' R r.2.2 e|none=>e'= .returned (.int .i64 (-1))/\iV w' R l e
theorem TN {l:List sS}{ts:List Tok}{k:Nat}{s:sS}(h:l[k]?=some s):firstT (l.drop k) ts k=match mM s.1 ts with|some r=>some (k,s.2,r)|none=>firstT (l.drop (k+1)) ts (k+1):=by obtain⟨hk,e⟩:=μ.1 h;rw[acn hk,e];rfl
theorem TG (R B:Nat)(l:List Tok)(e:Int)(sg:List sS)(sv:Value)(hsg:sg.length<=10)(w:World)(h:iV w R l e)(hB:w.cell? ⟨B,0,none⟩=some (.pointer (some ⟨R,0,none⟩)))(hBR:B≠R)
 (hs:afS w sv sg) (hsR: ∀b,sv= .slice (some ⟨b,0,none⟩) sg.length sg.length->b≠R):
 Calls prog 256 #[sv,.func (.func 257) #[] #[.pointer (some ⟨B,0,none⟩)]] w (Sl w R e (firstT sg l 0) l):=by
 obtain⟨sb,rfl,hsc⟩:=hs;have hsb:sb≠R:=hsR sb rfl;have H:=γ (θ h (θ hB hsc));clear h hB hsc hsR;go_enter func256,ntmps256;go_wp2;go_loopg [8] sg.length (fun g vi wr=> ∃k:Nat,k<=sg.length/\vi= .int .i64 (k:Int)/\sg.length-k<=g/\firstT sg l 0=firstT (sg.drop k) l k/\iV wr R l e/\ε (one R) w wr)
 case atStart=>exact⟨0,by omega,rfl,by omega,rfl,H.o.1,ε.refl _ _⟩
 case round=>
  obtain⟨k,hkl,rfl,hg,hf,hrd,hkp⟩:=hrel;obtain⟨wo,rfl⟩: ∃wo:World,wo=wr:=⟨_,rfl⟩;by_cases hlt:k<sg.length
  ·obtain⟨s,hs⟩: ∃s,sg[k]?=some s:=⟨_,ι hlt⟩
   obtain⟨x0,x1⟩:=H.o.2.2 k s hs;have x0:=hkp.cell (p:=⟨sb,k*2,none⟩) hsb x0;have x1:=hkp.cell (p:=⟨sb,k*2+1,none⟩) hsb x1;have xB:=hkp.cell (p:=⟨B,0,none⟩) hBR H.o.2.1;have cr:=aaP R B l e s.1 s.2 wo hrd xB;rw[TN hs]at hf;have G:=γ (θ hg (θ hf hkp));clear hg hf hkp hs hrd;go_wp2_with fail;refine cr.mono ?_;clear cr;rintro e' w2 ⟨k2,h2⟩;have K2:=γ (G.o.2.2.trans k2)
   cases hi:mM s.1 l with
   |some l'=>rw[hi]at h2;obtain⟨rfl,h2⟩:=h2;have F:=γ (show Sl w R e (firstT sg l 0) l (.returned (.int .i64 (k:Int))) w2 from⟨K2.o,by rw[G.o.2.1,hi];exact⟨rfl,h2⟩⟩);clear h2 k2 hi;go_wp2;go_ret;exact F.o
   |none=>
    rw[hi]at h2;obtain⟨rfl,h2⟩:=h2;have F:=γ (θ h2 (show firstT sg l 0=firstT (sg.drop (k+1)) l (k+1) by rw[G.o.2.1,hi]));clear h2 k2 hi;go_wp2;go_roundg (sg.length-(k+1))
    case rel=>exact⟨k+1,by omega,by go_num,ξ _,F.o.2,F.o.1,K2.o⟩
    case measure=>have:=G.o.1;omega
  ·have hke:k=sg.length:=by omega
   subst hke;rw[drop_of_length_le (ξ _)]at hf;have F:=γ (show Sl w R e (firstT sg l 0) l (.returned (.int .i64 (-1))) wo from⟨hkp,by rw[hf];exact⟨rfl,hrd⟩⟩);clear hkp hf hrd hg;go_wp2;go_ret;exact F.o
def mJ (w:World)(D:Nat->Prop)(a:Array Value)(x:Ex):Prop:= ∀(S:Nat->Prop)(w':World),ε S w w'->(∀k,D k-> ¬S k)->aF w' a x
theorem mJ.at {w:World}{D:Nat->Prop}{a:Array Value}{x:Ex}(h:mJ w D a x):aF w a x:=h η w δ (fun _ _ h=>h)
theorem mJ.kept {w w':World}{S D:Nat->Prop}{a:Array Value}{x:Ex}(h:mJ w D a x)(hk:ε S w w')(hS: ∀k,D k-> ¬S k):mJ w' D a x:=fun S2 w2 h2 hd=>
 h (fun k=>S k\/S2 k) w2 ((hk.mono (fun _ _ h=> .inl h)).trans (h2.mono (fun _ _ h=> .inr h))) (fun k hk=>by rintro(h|h);exact hS k hk h;exact hd k hk h)
theorem mJ.leaf (w:World){op:Int}(h0:0<=op)(h1:op<=255):mJ w η #[.int .u8 op,.int .i64 0,.slice none 0 0] (.mk op 0 []):=
 fun _ w' _ _=> .mk h0 h1 fF (Reads.nil w' 3) rfl (by simp)
abbrev jw (x:Ex)(p:Option Addr)(c:Nat):List Value:=[.int .u8 x.op,.int .i64 x.n,.slice p x.args.length c]
theorem mJ.two {w:World}{D E:Nat->Prop}{x y:Ex}{p q:Option Addr}{c d:Nat}(hx:mJ w D (jw x p c).toArray x)(hy:mJ w E (jw y q d).toArray y){op:Int}(h0:0<=op)(h1:op<=255):
 mJ (w.alloc (.cells (jw x p c++jw y q d).toArray 40)) (fun k=>D k\/E k\/k=w.heap.size) #[.int .u8 op,.int .i64 0,.slice (some ⟨w.heap.size,0,none⟩) 2 2] (.mk op 0 [x,y]):=by
 intro S w' hk hS;have hl:=Reads.lit w (jw x p c++jw y q d) 40 3 2 rfl (by unfold maxLen;omega);have ka:ε η w (w.alloc (.cells (jw x p c++jw y q d).toArray 40)):=δ.alloc _;have kw:ε S w w':=ka.pure.trans hk;refine .mk h0 h1 fF (hl.kept hk (fun b hb hs=>?_)) rfl (fun i u hu=>?_)
 ·have:w.heap.size=b:=by simpa[Value.blk]using hb
  exact hS b (.inr (.inr this.symm)) hs
 ·match i,hu with
  |0,hu=>cases hu;exact hx S w' kw (fun k hk=>hS k (.inl hk))
  |1,hu=>cases hu;exact hy S w' kw (fun k hk=>hS k (.inr (.inl hk)))
def qX (w:World)(R:Nat)(e:Int)(x:Ex)(l':List Tok)(en:Ending)(w':World):Prop:=
 ∃p c D,en= .returned (.agg (jw x p c).toArray)/\mJ w' D (jw x p c).toArray x/\(∀k,D k->w.heap.size<=k/\k<w'.heap.size)/\iV w' R l' e/\ε (one R) w w'
def KI (F:FuncId)(R:Nat)(e:Int)(pl:List Tok->Option (Ex×List Tok)):Prop:=
 ∀(w:World)(l l':List Tok)(x:Ex),iV w R l e->pl l=some (x,l')->Calls prog F #[.pointer (some ⟨R,0,none⟩)] w (qX w R e x l')
abbrev keyS:ByteArray:=⟨#[107,101,121]⟩
abbrev Iu:ByteArray:=⟨#[118,97,108]⟩
abbrev Rz:ByteArray:=⟨#[97,99,99]⟩
def Aj (l:List Tok):Option (Ex×List Tok):=
 match l with
 |[]=>none
 |t::r=>if t.kind=0\/t.kind=2 then none else if t.text=keyS then some (.mk 2 0 [],r)else if t.text=Iu then some (.mk 3 0 [],r)else if t.text=Rz then some (.mk 4 0 [],r)else none
theorem jS {w:World}{b E:Nat}{x0 x1 x2:Value}(h:w.heap[b]?=some (.cells #[x0,x1,x2] E (0,0)))(y0 y1 y2:Value):
 (((w.setCell ⟨b,0,none⟩ y0).setCell ⟨b,1,none⟩ y1).setCell ⟨b,2,none⟩ y2).heap[b]?=some (.cells #[y0,y1,y2] E (0,0))/\ε (one b) w (((w.setCell ⟨b,0,none⟩ y0).setCell ⟨b,1,none⟩ y1).setCell ⟨b,2,none⟩ y2):=by
 refine⟨?_,?_⟩
 ·have:=aU (aU (aU h 0 y0) 1 y1) 2 y2
  simpa using this
 ·exact ε.setCell (p:=⟨b,2,none⟩) (ε.setCell (p:=⟨b,1,none⟩) (ε.setCell (p:=⟨b,0,none⟩) (ε.refl (one b) _) (.inl rfl) _) (.inl rfl) _) (.inl rfl) _
theorem iV.bad {w:World}{R:Nat}{l:List Tok}{e:Int}(h:iV w R l e):w.cell? ⟨R,2,none⟩=some (.bool false):=by obtain⟨ta,cap,h1,_⟩:=h.obj;exact ζ h1 rfl
theorem iV.list {w:World}{R:Nat}{l:List Tok}{e:Int}(h:iV w R l e): ∃ta cap,w.cell? ⟨R,0,none⟩=some (.slice ta l.length cap):=by obtain⟨ta,cap,h1,_⟩:=h.obj;exact⟨ta,cap,ζ h1 rfl⟩
theorem zO.no {w w':World}{R:Nat}{e:Int}{l:List Tok}{s:ByteArray}{en:Ending}(h:zO w R e (mM s l) l en w')(hn:mM s l=none):en= .returned (.bool false)/\iV w' R l e/\ε (one R) w w':=by rw[hn]at h;exact⟨h.2.1,h.2.2,h.1⟩
theorem zO.yes {w w':World}{R:Nat}{e:Int}{l l':List Tok}{s:ByteArray}{en:Ending}(h:zO w R e (mM s l) l en w')(hn:mM s l=some l'):en= .returned (.bool true)/\iV w' R l' e/\ε (one R) w w':=by rw[hn]at h;exact⟨h.2.1,h.2.2,h.1⟩
theorem qX.I7 {w w5:World}{R:Nat}{e op:Int}{r:List Tok}(h0:0<=op)(h1:op<=255)(hR:R<w.heap.size)(hk:ε (one R) w w5)(hr:iV w5 R r e){x0 x1 x2:Value}(hT:w5.heap[w.heap.size]?=some (.cells #[x0,x1,x2] 40 (0,0))):
 qX w R e (.mk op 0 []) r (.returned (.agg #[.int .u8 op,.int .i64 0,.slice none 0 0])) (((w5.setCell ⟨w.heap.size,0,none⟩ (.int .u8 op)).setCell ⟨w.heap.size,1,none⟩ (.int .i64 0)).setCell ⟨w.heap.size,2,none⟩ (.slice none 0 0)):=by
 obtain⟨_,k3⟩:=jS hT (.int .u8 op) (.int .i64 0) (.slice none 0 0);exact⟨none,0,η,rfl,mJ.leaf _ h0 h1,fun k h=>h.elim,hr.iT k3 (fun k hk=>by unfold one at hk;omega),hk.new k3 (fun i hi hs=>by unfold one at hs;omega)⟩
theorem aaR (R:Nat)(e:Int):KI 283 R e Aj:=by
 intro w l l' x h hl
 cases l with
 |nil=>cases hl
 |cons t r=>
  unfold Aj at hl;simp only at hl;have hk: ¬(t.kind=0\/t.kind=2):=fun h=>(by rw[if_pos h]at hl;cases hl);rw[if_neg hk]at hl;have hlt:=h.lt;have kA:ε η w (w.alloc (.cells #[.int .u8 0,.int .i64 0,.slice none 0 0] 40)):=δ.alloc _;have tA:(w.alloc (.cells #[.int .u8 0,.int .i64 0,.slice none 0 0] 40)).heap[w.heap.size]?=some (.cells #[.int .u8 0,.int .i64 0,.slice none 0 0] 40 (0,0)):=heap_alloc_new _ _;have cn:=next_any R (t::r) e _ (h.pure kA);obtain⟨tk,tt,tn,ta⟩:=t;simp only[Ll,Iz]at cn hl hk;have g0:(tk==2)=false:=(by simp;omega);have H:=γ (θ kA (θ tA (θ h hlt)));clear kA tA h;go_enter func283,ntmps283;go_wp2_with fail;refine cn.mono ?_;clear cn;rintro e' w2 ⟨rfl,k2⟩;obtain⟨W3,hW3⟩:=acu (w2.alloc (.cells #[.int .u8 tk,.string tt,.int .i64 tn,.int .i64 ta] 299));have k3:ε η w W3:=(by rw[<-hW3];exact(H.o.1.trans k2).alloc _);have t3:W3.heap[w.heap.size]?=some (.cells #[.int .u8 0,.int .i64 0,.slice none 0 0] 40 (0,0)):=(by rw[<-hW3];exact((ε.refl η _).alloc _).heap (k2.heap H.o.2.1 id) id);have n3:W3.cell? ⟨w2.heap.size,0,none⟩=some (.int .u8 tk):=(by rw[<-hW3];simp);have r3:=H.o.2.2.1.pure k3;have b3:=r3.bad;have ck:=uQ R (⟨tk,tt,tn,ta⟩::r) e keyS W3 r3;have hl3:=hlt;have hs3:w.heap.size<W3.heap.size:=(κ.1 t3).1;have hs4:w2.heap.size<W3.heap.size:=(by rw[<-hW3];simp);have hR3:R<W3.heap.size:=(by omega);have K3:=γ (θ k3 (θ t3 r3));clear k3 t3 r3 H k2;go_wp2_with fail;have cq:=ck;clear ck;have KQ:=γ (θ (show ε (one R) w W3 from K3.o.1.pure) K3.o.2.1);by_cases e0:tt=keyS
  ·have hy:mM keyS (⟨tk,tt,tn,ta⟩::r)=some r:=DL (by simp[e0];omega)
   have hx:x= .mk 2 0 []/\l'=r:=by
    rw[if_pos e0]at hl
    injection hl with hl;injection hl with h1 h2;exact⟨h1.symm,h2.symm⟩
   obtain⟨rfl,rfl⟩:=hx;refine cq.mono ?_;clear cq;rintro e' w5 hq;obtain⟨rfl,r5,k5⟩:=hq.yes hy;have t5:=k5.heap KQ.o.2 (fun h=>by unfold one at h;omega);have f0:=free_at t5 0;have f1:=free_at t5 1;have f2:=free_at t5 2;have z0:=ζ t5 (j:=0) rfl;have z1:=ζ t5 (j:=1) rfl;have z2:=ζ t5 (j:=2) rfl;have F:=qX.I7 (w:=w) (R:=R) (e:=e) (op:=2) (r:=l') (by decide) (by decide) hlt (KQ.o.1.trans k5) r5 t5;have s5:=(jS t5 (.int .u8 2) (.int .i64 0) (.slice none 0 0)).1;have hs5:w.heap.size<w5.heap.size:=(κ.1 t5).1;clear hq r5 k5 t5 hy hl;go_wp2_with fail;obtain⟨WF,mO⟩:=acu (((w5.setCell ⟨w.heap.size,0,none⟩ (.int .u8 2)).setCell ⟨w.heap.size,1,none⟩ (.int .i64 0)).setCell ⟨w.heap.size,2,none⟩ (.slice none 0 0));rw[mO]at s5 F⊢;have q0:=ζ s5 (j:=0) rfl;have q1:=ζ s5 (j:=1) rfl;have q2:=ζ s5 (j:=2) rfl;refine bodyPost_ret (v:= .agg #[.int .u8 2,.int .i64 0,.slice none 0 0]) (by simp[results,results283,go_sem,q0,q1,q2]) rfl F
  ·have hn:mM keyS (⟨tk,tt,tn,ta⟩::r)=none:=zK (.inr (.inr e0))
   refine cq.mono ?_;clear cq;rintro e' w6 hq;obtain⟨rfl,r5,k5⟩:=hq.no hn;have kq:=KQ.o.1.trans k5;have t5:=k5.heap KQ.o.2 (fun h=>by unfold one at h;omega);clear KQ;have KQ:=γ (θ kq t5);have cq:=uQ R (⟨tk,tt,tn,ta⟩::r) e Iu w6 r5;clear hq kq t5 r5 k5 hn;go_wp2_with fail;by_cases e1:tt=Iu
   ·have hy:mM Iu (⟨tk,tt,tn,ta⟩::r)=some r:=DL (by simp[e1];omega)
    have hx:x= .mk 3 0 []/\l'=r:=by
     rw[if_neg e0]at hl;rw[if_pos e1]at hl
     injection hl with hl;injection hl with h1 h2;exact⟨h1.symm,h2.symm⟩
    obtain⟨rfl,rfl⟩:=hx;refine cq.mono ?_;clear cq;rintro e' w5 hq;obtain⟨rfl,r5,k5⟩:=hq.yes hy;have t5:=k5.heap KQ.o.2 (fun h=>by unfold one at h;omega);have f0:=free_at t5 0;have f1:=free_at t5 1;have f2:=free_at t5 2;have z0:=ζ t5 (j:=0) rfl;have z1:=ζ t5 (j:=1) rfl;have z2:=ζ t5 (j:=2) rfl;have F:=qX.I7 (w:=w) (R:=R) (e:=e) (op:=3) (r:=l') (by decide) (by decide) hlt (KQ.o.1.trans k5) r5 t5;have s5:=(jS t5 (.int .u8 3) (.int .i64 0) (.slice none 0 0)).1;have hs5:w.heap.size<w5.heap.size:=(κ.1 t5).1;clear hq r5 k5 t5 hy hl;go_wp2_with fail;obtain⟨WF,mO⟩:=acu (((w5.setCell ⟨w.heap.size,0,none⟩ (.int .u8 3)).setCell ⟨w.heap.size,1,none⟩ (.int .i64 0)).setCell ⟨w.heap.size,2,none⟩ (.slice none 0 0));rw[mO]at s5 F⊢;have q0:=ζ s5 (j:=0) rfl;have q1:=ζ s5 (j:=1) rfl;have q2:=ζ s5 (j:=2) rfl;refine bodyPost_ret (v:= .agg #[.int .u8 3,.int .i64 0,.slice none 0 0]) (by simp[results,results283,go_sem,q0,q1,q2]) rfl F
   ·have hn:mM Iu (⟨tk,tt,tn,ta⟩::r)=none:=zK (.inr (.inr e1))
    refine cq.mono ?_;clear cq;rintro e' w7 hq;obtain⟨rfl,r5,k5⟩:=hq.no hn;have kq:=KQ.o.1.trans k5;have t5:=k5.heap KQ.o.2 (fun h=>by unfold one at h;omega);clear KQ;have KQ:=γ (θ kq t5);have cq:=uQ R (⟨tk,tt,tn,ta⟩::r) e Rz w7 r5;clear hq kq t5 r5 k5 hn;go_wp2_with fail;by_cases e2:tt=Rz
    ·have hy:mM Rz (⟨tk,tt,tn,ta⟩::r)=some r:=DL (by simp[e2];omega)
     have hx:x= .mk 4 0 []/\l'=r:=by
      rw[if_neg e0]at hl;rw[if_neg e1]at hl;rw[if_pos e2]at hl
      injection hl with hl;injection hl with h1 h2;exact⟨h1.symm,h2.symm⟩
     obtain⟨rfl,rfl⟩:=hx;refine cq.mono ?_;clear cq;rintro e' w5 hq;obtain⟨rfl,r5,k5⟩:=hq.yes hy;have t5:=k5.heap KQ.o.2 (fun h=>by unfold one at h;omega);have f0:=free_at t5 0;have f1:=free_at t5 1;have f2:=free_at t5 2;have z0:=ζ t5 (j:=0) rfl;have z1:=ζ t5 (j:=1) rfl;have z2:=ζ t5 (j:=2) rfl;have F:=qX.I7 (w:=w) (R:=R) (e:=e) (op:=4) (r:=l') (by decide) (by decide) hlt (KQ.o.1.trans k5) r5 t5;have s5:=(jS t5 (.int .u8 4) (.int .i64 0) (.slice none 0 0)).1;have hs5:w.heap.size<w5.heap.size:=(κ.1 t5).1;clear hq r5 k5 t5 hy hl;go_wp2_with fail;obtain⟨WF,mO⟩:=acu (((w5.setCell ⟨w.heap.size,0,none⟩ (.int .u8 4)).setCell ⟨w.heap.size,1,none⟩ (.int .i64 0)).setCell ⟨w.heap.size,2,none⟩ (.slice none 0 0));rw[mO]at s5 F⊢;have q0:=ζ s5 (j:=0) rfl;have q1:=ζ s5 (j:=1) rfl;have q2:=ζ s5 (j:=2) rfl;refine bodyPost_ret (v:= .agg #[.int .u8 4,.int .i64 0,.slice none 0 0]) (by simp[results,results283,go_sem,q0,q1,q2]) rfl F
    ·rw[if_neg e0,if_neg e1,if_neg e2]at hl
     cases hl
theorem qX.wrap {w w4 w5:World}{R:Nat}{e:Int}{x:Ex}{l':List Tok}{p:Option Addr}{c:Nat}{D:Nat->Prop}(hR:R<w.heap.size)(hk4:ε (one R) w w4)(hs4:w.heap.size<w4.heap.size)(hx:mJ w5 D (jw x p c).toArray x)
 (hD: ∀k,D k->w4.heap.size<=k/\k<w5.heap.size) (hr:iV w5 R l' e) (hk:ε (one R) w4 w5) {x0 x1 x2:Value} (hT:w5.heap[w.heap.size]?=some (.cells #[x0,x1,x2] 40 (0,0))):
 qX w R e x l' (.returned (.agg (jw x p c).toArray)) (((w5.setCell ⟨w.heap.size,0,none⟩ (.int .u8 x.op)).setCell ⟨w.heap.size,1,none⟩ (.int .i64 x.n)).setCell ⟨w.heap.size,2,none⟩ (.slice p x.args.length c)):=by
 obtain⟨_,k3⟩:=jS hT (.int .u8 x.op) (.int .i64 x.n) (.slice p x.args.length c);refine⟨p,c,D,rfl,hx.kept k3 (fun k hk hs=>by have:=hD k hk;unfold one at hs;omega),fun k hk=>?_,hr.iT k3 (fun k hk=>by unfold one at hk;omega),(hk4.trans hk).new k3 (fun i hi hs=>by unfold one at hs;omega)⟩;have:=hD k hk;have:=k3.size;omega
theorem GI {l:List Tok}{r:Ex×List Tok}(h:Aj l=some r){s:ByteArray}(h1:s≠keyS)(h2:s≠Iu)(h3:s≠Rz):mM s l=none:=by
 cases l with
 |nil=>cases h
 |cons t q=>
  refine zK (.inr (.inr fun e=>?_));unfold Aj at h;simp only at h;split at h
  ·cases h
  ·rw[e,if_neg h1,if_neg h2,if_neg h3]at h;cases h
theorem Vq (R:Nat)(e:Int):KI 278 R e Aj:=by intro w l l' x h hl;have hlt:=h.lt;have kA:ε η w (w.alloc (.cells #[.int .u8 0,.int .i64 0,.slice none 0 0] 40)):=δ.alloc _;have tA:(w.alloc (.cells #[.int .u8 0,.int .i64 0,.slice none 0 0] 40)).heap[w.heap.size]?=some (.cells #[.int .u8 0,.int .i64 0,.slice none 0 0] 40 (0,0)):=heap_alloc_new _ _;have n1:mM ⟨#[45]⟩ l=none:=GI hl (by decide) (by decide) (by decide);have n2:mM ⟨#[33]⟩ l=none:=GI hl (by decide) (by decide) (by decide);have c1:=uQ R l e ⟨#[45]⟩ _ (h.pure kA);have H:=γ (θ kA (θ tA hl));clear kA tA h hl;go_enter func278,ntmps278;go_wp2_with fail;refine c1.mono ?_;clear c1;rintro e' w2 hq;obtain⟨rfl,r2,k2⟩:=hq.no n1;have c2:=uQ R l e ⟨#[33]⟩ w2 r2;have kq:=H.o.1.pure.trans k2;have t2:=k2.heap H.o.2.1 (fun h=>by unfold one at h;omega);have K2:=γ (θ kq t2);clear hq r2 k2 n1 kq t2;go_wp2_with fail;refine c2.mono ?_;clear c2;rintro e' w3 hq;obtain⟨rfl,r3,k3⟩:=hq.no n2;have c3:=aaR R e w3 l l' x r3 H.o.2.2;have kq:=K2.o.1.trans k3;have t3:=k3.heap K2.o.2 (fun h=>by unfold one at h;omega);have K3:=γ (θ kq t3);clear hq r3 k3 n2 kq t3 K2;go_wp2_with fail;refine c3.mono ?_;clear c3;rintro e' w5 ⟨p,c,D,rfl,hx,hD,r5,k5⟩;have t5:=k5.heap K3.o.2 (fun h=>by unfold one at h;omega);have f0:=free_at t5 0;have f1:=free_at t5 1;have f2:=free_at t5 2;have z0:=ζ t5 (j:=0) rfl;have z1:=ζ t5 (j:=1) rfl;have z2:=ζ t5 (j:=2) rfl;have F:=qX.wrap hlt K3.o.1 (κ.1 K3.o.2).1 hx hD r5 k5 t5;have s5:=(jS t5 (.int .u8 x.op) (.int .i64 x.n) (.slice p x.args.length c)).1;have hs5:w.heap.size<w5.heap.size:=(κ.1 t5).1;clear hx hD r5 k5 t5;go_wp2_with fail;obtain⟨WF,mO⟩:=acu (((w5.setCell ⟨w.heap.size,0,none⟩ (.int .u8 x.op)).setCell ⟨w.heap.size,1,none⟩ (.int .i64 x.n)).setCell ⟨w.heap.size,2,none⟩ (.slice p x.args.length c));rw[mO]at s5 F⊢;have q0:=ζ s5 (j:=0) rfl;have q1:=ζ s5 (j:=1) rfl;have q2:=ζ s5 (j:=2) rfl;refine bodyPost_ret (v:= .agg (jw x p c).toArray) (by simp[results,results278,go_sem,q0,q1,q2]) rfl F
def rowP (pl:List Tok->Option (Ex×List Tok))(sg:List sS):Nat->Ex->List Tok->Option (Ex×List Tok)
 |0,x,l=>some (x,l)
 |f+1,x,l=>match firstT sg l 0 with
  |none=>some (x,l)
  |some r=>match pl r.2.2 with
   |none=>none
   |some q=>rowP pl sg f (.mk r.2.1 0 [x,q.1]) q.2
def xX (pl:List Tok->Option (Ex×List Tok))(sg:List sS)(most:Nat)(l:List Tok):Option (Ex×List Tok):=match pl l with|none=>none|some q=>rowP pl sg most q.1 q.2
theorem Ib: ∀{sg:List sS}{l:List Tok}{k:Nat}{r:Nat×Int×List Tok},firstT sg l k=some r-> ∃s,k<=r.1/\sg[r.1-k]?=some s/\s.2=r.2.1
 |[],_,_,_,h=>by cases h
 |s::sg,l,k,r,h=>by
  unfold firstT at h;split at h
  ·injection h with h;subst h
   exact⟨s,ξ _,by simp,rfl⟩
  ·obtain⟨u,h1,h2,h3⟩:=Ib h
   refine⟨u,by omega,?_,h3⟩;rw[show r.1-k=(r.1-(k+1))+1 by omega];simpa using h2
structure WU (w wr:World)(R _B X:Nat)(e:Int)(x:Ex)(l:List Tok)(p:Option Addr)(c:Nat):Prop where
 rd:iV wr R l e
 ex: ∃D,mJ wr D (jw x p c).toArray x/\ ∀k,D k->w.heap.size+2<=k/\k≠X/\k<wr.heap.size
 xs:wr.heap[X]?=some (.cells (jw x p c).toArray 40 (0,0))
 tt: ∃x0 x1 x2,wr.heap[w.heap.size+1]?=some (.cells #[x0,x1,x2] 40 (0,0))
 box:wr.cell? ⟨w.heap.size,0,none⟩=some (.pointer (some ⟨R,0,none⟩))
 xb:w.heap.size+2<=X
 kept:ε (fun q=>q=R\/w.heap.size<=q) w wr
theorem zF (R:Nat)(e:Int)(F:FuncId)(pl:List Tok->Option (Ex×List Tok))(hent: ∀(args:Array Value)(w:World),(callFunc F args).run prog w= .ok (.enter F args) w)(hF:KI F R e pl)
 (sg:List sS) (sb:Nat) (most:Nat) (w:World) (l l':List Tok) (x:Ex) (h:iV w R l e) (hl:xX pl sg most l=some (x,l')) (hm:most<=400) (hsl:sg.length<=10) (hsr:sb≠R) (hsc: ∀s∈sg,0<=s.2/\s.2<=255)
 (hsg: ∀(i:Nat)(s:sS),sg[i]?=some s->w.cell? ⟨sb,i*2,none⟩=some (.string s.1)/\w.cell? ⟨sb,i*2+1,none⟩=some (.int .u8 s.2)) (hsb:sb<w.heap.size):
 Calls prog 229 #[.pointer (some ⟨R,0,none⟩),.func (.func F) #[.pointer (some ⟨R,0,none⟩)] #[],.int .i64 (most:Int),.slice (some ⟨sb,0,none⟩) sg.length sg.length] w (qX w R e x l'):=by
 have hlt:=h.lt;unfold xX at hl
 obtain⟨q,hq⟩: ∃q,pl l=some q:=by
  cases e':pl l with
  |none=>rw[e']at hl;cases hl
  |some q=>exact⟨q,rfl⟩
 rw[hq]at hl;simp only at hl;obtain⟨x1,l1⟩:=q;simp only at hl;obtain⟨W0,hW0⟩:=acu ((w.alloc (.cells #[.pointer (some ⟨R,0,none⟩)] 272)).alloc (.cells #[.int .u8 0,.int .i64 0,.slice none 0 0] 40));have k0:ε η w W0:=(by rw[<-hW0];exact(δ.alloc _).alloc _);have b0:W0.cell? ⟨w.heap.size,0,none⟩=some (.pointer (some ⟨R,0,none⟩)):=(by rw[<-hW0];simp);have t0:W0.heap[w.heap.size+1]?=some (.cells #[.int .u8 0,.int .i64 0,.slice none 0 0] 40 (0,0)):=(by rw[<-hW0];have:=heap_alloc_new (w.alloc (.cells #[.pointer (some ⟨R,0,none⟩)] 272)) (.cells #[.int .u8 0,.int .i64 0,.slice none 0 0] 40);rwa[World.size_alloc]at this);have hsz0:W0.heap.size=w.heap.size+2:=(by rw[<-hW0];simp);have c1:=hF W0 l l1 x1 (h.pure k0) hq;have H:=γ (θ k0 (θ b0 (θ t0 hsz0)));have HW:=γ hW0;have HF:=γ hF;have HL:=γ hl;have HSG:=γ hsg;have HSC:=γ hsc;clear k0 b0 t0 hsz0 h hW0 hF hl hsg hsc;go_enter func229,ntmps229;go_wp2_with fail;rw[HW.o];refine c1.mono ?_;clear c1 hq;rintro e' w1 ⟨p1,c1,D1,rfl,hx1,hD1,r1,k1⟩;have st0:WU w (w1.alloc (.cells (jw x1 p1 c1).toArray 40)) R 0 w1.heap.size e x1 l1 p1 c1:=by
  have ka:ε η w1 (w1.alloc (.cells (jw x1 p1 c1).toArray 40)):=δ.alloc _;have hs1:=k1.size;have hs2:=ka.size;have hsz:=H.o.2.2.2
  refine⟨r1.pure ka,⟨D1,hx1.kept ka (fun _ _ h=>h),fun k hk=>?_⟩,heap_alloc_new _ _,⟨_,_,_,ka.heap (k1.heap H.o.2.2.1 (fun h=>by unfold one at h;omega)) id⟩,ka.cell id (k1.cell (p:=⟨w.heap.size,0,none⟩) (show ¬(w.heap.size=R) by omega) H.o.2.1),by omega,
   (H.o.1.pure.new k1 (fun i hi hs=> .inl hs)).new ka (fun _ _ h=>h.elim)⟩
  have:=hD1 k hk;rw[World.size_alloc];omega
 have ST0:=γ st0;have hs10:w.heap.size+2<=w1.heap.size:=(by have:=k1.size;have:=H.o.2.2.2;omega);clear st0 hx1 hD1 r1 k1;go_wp2;go_loopg [10] (most+1) (fun g vn wr=> ∃(n:Nat)(x2:Ex)(l2:List Tok)(p2:Option Addr)(c2:Nat),n<=most/\vn= .int .i64 (n:Int)/\most+1-n<=g/\rowP pl sg (most-n) x2 l2=some (x,l')/\WU w wr R 0 w1.heap.size e x2 l2 p2 c2)
 case atStart=>exact⟨0,x1,l1,p1,c1,by omega,rfl,by omega,HL.o,ST0.o⟩
 case round=>
  obtain⟨n,x2,l2,p2,c2,hn,rfl,hg,hrow,hst⟩:=hrel;obtain⟨wo,rfl⟩: ∃wo:World,wo=wr:=⟨_,rfl⟩;obtain⟨t0,t1,t2,htt⟩:=hst.tt;have y0:=hst.box;have y1:=hst.rd.bad;have xs:=hst.xs;have a0:=ζ xs (j:=0) rfl;have a1:=ζ xs (j:=1) rfl;have a2:=ζ xs (j:=2) rfl;have f0:=free_at htt 0;have f1:=free_at htt 1;have f2:=free_at htt 2;have z0:=ζ htt (j:=0) rfl;have z1:=ζ htt (j:=1) rfl;have z2:=ζ htt (j:=2) rfl;have hR3:R<wo.heap.size:=hst.rd.lt;have hT3:w.heap.size+1<wo.heap.size:=(κ.1 htt).1;have hX3:w1.heap.size<wo.heap.size:=(κ.1 xs).1;have hB3:w.heap.size<wo.heap.size:=(by omega);have fin:rowP pl sg (most-n) x2 l2=some (x2,l2)->qX w R e x l' (.returned (.agg (jw x2 p2 c2).toArray)) (((wo.setCell ⟨w.heap.size+1,0,none⟩ (.int .u8 x2.op)).setCell ⟨w.heap.size+1,1,none⟩ (.int .i64 x2.n)).setCell ⟨w.heap.size+1,2,none⟩ (.slice p2 x2.args.length c2)):=by
   intro hr;rw[hrow]at hr
   injection hr with hr
   injection hr with hr1 hr2
   subst hr1;subst hr2;obtain⟨D,hx,hD⟩:=hst.ex;obtain⟨_,k3⟩:=jS htt (.int .u8 x.op) (.int .i64 x.n) (.slice p2 x.args.length c2);refine⟨p2,c2,D,rfl,hx.kept k3 (fun k hk hs=>by have:=hD k hk;unfold one at hs;omega),fun k hk=>?_,hst.rd.iT k3 (fun k hk=>by unfold one at hk;omega),(hst.kept.new k3 (fun i hi hs=>by unfold one at hs;omega)).mono (fun k hk hs=>by rcases hs with hs|hs;exact hs;omega)⟩;have:=hD k hk;have:=k3.size;omega
  have s5:=(jS htt (.int .u8 x2.op) (.int .i64 x2.n) (.slice p2 x2.args.length c2)).1;have FIN:=γ (θ fin s5);have HST:=γ hst;have HG:=γ hg;clear fin s5 hst hg htt xs;by_cases hlt2:n<most
  ·have hr2:rowP pl sg (most-n) x2 l2=match firstT sg l2 0 with|none=>some (x2,l2)|some r=>match pl r.2.2 with|none=>none|some q=>rowP pl sg (most-(n+1)) (.mk r.2.1 0 [x2,q.1]) q.2:=by
    rw[show most-n=(most-(n+1))+1 by omega];rfl
   have abv: ∀(i:Nat)(s:sS),sg[i]?=some s->wo.cell? ⟨sb,i*2,none⟩=some (.string s.1)/\wo.cell? ⟨sb,i*2+1,none⟩=some (.int .u8 s.2):=fun i s hs=>(by obtain⟨q0,q1⟩:=HSG.o i s hs;have hn: ¬(sb=R\/w.heap.size<=sb):=(by omega);exact⟨HST.o.kept.cell (p:=⟨sb,i*2,none⟩) hn q0,HST.o.kept.cell (p:=⟨sb,i*2+1,none⟩) hn q1⟩);have ci:=TG R w.heap.size l2 e sg (.slice (some ⟨sb,0,none⟩) sg.length sg.length) hsl wo HST.o.rd y0 (by omega) ⟨sb,rfl,abv⟩ (fun b e=>by cases e;exact hsr);have HR2:=γ hr2;have HRW:=γ hrow;have HS':=γ abv;clear hr2 abv hrow;go_wp2_with fail;refine ci.mono ?_;clear ci;rintro e' w2 hq;obtain⟨k2,hq⟩:=hq
   cases hf:firstT sg l2 0 with
   |none=>
    rw[hf]at hq;obtain⟨rfl,r2⟩:=hq;have hrr:rowP pl sg (most-n) x2 l2=some (x2,l2):=(by rw[HR2.o,hf]);obtain⟨t0',t1',t2',ht2⟩: ∃u0 u1 u2,w2.heap[w.heap.size+1]?=some (.cells #[u0,u1,u2] 40 (0,0)):=(by obtain⟨u0,u1,u2,hu⟩:=HST.o.tt;exact⟨u0,u1,u2,k2.heap hu (fun h=>by unfold one at h;omega)⟩);have xs2:=k2.heap HST.o.xs (fun h=>by unfold one at h;omega);have a0:=ζ xs2 (j:=0) rfl;have a1:=ζ xs2 (j:=1) rfl;have a2:=ζ xs2 (j:=2) rfl;have f0:=free_at ht2 0;have f1:=free_at ht2 1;have f2:=free_at ht2 2;have z0:=ζ ht2 (j:=0) rfl;have z1:=ζ ht2 (j:=1) rfl;have z2:=ζ ht2 (j:=2) rfl;have hT4:w.heap.size+1<w2.heap.size:=(κ.1 ht2).1;rw[HRW.o]at hrr
    injection hrr with hrr
    injection hrr with aeR aeQ
    obtain⟨D,hx,hD⟩:=HST.o.ex;have s5:=(jS ht2 (.int .u8 x2.op) (.int .i64 x2.n) (.slice p2 x2.args.length c2)).1;have F:qX w R e x l' (.returned (.agg (jw x2 p2 c2).toArray)) (((w2.setCell ⟨w.heap.size+1,0,none⟩ (.int .u8 x2.op)).setCell ⟨w.heap.size+1,1,none⟩ (.int .i64 x2.n)).setCell ⟨w.heap.size+1,2,none⟩ (.slice p2 x2.args.length c2)):=(by subst aeR;subst aeQ;obtain⟨_,k3⟩:=jS ht2 (.int .u8 x.op) (.int .i64 x.n) (.slice p2 x.args.length c2);refine⟨p2,c2,D,rfl,(hx.kept k2 (fun k hk hs=>by have:=hD k hk;unfold one at hs;omega)).kept k3 (fun k hk hs=>by have:=hD k hk;unfold one at hs;omega),fun k hk=>?_,r2.iT k3 (fun k hk=>by unfold one at hk;omega),((HST.o.kept.new k2 (fun i hi hs=> .inl hs)).new k3 (fun i hi hs=>by unfold one at hs;omega)).mono (fun k hk hs=>by rcases hs with hs|hs;exact hs;omega)⟩;have:=hD k hk;have:=k3.size;have:=k2.size;omega);have FF:=γ (θ F s5);clear F s5 hx hD xs2 ht2 aeR aeQ r2 k2 hf y0 y1;go_wp2_with fail;obtain⟨WF,mO⟩:=acu (((w2.setCell ⟨w.heap.size+1,0,none⟩ (.int .u8 x2.op)).setCell ⟨w.heap.size+1,1,none⟩ (.int .i64 x2.n)).setCell ⟨w.heap.size+1,2,none⟩ (.slice p2 x2.args.length c2));obtain⟨F,s5⟩:=FF.o;rw[mO]at s5 F⊢;have q0:=ζ s5 (j:=0) rfl;have q1:=ζ s5 (j:=1) rfl;have q2:=ζ s5 (j:=2) rfl;refine bodyPost_ret (v:= .agg (jw x2 p2 c2).toArray) (by simp[results,results229,go_sem,q0,q1,q2]) rfl F
   |some r=>
    rw[hf]at hq;obtain⟨rfl,r2⟩:=hq;obtain⟨s,-,hs,aeL⟩:=Ib hf;rw[Nat.sub_zero]at hs;have Qr:r.1<sg.length:=(μ.1 hs).1;have aix:(r.1:Int)<(sg.length:Int):=(by omega);have hrr:=HR2.o;rw[hf]at hrr;simp only at hrr
    obtain⟨q,hq⟩: ∃q,pl r.2.2=some q:=by
     cases e':pl r.2.2 with
     |none=>rw[e',HRW.o]at hrr;cases hrr
     |some q=>exact⟨q,rfl⟩
    rw[hq,HRW.o]at hrr;simp only at hrr;have hop:=HSC.o s (ς hs);obtain⟨_,qs⟩:=HS'.o _ s hs;rw[aeL]at qs hop;have qs2:=k2.cell (p:=⟨sb,r.1*2+1,none⟩) (show ¬(sb=R)from hsr) qs;obtain⟨t0',t1',t2',ht2⟩: ∃u0 u1 u2,w2.heap[w.heap.size+1]?=some (.cells #[u0,u1,u2] 40 (0,0)):=(by obtain⟨u0,u1,u2,hu⟩:=HST.o.tt;exact⟨u0,u1,u2,k2.heap hu (fun h=>by unfold one at h;omega)⟩);have xs2:=k2.heap HST.o.xs (fun h=>by unfold one at h;omega);have bx2:=k2.cell (p:=⟨w.heap.size,0,none⟩) (show ¬(w.heap.size=R) by omega) HST.o.box;obtain⟨D,hx,hD⟩:=HST.o.ex;have hx2:=hx.kept k2 (fun k hk hs=>by have:=hD k hk;unfold one at hs;omega);have hR4:R<w2.heap.size:=r2.lt;have UJ:w1.heap.size<w2.heap.size:=(κ.1 xs2).1;have hsb4:sb<w2.heap.size:=Pe hsb (ω HST.o.kept.size k2.size);have kk2:=HST.o.kept.new k2 (fun i hi hs=> .inl hs);have hsz2:=k2.size;obtain⟨ri,op,rl⟩:=r;simp only at Qr aix hrr hq hop qs2 r2;have Z:=γ (θ r2 (θ hrr (θ xs2 (θ ht2 (θ bx2 (θ hx2 (θ kk2 (θ hq hop))))))));have QS:=γ qs2;clear r2 hrr hq hop qs hf xs2 ht2 bx2 hx2 hx kk2 k2 hs aeL y0 y1;go_wp2_with fail;obtain⟨y,l3⟩:=q;have kD:ε η w2 w2.drew:=δ.drew;have KD:=γ kD;clear kD;refine ak [0,1,2,3,4,5,6,7,8,9,10] (fun W=>ε (one R) w2 W) (by kernel_rfl) (by kernel_rfl) rfl KD.o.pure ?_;simp only[aco];iterate 7 (apply aj rfl rfl;(intro W hW;have q1:=hW.cell (p:=⟨sb,ri*2+1,none⟩) (show ¬(sb=R)from hsr) QS.o;have xW:=hW.heap Z.o.2.2.1 (show ¬(w1.heap.size=R) by omega);have m0:=ζ xW (j:=0) rfl;have m1:=ζ xW (j:=1) rfl;have m2:=ζ xW (j:=2) rfl;clear xW;go_simp;rfl);go_frame)
    apply ay rfl rfl;intro K hK;have c2:=HF.o w2.drew rl l3 y (Z.o.1.pure KD.o) Z.o.2.2.2.2.2.2.2.1;go_wp2_with fail;refine c2.mono ?_;clear c2;rintro e' w5 ⟨p5,c5,D5,rfl,hy,hD5,r5,k5⟩;have k25:ε (one R) w2 w5:=KD.o.pure.trans k5;go_wp2;refine hK _ _ (fun _=>k25) ?_;clear hK;have hx5:=Z.o.2.2.2.2.2.1.kept k25 (fun k hk hs=>by have:=hD k hk;unfold one at hs;omega);have hz:=mJ.two hx5 hy Z.o.2.2.2.2.2.2.2.2.1 Z.o.2.2.2.2.2.2.2.2.2;have ka:ε η w5 (w5.alloc (.cells (jw x2 p2 c2++jw y p5 c5).toArray 40)):=δ.alloc _;obtain⟨W6,wW⟩:=acu (w5.alloc (.cells (jw x2 p2 c2++jw y p5 c5).toArray 40));rw[wW]at hz ka;have QT:w5.alloc (.cells #[.int .u8 x2.op,.int .i64 x2.n,.slice p2 x2.args.length c2,.int .u8 y.op,.int .i64 y.n,.slice p5 y.args.length c5] 40)=W6:=wW;have hsz5:=k25.size;have hsz6:W6.heap.size=w5.heap.size+1:=(by rw[<-wW];simp);have Ji:=ka.heap (k25.heap Z.o.2.2.1 (show ¬(w1.heap.size=R) by omega)) id;have tt6:=ka.heap (k25.heap Z.o.2.2.2.1 (show ¬(w.heap.size+1=R) by omega)) id;have bx6:=ka.cell (p:=⟨w.heap.size,0,none⟩) id (k25.cell (p:=⟨w.heap.size,0,none⟩) (show ¬(w.heap.size=R) by omega) Z.o.2.2.2.2.1);have kk6:=(Z.o.2.2.2.2.2.2.1.new k25 (fun i hi hs=> .inl hs)).new ka (fun _ _ h=>h.elim);obtain⟨xs7,k7⟩:=jS Ji (.int .u8 op) (.int .i64 0) (.slice (some ⟨w5.heap.size,0,none⟩) 2 2);have st7:WU w (((W6.setCell ⟨w1.heap.size,0,none⟩ (.int .u8 op)).setCell ⟨w1.heap.size,1,none⟩ (.int .i64 0)).setCell ⟨w1.heap.size,2,none⟩ (.slice (some ⟨w5.heap.size,0,none⟩) 2 2)) R 0 w1.heap.size e (.mk op 0 [x2,y]) l3 (some ⟨w5.heap.size,0,none⟩) 2:=by
     have hs7:=k7.size;refine⟨(r5.pure ka).iT k7 (fun k hk=>by unfold one at hk;omega),⟨_,hz.kept k7 (fun k hk hs=>?_),fun k hk=>?_⟩,xs7,⟨_,_,_,k7.heap tt6 (show ¬(w.heap.size+1=w1.heap.size) by omega)⟩,k7.cell (p:=⟨w.heap.size,0,none⟩) (show ¬(w.heap.size=w1.heap.size) by omega) bx6,by omega,kk6.new k7 (fun i hi hs=>by unfold one at hs;omega)⟩
     ·unfold one at hs
      rcases hk with hk|hk|hk
      ·have:=hD k hk;omega
      ·have:=hD5 k hk;have:=KD.o.size;omega
      ·omega
     ·rcases hk with hk|hk|hk
      ·have:=hD k hk;omega
      ·have:=hD5 k hk;have:=KD.o.size;omega
      ·omega
    have f0:=free_at Ji 0;have f1:=free_at Ji 1;have f2:=free_at Ji 2;have z0:=ζ Ji (j:=0) rfl;have z1:=ζ Ji (j:=1) rfl;have z2:=ζ Ji (j:=2) rfl;have hX6:w1.heap.size<W6.heap.size:=(by omega);have ST:=γ (θ st7 (θ (k25.trans ka.pure) Z.o.2.1));clear st7 xs7 k7 kk6 bx6 tt6 Ji hz hx5 hy hD5 r5 k5 ka;apply ay rfl rfl;intro K2 hK2;go_wp2_with fail;try rw[QT]
    refine hK2 _ _ (fun _=>ST.o.2.1) ?_;clear hK2;apply aj rfl rfl
    ·intro W hW;go_simp;rfl
    go_frame;apply ay rfl rfl;intro K3 hK3;go_wp2_with fail;refine hK3 _ _ (fun h=>absurd rfl h) (jG (by kernel_rfl) ?_);clear hK3;go_wp2;go_roundg (most+1-(n+1))
    case rel=>exact⟨n+1,_,_,_,_,by omega,by go_num,ξ _,ST.o.2.2.symm,ST.o.1⟩
    case measure=>have:=HG.o;omega
  ·have hne:n=most:=by omega
   have hrr:rowP pl sg (most-n) x2 l2=some (x2,l2):=(by rw[hne,Nat.sub_self];rfl);have FF:=γ (θ (FIN.o.1 hrr) FIN.o.2);clear hrr FIN hrow;go_wp2_with fail;obtain⟨WF,mO⟩:=acu (((wo.setCell ⟨w.heap.size+1,0,none⟩ (.int .u8 x2.op)).setCell ⟨w.heap.size+1,1,none⟩ (.int .i64 x2.n)).setCell ⟨w.heap.size+1,2,none⟩ (.slice p2 x2.args.length c2));obtain⟨F,s5⟩:=FF.o;rw[mO]at s5 F⊢;have q0:=ζ s5 (j:=0) rfl;have q1:=ζ s5 (j:=1) rfl;have q2:=ζ s5 (j:=2) rfl;refine bodyPost_ret (v:= .agg (jw x2 p2 c2).toArray) (by simp[results,results229,go_sem,q0,q1,q2]) rfl F
theorem uN: ∀{l:List sS}{i:Nat}{s:sS},l[i]?=some s->(BM l)[i*2]?=some (.string s.1)/\(BM l)[i*2+1]?=some (.int .u8 s.2)
 |x::l,0,s,h=>by cases h;exact⟨rfl,rfl⟩
 |x::l,i+1,s,h=>by have ih:=uN (l:=l) (i:=i) (s:=s) (by simpa using h);rw[show(i+1)*2=i*2+1+1 by omega];unfold BM at ih⊢;rw[flatMap_cons];exact ih
abbrev Ve:List sS:=[(⟨#[42]⟩,9),(⟨#[47]⟩,10),(⟨#[37]⟩,11)]
def Vf (l:List Tok):Option (Ex×List Tok):=xX Aj Ve 400 l
theorem aaF (R:Nat)(e:Int):KI 276 R e Vf:=by
 intro w l l' x h hl;have hlt:=h.lt;obtain⟨W0,hW0⟩:=acu ((w.alloc (.cells #[.int .u8 0,.int .i64 0,.slice none 0 0] 40)).alloc (.cells #[.string ⟨#[42]⟩,.int .u8 9,.string ⟨#[47]⟩,.int .u8 10,.string ⟨#[37]⟩,.int .u8 11] 305));have k0:ε η w W0:=(by rw[<-hW0];exact(δ.alloc _).alloc _);have t0:W0.heap[w.heap.size]?=some (.cells #[.int .u8 0,.int .i64 0,.slice none 0 0] 40 (0,0)):=(by rw[<-hW0];exact((ε.refl η _).alloc _).heap (heap_alloc_new w (.cells #[.int .u8 0,.int .i64 0,.slice none 0 0] 40)) id);have s0:W0.heap[w.heap.size+1]?=some (.cells (BM Ve).toArray 305 (0,0)):=(by rw[<-hW0];have:=heap_alloc_new (w.alloc (.cells #[.int .u8 0,.int .i64 0,.slice none 0 0] 40)) (.cells #[.string ⟨#[42]⟩,.int .u8 9,.string ⟨#[47]⟩,.int .u8 10,.string ⟨#[37]⟩,.int .u8 11] 305);rwa[World.size_alloc]at this);have hsz0:W0.heap.size=w.heap.size+2:=(by rw[<-hW0];simp);have cr:Calls prog 229 #[.pointer (some ⟨R,0,none⟩),.func (.func 278) #[.pointer (some ⟨R,0,none⟩)] #[],.int .i64 400,.slice (some ⟨w.heap.size+1,0,none⟩) 3 3] W0 (qX W0 R e x l'):=
  zF R e 278 Aj (enters_of func278 (by kernel_rfl) rfl) (Vq R e) Ve (w.heap.size+1) 400 W0 l l' x (h.pure k0) hl (by omega) (by decide) (by omega) (by decide)
   (fun i s hs=>by
     obtain⟨q0,q1⟩:=uN hs
     exact⟨ζ s0 (by rw[aau];exact q0),ζ s0 (by rw[aau];exact q1)⟩) (by omega)
 have H:=γ (θ k0 (θ t0 hsz0));have HW:=γ hW0;clear k0 t0 s0 hsz0 h hW0 hl;go_enter func276,ntmps276;go_wp2_with fail;rw[HW.o];refine cr.mono ?_;clear cr;rintro e' w5 ⟨p,c,D,rfl,hx,hD,r5,k5⟩;have t5:=k5.heap H.o.2.1 (fun h=>by unfold one at h;omega);have f0:=free_at t5 0;have f1:=free_at t5 1;have f2:=free_at t5 2;have z0:=ζ t5 (j:=0) rfl;have z1:=ζ t5 (j:=1) rfl;have z2:=ζ t5 (j:=2) rfl;have F:=qX.wrap hlt H.o.1.pure (κ.1 H.o.2.1).1 hx hD r5 k5 t5;have s5:=(jS t5 (.int .u8 x.op) (.int .i64 x.n) (.slice p x.args.length c)).1;have hs5:w.heap.size<w5.heap.size:=(κ.1 t5).1;clear hx hD r5 k5 t5;go_wp2_with fail;obtain⟨WF,mO⟩:=acu (((w5.setCell ⟨w.heap.size,0,none⟩ (.int .u8 x.op)).setCell ⟨w.heap.size,1,none⟩ (.int .i64 x.n)).setCell ⟨w.heap.size,2,none⟩ (.slice p x.args.length c));rw[mO]at s5 F⊢;have q0:=ζ s5 (j:=0) rfl;have q1:=ζ s5 (j:=1) rfl;have q2:=ζ s5 (j:=2) rfl;refine bodyPost_ret (v:= .agg (jw x p c).toArray) (by simp[results,results276,go_sem,q0,q1,q2]) rfl F
abbrev aaJ:List sS:=[(⟨#[43]⟩,7),(⟨#[45]⟩,8)]
def sumP (l:List Tok):Option (Ex×List Tok):=xX Vf aaJ 400 l
theorem sum_any (R:Nat)(e:Int):KI 272 R e sumP:=by
 intro w l l' x h hl;have hlt:=h.lt;obtain⟨W0,hW0⟩:=acu ((w.alloc (.cells #[.int .u8 0,.int .i64 0,.slice none 0 0] 40)).alloc (.cells #[.string ⟨#[43]⟩,.int .u8 7,.string ⟨#[45]⟩,.int .u8 8] 305));have k0:ε η w W0:=(by rw[<-hW0];exact(δ.alloc _).alloc _);have t0:W0.heap[w.heap.size]?=some (.cells #[.int .u8 0,.int .i64 0,.slice none 0 0] 40 (0,0)):=(by rw[<-hW0];exact((ε.refl η _).alloc _).heap (heap_alloc_new w (.cells #[.int .u8 0,.int .i64 0,.slice none 0 0] 40)) id);have s0:W0.heap[w.heap.size+1]?=some (.cells (BM aaJ).toArray 305 (0,0)):=(by rw[<-hW0];have:=heap_alloc_new (w.alloc (.cells #[.int .u8 0,.int .i64 0,.slice none 0 0] 40)) (.cells #[.string ⟨#[43]⟩,.int .u8 7,.string ⟨#[45]⟩,.int .u8 8] 305);rwa[World.size_alloc]at this);have hsz0:W0.heap.size=w.heap.size+2:=(by rw[<-hW0];simp);have cr:Calls prog 229 #[.pointer (some ⟨R,0,none⟩),.func (.func 276) #[.pointer (some ⟨R,0,none⟩)] #[],.int .i64 400,.slice (some ⟨w.heap.size+1,0,none⟩) 2 2] W0 (qX W0 R e x l'):=
  zF R e 276 Vf (enters_of func276 (by kernel_rfl) rfl) (aaF R e) aaJ (w.heap.size+1) 400 W0 l l' x (h.pure k0) hl (by omega) (by decide) (by omega) (by decide)
   (fun i s hs=>by
     obtain⟨q0,q1⟩:=uN hs
     exact⟨ζ s0 (by rw[aau];exact q0),ζ s0 (by rw[aau];exact q1)⟩) (by omega)
 have H:=γ (θ k0 (θ t0 hsz0));have HW:=γ hW0;clear k0 t0 s0 hsz0 h hW0 hl;go_enter func272,ntmps272;go_wp2_with fail;rw[HW.o];refine cr.mono ?_;clear cr;rintro e' w5 ⟨p,c,D,rfl,hx,hD,r5,k5⟩;have t5:=k5.heap H.o.2.1 (fun h=>by unfold one at h;omega);have f0:=free_at t5 0;have f1:=free_at t5 1;have f2:=free_at t5 2;have z0:=ζ t5 (j:=0) rfl;have z1:=ζ t5 (j:=1) rfl;have z2:=ζ t5 (j:=2) rfl;have F:=qX.wrap hlt H.o.1.pure (κ.1 H.o.2.1).1 hx hD r5 k5 t5;have s5:=(jS t5 (.int .u8 x.op) (.int .i64 x.n) (.slice p x.args.length c)).1;have hs5:w.heap.size<w5.heap.size:=(κ.1 t5).1;clear hx hD r5 k5 t5;go_wp2_with fail;obtain⟨WF,mO⟩:=acu (((w5.setCell ⟨w.heap.size,0,none⟩ (.int .u8 x.op)).setCell ⟨w.heap.size,1,none⟩ (.int .i64 x.n)).setCell ⟨w.heap.size,2,none⟩ (.slice p x.args.length c));rw[mO]at s5 F⊢;have q0:=ζ s5 (j:=0) rfl;have q1:=ζ s5 (j:=1) rfl;have q2:=ζ s5 (j:=2) rfl;refine bodyPost_ret (v:= .agg (jw x p c).toArray) (by simp[results,results272,go_sem,q0,q1,q2]) rfl F
abbrev abR:List sS:=[(⟨#[60]⟩,12),(⟨#[60,61]⟩,13),(⟨#[61]⟩,14),(⟨#[33,61]⟩,15)]
def abS (l:List Tok):Option (Ex×List Tok):=xX sumP abR 1 l
theorem adX (R:Nat)(e:Int):KI 259 R e abS:=by
 intro w l l' x h hl;have hlt:=h.lt;obtain⟨W0,hW0⟩:=acu ((w.alloc (.cells #[.int .u8 0,.int .i64 0,.slice none 0 0] 40)).alloc (.cells #[.string ⟨#[60]⟩,.int .u8 12,.string ⟨#[60,61]⟩,.int .u8 13,.string ⟨#[61]⟩,.int .u8 14,.string ⟨#[33,61]⟩,.int .u8 15] 305));have k0:ε η w W0:=(by rw[<-hW0];exact(δ.alloc _).alloc _);have t0:W0.heap[w.heap.size]?=some (.cells #[.int .u8 0,.int .i64 0,.slice none 0 0] 40 (0,0)):=(by rw[<-hW0];exact((ε.refl η _).alloc _).heap (heap_alloc_new w (.cells #[.int .u8 0,.int .i64 0,.slice none 0 0] 40)) id);have s0:W0.heap[w.heap.size+1]?=some (.cells (BM abR).toArray 305 (0,0)):=(by rw[<-hW0];have:=heap_alloc_new (w.alloc (.cells #[.int .u8 0,.int .i64 0,.slice none 0 0] 40)) (.cells #[.string ⟨#[60]⟩,.int .u8 12,.string ⟨#[60,61]⟩,.int .u8 13,.string ⟨#[61]⟩,.int .u8 14,.string ⟨#[33,61]⟩,.int .u8 15] 305);rwa[World.size_alloc]at this);have hsz0:W0.heap.size=w.heap.size+2:=(by rw[<-hW0];simp);have cr:Calls prog 229 #[.pointer (some ⟨R,0,none⟩),.func (.func 272) #[.pointer (some ⟨R,0,none⟩)] #[],.int .i64 1,.slice (some ⟨w.heap.size+1,0,none⟩) 4 4] W0 (qX W0 R e x l'):=
  zF R e 272 sumP (enters_of func272 (by kernel_rfl) rfl) (sum_any R e) abR (w.heap.size+1) 1 W0 l l' x (h.pure k0) hl (by omega) (by decide) (by omega) (by decide)
   (fun i s hs=>by
     obtain⟨q0,q1⟩:=uN hs
     exact⟨ζ s0 (by rw[aau];exact q0),ζ s0 (by rw[aau];exact q1)⟩) (by omega)
 have H:=γ (θ k0 (θ t0 hsz0));have HW:=γ hW0;clear k0 t0 s0 hsz0 h hW0 hl;go_enter func259,ntmps259;go_wp2_with fail;rw[HW.o];refine cr.mono ?_;clear cr;rintro e' w5 ⟨p,c,D,rfl,hx,hD,r5,k5⟩;have t5:=k5.heap H.o.2.1 (fun h=>by unfold one at h;omega);have f0:=free_at t5 0;have f1:=free_at t5 1;have f2:=free_at t5 2;have z0:=ζ t5 (j:=0) rfl;have z1:=ζ t5 (j:=1) rfl;have z2:=ζ t5 (j:=2) rfl;have F:=qX.wrap hlt H.o.1.pure (κ.1 H.o.2.1).1 hx hD r5 k5 t5;have s5:=(jS t5 (.int .u8 x.op) (.int .i64 x.n) (.slice p x.args.length c)).1;have hs5:w.heap.size<w5.heap.size:=(κ.1 t5).1;clear hx hD r5 k5 t5;go_wp2_with fail;obtain⟨WF,mO⟩:=acu (((w5.setCell ⟨w.heap.size,0,none⟩ (.int .u8 x.op)).setCell ⟨w.heap.size,1,none⟩ (.int .i64 x.n)).setCell ⟨w.heap.size,2,none⟩ (.slice p x.args.length c));rw[mO]at s5 F⊢;have q0:=ζ s5 (j:=0) rfl;have q1:=ζ s5 (j:=1) rfl;have q2:=ζ s5 (j:=2) rfl;refine bodyPost_ret (v:= .agg (jw x p c).toArray) (by simp[results,results259,go_sem,q0,q1,q2]) rfl F
abbrev abW:List sS:=[(⟨#[38]⟩,16)]
def abX (l:List Tok):Option (Ex×List Tok):=xX abS abW 400 l
theorem adZ (R:Nat)(e:Int):KI 230 R e abX:=by
 intro w l l' x h hl;have hlt:=h.lt;obtain⟨W0,hW0⟩:=acu ((w.alloc (.cells #[.int .u8 0,.int .i64 0,.slice none 0 0] 40)).alloc (.cells #[.string ⟨#[38]⟩,.int .u8 16] 305));have k0:ε η w W0:=(by rw[<-hW0];exact(δ.alloc _).alloc _);have t0:W0.heap[w.heap.size]?=some (.cells #[.int .u8 0,.int .i64 0,.slice none 0 0] 40 (0,0)):=(by rw[<-hW0];exact((ε.refl η _).alloc _).heap (heap_alloc_new w (.cells #[.int .u8 0,.int .i64 0,.slice none 0 0] 40)) id);have s0:W0.heap[w.heap.size+1]?=some (.cells (BM abW).toArray 305 (0,0)):=(by rw[<-hW0];have:=heap_alloc_new (w.alloc (.cells #[.int .u8 0,.int .i64 0,.slice none 0 0] 40)) (.cells #[.string ⟨#[38]⟩,.int .u8 16] 305);rwa[World.size_alloc]at this);have hsz0:W0.heap.size=w.heap.size+2:=(by rw[<-hW0];simp);have cr:Calls prog 229 #[.pointer (some ⟨R,0,none⟩),.func (.func 259) #[.pointer (some ⟨R,0,none⟩)] #[],.int .i64 400,.slice (some ⟨w.heap.size+1,0,none⟩) 1 1] W0 (qX W0 R e x l'):=
  zF R e 259 abS (enters_of func259 (by kernel_rfl) rfl) (adX R e) abW (w.heap.size+1) 400 W0 l l' x (h.pure k0) hl (by omega) (by decide) (by omega) (by decide)
   (fun i s hs=>by
     obtain⟨q0,q1⟩:=uN hs
     exact⟨ζ s0 (by rw[aau];exact q0),ζ s0 (by rw[aau];exact q1)⟩) (by omega)
 have H:=γ (θ k0 (θ t0 hsz0));have HW:=γ hW0;clear k0 t0 s0 hsz0 h hW0 hl;go_enter func230,ntmps230;go_wp2_with fail;rw[HW.o];refine cr.mono ?_;clear cr;rintro e' w5 ⟨p,c,D,rfl,hx,hD,r5,k5⟩;have t5:=k5.heap H.o.2.1 (fun h=>by unfold one at h;omega);have f0:=free_at t5 0;have f1:=free_at t5 1;have f2:=free_at t5 2;have z0:=ζ t5 (j:=0) rfl;have z1:=ζ t5 (j:=1) rfl;have z2:=ζ t5 (j:=2) rfl;have F:=qX.wrap hlt H.o.1.pure (κ.1 H.o.2.1).1 hx hD r5 k5 t5;have s5:=(jS t5 (.int .u8 x.op) (.int .i64 x.n) (.slice p x.args.length c)).1;have hs5:w.heap.size<w5.heap.size:=(κ.1 t5).1;clear hx hD r5 k5 t5;go_wp2_with fail;obtain⟨WF,mO⟩:=acu (((w5.setCell ⟨w.heap.size,0,none⟩ (.int .u8 x.op)).setCell ⟨w.heap.size,1,none⟩ (.int .i64 x.n)).setCell ⟨w.heap.size,2,none⟩ (.slice p x.args.length c));rw[mO]at s5 F⊢;have q0:=ζ s5 (j:=0) rfl;have q1:=ζ s5 (j:=1) rfl;have q2:=ζ s5 (j:=2) rfl;refine bodyPost_ret (v:= .agg (jw x p c).toArray) (by simp[results,results230,go_sem,q0,q1,q2]) rfl F
abbrev orS:List sS:=[(⟨#[124]⟩,17)]
def orP (l:List Tok):Option (Ex×List Tok):=xX abX orS 400 l
theorem adB (R:Nat)(e:Int):KI 193 R e orP:=by
 intro w l l' x h hl;have hlt:=h.lt;obtain⟨W0,hW0⟩:=acu ((w.alloc (.cells #[.int .u8 0,.int .i64 0,.slice none 0 0] 40)).alloc (.cells #[.string ⟨#[124]⟩,.int .u8 17] 305));have k0:ε η w W0:=(by rw[<-hW0];exact(δ.alloc _).alloc _);have t0:W0.heap[w.heap.size]?=some (.cells #[.int .u8 0,.int .i64 0,.slice none 0 0] 40 (0,0)):=(by rw[<-hW0];exact((ε.refl η _).alloc _).heap (heap_alloc_new w (.cells #[.int .u8 0,.int .i64 0,.slice none 0 0] 40)) id);have s0:W0.heap[w.heap.size+1]?=some (.cells (BM orS).toArray 305 (0,0)):=(by rw[<-hW0];have:=heap_alloc_new (w.alloc (.cells #[.int .u8 0,.int .i64 0,.slice none 0 0] 40)) (.cells #[.string ⟨#[124]⟩,.int .u8 17] 305);rwa[World.size_alloc]at this);have hsz0:W0.heap.size=w.heap.size+2:=(by rw[<-hW0];simp);have cr:Calls prog 229 #[.pointer (some ⟨R,0,none⟩),.func (.func 230) #[.pointer (some ⟨R,0,none⟩)] #[],.int .i64 400,.slice (some ⟨w.heap.size+1,0,none⟩) 1 1] W0 (qX W0 R e x l'):=
  zF R e 230 abX (enters_of func230 (by kernel_rfl) rfl) (adZ R e) orS (w.heap.size+1) 400 W0 l l' x (h.pure k0) hl (by omega) (by decide) (by omega) (by decide)
   (fun i s hs=>by
     obtain⟨q0,q1⟩:=uN hs
     exact⟨ζ s0 (by rw[aau];exact q0),ζ s0 (by rw[aau];exact q1)⟩) (by omega)
 have H:=γ (θ k0 (θ t0 hsz0));have HW:=γ hW0;clear k0 t0 s0 hsz0 h hW0 hl;go_enter func193,ntmps193;go_wp2_with fail;rw[HW.o];refine cr.mono ?_;clear cr;rintro e' w5 ⟨p,c,D,rfl,hx,hD,r5,k5⟩;have t5:=k5.heap H.o.2.1 (fun h=>by unfold one at h;omega);have f0:=free_at t5 0;have f1:=free_at t5 1;have f2:=free_at t5 2;have z0:=ζ t5 (j:=0) rfl;have z1:=ζ t5 (j:=1) rfl;have z2:=ζ t5 (j:=2) rfl;have F:=qX.wrap hlt H.o.1.pure (κ.1 H.o.2.1).1 hx hD r5 k5 t5;have s5:=(jS t5 (.int .u8 x.op) (.int .i64 x.n) (.slice p x.args.length c)).1;have hs5:w.heap.size<w5.heap.size:=(κ.1 t5).1;clear hx hD r5 k5 t5;go_wp2_with fail;obtain⟨WF,mO⟩:=acu (((w5.setCell ⟨w.heap.size,0,none⟩ (.int .u8 x.op)).setCell ⟨w.heap.size,1,none⟩ (.int .i64 x.n)).setCell ⟨w.heap.size,2,none⟩ (.slice p x.args.length c));rw[mO]at s5 F⊢;have q0:=ζ s5 (j:=0) rfl;have q1:=ζ s5 (j:=1) rfl;have q2:=ζ s5 (j:=2) rfl;refine bodyPost_ret (v:= .agg (jw x p c).toArray) (by simp[results,results193,go_sem,q0,q1,q2]) rfl F
def kY (r:Nat):Prop:=r=97\/r=99\/r=118\/r=108\/r=43\/r=45\/r=32
def qQ (r:Nat):Int:=if r=43\/r=45 then 3 else if r=32 then 0 else 1
def qM (r:Nat):ByteArray:=Utf8.encode (r:Int)
def Le (r:Nat):Bool:=decide (0<=Lib.indexByte [43,45,42,47,37,40,41,38,124,33,61,60] ((r:Int)).toNat.toUInt8)
theorem Za (r:Nat)(hr:r<128)(h48: ¬(48<=r/\r<=57))(hsz:(qM r).size<=maxLen)(w:World):
 Calls prog 228 #[.int .i32 (r:Int)] w (Gives w (.int .u8 (if Le r=true then 3 else if fM (qM r)=true then 1 else 0))):=by
 have cc:Calls prog 221 #[.string ⟨#[43,45,42,47,37,40,41,38,124,33,61,60]⟩,.int .i32 (r:Int)] w fun e w'=>e= .returned (.bool (Le r))/\w'=w:=
  Any.strings_ContainsRune_ascii crL ⟨#[43,45,42,47,37,40,41,38,124,33,61,60]⟩ (r:Int) w (by omega) (by omega)
 have cn:=name_any (qM r) hsz w;obtain⟨bs,hbs⟩:=acu (Le r);obtain⟨bn,hbn⟩:=acu (fM (qM r));rw[hbs]at cc⊢;rw[hbn]at cn⊢;unfold qM at cn;clear hbs hbn;have CC:=γ cc;have CN:=γ cn;clear cc cn hsz;by_cases h1:48<=r
 ·have h2: ¬(r<=57):=by omega
  have h1i:(48:Int)<=(r:Int):=(by omega);have h2i: ¬((r:Int)<=57):=(by omega);clear h48 h1;go_enter func228,ntmps228;go_wp2_with fail;all_goals
   refine CC.o.mono ?_;rintro e w' ⟨rfl,rfl⟩;cases bs
   ·go_wp2_with fail
    all_goals
     refine CN.o.mono ?_;rintro e w2 ⟨rfl,k2⟩;cases bn
     ·go_wp2_with fail
      all_goals
       go_ret;exact⟨rfl,k2⟩
     ·go_wp2_with fail
      all_goals
       go_ret;exact⟨rfl,k2⟩
   ·go_wp2_with fail
    all_goals
     go_ret;exact⟨rfl,ε.refl _ _⟩
 ·have h1i: ¬((48:Int)<=(r:Int)):=by omega
  clear h48 h1;go_enter func228,ntmps228;go_wp2_with fail;all_goals
   refine CC.o.mono ?_;rintro e w' ⟨rfl,rfl⟩;cases bs
   ·go_wp2_with fail
    all_goals
     refine CN.o.mono ?_;rintro e w2 ⟨rfl,k2⟩;cases bn
     ·go_wp2_with fail
      all_goals
       go_ret;exact⟨rfl,k2⟩
     ·go_wp2_with fail
      all_goals
       go_ret;exact⟨rfl,k2⟩
   ·go_wp2_with fail
    all_goals
     go_ret;exact⟨rfl,ε.refl _ _⟩
theorem CO (r:Nat)(hr:kY r)(w:World):Calls prog 228 #[.int .i32 (r:Int)] w (Gives w (.int .u8 (qQ r))):=by
 have h:=Za r (by unfold kY at hr;omega) (by unfold kY at hr;omega) (by unfold kY at hr;rcases hr with rfl|rfl|rfl|rfl|rfl|rfl|rfl<;>decide) w;have e:(if Le r=true then(3:Int)else if fM (qM r)=true then 1 else 0)=qQ r:=by
  unfold kY at hr
  rcases hr with rfl|rfl|rfl|rfl|rfl|rfl|rfl<;>kernel_rfl
 rwa[e]at h
def Aq (t:Tok)(r:Nat):Bool:=if t.kind=3 then false else if t.kind=0 then false else qQ r==t.kind
theorem Tt (t:Tok)(ht:t.kind=0\/t.kind=1\/t.kind=3)(r:Nat)(hr:kY r)(w:World):Calls prog 227 #[Iz t,.int .i32 (r:Int)] w (Gives w (.bool (Aq t r))):=by
 obtain⟨tk,tt,tn,ta⟩:=t;unfold Aq;simp only at ht⊢;have hrI: ¬((r:Int)=61):=(by unfold kY at hr;omega);have ka:ε η w (w.alloc (.cells #[.int .u8 tk,.string tt,.int .i64 tn,.int .i64 ta] 299)):=δ.alloc _;have ck:=CO r hr (w.alloc (.cells #[.int .u8 tk,.string tt,.int .i64 tn,.int .i64 ta] 299));have ckd:=CO r hr (w.alloc (.cells #[.int .u8 tk,.string tt,.int .i64 tn,.int .i64 ta] 299)).drew;by_cases h3:tk=3
 ·subst h3
  go_enter func227,ntmps227;go_wp2;go_ret;exact⟨rfl,ka⟩
 ·rw[if_neg h3]
  have g3:(tk==3)=false:=(by simpa using h3);by_cases h0:tk=0
  ·subst h0
   go_enter func227,ntmps227;have nB:(w.alloc (.cells #[.int .u8 0,.string tt,.int .i64 tn,.int .i64 ta] 299)).cell? ⟨w.heap.size,0,none⟩=some (.int .u8 0):=(by simp);go_wp2;refine ak [0,1,2,3,4,6,7,5,8,9,10] (fun W=>ε η (w.alloc (.cells #[.int .u8 0,.string tt,.int .i64 tn,.int .i64 ta] 299)) W) (by kernel_rfl) (by kernel_rfl) rfl δ.drew ?_;simp only[aco];iterate 4 (apply aj rfl rfl;(intro W hW;have z0:=hW.cell (p:=⟨w.heap.size,0,none⟩) id nB;go_simp;rfl);go_frame)
   iterate 5 (apply aT rfl;go_frame)
   apply aj rfl rfl
   ·intro W hW;go_simp;rfl
   go_frame;apply aj rfl rfl
   ·intro W hW;go_simp;rfl
   go_frame;refine aA (fun _=>(ε.refl η _).drew) ?_;go_wp2;go_ret;exact⟨rfl,ka.drew⟩
  ·rw[if_neg h0]
   have h1:tk=1:=(by omega);subst h1;go_enter func227,ntmps227;have nB:(w.alloc (.cells #[.int .u8 1,.string tt,.int .i64 tn,.int .i64 ta] 299)).cell? ⟨w.heap.size,0,none⟩=some (.int .u8 1):=(by simp);go_wp2;refine ak [0,1,2,3,4,6,7,5,8,9,10] (fun W=>ε η (w.alloc (.cells #[.int .u8 1,.string tt,.int .i64 tn,.int .i64 ta] 299)) W) (by kernel_rfl) (by kernel_rfl) rfl δ.drew ?_;simp only[aco];iterate 7 (apply aj rfl rfl;(intro W hW;have z0:=hW.cell (p:=⟨w.heap.size,0,none⟩) id nB;go_simp;rfl);go_frame)
   apply ay rfl rfl;intro K hK;go_wp2_with fail;refine ckd.mono ?_;rintro e w5 ⟨rfl,k5⟩;go_wp2;refine hK _ _ (fun _=>(ε.refl η _).drew.trans k5) ?_;clear hK;iterate 3 (apply aj rfl rfl;(intro W hW;have z0:=hW.cell (p:=⟨w.heap.size,0,none⟩) id nB;go_simp;rfl);go_frame)
   refine aA (fun _=>(ε.refl η _).drew.trans k5) ?_;go_wp2;go_ret;exact⟨rfl,ka.trans ((ε.refl η _).drew.trans k5)⟩
end
