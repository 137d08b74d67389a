/- PLAIN WORDS, no program in sight: numbers and tables as bytes, put and taken. -/
import Derived.Test.YtakhobfamnjnoaaGreatDoorB21
import Derived.Test.YtakhobfamnjnoaaGreatDoorB23
set_option linter.unusedVariables false
set_option linter.unusedSimpArgs false
namespace Go.Proofs.YtakhobfamnjnoaaGreatDoor
open Go Go.RowKit
def fQ (n:Int):Nat:=if 0<=n then(2*n).toNat else(-2*n-1).toNat
theorem KP {n:Int}(h:aS n):fQ n<18446744073709551616:=by
 unfold fQ;unfold aS at h;split<;>omega
def iF (u:Nat):List UInt8:=if u<128 then[UInt8.ofNat u]else UInt8.ofNat (u%128+128)::iF (u/128)
termination_by u
decreasing_by omega
theorem qo {u:Nat}(h:u<128):iF u=[UInt8.ofNat u]:=by rw[iF,if_pos h]
theorem zq {u:Nat}(h: ¬u<128):iF u=UInt8.ofNat (u%128+128)::iF (u/128):=by rw[iF,if_neg h]
def aH (l:List Int):List UInt8:=l.flatMap fun n=>iF (fQ n)
theorem NY: ∀(j u:Nat),u<128^(j+1)->(iF u).length<=j+1
 |0,u,h=>by rw[qo (by simpa using h)];simp
 |j+1,u,h=>by
  by_cases hu:u<128
  ·rw[qo hu];simp
  ·rw[zq hu,List.length_cons]
   have:=NY j (u/128) (by rw[Nat.pow_succ]at h;exact Nat.div_lt_of_lt_mul (by rw[Nat.mul_comm];exact h))
   omega
theorem D5 {n:Int}(h:aS n):(iF (fQ n)).length<=10:=NY 9 _ (Nat.lt_of_lt_of_le (KP h) (by decide))
theorem fV {l:List Int}(h: ∀n∈l,aS n):(aH l).length<=10*l.length:=by
 unfold aH
 induction l with
 |nil=>simp
 |cons x l ih=>
  have h1:=D5 (h x (by simp))
  have h2:=ih (fun n hn=>h n (by simp[hn]))
  simp only[List.flatMap_cons,List.length_append,List.length_cons];omega
theorem U8 {l:List Int}{k:Nat}{x:Int}(h:l[k]?=some x):aH (l.take (k+1))=aH (l.take k)++iF (fQ x):=by
 unfold aH;rw[List.take_add_one,h,List.flatMap_append];simp
def Xy (p:Int×Cell):List Int:=p.1::p.2.1::(p.2.2.length:Int)::p.2.2
def mG (u:Nat):Int:=if u%2=0 then((u/2:Nat):Int)else-((u/2:Nat):Int)-1
def iZ (i u:Nat):List UInt8->Int×Nat×Int
 |[]=>(0,0,20)
 |c::r=>
  if i=9/\1<c.toNat then(0,0,21)
  else if 128<=c.toNat then iZ (i+1) (u+c.toNat%128*128^i) r
  else if c.toNat=0/\0<i then(0,0,21)
  else(mG (u+c.toNat%128*128^i),i+1,0)
def tk (l:List UInt8):Int×Nat×Int:=iZ 0 0 l
theorem LD:128^9=9223372036854775808:=by decide
inductive Rd (α:Type) where
 |ok (a:α) (r:List UInt8)
 |err (e:Int)
def Rd.bind {α β:Type}(x:Rd α)(f:α->List UInt8->Rd β):Rd β:=match x with| .ok a r=>f a r| .err e=> .err e
def num (lo hi:Int)(l:List UInt8):Rd Int:=
 if(tk l).2.2≠0 then .err (tk l).2.2 else if(tk l).1<lo\/hi<(tk l).1 then .err 21 else .ok (tk l).1 (l.drop (tk l).2.1)
def SE:Int:= -9223372036854775808
def hi64:Int:=9223372036854775807
def nums:Nat->List UInt8->Rd (List Int)
 |0,l=> .ok [] l
 |k+1,l=>(num SE hi64 l).bind fun n r=>(nums k r).bind fun ns r=> .ok (n::ns) r
def row (l:List UInt8):Rd (Int×Cell):=
 (num SE hi64 l).bind fun key r=>(num SE hi64 r).bind fun acc r=>(num 0 16 r).bind fun n r=>(nums n.toNat r).bind fun ns r=> .ok (key,(acc,ns)) r
def Fb (T:Tab)(key:Int):Bool:=(match T.getLast? with|some p=>dw p.1 key|none=>true)&&decide (fE T (grp key)<40)
theorem O8 {n:Int}:mG (fQ n)=n:=by
 unfold mG fQ
 split<;>split<;>omega
theorem OB {u:Nat}:fQ (mG u)=u:=by
 unfold mG fQ
 split<;>split<;>omega
theorem WU {u:Nat}(h:u<18446744073709551616):aS (mG u):=by
 unfold mG aS
 split<;>omega
theorem byte_toNat {q:Nat}(h:q<256):(UInt8.ofNat q).toNat=q:=UInt8.toNat_ofNat_of_lt' (by simpa using h)
theorem OC: ∀(v i u:Nat)(r:List UInt8),i<=9->v*128^i<18446744073709551616->(0<i->0<v)->
 iZ i u (iF v++r)=(mG (u+v*128^i),i+(iF v).length,0):=by
 intro v
 induction v using Nat.strongRecOn with
 |ind v ih=>
  intro i u r hi hv h0
  by_cases hs:v<128
  ·rw[qo hs]
   simp only[List.cons_append,List.nil_append,iZ,List.length_singleton]
   rw[byte_toNat (by omega),if_neg,if_neg (by omega),if_neg (by omega),Nat.mod_eq_of_lt hs]
   rintro⟨rfl,h1⟩
   rw[LD]at hv
   omega
  ·have hi9:i≠9:=by
    rintro rfl
    rw[LD]at hv
    omega
   rw[zq hs]
   simp only[List.cons_append,iZ,List.length_cons]
   rw[byte_toNat (by omega),if_neg (fun h=>hi9 h.1),if_pos (by omega)]
   have e1:(v%128+128)%128=v%128:=by omega
   have e2:v/128*128^(i+1)+v%128*128^i=v*128^i:=by
    rw[Nat.pow_succ,Nat.mul_comm (128^i) 128,<-Nat.mul_assoc,<-Nat.add_mul]
    congr 1;omega
   rw[ih (v/128) (by omega) (i+1) _ r (by omega) (by omega) (by omega),e1]
   have e3:u+v%128*128^i+v/128*128^(i+1)=u+v*128^i:=by omega
   rw[e3]
   have e4:i+1+(iF (v/128)).length=i+((iF (v/128)).length+1):=by omega
   rw[e4]
theorem Pq {n:Int}(h:aS n)(r:List UInt8):tk (iF (fQ n)++r)=(n,(iF (fQ n)).length,0):=by
 unfold tk
 rw[OC _ 0 0 r (by omega) (by have:=KP h;simpa using this) (by omega)]
 simp[O8]
theorem IC: ∀(l:List UInt8)(i u:Nat)(n:Int)(z:Nat),i<=9->u<128^i->iZ i u l=(n,z,0)->
 ∃v,i<z/\z-i<=l.length/\l.take (z-i)=iF v/\n=mG (u+v*128^i)/\u+v*128^i<18446744073709551616/\(0<i->0<v)
 |[],i,u,n,z,_,_,h=>by simp[iZ]at h
 |c::r,i,u,n,z,hi,hu,h=>by
  have hc:=c.toNat_lt
  unfold iZ at h
  split at h
  ·simp at h
  ·rename_i h9
   split at h
   ·rename_i hbig
    have hi9:i≠9:=by rintro rfl;exact h9 ⟨rfl,by omega⟩
    have hu':u+c.toNat%128*128^i<128^(i+1):=by
     have h1:c.toNat%128<=127:=by omega
     have h2:c.toNat%128*128^i<=127*128^i:=Nat.mul_le_mul_right _ h1
     rw[Nat.pow_succ];omega
    obtain⟨v,h1,h2,h3,h4,h5,h6⟩:=IC r (i+1) _ n z (by omega) hu' h
    have h6':=h6 (by omega)
    have hd: ¬(c.toNat%128+128*v)<128:=by omega
    have e2:(c.toNat%128+128*v)*128^i=c.toNat%128*128^i+v*128^(i+1):=by
     rw[Nat.pow_succ,Nat.add_mul,Nat.mul_comm 128 v,Nat.mul_assoc,Nat.mul_comm 128 (128^i)]
    refine⟨c.toNat%128+128*v,by omega,by rw[List.length_cons];omega,?_,by rw[h4,e2];congr 1;omega,by rw[e2];omega,fun _=>by omega⟩
    rw[zq hd]
    have e1:z-i=(z-(i+1))+1:=by omega
    rw[e1,List.take_succ_cons,h3,show(c.toNat%128+128*v)/128=v by omega,show(c.toNat%128+128*v)%128+128=c.toNat by omega,UInt8.ofNat_toNat]
   ·rename_i hsm
    split at h
    ·simp at h
    ·rename_i h0
     injection h with h1 h2
     injection h2 with h2 h3
     subst h1 h2
     have e1:i+1-i=1:=by omega
     refine⟨c.toNat,by omega,by rw[e1,List.length_cons];omega,?_,by rw[Nat.mod_eq_of_lt (by omega)],?_,fun h=>by omega⟩
     ·rw[e1,List.take_succ_cons,List.take_zero,qo (by omega),UInt8.ofNat_toNat]
     ·have hp:i=9\/i<=8:=by omega
      rcases hp with rfl|hp
      ·have:c.toNat<=1:=by have:=fun h=>h9 ⟨rfl,h⟩;omega
       rw[LD]at*
       have:c.toNat*9223372036854775808<=1*9223372036854775808:=Nat.mul_le_mul_right _ this
       omega
      ·have h1:128^i<=128^8:=Nat.pow_le_pow_right (by omega) hp
       have h2:c.toNat*128^i<=127*128^i:=Nat.mul_le_mul_right _ (by omega)
       have h3:(128:Nat)^8=72057594037927936:=by decide
       omega
theorem Y2 {l:List UInt8}{n:Int}{z:Nat}(h:tk l=(n,z,0)):0<z/\z<=l.length/\l.take z=iF (fQ n)/\aS n:=by
 obtain⟨v,h1,h2,h3,h4,h5,_⟩:=IC l 0 0 n z (by omega) (by simp) h
 simp only[Nat.pow_zero,Nat.mul_one,Nat.zero_add,Nat.sub_zero]at*
 refine⟨h1,h2,?_,?_⟩
 ·rw[h3,h4,OB]
 ·rw[h4];exact WU h5
theorem sZ: ∀(l:List UInt8)(i u:Nat),(iZ i u l).2.2≠0->iZ i u l=(0,0,(iZ i u l).2.2)
 |[],i,u,_=>rfl
 |c::r,i,u,h=>by
  unfold iZ at h⊢
  split
  ·rfl
  ·split
   ·rw[if_neg (by assumption),if_pos (by assumption)]at h
    exact sZ r _ _ h
   ·split
    ·rfl
    ·rw[if_neg (by assumption),if_neg (by assumption),if_neg (by assumption)]at h
     exact absurd rfl h
theorem BJ {n lo hi:Int}(h:aS n)(h1:lo<=n)(h2:n<=hi)(r:List UInt8):num lo hi (iF (fQ n)++r)= .ok n r:=by
 unfold num
 rw[Pq h r]
 simp only[ne_eq,not_true,if_false]
 rw[if_neg (by omega)]
 simp
theorem aS.in {n:Int}(h:aS n):SE<=n/\n<=hi64:=h
theorem L6: ∀(ns:List Int)(r:List UInt8),(∀n∈ns,aS n)->nums ns.length (aH ns++r)= .ok ns r
 |[],r,_=>rfl
 |n::ns,r,h=>by
  have e:aH (n::ns)++r=iF (fQ n)++(aH ns++r):=by unfold aH;rw[List.flatMap_cons,List.append_assoc]
  have h1:=h n (by simp)
  rw[e,List.length_cons,nums,BJ h1 h1.in.1 h1.in.2]
  simp only[Rd.bind]
  rw[L6 ns r (fun m hm=>h m (by simp[hm]))]
theorem PO {p:Int×Cell}(h:aS p.1)(hc:ZF p.2)(r:List UInt8):row (aH (Xy p)++r)= .ok p r:=by
 have hl:aS (p.2.2.length:Int):=by have:=hc.2.2;exact .small (by omega) (by omega)
 have e:aH (Xy p)++r=iF (fQ p.1)++(iF (fQ p.2.1)++(iF (fQ (p.2.2.length:Int))++(aH p.2.2++r))):=by
  unfold Xy aH;simp only[List.flatMap_cons,List.append_assoc]
 rw[e,row,BJ h h.in.1 h.in.2]
 simp only[Rd.bind]
 rw[BJ hc.1 hc.1.in.1 hc.1.in.2]
 simp only
 rw[BJ hl (by omega) (by have:=hc.2.2;omega)]
 simp only[Int.toNat_natCast]
 rw[L6 p.2.2 r hc.2.1]
theorem iq.push {T:Tab}{p:Int×Cell}(h:iq T)(hm:Fb T p.1=true):iq (T++[p]):=by
 unfold Fb at hm
 unfold iq at h⊢
 rw[List.pairwise_append]
 refine⟨h,by simp,fun a ha b hb=>?_⟩
 cases List.mem_singleton.1 hb
 rw[Bool.and_eq_true]at hm
 cases hl:T.getLast? with
 |none=>rw[List.getLast?_eq_none_iff]at hl;subst hl;cases ha
 |some q=>
  have hq:dw q.1 p.1=true:=by have:=hm.1;rw[hl]at this;exact this
  obtain⟨ys,rfl⟩: ∃ys,T=ys++[q]:=List.getLast?_eq_some_iff.1 hl
  rcases List.mem_append.1 ha with ha|ha
  ·rw[List.pairwise_append]at h
   exact lU (h.2.2 a ha q (by simp)) hq
  ·cases List.mem_singleton.1 ha;exact hq
theorem Rn (T:Tab)(p:Int×Cell)(g:Int):fE (T++[p]) g=fE T g+if grp p.1=g then 1 else 0:=by
 unfold fE
 rw[List.countP_append]
 simp[List.countP_cons]
theorem oZ.push {T:Tab}{p:Int×Cell}(h:oZ T)(h1:aS p.1)(h2:ZF p.2)(hm:Fb T p.1=true):oZ (T++[p]):=by
 refine⟨h.rises.push hm,fun q hq=>?_,fun q hq=>?_,fun g=>?_⟩
 ·rcases List.mem_append.1 hq with hq|hq
  ·exact h.key q hq
  ·cases List.mem_singleton.1 hq;exact h1
 ·rcases List.mem_append.1 hq with hq|hq
  ·exact h.cell q hq
  ·cases List.mem_singleton.1 hq;exact h2
 ·rw[Rn]
  unfold Fb at hm
  rw[Bool.and_eq_true]at hm
  have:=of_decide_eq_true hm.2
  split
  ·rename_i e;subst e;omega
  ·have:=h.many g;omega
theorem oZ.pre {T U:Tab}(h:oZ (T++U)):oZ T:=
 ⟨h.rises.sublist (List.sublist_append_left _ _),fun p hp=>h.key p (by simp[hp]),fun p hp=>h.cell p (by simp[hp]),fun g=>Nat.le_trans (List.Sublist.countP_le (List.sublist_append_left T U)) (h.many g)⟩
theorem oZ.nil:oZ []:=⟨by simp[iq],by simp,by simp,fun g=>by simp[fE]⟩
def nodeAt (nodes:List JN)(i:Int):JN:=nodes.getD i.toNat default
theorem ZI {n:Int}(h:aS n):wrap64 n=n:=by unfold aS at h;unfold wrap64;omega
theorem U9 {T:Tab}{k:Int}{n:Nat}(h:RQ T k n=0):n<=16/\(pz T k≠none\/fE T (grp k)<40):=by
 unfold RQ at h
 split at h
 ·cases h
 ·split at h
  ·cases h
  ·rename_i h1 h2
   refine⟨by omega,?_⟩
   by_cases hn:pz T k=none
   ·right
    exact Nat.lt_of_not_le (fun h3=>h2 ⟨hn,h3⟩)
   ·exact .inl hn
theorem oZ.eY {T:Tab}(h:oZ T){k:Int}{c:Cell}(hk:aS k)(h1:aS c.1)(h2: ∀x∈c.2,aS x):oZ (eY T k c):=by
 unfold Go.Proofs.YtakhobfamnjnoaaGreatDoor.eY
 split
 ·rename_i he
  obtain⟨h3,h4⟩:=U9 he
  exact h.mM hk ⟨h1,h2,h3⟩ h4
 ·exact h
theorem flat_get {r:Rec}{k:Nat}:adN r k=(List.range k).map fun(i:Nat)=>(⟨wrap64 (wrap64 (8*r.pos)+(i:Int)),r.key,wrap64 (r.val+(i:Int))⟩:Rec):=rfl
theorem La {α:Type}{p:List α->Prop}(h0:p [])(h1: ∀l a,p l->p (l++[a]))(l:List α):p l:=by
 rw[<-List.reverse_reverse l]
 induction l.reverse with
 |nil=>exact h0
 |cons a l ih=>rw[List.reverse_cons];exact h1 _ _ ih
theorem sV (l:List JN)(d:JN):dI (l++[d])=dI l++[yC (dI l) d]:=by
 unfold dI;rw[List.foldl_append];rfl
theorem Ur (l:List JN): ∀m:List JN,∃t,dI (l++m)=dI l++t:=by
 refine La ⟨[],by simp⟩ fun m d ih=>?_
 ·obtain⟨t,ht⟩:=ih
  refine⟨t++[yC (dI (l++m)) d],?_⟩
  rw[<-List.append_assoc,sV,ht,List.append_assoc]
theorem pq (l:List JN):(dI l).length=l.length:=by
 refine La (p:=fun l=>(dI l).length=l.length) rfl (fun l d ih=>?_) l
 rw[sV,List.length_append,List.length_append,ih];rfl
theorem Um (nodes:List JN)(k:Nat): ∃t,dI nodes=dI (nodes.take k)++t:=by
 have:=Ur (nodes.take k) (nodes.drop k)
 rwa[List.take_append_drop]at this
theorem Xi {nodes:List JN}{k i:Nat}(hk:k<=nodes.length)(hi:i<k):(dI (nodes.take k)).getD i 0=(dI nodes).getD i 0:=by
 obtain⟨t,ht⟩:=Um nodes k
 rw[ht,List.getD_eq_getElem?_getD,List.getD_eq_getElem?_getD,List.getElem?_append_left (by rw[pq,List.length_take];omega)]
theorem Xj {nodes:List JN}{k:Nat}{d:JN}(hd:nodes[k]?=some d):(dI nodes).getD k 0=yC (dI (nodes.take k)) d:=by
 have hk:=(List.getElem?_eq_some_iff.1 hd).1
 have e:=Xi (nodes:=nodes) (k:=k+1) (i:=k) (by omega) (by omega)
 rw[<-e,List.take_add_one,hd]
 show(dI (nodes.take k++[d])).getD k 0=_
 rw[sV,List.getD_eq_getElem?_getD,List.getElem?_append_right (by rw[pq,List.length_take];omega),pq,List.length_take]
 rw[show k-min k nodes.length=0 by omega]
 rfl
def jV (nodes:List JN)(i:Nat):Int:=if dM i (nodes.getD i default)=false then 120 else if kD nodes i (nodes.getD i default)=true then 121 else 0
def dV (j:Jb):Int×Int:=
 if jk j=true then(0,2)else
 match(List.range j.nodes.length).find? (fun i=>jV j.nodes i !=0)with
 |some i=>((i:Int),jV j.nodes i)
 |none=>match(List.range j.nodes.length).find? (fun i=>bK j.nodes i (j.nodes.getD i default))with
  |some i=>((i:Int),122)
  |none=>(0,0)
theorem Jg {j:Jb}(h:jk j=true):dV j=(0,2):=by unfold dV;rw[if_pos h]
theorem Md {j:Jb}(h0:jk j=false){k:Nat}(hk:k<j.nodes.length)(hp: ∀m,m<k->jV j.nodes m=0){e:Int}(he:jV j.nodes k=e)(hne:e≠0):dV j=((k:Int),e):=by
 have hf:(List.range j.nodes.length).find? (fun i=>jV j.nodes i !=0)=some k:=by
  rw[List.find?_range_eq_some]
  refine⟨by rw[he];simp[hne],by simp[hk],fun m hm=>by rw[hp m hm];rfl⟩
 unfold dV
 rw[if_neg (by rw[h0];simp),hf]
 show((k:Int),jV j.nodes k)=_
 rw[he]
theorem tZ {j:Jb}(hp: ∀m,m<j.nodes.length->jV j.nodes m=0):(List.range j.nodes.length).find? (fun i=>jV j.nodes i !=0)=none:=by
 rw[List.find?_range_eq_none]
 intro m hm;rw[hp m hm];rfl
theorem yX {j:Jb}(h0:jk j=false)(h1: ∀m,m<j.nodes.length->jV j.nodes m=0){k:Nat}{d:JN}(hd:j.nodes[k]?=some d)(hp: ∀m e,m<k->j.nodes[m]?=some e->bK j.nodes m e=false)(hs:bK j.nodes k d=true):dV j=((k:Int),122):=by
 have hk:k<j.nodes.length:=(List.getElem?_eq_some_iff.1 hd).1
 have hf:(List.range j.nodes.length).find? (fun i=>bK j.nodes i (j.nodes.getD i default))=some k:=by
  rw[List.find?_range_eq_some]
  refine⟨by rw[List.getD_eq_getElem?_getD,hd];exact hs,by simp[hk],fun m hm=>?_⟩
  have hm':m<j.nodes.length:=by omega
  rw[List.getD_eq_getElem?_getD,List.getElem?_eq_getElem hm']
  show(!bK j.nodes m j.nodes[m])=true
  rw[hp m _ hm (List.getElem?_eq_getElem hm')];rfl
 unfold dV
 rw[if_neg (by rw[h0];simp),tZ h1,hf]
theorem Qn {j:Jb}(h0:jk j=false)(h1: ∀m,m<j.nodes.length->jV j.nodes m=0)(hp: ∀m e,m<j.nodes.length->j.nodes[m]?=some e->bK j.nodes m e=false):dV j=(0,0):=by
 have hf:(List.range j.nodes.length).find? (fun i=>bK j.nodes i (j.nodes.getD i default))=none:=by
  rw[List.find?_range_eq_none]
  intro m hm
  rw[List.getD_eq_getElem?_getD,List.getElem?_eq_getElem hm]
  show(!bK j.nodes m j.nodes[m])=true
  rw[hp m _ hm (List.getElem?_eq_getElem hm)];rfl
 unfold dV
 rw[if_neg (by rw[h0];simp),tZ h1,hf]
theorem wH {nodes:List JN}{k:Nat}{d:JN}(hd:nodes[k]?=some d):jV nodes k=0↔dM k d=true/\kD nodes k d=false:=by
 unfold jV
 rw[List.getD_eq_getElem?_getD,hd]
 show(if dM k d=false then(120:Int)else if kD nodes k d=true then 121 else 0)=0↔_
 cases dM k d<;>cases kD nodes k d<;>simp
theorem YL {nodes:List JN}{k:Nat}{d:JN}(hd:nodes[k]?=some d)(h:dM k d=false):jV nodes k=120:=by
 unfold jV
 rw[List.getD_eq_getElem?_getD,hd]
 show(if dM k d=false then(120:Int)else if kD nodes k d=true then 121 else 0)=_
 rw[if_pos h]
theorem YK {nodes:List JN}{k:Nat}{d:JN}(hd:nodes[k]?=some d)(h:dM k d=true)(h2:kD nodes k d=true):jV nodes k=121:=by
 unfold jV
 rw[List.getD_eq_getElem?_getD,hd]
 show(if dM k d=false then(120:Int)else if kD nodes k d=true then 121 else 0)=_
 rw[if_neg (by rw[h];simp),if_pos h2]
theorem Tc (j:Jb):tX j=decide ((dV j).2=0):=by
 have:= @tZ j
 cases h0:jk j with
 |true=>
  rw[Jg h0]
  unfold tX;rw[h0];rfl
 |false=>
  cases h:tX j with
  |true=>
   obtain⟨_,h2⟩:=Jo h
   rw[Qn h0 (fun m hm=>(wH (List.getElem?_eq_getElem hm)).2 ⟨(h2 m _ (List.getElem?_eq_getElem hm)).1,(h2 m _ (List.getElem?_eq_getElem hm)).2.1⟩) (fun m e _ he=>(h2 m e he).2.2)]
   rfl
  |false=>
   refine(decide_eq_false fun hz=>?_).symm
   have:tX j=true:=by
    have h1: ∀m,m<j.nodes.length->jV j.nodes m=0:=by
     intro m hm
     cases hf:(List.range j.nodes.length).find? (fun i=>jV j.nodes i !=0)with
     |none=>
      rw[List.find?_range_eq_none]at hf
      simpa using hf m hm
     |some i=>
      unfold dV at hz
      rw[if_neg (by rw[h0];simp),hf]at hz
      have:=List.find?_some hf
      rw[show jV j.nodes i=0 from hz]at this
      cases this
    refine Yi h0 fun i d hd=>?_
    have hi:i<j.nodes.length:=(List.getElem?_eq_some_iff.1 hd).1
    have h3:=(wH hd).1 (h1 i hi)
    refine⟨h3.1,h3.2,?_⟩
    cases hf:(List.range j.nodes.length).find? (fun i=>bK j.nodes i (j.nodes.getD i default))with
    |none=>
     rw[List.find?_range_eq_none]at hf
     have:=hf i hi
     rw[List.getD_eq_getElem?_getD,hd]at this
     simpa using this
    |some i=>
     unfold dV at hz
     rw[if_neg (by rw[h0];simp),tZ h1,hf]at hz
     cases hz
   rw[h]at this;cases this
theorem X3 {k:Nat}{d:JN}(h1:dM k d=true):d.ins.length<=3/\ ∀x∈d.ins,0<=x/\x<(k:Int):=by
 unfold dM DI at h1
 split at h1
 ·cases h1
 split at h1
 ·cases h1
 rename_i hb
 have hgood:kJ d.ins k=true:=by
  cases e:kJ d.ins k with
  |true=>rfl
  |false=>exact absurd (.inr (.inr e)) hb
 have b2:d.ins.length<=iM d.kind:=Nat.le_of_not_lt fun h=>hb (.inr (.inl h))
 unfold kJ at hgood
 rw[Bool.and_eq_true,List.all_eq_true,decide_eq_true_eq]at hgood
 refine⟨?_,fun x hx=>by simpa using hgood.2 x hx⟩
 have:iM d.kind<=3:=by unfold iM;split;omega;split<;>omega
 omega
def jh (W ins:List Int)(m:Nat):Int:=((ins.take m).map fun k=>W.getD k.toNat 0).sum
theorem IJ {W ins:List Int}{m:Nat}{x:Int}(h:ins[m]?=some x):jh W ins (m+1)=jh W ins m+W.getD x.toNat 0:=by
 unfold jh
 rw[List.take_add_one,h]
 simp
theorem FU {W:List Int}(h: ∀x∈W,0<=x/\x<=64)(i:Nat):0<=W.getD i 0/\W.getD i 0<=64:=by
 rw[List.getD_eq_getElem?_getD]
 cases e:W[i]? with
 |none=>simp
 |some x=>exact h x (List.mem_of_getElem? e)
theorem yE {W ins:List Int}(h: ∀x∈W,0<=x/\x<=64): ∀m,0<=jh W ins m/\jh W ins m<=64*(m:Int)
 |0=>by simp[jh]
 |m+1=>by
  have ih:=yE (ins:=ins) h m
  cases e:ins[m]? with
  |none=>
   have:jh W ins (m+1)=jh W ins m:=by unfold jh;rw[List.take_add_one,e];simp
   rw[this];omega
  |some x=>
   have:=FU h x.toNat
   rw[IJ e];omega
theorem Us (W:List Int)(d:JN):yC W d=if d.kind=1 then 1 else jh W d.ins d.ins.length*(if d.kind=4 then 4 else 1):=by
 unfold yC jh;rw[List.take_length]
theorem row_ne {w:World}{base n B T E:Nat}{v:Value}{xs:List Value}{cs:Array Value}{f:Nat×Nat}(h:w.ownsRow base E 1 v n xs)(hB:w.heap[B]?=some (.cells cs T f))(hTE:T≠E):v.ownBlock≠some B:=by
 intro e
 rcases h.2 with⟨e1,_⟩|⟨g,cap,cur,e1,_,hg,_⟩
 ·rw[e1]at e;cases e
 ·rw[e1]at e
  have:g=B:=by simpa[Value.ownBlock]using e
  subst this
  rw[hg]at hB
  injection hB with hB
  injection hB with _ h2 _
  exact hTE h2.symm
theorem LC {T E bytes:Nat}{z x:Value}{i:TypeInfo}(hT:Tryz.prog.underlying T=some (.slice E))(hi:Tryz.prog.info? E=some i)(hz:i.zero=some z)(hs:i.size=1)(hb:i.bytes=bytes)(hzc:z.cells.size=1)(hx:x.oneCell'=true)
 {wr:World} {base m:Nat} {v:Value} {xs:List Value} (hown:wr.ownsRow base E 1 v m xs) (hm:m<=100000) (hbb:bytes<=1000) (hbase:base<=wr.heap.size) (ty:TypeId):
 ∃g cap w',(Builtin.append_ #[T,T] ty #[v, .slice (some ⟨wr.heap.size,0,none⟩) 1 1]).run Tryz.prog (wr.alloc (.cells #[x] E))= .ok (.slice (some ⟨g,0,none⟩) (m+1) cap) w'/\w'.ownsRow base E 1 (.slice (some ⟨g,0,none⟩) (m+1) cap) (m+1) (xs++[x])/\Kept (fun k=>v.ownBlock=some k) wr w':=by
 have kA:Kept none' wr (wr.alloc (.cells #[x] E)):=(Kept.refl _ _).alloc _
 have hr:=Reads.lit wr [x] E 1 1 rfl (by unfold maxLen;omega)
 obtain⟨v',n',w',b1,b2,b3,b4,_⟩:=oD (P:=Tryz.prog) base T ty E i z 1 bytes hT hi hz hs hb hzc (by omega) (kA.owns hown (fun _ _ h=>h)) hr (by intro y hy;rw[List.mem_singleton.1 hy];exact hx)
  (by
    simp only[List.length_singleton,Nat.mul_one]
    calc(m+1)*bytes<=100001*1000:=Nat.mul_le_mul (by omega) hbb
     _<=140737488355328:=by decide) (by simp;unfold maxLen;omega) (by have:=kA.size;omega)
 have hn:n'=m+1:=by simpa using b3
 subst hn
 have hg: ∃g cap,v'= .slice (some ⟨g,0,none⟩) (m+1) cap:=by
  rcases b2.2 with⟨e1,_⟩|⟨g,cap,cur,e1,_⟩
  ·have:=b2.1
   have h2:=b2.2
   rcases h2 with⟨_,e2⟩|⟨g,cap,cur,e1',_⟩
   ·omega
   ·rw[e1]at e1';cases e1'
  ·exact⟨g,cap,e1⟩
 obtain⟨g,cap,rfl⟩:=hg
 exact⟨g,cap,w',b1,b2,kA.pure.trans (Kept.grown b4 (fun k hk _=>hk))⟩
end Go.Proofs.YtakhobfamnjnoaaGreatDoor
