/- PLAIN WORDS, no program in sight: numbers and tables as bytes, put and taken. -/
import Derived.Test.YtopeleenlcnkkaaGreatDoorX03
set_option linter.unusedVariables false
set_option linter.unusedSimpArgs false
namespace Go.Proofs.YtopeleenlcnkkaaGreatDoor
open Go Go.RowKit
def gV (n:Int):Nat:=if 0<=n then(2*n).toNat else(-2*n-1).toNat
theorem Ld {n:Int}(h:aI n):gV n<18446744073709551616:=by
 unfold gV;unfold aI at h;split<;>omega
def iO (u:Nat):List UInt8:=if u<128 then[UInt8.ofNat u]else UInt8.ofNat (u%128+128)::iO (u/128)
termination_by u
decreasing_by omega
theorem qG {u:Nat}(h:u<128):iO u=[UInt8.ofNat u]:=by rw[iO,if_pos h]
theorem zl {u:Nat}(h: ¬u<128):iO u=UInt8.ofNat (u%128+128)::iO (u/128):=by rw[iO,if_neg h]
def bf (l:List Int):List UInt8:=l.flatMap fun n=>iO (gV n)
theorem NS: ∀(j u:Nat),u<128^(j+1)->(iO u).length<=j+1
 |0,u,h=>by rw[qG (by simpa using h)];simp
 |j+1,u,h=>by
  by_cases hu:u<128
  ·rw[qG hu];simp
  ·rw[zl hu,List.length_cons]
   have:=NS j (u/128) (by rw[Nat.pow_succ]at h;exact Nat.div_lt_of_lt_mul (by rw[Nat.mul_comm];exact h))
   omega
theorem Dp {n:Int}(h:aI n):(iO (gV n)).length<=10:=NS 9 _ (Nat.lt_of_lt_of_le (Ld h) (by decide))
theorem qU {l:List Int}(h: ∀n∈l,aI n):(bf l).length<=10*l.length:=by
 unfold bf
 induction l with
 |nil=>simp
 |cons x l ih=>
  have h1:=Dp (h x (by simp))
  have h2:=ih (fun n hn=>h n (by simp[hn]))
  simp only[List.flatMap_cons,List.length_append,List.length_cons];omega
theorem UZ {l:List Int}{k:Nat}{x:Int}(h:l[k]?=some x):bf (l.take (k+1))=bf (l.take k)++iO (gV x):=by
 unfold bf;rw[List.take_add_one,h,List.flatMap_append];simp
def strOf (l:List UInt8):ByteArray:=⟨l.toArray⟩
theorem zL (l m:List UInt8):strOf l++strOf m=strOf (l++m):=by
 simp[strOf,ByteArray.ext_iff]
theorem DJ (l:List UInt8):(strOf l).size=l.length:=rfl
def iW (p:Int×Cell):List Int:=p.1::p.2.1::(p.2.2.length:Int)::p.2.2
def pz (T:Tab):List Int:=(T.length:Int)::T.flatMap iW
theorem rJ (l m:List Int):bf (l++m)=bf l++bf m:=by unfold bf;rw[List.flatMap_append]
theorem UO {T:Tab}{k:Nat}{p:Int×Cell}(h:T[k]?=some p):(T.take (k+1)).flatMap iW=(T.take k).flatMap iW++iW p:=by
 rw[List.take_add_one,h,List.flatMap_append];simp
theorem rows_ok {T:Tab}(h: ∀p∈T,aI p.1)(hc: ∀p∈T,ER p.2):(∀n∈T.flatMap iW,aI n)/\(T.flatMap iW).length<=19*T.length:=by
 induction T with
 |nil=>simp
 |cons p T ih=>
  obtain⟨i1,i2⟩:=ih (fun q hq=>h q (by simp[hq])) (fun q hq=>hc q (by simp[hq]))
  have c:=hc p (by simp)
  refine⟨fun n hn=>?_,?_⟩
  ·rw[List.flatMap_cons]at hn
   rcases List.mem_append.1 hn with hn|hn
   ·unfold iW at hn
    simp only[List.mem_cons]at hn
    rcases hn with rfl|rfl|rfl|hn
    ·exact h p (by simp)
    ·exact c.1
    ·have:=c.2.2;exact .small (by omega) (by omega)
    ·exact c.2.1 n hn
   ·exact i1 n hn
  ·rw[List.flatMap_cons,List.length_append]
   have:=c.2.2
   simp only[iW,List.length_cons]at*
   omega
def nK (u:Nat):Int:=if u%2=0 then((u/2:Nat):Int)else-((u/2:Nat):Int)-1
def kG (i u:Nat):List UInt8->Int×Nat×Int
 |[]=>(0,0,20)
 |c::r=>
  if i=9/\1<c.toNat then(0,0,21)
  else if 128<=c.toNat then kG (i+1) (u+c.toNat%128*128^i) r
  else if c.toNat=0/\0<i then(0,0,21)
  else(nK (u+c.toNat%128*128^i),i+1,0)
def tk (l:List UInt8):Int×Nat×Int:=kG 0 0 l
theorem LP:128^9=9223372036854775808:=by decide
inductive Rd (α:Type) where
 |ok (a:α) (r:List UInt8)
 |err (e:Int)
def Rd.bind {α β:Type}(x:Rd α)(f:α->List UInt8->Rd β):Rd β:=match x with| .ok a r=>f a r| .err e=> .err e
def num (lo hi:Int)(l:List UInt8):Rd Int:=
 if(tk l).2.2≠0 then .err (tk l).2.2 else if(tk l).1<lo\/hi<(tk l).1 then .err 21 else .ok (tk l).1 (l.drop (tk l).2.1)
def bQ:Int:= -9223372036854775808
def hi64:Int:=9223372036854775807
def nums:Nat->List UInt8->Rd (List Int)
 |0,l=> .ok [] l
 |k+1,l=>(num bQ hi64 l).bind fun n r=>(nums k r).bind fun ns r=> .ok (n::ns) r
def row (l:List UInt8):Rd (Int×Cell):=
 (num bQ hi64 l).bind fun key r=>(num bQ hi64 r).bind fun acc r=>(num 0 16 r).bind fun n r=>(nums n.toNat r).bind fun ns r=> .ok (key,(acc,ns)) r
def jw (T:Tab)(key:Int):Bool:=(match T.getLast? with|some p=>dD p.1 key|none=>true)&&decide (bG T (grp key)<40)
def iq:Nat->Tab->List UInt8->Rd Tab
 |0,T,l=> .ok T l
 |k+1,T,l=>(row l).bind fun p r=>if jw T p.1 then iq k (T++[p]) r else .err 21
def lG (l:List UInt8):Rd Tab:=(num 0 320 l).bind fun n r=>(iq n.toNat [] r).bind fun T r=>if r=[]then .ok T []else .err 21
theorem PV {lo hi:Int}{l:List UInt8}{f:Int}(h:num lo hi l= .err f):f≠0:=by
 unfold num at h
 split at h
 ·rename_i h0;injection h with h;subst h;exact h0
 ·split at h
  ·injection h with h;subst h;decide
  ·cases h
theorem Pn {n:Int}:nK (gV n)=n:=by
 unfold nK gV
 split<;>split<;>omega
theorem Oq {u:Nat}:gV (nK u)=u:=by
 unfold nK gV
 split<;>split<;>omega
theorem Xb {u:Nat}(h:u<18446744073709551616):aI (nK u):=by
 unfold nK aI
 split<;>omega
theorem byte_toNat {q:Nat}(h:q<256):(UInt8.ofNat q).toNat=q:=UInt8.toNat_ofNat_of_lt' (by simpa using h)
theorem Ot: ∀(v i u:Nat)(r:List UInt8),i<=9->v*128^i<18446744073709551616->(0<i->0<v)->
 kG i u (iO v++r)=(nK (u+v*128^i),i+(iO v).length,0):=by
 intro v
 induction v using Nat.strongRecOn with
 |ind v ih=>
  intro i u r hi hv h0
  by_cases hs:v<128
  ·rw[qG hs]
   simp only[List.cons_append,List.nil_append,kG,List.length_singleton]
   rw[byte_toNat (by omega),if_neg,if_neg (by omega),if_neg (by omega),Nat.mod_eq_of_lt hs]
   rintro⟨rfl,h1⟩
   rw[LP]at hv
   omega
  ·have hi9:i≠9:=by
    rintro rfl
    rw[LP]at hv
    omega
   rw[zl hs]
   simp only[List.cons_append,kG,List.length_cons]
   rw[byte_toNat (by omega),if_neg (fun h=>hi9 h.1),if_pos (by omega)]
   have e1:(v%128+128)%128=v%128:=by omega
   have e2:v/128*128^(i+1)+v%128*128^i=v*128^i:=by
    rw[Nat.pow_succ,Nat.mul_comm (128^i) 128,<-Nat.mul_assoc,<-Nat.add_mul]
    congr 1;omega
   rw[ih (v/128) (by omega) (i+1) _ r (by omega) (by omega) (by omega),e1]
   have e3:u+v%128*128^i+v/128*128^(i+1)=u+v*128^i:=by omega
   rw[e3]
   have e4:i+1+(iO (v/128)).length=i+((iO (v/128)).length+1):=by omega
   rw[e4]
theorem aay {n:Int}(h:aI n)(r:List UInt8):tk (iO (gV n)++r)=(n,(iO (gV n)).length,0):=by
 unfold tk
 rw[Ot _ 0 0 r (by omega) (by have:=Ld h;simpa using this) (by omega)]
 simp[Pn]
theorem FV: ∀(l:List UInt8)(i u:Nat)(n:Int)(z:Nat),i<=9->u<128^i->kG i u l=(n,z,0)->
 ∃v,i<z/\z-i<=l.length/\l.take (z-i)=iO v/\n=nK (u+v*128^i)/\u+v*128^i<18446744073709551616/\(0<i->0<v)
 |[],i,u,n,z,_,_,h=>by simp[kG]at h
 |c::r,i,u,n,z,hi,hu,h=>by
  have hc:=c.toNat_lt
  unfold kG at h
  split at h
  ·simp at h
  ·rename_i h9
   split at h
   ·rename_i hbig
    have hi9:i≠9:=by rintro rfl;exact h9 ⟨rfl,by omega⟩
    have hu':u+c.toNat%128*128^i<128^(i+1):=by
     have h1:c.toNat%128<=127:=by omega
     have h2:c.toNat%128*128^i<=127*128^i:=Nat.mul_le_mul_right _ h1
     rw[Nat.pow_succ];omega
    obtain⟨v,h1,h2,h3,h4,h5,h6⟩:=FV r (i+1) _ n z (by omega) hu' h
    have h6':=h6 (by omega)
    have hd: ¬(c.toNat%128+128*v)<128:=by omega
    have e2:(c.toNat%128+128*v)*128^i=c.toNat%128*128^i+v*128^(i+1):=by
     rw[Nat.pow_succ,Nat.add_mul,Nat.mul_comm 128 v,Nat.mul_assoc,Nat.mul_comm 128 (128^i)]
    refine⟨c.toNat%128+128*v,by omega,by rw[List.length_cons];omega,?_,by rw[h4,e2];congr 1;omega,by rw[e2];omega,fun _=>by omega⟩
    rw[zl hd]
    have e1:z-i=(z-(i+1))+1:=by omega
    rw[e1,List.take_succ_cons,h3,show(c.toNat%128+128*v)/128=v by omega,show(c.toNat%128+128*v)%128+128=c.toNat by omega,UInt8.ofNat_toNat]
   ·rename_i hsm
    split at h
    ·simp at h
    ·rename_i h0
     injection h with h1 h2
     injection h2 with h2 h3
     subst h1 h2
     have e1:i+1-i=1:=by omega
     refine⟨c.toNat,by omega,by rw[e1,List.length_cons];omega,?_,by rw[Nat.mod_eq_of_lt (by omega)],?_,fun h=>by omega⟩
     ·rw[e1,List.take_succ_cons,List.take_zero,qG (by omega),UInt8.ofNat_toNat]
     ·have hp:i=9\/i<=8:=by omega
      rcases hp with rfl|hp
      ·have:c.toNat<=1:=by have:=fun h=>h9 ⟨rfl,h⟩;omega
       rw[LP]at*
       have:c.toNat*9223372036854775808<=1*9223372036854775808:=Nat.mul_le_mul_right _ this
       omega
      ·have h1:128^i<=128^8:=Nat.pow_le_pow_right (by omega) hp
       have h2:c.toNat*128^i<=127*128^i:=Nat.mul_le_mul_right _ (by omega)
       have h3:(128:Nat)^8=72057594037927936:=by decide
       omega
theorem adB {l:List UInt8}{n:Int}{z:Nat}(h:tk l=(n,z,0)):0<z/\z<=l.length/\l.take z=iO (gV n)/\aI n:=by
 obtain⟨v,h1,h2,h3,h4,h5,_⟩:=FV l 0 0 n z (by omega) (by simp) h
 simp only[Nat.pow_zero,Nat.mul_one,Nat.zero_add,Nat.sub_zero]at*
 refine⟨h1,h2,?_,?_⟩
 ·rw[h3,h4,Oq]
 ·rw[h4];exact Xb h5
theorem xR {n lo hi:Int}(h:aI n)(h1:lo<=n)(h2:n<=hi)(r:List UInt8):num lo hi (iO (gV n)++r)= .ok n r:=by
 unfold num
 rw[aay h r]
 simp only[ne_eq,not_true,if_false]
 rw[if_neg (by omega)]
 simp
theorem zW {n lo hi:Int}{l r:List UInt8}(h:num lo hi l= .ok n r):l=iO (gV n)++r/\aI n/\lo<=n/\n<=hi:=by
 unfold num at h
 split at h
 ·cases h
 ·rename_i h0
  split at h
  ·cases h
  ·rename_i h1
   injection h with h2 h3
   have hh:tk l=(n,(tk l).2.1,0):=by
    rw[<-h2]
    have:(tk l).2.2=0:=by omega
    rw[<-this]
   obtain⟨_,_,h4,h5⟩:=adB hh
   refine⟨?_,h5,by omega,by omega⟩
   rw[<-h4,<-h3,List.take_append_drop]
theorem aI.in {n:Int}(h:aI n):bQ<=n/\n<=hi64:=h
theorem L9: ∀(ns:List Int)(r:List UInt8),(∀n∈ns,aI n)->nums ns.length (bf ns++r)= .ok ns r
 |[],r,_=>rfl
 |n::ns,r,h=>by
  have e:bf (n::ns)++r=iO (gV n)++(bf ns++r):=by unfold bf;rw[List.flatMap_cons,List.append_assoc]
  have h1:=h n (by simp)
  rw[e,List.length_cons,nums,xR h1 h1.in.1 h1.in.2]
  simp only[Rd.bind]
  rw[L9 ns r (fun m hm=>h m (by simp[hm]))]
theorem PS: ∀(k:Nat)(l:List UInt8)(ns:List Int)(r:List UInt8),nums k l= .ok ns r->l=bf ns++r/\(∀n∈ns,aI n)/\ns.length=k
 |0,l,ns,r,h=>by
  injection h with h1 h2
  subst h1 h2
  simp[bf]
 |k+1,l,ns,r,h=>by
  unfold nums at h
  cases h1:num bQ hi64 l with
  |err e=>rw[h1]at h;cases h
  |ok n r1=>
   rw[h1]at h
   simp only[Rd.bind]at h
   cases h2:nums k r1 with
   |err e=>rw[h2]at h;cases h
   |ok ms r2=>
    rw[h2]at h
    injection h with h3 h4
    subst h3 h4
    obtain⟨a1,a2,_⟩:=zW h1
    obtain⟨b1,b2,b3⟩:=PS k r1 ms r2 h2
    refine⟨?_,fun m hm=>?_,by simp[b3]⟩
    ·rw[a1,b1];unfold bf;rw[List.flatMap_cons,List.append_assoc]
    ·rcases List.mem_cons.1 hm with rfl|hm
     ·exact a2
     ·exact b2 m hm
theorem aaF {p:Int×Cell}(h:aI p.1)(hc:ER p.2)(r:List UInt8):row (bf (iW p)++r)= .ok p r:=by
 have hl:aI (p.2.2.length:Int):=by have:=hc.2.2;exact .small (by omega) (by omega)
 have e:bf (iW p)++r=iO (gV p.1)++(iO (gV p.2.1)++(iO (gV (p.2.2.length:Int))++(bf p.2.2++r))):=by
  unfold iW bf;simp only[List.flatMap_cons,List.append_assoc]
 rw[e,row,xR h h.in.1 h.in.2]
 simp only[Rd.bind]
 rw[xR hc.1 hc.1.in.1 hc.1.in.2]
 simp only
 rw[xR hl (by omega) (by have:=hc.2.2;omega)]
 simp only[Int.toNat_natCast]
 rw[L9 p.2.2 r hc.2.1]
theorem LD {l r:List UInt8}{p:Int×Cell}(h:row l= .ok p r):l=bf (iW p)++r/\aI p.1/\ER p.2:=by
 unfold row at h
 cases h1:num bQ hi64 l with
 |err e=>rw[h1]at h;cases h
 |ok key r1=>
  rw[h1]at h
  simp only[Rd.bind]at h
  cases h2:num bQ hi64 r1 with
  |err e=>rw[h2]at h;cases h
  |ok acc r2=>
   rw[h2]at h
   simp only at h
   cases h3:num 0 16 r2 with
   |err e=>rw[h3]at h;cases h
   |ok n r3=>
    rw[h3]at h
    simp only at h
    cases h4:nums n.toNat r3 with
    |err e=>rw[h4]at h;cases h
    |ok ns r4=>
     rw[h4]at h
     injection h with h5 h6
     subst h5 h6
     obtain⟨a1,a2,_⟩:=zW h1
     obtain⟨b1,b2,_⟩:=zW h2
     obtain⟨c1,c2,c3,c4⟩:=zW h3
     obtain⟨d1,d2,d3⟩:=PS _ _ _ _ h4
     refine⟨?_,a2,b2,d2,by show ns.length<=16;omega⟩
     rw[a1,b1,c1,d1]
     have e:(ns.length:Int)=n:=by omega
     unfold iW bf;simp only[List.flatMap_cons,List.append_assoc,e]
theorem dG.snoc {T:Tab}{p:Int×Cell}(h:dG (T++[p])):dG T/\jw T p.1=decide (bG T (grp p.1)<40):=by
 unfold dG at h⊢
 rw[List.pairwise_append]at h
 refine⟨h.1,?_⟩
 unfold jw
 cases hl:T.getLast? with
 |none=>simp
 |some q=>
  have:=h.2.2 q (List.mem_of_getLast? hl) p (by simp)
  simp only[this,Bool.true_and]
theorem dG.push {T:Tab}{p:Int×Cell}(h:dG T)(hm:jw T p.1=true):dG (T++[p]):=by
 unfold jw at hm
 unfold dG at h⊢
 rw[List.pairwise_append]
 refine⟨h,by simp,fun a ha b hb=>?_⟩
 cases List.mem_singleton.1 hb
 rw[Bool.and_eq_true]at hm
 cases hl:T.getLast? with
 |none=>rw[List.getLast?_eq_none_iff]at hl;subst hl;cases ha
 |some q=>
  have hq:dD q.1 p.1=true:=by have:=hm.1;rw[hl]at this;exact this
  obtain⟨ys,rfl⟩: ∃ys,T=ys++[q]:=List.getLast?_eq_some_iff.1 hl
  rcases List.mem_append.1 ha with ha|ha
  ·rw[List.pairwise_append]at h
   exact mX (h.2.2 a ha q (by simp)) hq
  ·cases List.mem_singleton.1 ha;exact hq
theorem DC (T:Tab)(p:Int×Cell)(g:Int):bG (T++[p]) g=bG T g+if grp p.1=g then 1 else 0:=by
 unfold bG
 rw[List.countP_append]
 simp[List.countP_cons]
theorem dR.push {T:Tab}{p:Int×Cell}(h:dR T)(h1:aI p.1)(h2:ER p.2)(hm:jw T p.1=true):dR (T++[p]):=by
 refine⟨h.rises.push hm,fun q hq=>?_,fun q hq=>?_,fun g=>?_⟩
 ·rcases List.mem_append.1 hq with hq|hq
  ·exact h.key q hq
  ·cases List.mem_singleton.1 hq;exact h1
 ·rcases List.mem_append.1 hq with hq|hq
  ·exact h.cell q hq
  ·cases List.mem_singleton.1 hq;exact h2
 ·rw[DC]
  unfold jw at hm
  rw[Bool.and_eq_true]at hm
  have:=of_decide_eq_true hm.2
  split
  ·rename_i e;subst e;omega
  ·have:=h.many g;omega
theorem dR.pre {T U:Tab}(h:dR (T++U)):dR T:=
 ⟨h.rises.sublist (List.sublist_append_left _ _),fun p hp=>h.key p (by simp[hp]),fun p hp=>h.cell p (by simp[hp]),fun g=>Nat.le_trans (List.Sublist.countP_le (List.sublist_append_left T U)) (h.many g)⟩
theorem Gm: ∀(U T:Tab)(r:List UInt8),dR (T++U)->iq U.length T (bf (U.flatMap iW)++r)= .ok (T++U) r
 |[],T,r,_=>by simp[iq,bf]
 |p::U,T,r,h=>by
  have e:bf ((p::U).flatMap iW)++r=bf (iW p)++(bf (U.flatMap iW)++r):=by rw[List.flatMap_cons,rJ,List.append_assoc]
  have hp:T++p::U=(T++[p])++U:=by simp
  rw[hp]at h
  have h1:=h.pre
  have hmr:jw T p.1=true:=by
   rw[h1.rises.snoc.2]
   have:=h1.many (grp p.1)
   rw[DC,if_pos rfl]at this
   exact decide_eq_true (by omega)
  rw[e,List.length_cons,iq,aaF (h1.key p (by simp)) (h1.cell p (by simp))]
  simp only[Rd.bind]
  rw[hmr,if_pos rfl,Gm U (T++[p]) r h,hp]
theorem Lu: ∀(k:Nat)(T:Tab)(l:List UInt8)(V:Tab)(r:List UInt8),dR T->iq k T l= .ok V r->dR V/\ ∃U,V=T++U/\U.length=k/\l=bf (U.flatMap iW)++r
 |0,T,l,V,r,hT,h=>by
  injection h with h1 h2
  subst h1 h2
  exact⟨hT,[],by simp,rfl,by simp[bf]⟩
 |k+1,T,l,V,r,hT,h=>by
  unfold iq at h
  cases h1:row l with
  |err e=>rw[h1]at h;cases h
  |ok p r1=>
   rw[h1]at h
   simp only[Rd.bind]at h
   split at h
   ·rename_i hm
    obtain⟨a1,a2,a3⟩:=LD h1
    obtain⟨b1,U,b2,b3,b4⟩:=Lu k _ _ _ _ (hT.push a2 a3 hm) h
    refine⟨b1,p::U,by rw[b2];simp,by simp[b3],?_⟩
    rw[a1,b4,List.flatMap_cons,rJ,List.append_assoc]
   ·cases h
theorem zK {T:Tab}(h:dR T):lG (bf (pz T))= .ok T []:=by
 have e:bf (pz T)=iO (gV (T.length:Int))++(bf (T.flatMap iW)++[]):=by unfold pz bf;rw[List.flatMap_cons,List.append_nil]
 have hl:=h.len
 rw[e,lG,xR (.small (by omega) (by omega)) (by omega) (by omega)]
 simp only[Rd.bind,Int.toNat_natCast]
 rw[Gm T [] [] h]
 simp
theorem dR.nil:dR []:=⟨by simp[dG],by simp,by simp,fun g=>by simp[bG]⟩
theorem Xy {l r:List UInt8}{T:Tab}(h:lG l= .ok T r):dR T/\l=bf (pz T):=by
 unfold lG at h
 cases h1:num 0 320 l with
 |err e=>rw[h1]at h;cases h
 |ok n r1=>
  rw[h1]at h
  simp only[Rd.bind]at h
  cases h2:iq n.toNat [] r1 with
  |err e=>rw[h2]at h;cases h
  |ok V r2=>
   rw[h2]at h
   simp only at h
   split at h
   ·rename_i hr
    injection h with h3 h4
    subst h3
    obtain⟨a1,a2,a3,a4⟩:=zW h1
    obtain⟨b1,U,b2,b3,b4⟩:=Lu _ _ _ _ _ dR.nil h2
    refine⟨b1,?_⟩
    rw[List.nil_append]at b2
    subst b2
    rw[a1,b4,hr]
    have e:(V.length:Int)=n:=by omega
    unfold pz bf;rw[List.flatMap_cons,List.append_nil,e]
   ·cases h
end Go.Proofs.YtopeleenlcnkkaaGreatDoor
