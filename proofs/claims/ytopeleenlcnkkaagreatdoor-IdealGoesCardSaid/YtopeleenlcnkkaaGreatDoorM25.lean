/- PLAIN WORDS, no program in sight: numbers and tables as bytes, put and taken. -/
import Derived.Test.YtopeleenlcnkkaaGreatDoorM06
set_option linter.unusedVariables false
set_option linter.unusedSimpArgs false
set_option maxHeartbeats 1000000
set_option maxRecDepth 100000
namespace Go.Proofs.YtopeleenlcnkkaaGreatDoor
section
open Go Go.RowKit
def fJ (n:Int):Nat:=if 0<=n then(2*n).toNat else(-2*n-1).toNat
theorem J7 {n:Int}(h:aK n):fJ n<18446744073709551616:=by
 unfold fJ;unfold aK at h;split<;>omega
def iw (u:Nat):List UInt8:=if u<128 then[UInt8.ofNat u]else UInt8.ofNat (u%128+128)::iw (u/128)
termination_by u
decreasing_by omega
theorem qP {u:Nat}(h:u<128):iw u=[UInt8.ofNat u]:=by rw[iw,if_pos h]
theorem yN {u:Nat}(h: ¬u<128):iw u=UInt8.ofNat (u%128+128)::iw (u/128):=by rw[iw,if_neg h]
def aV (l:List Int):List UInt8:=l.flatMap fun n=>iw (fJ n)
theorem MB: ∀(j u:Nat),u<128^(j+1)->(iw u).length<=j+1
 |0,u,h=>by rw[qP (by simpa using h)];simp
 |j+1,u,h=>by
  by_cases hu:u<128
  ·rw[qP hu];simp
  ·rw[yN hu,List.length_cons]
   have:=MB j (u/128) (by rw[Nat.pow_succ]at h;exact Nat.div_lt_of_lt_mul (by rw[Nat.mul_comm];exact h))
   omega
theorem Ci {n:Int}(h:aK n):(iw (fJ n)).length<=10:=MB 9 _ (Nat.lt_of_lt_of_le (J7 h) (by decide))
theorem rF {l:List Int}(h: ∀n∈l,aK n):(aV l).length<=10*l.length:=by
 unfold aV
 induction l with
 |nil=>simp
 |cons x l ih=>
  have h1:=Ci (h x (by simp))
  have h2:=ih (fun n hn=>h n (by simp[hn]))
  simp only[List.flatMap_cons,List.length_append,List.length_cons];omega
theorem TN {l:List Int}{k:Nat}{x:Int}(h:l[k]?=some x):aV (l.take (k+1))=aV (l.take k)++iw (fJ x):=by
 unfold aV;rw[List.take_add_one,h,List.flatMap_append];simp
def strOf (l:List UInt8):ByteArray:=⟨l.toArray⟩
theorem zf (l m:List UInt8):strOf l++strOf m=strOf (l++m):=by
 simp[strOf,ByteArray.ext_iff]
theorem CX (l:List UInt8):(strOf l).size=l.length:=rfl
def iK (p:Int×Cell):List Int:=p.1::p.2.1::(p.2.2.length:Int)::p.2.2
def lq (T:Tab):List Int:=(T.length:Int)::T.flatMap iK
theorem rZ (l m:List Int):aV (l++m)=aV l++aV m:=by unfold aV;rw[List.flatMap_append]
theorem TG {T:Tab}{k:Nat}{p:Int×Cell}(h:T[k]?=some p):(T.take (k+1)).flatMap iK=(T.take k).flatMap iK++iK p:=by
 rw[List.take_add_one,h,List.flatMap_append];simp
theorem rows_ok {T:Tab}(h: ∀p∈T,aK p.1)(hc: ∀p∈T,Ed p.2):(∀n∈T.flatMap iK,aK n)/\(T.flatMap iK).length<=19*T.length:=by
 induction T with
 |nil=>simp
 |cons p T ih=>
  obtain⟨i1,i2⟩:=ih (fun q hq=>h q (by simp[hq])) (fun q hq=>hc q (by simp[hq]))
  have c:=hc p (by simp)
  refine⟨fun n hn=>?_,?_⟩
  ·rw[List.flatMap_cons]at hn
   rcases List.mem_append.1 hn with hn|hn
   ·unfold iK at hn
    simp only[List.mem_cons]at hn
    rcases hn with rfl|rfl|rfl|hn
    ·exact h p (by simp)
    ·exact c.1
    ·have:=c.2.2;exact .small (by omega) (by omega)
    ·exact c.2.1 n hn
   ·exact i1 n hn
  ·rw[List.flatMap_cons,List.length_append]
   have:=c.2.2
   simp only[iK,List.length_cons]at*
   omega
def mX (u:Nat):Int:=if u%2=0 then((u/2:Nat):Int)else-((u/2:Nat):Int)-1
def jT (i u:Nat):List UInt8->Int×Nat×Int
 |[]=>(0,0,20)
 |c::r=>
  if i=9/\1<c.toNat then(0,0,21)
  else if 128<=c.toNat then jT (i+1) (u+c.toNat%128*128^i) r
  else if c.toNat=0/\0<i then(0,0,21)
  else(mX (u+c.toNat%128*128^i),i+1,0)
def tk (l:List UInt8):Int×Nat×Int:=jT 0 0 l
theorem KF:128^9=9223372036854775808:=by decide
inductive Rd (α:Type) where
 |ok (a:α) (r:List UInt8)
 |err (e:Int)
def Rd.bind {α β:Type}(x:Rd α)(f:α->List UInt8->Rd β):Rd β:=match x with| .ok a r=>f a r| .err e=> .err e
def num (lo hi:Int)(l:List UInt8):Rd Int:=
 if(tk l).2.2≠0 then .err (tk l).2.2 else if(tk l).1<lo\/hi<(tk l).1 then .err 21 else .ok (tk l).1 (l.drop (tk l).2.1)
def bP:Int:= -9223372036854775808
def hi64:Int:=9223372036854775807
def nums:Nat->List UInt8->Rd (List Int)
 |0,l=> .ok [] l
 |k+1,l=>(num bP hi64 l).bind fun n r=>(nums k r).bind fun ns r=> .ok (n::ns) r
def row (l:List UInt8):Rd (Int×Cell):=
 (num bP hi64 l).bind fun key r=>(num bP hi64 r).bind fun acc r=>(num 0 16 r).bind fun n r=>(nums n.toNat r).bind fun ns r=> .ok (key,(acc,ns)) r
def je (T:Tab)(key:Int):Bool:=(match T.getLast? with|some p=>dh p.1 key|none=>true)&&decide (bG T (grp key)<40)
def fZ:Nat->Tab->List UInt8->Rd Tab
 |0,T,l=> .ok T l
 |k+1,T,l=>(row l).bind fun p r=>if je T p.1 then fZ k (T++[p]) r else .err 21
def jE (l:List UInt8):Rd Tab:=(num 0 320 l).bind fun n r=>(fZ n.toNat [] r).bind fun T r=>if r=[]then .ok T []else .err 21
theorem OC {lo hi:Int}{l:List UInt8}{f:Int}(h:num lo hi l= .err f):f≠0:=by
 unfold num at h
 split at h
 ·rename_i h0;injection h with h;subst h;exact h0
 ·split at h
  ·injection h with h;subst h;decide
  ·cases h
theorem Og {n:Int}:mX (fJ n)=n:=by
 unfold mX fJ
 split<;>split<;>omega
theorem Nj {u:Nat}:fJ (mX u)=u:=by
 unfold mX fJ
 split<;>split<;>omega
theorem Vy {u:Nat}(h:u<18446744073709551616):aK (mX u):=by
 unfold mX aK
 split<;>omega
theorem byte_toNat {q:Nat}(h:q<256):(UInt8.ofNat q).toNat=q:=UInt8.toNat_ofNat_of_lt' (by simpa using h)
theorem Nl: ∀(v i u:Nat)(r:List UInt8),i<=9->v*128^i<18446744073709551616->(0<i->0<v)->
 jT i u (iw v++r)=(mX (u+v*128^i),i+(iw v).length,0):=by
 intro v
 induction v using Nat.strongRecOn with
 |ind v ih=>
  intro i u r hi hv h0
  by_cases hs:v<128
  ·rw[qP hs]
   simp only[List.cons_append,List.nil_append,jT,List.length_singleton]
   rw[byte_toNat (by omega),if_neg,if_neg (by omega),if_neg (by omega),Nat.mod_eq_of_lt hs]
   rintro⟨rfl,h1⟩
   rw[KF]at hv
   omega
  ·have hi9:i≠9:=by
    rintro rfl
    rw[KF]at hv
    omega
   rw[yN hs]
   simp only[List.cons_append,jT,List.length_cons]
   rw[byte_toNat (by omega),if_neg (fun h=>hi9 h.1),if_pos (by omega)]
   have e1:(v%128+128)%128=v%128:=by omega
   have e2:v/128*128^(i+1)+v%128*128^i=v*128^i:=by
    rw[Nat.pow_succ,Nat.mul_comm (128^i) 128,<-Nat.mul_assoc,<-Nat.add_mul]
    congr 1;omega
   rw[ih (v/128) (by omega) (i+1) _ r (by omega) (by omega) (by omega),e1]
   have e3:u+v%128*128^i+v/128*128^(i+1)=u+v*128^i:=by omega
   rw[e3]
   have e4:i+1+(iw (v/128)).length=i+((iw (v/128)).length+1):=by omega
   rw[e4]
theorem Zn {n:Int}(h:aK n)(r:List UInt8):tk (iw (fJ n)++r)=(n,(iw (fJ n)).length,0):=by
 unfold tk
 rw[Nl _ 0 0 r (by omega) (by have:=J7 h;simpa using this) (by omega)]
 simp[Og]
theorem EX: ∀(l:List UInt8)(i u:Nat)(n:Int)(z:Nat),i<=9->u<128^i->jT i u l=(n,z,0)->
 ∃v,i<z/\z-i<=l.length/\l.take (z-i)=iw v/\n=mX (u+v*128^i)/\u+v*128^i<18446744073709551616/\(0<i->0<v)
 |[],i,u,n,z,_,_,h=>by simp[jT]at h
 |c::r,i,u,n,z,hi,hu,h=>by
  have hc:=c.toNat_lt
  unfold jT at h
  split at h
  ·simp at h
  ·rename_i h9
   split at h
   ·rename_i hbig
    have hi9:i≠9:=by rintro rfl;exact h9 ⟨rfl,by omega⟩
    have hu':u+c.toNat%128*128^i<128^(i+1):=by
     have h1:c.toNat%128<=127:=by omega
     have h2:c.toNat%128*128^i<=127*128^i:=Nat.mul_le_mul_right _ h1
     rw[Nat.pow_succ];omega
    obtain⟨v,h1,h2,h3,h4,h5,h6⟩:=EX r (i+1) _ n z (by omega) hu' h
    have h6':=h6 (by omega)
    have hd: ¬(c.toNat%128+128*v)<128:=by omega
    have e2:(c.toNat%128+128*v)*128^i=c.toNat%128*128^i+v*128^(i+1):=by
     rw[Nat.pow_succ,Nat.add_mul,Nat.mul_comm 128 v,Nat.mul_assoc,Nat.mul_comm 128 (128^i)]
    refine⟨c.toNat%128+128*v,by omega,by rw[List.length_cons];omega,?_,by rw[h4,e2];congr 1;omega,by rw[e2];omega,fun _=>by omega⟩
    rw[yN hd]
    have e1:z-i=(z-(i+1))+1:=by omega
    rw[e1,List.take_succ_cons,h3,show(c.toNat%128+128*v)/128=v by omega,show(c.toNat%128+128*v)%128+128=c.toNat by omega,UInt8.ofNat_toNat]
   ·rename_i hsm
    split at h
    ·simp at h
    ·rename_i h0
     injection h with h1 h2
     injection h2 with h2 h3
     subst h1 h2
     have e1:i+1-i=1:=by omega
     refine⟨c.toNat,by omega,by rw[e1,List.length_cons];omega,?_,by rw[Nat.mod_eq_of_lt (by omega)],?_,fun h=>by omega⟩
     ·rw[e1,List.take_succ_cons,List.take_zero,qP (by omega),UInt8.ofNat_toNat]
     ·have hp:i=9\/i<=8:=by omega
      rcases hp with rfl|hp
      ·have:c.toNat<=1:=by have:=fun h=>h9 ⟨rfl,h⟩;omega
       rw[KF]at*
       have:c.toNat*9223372036854775808<=1*9223372036854775808:=Nat.mul_le_mul_right _ this
       omega
      ·have h1:128^i<=128^8:=Nat.pow_le_pow_right (by omega) hp
       have h2:c.toNat*128^i<=127*128^i:=Nat.mul_le_mul_right _ (by omega)
       have h3:(128:Nat)^8=72057594037927936:=by decide
       omega
theorem acz {l:List UInt8}{n:Int}{z:Nat}(h:tk l=(n,z,0)):0<z/\z<=l.length/\l.take z=iw (fJ n)/\aK n:=by
 obtain⟨v,h1,h2,h3,h4,h5,_⟩:=EX l 0 0 n z (by omega) (by simp) h
 simp only[Nat.pow_zero,Nat.mul_one,Nat.zero_add,Nat.sub_zero]at*
 refine⟨h1,h2,?_,?_⟩
 ·rw[h3,h4,Nj]
 ·rw[h4];exact Vy h5
theorem xC {n lo hi:Int}(h:aK n)(h1:lo<=n)(h2:n<=hi)(r:List UInt8):num lo hi (iw (fJ n)++r)= .ok n r:=by
 unfold num
 rw[Zn h r]
 simp only[ne_eq,not_true,if_false]
 rw[if_neg (by omega)]
 simp
theorem zq {n lo hi:Int}{l r:List UInt8}(h:num lo hi l= .ok n r):l=iw (fJ n)++r/\aK n/\lo<=n/\n<=hi:=by
 unfold num at h
 split at h
 ·cases h
 ·rename_i h0
  split at h
  ·cases h
  ·rename_i h1
   injection h with h2 h3
   have hh:tk l=(n,(tk l).2.1,0):=by
    rw[<-h2]
    have:(tk l).2.2=0:=by omega
    rw[<-this]
   obtain⟨_,_,h4,h5⟩:=acz hh
   refine⟨?_,h5,by omega,by omega⟩
   rw[<-h4,<-h3,List.take_append_drop]
theorem aK.in {n:Int}(h:aK n):bP<=n/\n<=hi64:=h
theorem KL: ∀(ns:List Int)(r:List UInt8),(∀n∈ns,aK n)->nums ns.length (aV ns++r)= .ok ns r
 |[],r,_=>rfl
 |n::ns,r,h=>by
  have e:aV (n::ns)++r=iw (fJ n)++(aV ns++r):=by unfold aV;rw[List.flatMap_cons,List.append_assoc]
  have h1:=h n (by simp)
  rw[e,List.length_cons,nums,xC h1 h1.in.1 h1.in.2]
  simp only[Rd.bind]
  rw[KL ns r (fun m hm=>h m (by simp[hm]))]
theorem OA: ∀(k:Nat)(l:List UInt8)(ns:List Int)(r:List UInt8),nums k l= .ok ns r->l=aV ns++r/\(∀n∈ns,aK n)/\ns.length=k
 |0,l,ns,r,h=>by
  injection h with h1 h2
  subst h1 h2
  simp[aV]
 |k+1,l,ns,r,h=>by
  unfold nums at h
  cases h1:num bP hi64 l with
  |err e=>rw[h1]at h;cases h
  |ok n r1=>
   rw[h1]at h
   simp only[Rd.bind]at h
   cases h2:nums k r1 with
   |err e=>rw[h2]at h;cases h
   |ok ms r2=>
    rw[h2]at h
    injection h with h3 h4
    subst h3 h4
    obtain⟨a1,a2,_⟩:=zq h1
    obtain⟨b1,b2,b3⟩:=OA k r1 ms r2 h2
    refine⟨?_,fun m hm=>?_,by simp[b3]⟩
    ·rw[a1,b1];unfold aV;rw[List.flatMap_cons,List.append_assoc]
    ·rcases List.mem_cons.1 hm with rfl|hm
     ·exact a2
     ·exact b2 m hm
theorem Zu {p:Int×Cell}(h:aK p.1)(hc:Ed p.2)(r:List UInt8):row (aV (iK p)++r)= .ok p r:=by
 have hl:aK (p.2.2.length:Int):=by have:=hc.2.2;exact .small (by omega) (by omega)
 have e:aV (iK p)++r=iw (fJ p.1)++(iw (fJ p.2.1)++(iw (fJ (p.2.2.length:Int))++(aV p.2.2++r))):=by
  unfold iK aV;simp only[List.flatMap_cons,List.append_assoc]
 rw[e,row,xC h h.in.1 h.in.2]
 simp only[Rd.bind]
 rw[xC hc.1 hc.1.in.1 hc.1.in.2]
 simp only
 rw[xC hl (by omega) (by have:=hc.2.2;omega)]
 simp only[Int.toNat_natCast]
 rw[KL p.2.2 r hc.2.1]
theorem Ky {l r:List UInt8}{p:Int×Cell}(h:row l= .ok p r):l=aV (iK p)++r/\aK p.1/\Ed p.2:=by
 unfold row at h
 cases h1:num bP hi64 l with
 |err e=>rw[h1]at h;cases h
 |ok key r1=>
  rw[h1]at h
  simp only[Rd.bind]at h
  cases h2:num bP hi64 r1 with
  |err e=>rw[h2]at h;cases h
  |ok acc r2=>
   rw[h2]at h
   simp only at h
   cases h3:num 0 16 r2 with
   |err e=>rw[h3]at h;cases h
   |ok n r3=>
    rw[h3]at h
    simp only at h
    cases h4:nums n.toNat r3 with
    |err e=>rw[h4]at h;cases h
    |ok ns r4=>
     rw[h4]at h
     injection h with h5 h6
     subst h5 h6
     obtain⟨a1,a2,_⟩:=zq h1
     obtain⟨b1,b2,_⟩:=zq h2
     obtain⟨c1,c2,c3,c4⟩:=zq h3
     obtain⟨d1,d2,d3⟩:=OA _ _ _ _ h4
     refine⟨?_,a2,b2,d2,by show ns.length<=16;omega⟩
     rw[a1,b1,c1,d1]
     have e:(ns.length:Int)=n:=by omega
     unfold iK aV;simp only[List.flatMap_cons,List.append_assoc,e]
theorem bT.snoc {T:Tab}{p:Int×Cell}(h:bT (T++[p])):bT T/\je T p.1=decide (bG T (grp p.1)<40):=by
 unfold bT at h⊢
 rw[List.pairwise_append]at h
 refine⟨h.1,?_⟩
 unfold je
 cases hl:T.getLast? with
 |none=>simp
 |some q=>
  have:=h.2.2 q (List.mem_of_getLast? hl) p (by simp)
  simp only[this,Bool.true_and]
theorem bT.push {T:Tab}{p:Int×Cell}(h:bT T)(hm:je T p.1=true):bT (T++[p]):=by
 unfold je at hm
 unfold bT at h⊢
 rw[List.pairwise_append]
 refine⟨h,by simp,fun a ha b hb=>?_⟩
 cases List.mem_singleton.1 hb
 rw[Bool.and_eq_true]at hm
 cases hl:T.getLast? with
 |none=>rw[List.getLast?_eq_none_iff]at hl;subst hl;cases ha
 |some q=>
  have hq:dh q.1 p.1=true:=by have:=hm.1;rw[hl]at this;exact this
  obtain⟨ys,rfl⟩: ∃ys,T=ys++[q]:=List.getLast?_eq_some_iff.1 hl
  rcases List.mem_append.1 ha with ha|ha
  ·rw[List.pairwise_append]at h
   exact mG (h.2.2 a ha q (by simp)) hq
  ·cases List.mem_singleton.1 ha;exact hq
theorem CQ (T:Tab)(p:Int×Cell)(g:Int):bG (T++[p]) g=bG T g+if grp p.1=g then 1 else 0:=by
 unfold bG
 rw[List.countP_append]
 simp[List.countP_cons]
theorem dB.push {T:Tab}{p:Int×Cell}(h:dB T)(h1:aK p.1)(h2:Ed p.2)(hm:je T p.1=true):dB (T++[p]):=by
 refine⟨h.rises.push hm,fun q hq=>?_,fun q hq=>?_,fun g=>?_⟩
 ·rcases List.mem_append.1 hq with hq|hq
  ·exact h.key q hq
  ·cases List.mem_singleton.1 hq;exact h1
 ·rcases List.mem_append.1 hq with hq|hq
  ·exact h.cell q hq
  ·cases List.mem_singleton.1 hq;exact h2
 ·rw[CQ]
  unfold je at hm
  rw[Bool.and_eq_true]at hm
  have:=of_decide_eq_true hm.2
  split
  ·rename_i e;subst e;omega
  ·have:=h.many g;omega
theorem dB.pre {T U:Tab}(h:dB (T++U)):dB T:=
 ⟨h.rises.sublist (List.sublist_append_left _ _),fun p hp=>h.key p (by simp[hp]),fun p hp=>h.cell p (by simp[hp]),fun g=>Nat.le_trans (List.Sublist.countP_le (List.sublist_append_left T U)) (h.many g)⟩
theorem Fq: ∀(U T:Tab)(r:List UInt8),dB (T++U)->fZ U.length T (aV (U.flatMap iK)++r)= .ok (T++U) r
 |[],T,r,_=>by simp[fZ,aV]
 |p::U,T,r,h=>by
  have e:aV ((p::U).flatMap iK)++r=aV (iK p)++(aV (U.flatMap iK)++r):=by rw[List.flatMap_cons,rZ,List.append_assoc]
  have hp:T++p::U=(T++[p])++U:=by simp
  rw[hp]at h
  have h1:=h.pre
  have hmr:je T p.1=true:=by
   rw[h1.rises.snoc.2]
   have:=h1.many (grp p.1)
   rw[CQ,if_pos rfl]at this
   exact decide_eq_true (by omega)
  rw[e,List.length_cons,fZ,Zu (h1.key p (by simp)) (h1.cell p (by simp))]
  simp only[Rd.bind]
  rw[hmr,if_pos rfl,Fq U (T++[p]) r h,hp]
theorem Kv: ∀(k:Nat)(T:Tab)(l:List UInt8)(V:Tab)(r:List UInt8),dB T->fZ k T l= .ok V r->dB V/\ ∃U,V=T++U/\U.length=k/\l=aV (U.flatMap iK)++r
 |0,T,l,V,r,hT,h=>by
  injection h with h1 h2
  subst h1 h2
  exact⟨hT,[],by simp,rfl,by simp[aV]⟩
 |k+1,T,l,V,r,hT,h=>by
  unfold fZ at h
  cases h1:row l with
  |err e=>rw[h1]at h;cases h
  |ok p r1=>
   rw[h1]at h
   simp only[Rd.bind]at h
   split at h
   ·rename_i hm
    obtain⟨a1,a2,a3⟩:=Ky h1
    obtain⟨b1,U,b2,b3,b4⟩:=Kv k _ _ _ _ (hT.push a2 a3 hm) h
    refine⟨b1,p::U,by rw[b2];simp,by simp[b3],?_⟩
    rw[a1,b4,List.flatMap_cons,rZ,List.append_assoc]
   ·cases h
theorem pU {T:Tab}(h:dB T):jE (aV (lq T))= .ok T []:=by
 have e:aV (lq T)=iw (fJ (T.length:Int))++(aV (T.flatMap iK)++[]):=by unfold lq aV;rw[List.flatMap_cons,List.append_nil]
 have hl:=h.len
 rw[e,jE,xC (.small (by omega) (by omega)) (by omega) (by omega)]
 simp only[Rd.bind,Int.toNat_natCast]
 rw[Fq T [] [] h]
 simp
theorem dB.nil:dB []:=⟨by simp[bT],by simp,by simp,fun g=>by simp[bG]⟩
theorem VY {l r:List UInt8}{T:Tab}(h:jE l= .ok T r):dB T/\l=aV (lq T):=by
 unfold jE at h
 cases h1:num 0 320 l with
 |err e=>rw[h1]at h;cases h
 |ok n r1=>
  rw[h1]at h
  simp only[Rd.bind]at h
  cases h2:fZ n.toNat [] r1 with
  |err e=>rw[h2]at h;cases h
  |ok V r2=>
   rw[h2]at h
   simp only at h
   split at h
   ·rename_i hr
    injection h with h3 h4
    subst h3
    obtain⟨a1,a2,a3,a4⟩:=zq h1
    obtain⟨b1,U,b2,b3,b4⟩:=Kv _ _ _ _ _ dB.nil h2
    refine⟨b1,?_⟩
    rw[List.nil_append]at b2
    subst b2
    rw[a1,b4,hr]
    have e:(V.length:Int)=n:=by omega
    unfold lq aV;rw[List.flatMap_cons,List.append_nil,e]
   ·cases h
theorem VP {a:Nat}(h:a<2^64):a^^^(2^64-1)=2^64-1-a:=by
 have:= @BitVec.toNat_not 64 (BitVec.ofNat 64 a)
 have h2:=BitVec.xor_allOnes (x:=BitVec.ofNat 64 a)
 rw[<-h2,BitVec.toNat_xor,BitVec.toNat_allOnes,BitVec.toNat_ofNat,Nat.mod_eq_of_lt h]at this
 exact this
theorem SY {n:Int}(h: -9223372036854775808<=n/\n<=9223372036854775807):
 bits BinOp.xor IntKind.u64 (IntKind.u64.wrap (IntKind.u64.wrap n*2)) (IntKind.u64.wrap (n/9223372036854775808))=((fJ n:Nat):Int):=by
 rw[IntKind.wrap_u64,IntKind.wrap_u64,IntKind.wrap_u64]
 by_cases h0:0<=n
 ·obtain⟨m,rfl⟩:=Int.eq_ofNat_of_zero_le h0
  rw[show((m:Int)%18446744073709551616*2%18446744073709551616)=((2*m:Nat):Int) by omega,show((m:Int)/9223372036854775808%18446744073709551616)=((0:Nat):Int) by omega,
   bits_xor_u64_nat _ _ (by omega) (by omega),Nat.xor_zero]
  unfold fJ;rw[if_pos h0];omega
 ·obtain⟨m,hm⟩: ∃m:Nat,n= -(m:Int)-1:=⟨(-n-1).toNat,by omega⟩
  subst hm
  rw[show((-(m:Int)-1)%18446744073709551616*2%18446744073709551616)=((18446744073709551616-2-2*m:Nat):Int) by omega,
   show((-(m:Int)-1)/9223372036854775808%18446744073709551616)=((2^64-1:Nat):Int) by omega,
   bits_xor_u64_nat _ _ (by omega) (by omega),VP (by omega)]
  unfold fJ;rw[if_neg h0];omega
theorem Py (n:Int)(h:aK n)(w:World):Calls Tryz.prog 114 #[.int .i64 n] w fun e w'=>e= .returned (.int .u64 (fJ n))/\w=w':=by
 unfold aK at h
 have e:=SY h
 go_enter Tryz.func114,Tryz.ntmps114
 go_wp2
 go_ret
 exact⟨rfl,rfl⟩
def vH (l:List UInt8):List Value:=l.map fun x=> .int .u8 x.toNat
theorem aao:(List.range 256).all (fun a=>bits BinOp.or IntKind.u8 (a:Int) 128==((a%128+128:Nat):Int))=true:=by kernel_rfl
theorem aap (u:Nat):bits BinOp.or IntKind.u8 ((u:Int)%256) 128=((u%128+128:Nat):Int):=by
 have:=List.all_eq_true.1 aao (u%256) (List.mem_range.2 (Nat.mod_lt _ (by omega)))
 rw[beq_iff_eq]at this
 rw[show((u:Int)%256)=((u%256:Nat):Int) by omega,this]
 congr 1;omega
@[simp] theorem wV (l:List UInt8):(vH l).length=l.length:=by simp[vH]
theorem Vr {q:Nat}(h:q<256):Value.int .u8 (q:Int)= .int .u8 ((UInt8.ofNat q).toNat:Int):=by rw[UInt8.toNat_ofNat_of_lt' (by simpa using h)]
theorem KI {w:World}{base e n:Nat}{v:Value}{xs:List Value}(h:w.ownsRow base e 1 v n xs):n=xs.length:=by have:=h.1;omega
theorem Tryz.info5:(Tryz.prog.info? 5).map (fun i=>(i.zero,i.size,i.bytes))=some (some (.int .u8 0),1,1):=by kernel_rfl
theorem FD {w:World}{base e size n:Nat}{v:Value}{xs:List Value}(h:w.ownsRow base e size v n xs){b:Nat}(hb:v.ownBlock=some b):base<=b/\b<w.heap.size:=by
 rcases h.2 with⟨rfl,_⟩|⟨g,cap,cur,rfl,h1,h2,_⟩
 ·cases hb
 ·cases hb;exact⟨h1,(Array.getElem?_eq_some_iff.1 h2).1⟩
theorem put_walk (v:Value)(l:List Int)(w:World)(h:Reads w 1 v (ints l))(h64: ∀n∈l,aK n)(hb:l.length<=1073741824):
 Calls Tryz.prog 75 #[v] w fun e w'=>e= .returned (.string ⟨(aV l).toArray⟩)/\Kept none' w w':=by
 obtain⟨i0,hi,hz0,hz1,hz2⟩:=info_parts Tryz.info5
 obtain⟨a,cap,rfl,h1,h2,h3⟩:=h.at
 unfold maxLen at h2
 have H3:=Lib.hid h3
 have VL:=Lib.hid h64
 clear h h3 h64
 go_enter Tryz.func75,Tryz.ntmps75
 go_wp2
 go_loopg [3,9] l.length (fun g vb vi wr=> ∃(k n:Nat),vi= .int .i64 (k:Int)/\k<=l.length/\l.length-k<=g/\wr.ownsRow w.heap.size 5 1 vb n (vH (aV (l.take k)))/\Kept none' w wr)
 case atStart=>exact⟨0,0,rfl,by omega,by omega,⟨by simp[vH,aV], .inl ⟨rfl,rfl⟩⟩,Kept.refl _ _⟩
 case round=>
  obtain⟨k,n,rfl,hk,hg,ho,hkp⟩:=hrel
  have HG:=Lib.hid (And.intro hg hkp)
  by_cases hlt:k<l.length
  ·obtain⟨x,hx⟩: ∃x,l[k]?=some x:=⟨_,List.getElem?_eq_getElem hlt⟩
   obtain⟨b0,off,rfl,hcl⟩:=H3.out.resolve_left (fun h=>by rw[h]at hx;cases hx)
   have q0:=hkp.cell (p:=⟨b0,off+k,none⟩) (fun h=>h) (hcl k _ hx)
   have aaM:=VL.out x (List.mem_of_getElem? hx)
   have HX:=Lib.hid hx
   have HT:=Lib.hid (fun W=>Py x aaM W)
   obtain⟨oa,oc,rfl⟩:=ay ho
   have HO:=Lib.hid ho
   clear hcl hx aaM ho hg hkp
   go_wp2_with fail
   refine(HT.out _).mono ?_
   rintro e w2 ⟨rfl,rfl⟩
   go_wp2_with fail
   obtain⟨u0,hu0⟩: ∃u0,fJ x=u0:=⟨_,rfl⟩
   rw[hu0]
   have HU:=Lib.hid hu0
   clear hu0
   go_loopg [3,6] u0 (fun g vb vu wr2=> ∃(u n:Nat)(dn:List UInt8),vu= .int .u64 (u:Int)/\u<=g/\iw u0=dn++iw u/\wr2.ownsRow w.heap.size 5 1 vb n (vH (aV (l.take k)++dn))/\Kept none' w wr2)
   case atStart=>exact⟨u0,n,[],rfl,Nat.le_refl _,rfl,by simpa using HO.out,HG.out.2⟩
   case round=>
    obtain⟨u,n,dn,rfl,YC,hdig,ho,hkp⟩:=hrel
    by_cases hbig:128<=u
    ·obtain⟨TW,Oz,rfl⟩:=ay ho
     have hi1:(128:Int)<=(u:Int):=by omega
     have eo:=aap u
     obtain⟨q,hq⟩: ∃q,u%128+128=q:=⟨_,rfl⟩
     rw[hq]at eo
     have hn:=KI ho
     have hd1:=Ci (VL.out x (List.mem_of_getElem? HX.out))
     rw[HU.out,hdig,List.length_append]at hd1
     have hd2:=rF (l:=l.take k) (fun n hn=>VL.out n (List.mem_of_mem_take hn))
     rw[List.length_take]at hd2
     rw[wV,List.length_append]at hn
     have hks:=hkp.size
     have B1:Hid ((n*1+[Value.int .u8 (q:Int)].length)*1<=140737488355328):=by show _<=_;simp only[List.length_cons,List.length_nil];omega
     have B2:Hid (n*1+[Value.int .u8 (q:Int)].length<=maxLen):=by show _<=_;unfold maxLen;simp only[List.length_cons,List.length_nil];omega
     have B3:Hid (w.heap.size<=(wr.alloc (.cells #[.int .u8 (q:Int)] 5)).heap.size):=by show _<=_;simp;omega
     have kk:Kept none' wr (wr.alloc (.cells #[.int .u8 (q:Int)] 5)):=(Kept.refl _ _).alloc _
     have VI:=Lib.hid (kk.owns ho (fun _ _ h=>h))
     have HR2:=Lib.hid (Reads.lit wr [.int .u8 (q:Int)] 5 1 1 rfl (by unfold maxLen;omega))
     have A:=Lib.hid (And.intro YC (And.intro hdig (And.intro (hkp.trans kk) (And.intro hq (And.intro (by omega:q<256) hbig)))))
     have ho1: ∀y∈[Value.int .u8 (q:Int)],y.oneCell'=true:=by intro y hy;simp at hy;subst hy;rfl
     have es:(u:Int)/128=((u/128:Nat):Int):=by omega
     obtain⟨u2,hu2⟩: ∃u2,u/128=u2:=⟨_,rfl⟩
     rw[hu2]at es
     have HU2:=Lib.hid hu2
     clear ho hn hd1 hd2 hks kk YC hdig hq hkp hu2
     go_wp2_with (at_builtin;(refine gX rfl (.tmp 19) (.tmp 23) 188 rfl w.heap.size 5 i0 (.int .u8 0) 1 1 Tryz.underlying188 hi hz0 hz1 hz2 rfl (by decide) _ n _ rfl VI.out _ [.int .u8 (q:Int)] rfl HR2.out ho1 B1.out B2.out B3.out ?_);intro v' n' w' g1 g2 g3 g4)
     obtain⟨va,vc,rfl⟩:=ay g1
     have F:Hid (w'.ownsRow w.heap.size 5 1 (.slice va n' vc) n' (vH (aV (l.take k)++(dn++[UInt8.ofNat q])))/\Kept none' w w'):=by
      refine⟨?_,A.out.2.2.1.new (Kept.grown (S:=fun j=>w.heap.size<=j) g3 (fun j hj _=>(FD VI.out hj).1)) (fun j hj e=>by omega)⟩
      rw[Vr A.out.2.2.2.2.1]at g1
      simpa[vH]using g1
     clear g1 g2 g3 g4
     go_wp2_with fail
     go_roundg u2
     case rel=>
      refine⟨u2,n',dn++[UInt8.ofNat q],rfl,Nat.le_refl _,?_,F.out.1,F.out.2⟩
      rw[A.out.2.1,yN (by have:=A.out.2.2.2.2.2;omega),A.out.2.2.2.1,HU2.out];simp
     case measure=>have:=A.out.1;have:=HU2.out;omega
    ·obtain⟨TW,Oz,rfl⟩:=ay ho
     have hi1: ¬(128:Int)<=(u:Int):=by omega
     have eu:(u:Int)%256=(u:Int):=by omega
     have hn:=KI ho
     have hd1:=Ci (VL.out x (List.mem_of_getElem? HX.out))
     rw[HU.out,hdig,List.length_append]at hd1
     have hd2:=rF (l:=l.take k) (fun n hn=>VL.out n (List.mem_of_mem_take hn))
     rw[List.length_take]at hd2
     rw[wV,List.length_append]at hn
     have hks:=hkp.size
     have B1:Hid ((n*1+[Value.int .u8 (u:Int)].length)*1<=140737488355328):=by show _<=_;simp only[List.length_cons,List.length_nil];omega
     have B2:Hid (n*1+[Value.int .u8 (u:Int)].length<=maxLen):=by show _<=_;unfold maxLen;simp only[List.length_cons,List.length_nil];omega
     have B3:Hid (w.heap.size<=(wr.alloc (.cells #[.int .u8 (u:Int)] 5)).heap.size):=by show _<=_;simp;omega
     have kk:Kept none' wr (wr.alloc (.cells #[.int .u8 (u:Int)] 5)):=(Kept.refl _ _).alloc _
     have VI:=Lib.hid (kk.owns ho (fun _ _ h=>h))
     have HR2:=Lib.hid (Reads.lit wr [.int .u8 (u:Int)] 5 1 1 rfl (by unfold maxLen;omega))
     have A:=Lib.hid (And.intro YC (And.intro hdig (And.intro (hkp.trans kk) hbig)))
     have ho1: ∀y∈[Value.int .u8 (u:Int)],y.oneCell'=true:=by intro y hy;simp at hy;subst hy;rfl
     clear ho hn hd1 hd2 hks kk YC hdig hkp
     go_wp2_with (at_builtin;(refine gX rfl (.tmp 25) (.tmp 28) 188 rfl w.heap.size 5 i0 (.int .u8 0) 1 1 Tryz.underlying188 hi hz0 hz1 hz2 rfl (by decide) _ n _ rfl VI.out _ [.int .u8 (u:Int)] rfl HR2.out ho1 B1.out B2.out B3.out ?_);intro v' n' w' g1 g2 g3 g4)
     obtain⟨va,vc,rfl⟩:=ay g1
     have F:Hid (w'.ownsRow w.heap.size 5 1 (.slice va n' vc) n' (vH (aV (l.take (k+1))))/\Kept none' w w'):=by
      refine⟨?_,A.out.2.2.1.new (Kept.grown (S:=fun j=>w.heap.size<=j) g3 (fun j hj _=>(FD VI.out hj).1)) (fun j hj e=>by omega)⟩
      have hub:=A.out.2.2.2
      rw[Vr (by omega)]at g1
      rw[TN HX.out,HU.out,A.out.2.1,qP (by omega)]
      simpa[vH]using g1
     clear g1 g2 g3 g4
     go_wp2_with fail
     go_roundg (l.length-(k+1))
     case rel=>exact⟨k+1,n',by go_num,by omega,Nat.le_refl _,F.out.1,F.out.2⟩
     case measure=>have:=HG.out.1;omega
  ·have hkl:k=l.length:=by omega
   subst hkl
   rw[List.take_of_length_le (Nat.le_refl _)]at ho
   obtain⟨TW,Oz,rfl⟩:=ay ho
   have hcv:(convert 188 9 (.slice TW n Oz)).run Tryz.prog wr= .ok (.string ⟨(aV l).toArray⟩) wr:=by
    have hn:=KI ho
    rw[wV]at hn
    rcases ho.2 with⟨h1,h2⟩|⟨g,cp,cur,h1,_,hg2,_,_,_,ht⟩
    ·injection h1 with h1 _ _
     subst h1
     have e1:aV l=[]:=List.eq_nil_of_length_eq_zero (by omega)
     rw[e1]
     exact run_convert_bytes_nil _ 188 5 Tryz.underlying188 Tryz.underlying5 _ _ 9 Tryz.underlying9
    ·injection h1 with h1 _ _
     subst h1
     rw[hn]
     refine run_convert_bytes_back wr 188 9 5 ⟨g,0,none⟩ Oz (aV l) Tryz.underlying188 Tryz.underlying5 Tryz.underlying9 (fun j hj=>?_)
     rw[Addr.add_lit,Nat.zero_add,cell_of_row wr g j cur 5 (0,0) hg2]
     have h3:(vH (aV l))[j]?=some (.int .u8 ((aV l)[j].toNat:Int)):=by unfold vH;rw[List.getElem?_map,List.getElem?_eq_getElem hj];rfl
     rw[<-ht,List.getElem?_take]at h3
     split at h3
     ·simpa using h3
     ·cases h3
   have HK:=Lib.hid hkp
   clear ho hg hkp HG
   go_wp2_with fail
   go_ret
   exact⟨rfl,HK.out⟩
end
section
open Go Go.RowKit
attribute [local irreducible] bU
theorem Td {w:World}{B:Nat->Prop}{b m:Nat}{T:Tab}(h:TabAt w B b m T)(ty:TypeId):(Builtin.len_ #[127] ty #[.map (some m)]).run Tryz.prog w= .ok (.int .i64 T.length) w:=by
 obtain⟨l,h1,h2,_⟩:=h.map
 have:=h2.length_eq
 unfold aO at this
 simp only[List.length_map]at this
 rw[h1.len (P:=Tryz.prog) Tryz.underlying127 ty,this]
theorem Vq (B:Nat->Prop)(b m:Nat)(T:Tab)(w:World)(h:TabAt w B b m T):Calls Tryz.prog 44 #[.pointer (some ⟨b,0,none⟩)] w (Gives w (.string (strOf (aV (lq T))))):=by
 have hcb:=h.cell
 have hlen:=fun ty=>Td h ty
 have HT:=Lib.hid h
 clear h
 go_enter Tryz.func44,Tryz.ntmps44
 go_wp2_with fail
 have kk:Kept none' w (w.alloc (.cells #[.int .i64 (T.length:Int)] 2)):=(Kept.refl _ _).alloc _
 have hTl:=HT.out.ok.len
 refine(put_walk _ [(T.length:Int)] _ (Reads.lit w (ints [(T.length:Int)]) 2 1 1 rfl (by unfold maxLen;omega)) (by intro n hn;simp at hn;subst hn;exact .small (by omega) (by omega)) (by simp)).mono ?_
 rintro e w1 ⟨rfl,k1⟩
 go_wp2_with fail
 refine(lQ B b m T w1 (HT.out.pure (kk.trans k1))).mono ?_
 rintro e w2 ⟨kv,rfl,g1,g2,g3⟩
 have hr:=Reads.cO g1
 obtain⟨pa,ca,rfl,ka1,ka2,AX⟩:=hr.at
 unfold maxLen at ka2
 have K2:=Lib.hid (And.intro AX ((kk.trans k1).trans g3))
 clear g1 g2 g3 AX hr hlen kk k1
 have jh:(aO T).length=T.length:=by simp[aO]
 have Gl:=Lib.hid jh
 clear jh
 go_wp2_with fail
 go_loopg [3,19] T.length (fun g vs vi wr=> ∃k:Nat,vi= .int .i64 (k:Int)/\vs= .string (strOf (aV ((T.length:Int)::(T.take k).flatMap iK)))/\k<=T.length/\T.length-k<=g/\Kept none' w2 wr)
 case atStart=>exact⟨0,rfl,rfl,by omega,by omega,Kept.refl _ _⟩
 case round=>
  obtain⟨k,rfl,rfl,hk,hg,hkp⟩:=hrel
  by_cases hlt:k<T.length
  ·obtain⟨p,hp⟩: ∃p,T[k]?=some p:=⟨_,List.getElem?_eq_getElem hlt⟩
   have hkey:(aO T)[k]?=some p.1:=by unfold aO;rw[List.getElem?_map,hp];rfl
   obtain⟨kb,ko,rfl,hkc⟩:=K2.out.1.resolve_left (fun h=>by rw[h]at hkey;cases hkey)
   have r0:=hkp.cell (p:=⟨kb,ko+k,none⟩) (fun h=>h) (hkc k _ hkey)
   have hT2:=HT.out.pure (K2.out.2.trans hkp)
   have hcb2:=hT2.cell
   obtain⟨l,hml,hperm,hcs⟩:=hT2.map
   have hlk:=hml.xG (P:=Tryz.prog) Tryz.underlying127 Tryz.underlying2 p.1 (Tryz.zeroValue124 wr)
   have hget:eP T p.1=some p.2:=(jU HT.out.ok.rises).2 (List.mem_of_getElem? hp)
   rcases yh HT.out.ok.rises hperm hcs p.1 with⟨_,h2⟩|⟨cv,c,h1,h2,lv,rfl,hrd,_⟩
   ·rw[hget]at h2;cases h2
   ·rw[hget]at h2
    cases h2
    rw[h1]at hlk
    simp only[Option.getD_some]at hlk
    obtain⟨la,lc,rfl,hl1,hl2,_⟩:=hrd.at
    unfold maxLen at hl2
    have hlt2:((k:Nat):Int)<((aO T).length:Int):=by rw[Gl.out];omega
    have A:=Lib.hid (And.intro hg (And.intro hkp (And.intro hp (And.intro hrd (HT.out.ok.cell p (List.mem_of_getElem? hp))))))
    have hkT:k<(aO T).length:=by omega
    clear hml hperm hcs hget h1 hrd hp hkey hkc hg hkp hT2
    go_wp2_with fail
    obtain⟨W1,hW1⟩: ∃W1,wr.alloc (.cells #[.int .i64 p.2.1, .slice la p.2.2.length lc] 124)=W1:=⟨_,rfl⟩
    have kw:Kept none' wr W1:=by rw[<-hW1];exact(Kept.refl _ _).alloc _
    have d0:W1.cell? ⟨wr.heap.size,0,none⟩=some (.int .i64 p.2.1):=by rw[<-hW1];simp
    have d1:W1.cell? ⟨wr.heap.size,1,none⟩=some (.slice la p.2.2.length lc):=by rw[<-hW1];simp
    rw[hW1]
    clear hW1 hlk r0 hcb2
    obtain⟨s0,hs0⟩: ∃s0,strOf (aV ((T.length:Int)::(T.take k).flatMap iK))=s0:=⟨_,rfl⟩
    rw[hs0]
    have HS:=Lib.hid hs0
    clear hs0
    refine ak [0,1,2,3,4,5,6,9,10,7,8,11,12,13,14] (fun W=>Kept none' W1 W) (by kernel_rfl) (by kernel_rfl) rfl (Kept.refl _ _).drew ?_
    simp only[List.map_cons,List.map_nil,List.getElem?_toArray,List.getElem?_cons_zero,List.getElem?_cons_succ,Option.getD_some]
    iterate 9 (apply aj rfl rfl;(intro W hW;have c0:=hW.cell (fun h=>h) d0;have c1:=hW.cell (fun h=>h) d1;go_simp;rfl);go_frame)
    apply aA rfl rfl
    intro K hK
    go_wp2_with fail
    have k3:Kept none' W1 (W1.drew.alloc (.cells #[.int .i64 p.1, .int .i64 p.2.1, .int .i64 (p.2.2.length:Int)] 2)):=(Kept.refl _ _).drew.alloc _
    refine hK _ _ (fun _=>k3) ?_
    clear hK
    apply aA rfl rfl
    intro K2 hK2
    go_wp2_with fail
    have hck:=A.out.2.2.2.2
    have YJ:=HT.out.ok.key p (List.mem_of_getElem? A.out.2.2.1)
    have c1:=put_walk _ [p.1,p.2.1,(p.2.2.length:Int)] _ (Reads.lit W1.drew (ints [p.1,p.2.1,(p.2.2.length:Int)]) 2 1 3 rfl (by unfold maxLen;omega)) (by
     intro n hn
     simp only[List.mem_cons,List.not_mem_nil,or_false]at hn
     rcases hn with rfl|rfl|rfl
     ·exact YJ
     ·exact hck.1
     ·have:=hck.2.2;exact .small (by omega) (by omega)) (by simp)
    refine c1.mono ?_
    clear c1
    rintro e w5 ⟨rfl,k5⟩
    obtain⟨b1,hb1⟩: ∃b1,(⟨(aV [p.1,p.2.1,(p.2.2.length:Int)]).toArray⟩:ByteArray)=b1:=⟨_,rfl⟩
    rw[hb1]
    have HB1:=Lib.hid hb1
    clear hb1
    have k6:Kept none' W1 w5:=k3.trans k5
    go_wp2_with fail
    refine hK2 _ _ (fun _=>k6) ?_
    clear hK2
    apply aA rfl rfl
    intro K3 hK3
    go_wp2_with fail
    have c2:=put_walk _ p.2.2 _ (A.out.2.2.2.1.pure (kw.trans k6)) hck.2.1 (by have:=hck.2.2;omega)
    refine c2.mono ?_
    clear c2
    rintro e w7 ⟨rfl,k7⟩
    obtain⟨b2,hb2⟩: ∃b2,(⟨(aV p.2.2).toArray⟩:ByteArray)=b2:=⟨_,rfl⟩
    rw[hb2]
    have HB2:=Lib.hid hb2
    clear hb2
    have k8:Kept none' W1 w7:=k6.trans k7
    go_wp2_with fail
    refine hK3 _ _ (fun _=>k8) ?_
    clear hK3
    have z1:b1.size<=30:=by
     rw[<-HB1.out]
     exact rF (l:=[p.1,p.2.1,(p.2.2.length:Int)]) (by
      intro n hn
      simp only[List.mem_cons,List.not_mem_nil,or_false]at hn
      rcases hn with rfl|rfl|rfl
      ·exact YJ
      ·exact hck.1
      ·have:=hck.2.2;exact .small (by omega) (by omega))
    have z2:b2.size<=160:=by
     rw[<-HB2.out]
     have:=rF hck.2.1
     show(aV p.2.2).length<=160
     have:=hck.2.2
     omega
    have z0:s0.size<=1000000:=by
     rw[<-HS.out,CX]
     have hr:=rows_ok (T:=T.take k) (fun q hq=>HT.out.ok.key q (List.mem_of_mem_take hq)) (fun q hq=>HT.out.ok.cell q (List.mem_of_mem_take hq))
     have h1:=rF (l:=(T.length:Int)::(T.take k).flatMap iK) (by
      intro n hn
      rcases List.mem_cons.1 hn with rfl|hn
      ·exact .small (by omega) (by omega)
      ·exact hr.1 n hn)
     have h2:=hr.2
     rw[List.length_take]at h2
     rw[List.length_cons]at h1
     omega
    have z3: ¬9223372036854775807<b1.size+b2.size:=by omega
    have z4: ¬9223372036854775807<s0.size+(b1.size+b2.size):=by omega
    iterate 3 (apply aj rfl rfl;(intro W hW;go_simp;rfl);go_frame)
    refine aI (fun _=>k8) ?_
    go_wp2_with fail
    go_roundg (T.length-(k+1))
    case rel=>
     refine⟨k+1,by go_num,?_,by omega,Nat.le_refl _,A.out.2.1.trans (kw.trans k8)⟩
     rw[TG A.out.2.2.1,<-HS.out,<-HB1.out,<-HB2.out]
     have e1:((T.length:Int)::((T.take k).flatMap iK++iK p))=((T.length:Int)::(T.take k).flatMap iK)++([p.1,p.2.1,(p.2.2.length:Int)]++p.2.2):=by simp[iK]
     rw[e1,rZ,rZ,<-zf,<-zf]
     rfl
    case measure=>have:=A.out.1;omega
  ·have hkl:k=T.length:=by omega
   subst hkl
   have hlt2: ¬((T.length:Nat):Int)<((aO T).length:Int):=by rw[Gl.out];omega
   rw[List.take_of_length_le (Nat.le_refl _)]
   go_wp2_with fail
   go_ret
   exact⟨rfl,K2.out.2.trans hkp⟩
end
end Go.Proofs.YtopeleenlcnkkaaGreatDoor
