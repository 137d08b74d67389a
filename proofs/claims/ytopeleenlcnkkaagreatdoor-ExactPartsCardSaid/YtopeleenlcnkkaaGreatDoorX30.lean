/- WHAT IS FED, IN PLAIN WORDS: how many records come of one, that they rise by their places, that tables stay good. -/
import Derived.Test.YtopeleenlcnkkaaGreatDoorX23
import Derived.Test.YtopeleenlcnkkaaGreatDoorX29
set_option linter.unusedVariables false
set_option linter.unusedSimpArgs false
namespace Go.Proofs.YtopeleenlcnkkaaGreatDoor
open Go Go.RowKit
def QA (x:Ex):Prop:= ∀env,mO env->aI (dK x env)
def wid (kind:Int):Nat:=if kind=4 then 4 else 1
def xk (kind p:Int):Int:=if kind=4 then 8*p else p
theorem NC (x:Int):jS x<=4:=by unfold jS;omega
theorem Hf (r:Rec)(k:Nat):(kU r k).length=k:=by simp[kU]
theorem UF (nd:dA)(T:Tab)(r:Rec):(aJ nd T r).1.length<=wid nd.kind:=by
 unfold aJ wid
 have:=NC (dK nd.x (aB r))
 repeat' split
 all_goals first|(simp only[Hf];omega)|(simp only[List.length_cons,List.length_nil];omega)
theorem EI (nd:dA): ∀(L:List Rec)(T:Tab),(aN nd T L).1.length<=wid nd.kind*L.length
 |[],T=>by simp[aN]
 |r::l,T=>by
  have h1:=UF nd T r
  have h2:=EI nd l (aJ nd T r).2
  simp only[aN,List.length_append,List.length_cons,Nat.mul_add,Nat.mul_one]
  omega
theorem xH {n:Int}(h:aI n):wrap64 n=n:=by unfold aI at h;unfold wrap64;omega
theorem UA (l:List Int):aI (sumW l):=by
 unfold sumW
 have: ∀(l:List Int)(a:Int),aI a->aI (l.foldl (fun a x=>wrap64 (a+x)) a):=by
  intro l
  induction l with
  |nil=>exact fun a h=>h
  |cons x l ih=>exact fun a _=>ih _ (kZ _)
 exact this l 0 dY
theorem EK {T:Tab}(h:dR T)(k:Int):ER (cellOf T k):=by
 unfold cellOf
 cases e:fO T k with
 |none=>exact⟨dY,by simp,by simp⟩
 |some c=>exact h.cell _ ((nO h.rises).1 e)
theorem U0 {T:Tab}{k:Int}{n:Nat}(h:iw T k n=0):n<=16/\(fO T k≠none\/bG T (grp k)<40):=by
 unfold iw at h
 split at h
 ·cases h
 ·split at h
  ·cases h
  ·rename_i h1 h2
   refine⟨by omega,?_⟩
   by_cases hn:fO T k=none
   ·right
    exact Nat.lt_of_not_le (fun h3=>h2 ⟨hn,h3⟩)
   ·exact .inl hn
theorem dR.iM {T:Tab}(h:dR T){k:Int}{c:Cell}(hk:aI k)(h1:aI c.1)(h2: ∀x∈c.2,aI x):dR (iM T k c):=by
 unfold Go.Proofs.YtopeleenlcnkkaaGreatDoor.iM
 split
 ·rename_i he
  obtain⟨h3,h4⟩:=U0 he
  exact h.iL hk ⟨h1,h2,h3⟩ h4
 ·exact h
theorem X8 {T:Tab}(h:dG T){k:Int}{c:Cell}{p:Int×Cell}(hp:p∈iM T k c):p=(k,c)\/p∈T:=by
 unfold iM at hp
 split at hp
 ·rcases(jm h).1 hp with hp|hp
  ·exact .inl hp
  ·exact .inr hp.1
 ·exact .inr hp
theorem Ll {nd:dA}{T:Tab}{r:Rec}(hx:QA nd.x)(hT:dR T)(hr:aU r):dR (aJ nd T r).2:=by
 have hc:=EK hT r.key
 have hl: ∀x∈(cellOf T r.key).2++[r.val],aI x:=fun x hx=>by
  rcases List.mem_append.1 hx with hx|hx
  ·exact hc.2.1 x hx
  ·rw[List.mem_singleton.1 hx];exact hr.val
 have h7:=hT.iM (c:=((cellOf T r.key).1,(cellOf T r.key).2++[r.val])) hr.key hc.1 hl
 have h6:=hT.iM (c:=(dK nd.x {aB r with acc:=(cellOf T r.key).1},[])) hr.key (hx _ ⟨hr.key,hr.val,hc.1⟩) (by simp)
 unfold aJ
 repeat' split
 all_goals first|exact hT|exact h6|exact h7|exact h7.lF _
theorem uV {n acc:Int}{l:List Int}:bT 7 n (acc,l)=true↔acc=0/\1<=l.length/\(l.length:Int)<n:=by
 have e:bT 7 n (acc,l)=!((!decide (acc=0))||decide (l.length<1)||decide (n<=(l.length:Int))):=by
  unfold bT
  rw[show decide ((7:Int)=6)=false from rfl,show decide ((7:Int)=7)=true from rfl]
  simp
 rw[e]
 by_cases h1:acc=0
 ·by_cases h2:l.length<1
  ·rw[decide_eq_true h1,decide_eq_true h2]
   exact⟨fun h=>(by cases h),fun h=>by omega⟩
  ·by_cases h3:n<=(l.length:Int)
   ·rw[decide_eq_true h1,decide_eq_false h2,decide_eq_true h3]
    exact⟨fun h=>(by cases h),fun h=>by omega⟩
   ·rw[decide_eq_true h1,decide_eq_false h2,decide_eq_false h3]
    exact⟨fun _=>by omega,fun _=>rfl⟩
 ·rw[decide_eq_false h1]
  exact⟨fun h=>(by cases h),fun h=>absurd h.1 h1⟩
theorem ND {n acc:Int}{l:List Int}:bT 6 n (acc,l)=true↔l=[]:=by
 unfold bT
 simp
theorem fits_all {kind n:Int}{T:Tab}(h:fQ kind n T=true):stateful kind=true/\ ∀p∈T,bT kind n p.2=true:=by
 unfold fQ at h
 rw[Bool.and_eq_true,List.all_eq_true]at h
 exact h
theorem FC {kind n:Int}{T:Tab}(h1:stateful kind=true)(h2: ∀p∈T,bT kind n p.2=true):fQ kind n T=true:=by
 unfold fQ
 rw[Bool.and_eq_true,List.all_eq_true]
 exact⟨h1,h2⟩
theorem UH {nd:dA}{T:Tab}{r:Rec}(hT:dR T)(hf:fQ nd.kind nd.n T=true):fQ nd.kind nd.n (aJ nd T r).2=true:=by
 obtain⟨h1,h2⟩:=fits_all hf
 unfold aJ
 by_cases h6:nd.kind=6
 ·rw[if_neg (by omega),if_neg (by omega),if_neg (by omega),if_neg (by omega),if_pos h6]
  refine FC h1 fun p hp=>?_
  rcases X8 hT.rises hp with rfl|hp
  ·rw[h6];exact ND.2 rfl
  ·exact h2 p hp
 ·have h7:nd.kind=7:=by
   unfold stateful at h1
   simp at h1
   omega
  rw[if_neg (by omega),if_neg (by omega),if_neg (by omega),if_neg (by omega),if_neg h6,if_pos h7]
  have hacc:(cellOf T r.key).1=0:=by
   unfold cellOf
   cases e:fO T r.key with
   |none=>rfl
   |some c=>
    have:=h2 _ ((nO hT.rises).1 e)
    rw[h7]at this
    obtain⟨a,l⟩:=c
    exact(uV.1 this).1
  have key: ∀p∈iM T r.key ((cellOf T r.key).1,(cellOf T r.key).2++[r.val]),p.1≠r.key\/iw T r.key ((cellOf T r.key).2.length+1)≠0\/(((cellOf T r.key).2.length+1:Nat):Int)<nd.n->bT nd.kind nd.n p.2=true:=by
   intro p hp hh
   by_cases hE:iw T r.key ((cellOf T r.key).2.length+1)=0
   ·unfold iM at hp
    rw[if_pos (by simpa using hE)]at hp
    rcases(jm hT.rises).1 hp with rfl|⟨hp,_⟩
    ·rw[h7]
     refine uV.2 ⟨hacc,by simp,?_⟩
     rcases hh with hh|hh|hh
     ·exact absurd rfl hh
     ·exact absurd hE hh
     ·simpa using hh
    ·exact h2 p hp
   ·unfold iM at hp
    rw[if_neg (by simpa using hE)]at hp
    exact h2 p hp
  split
  ·rename_i hh
   exact FC h1 fun p hp=>key p hp (.inr hh)
  ·exact FC h1 fun p hp=>by
    obtain⟨hp,hne⟩:=pR.1 hp
    exact key p hp (.inl hne)
theorem UE {nd:dA}{T:Tab}{r:Rec}(hx:QA nd.x)(hT:dR T)(hr:aU r): ∀q∈(aJ nd T r).1,aU q:=by
 have e1:=hx _ (qZ hr)
 have e2:=hx {aB r with acc:=(cellOf T r.key).1} ⟨hr.key,hr.val,(EK hT r.key).1⟩
 have one: ∀(q x:Rec),x∈[q]->aU q->aU x:=fun q x h k=>by rw[List.mem_singleton.1 h];exact k
 intro q hq
 unfold aJ at hq
 repeat' split at hq
 all_goals first
  |exact one _ _ hq ⟨hr.pos,hr.key,e1⟩
  |exact one _ _ hq ⟨hr.pos,e1,hr.val⟩
  |exact one _ _ hq hr
  |exact one _ _ hq ⟨hr.pos,hr.key,e2⟩
  |exact one _ _ hq ⟨hr.pos,hr.key,UA _⟩
  |(unfold kU at hq;obtain⟨i,_,rfl⟩:=List.mem_map.1 hq;exact⟨kZ _,hr.key,kZ _⟩)
  |(cases hq)
theorem Ci {nd:dA}(hx:QA nd.x): ∀(L:List Rec)(T:Tab),dR T->(∀r∈L,aU r)->dR (aN nd T L).2/\ ∀q∈(aN nd T L).1,aU q
 |[],T,hT,_=>⟨hT,by simp[aN]⟩
 |r::l,T,hT,hL=>by
  have hr:=hL r (by simp)
  have ih:=Ci hx l _ (Ll hx hT hr) (fun q hq=>hL q (by simp[hq]))
  refine⟨ih.1,fun q hq=>?_⟩
  simp only[aN]at hq
  rcases List.mem_append.1 hq with hq|hq
  ·exact UE hx hT hr q hq
  ·exact ih.2 q hq
theorem Cj {nd:dA}(hx:QA nd.x): ∀(L:List Rec)(T:Tab),dR T->(∀r∈L,aU r)->fQ nd.kind nd.n T=true->fQ nd.kind nd.n (aN nd T L).2=true
 |[],T,_,_,hf=>hf
 |r::l,T,hT,hL,hf=>Cj hx l _ (Ll hx hT (hL r (by simp))) (fun q hq=>hL q (by simp[hq])) (UH hT hf)
def mW (C:Int)(L:List Rec):Prop:=L.Pairwise (fun a b=>a.pos<b.pos)/\ ∀r∈L,1<=r.pos/\r.pos<C
theorem flat_get {r:Rec}{k:Nat}:kU r k=(List.range k).map fun(i:Nat)=>(⟨wrap64 (wrap64 (8*r.pos)+(i:Int)),r.key,wrap64 (r.val+(i:Int))⟩:Rec):=rfl
theorem UD {nd:dA}{T:Tab}{r:Rec}(h0:1<=r.pos)(h1:r.pos<1125899906842624):
 (aJ nd T r).1.Pairwise (fun a b=>a.pos<b.pos)/\ ∀q∈(aJ nd T r).1,xk nd.kind r.pos<=q.pos/\q.pos<xk nd.kind r.pos+wid nd.kind:=by
 by_cases h4:nd.kind=4
 ·have e:(aJ nd T r).1=kU r (jS (dK nd.x (aB r))):=by
   unfold aJ
   rw[if_neg (by omega),if_neg (by omega),if_neg (by omega),if_pos h4]
  have hk:=NC (dK nd.x (aB r))
  have pos: ∀i:Nat,i<4->wrap64 (wrap64 (8*r.pos)+(i:Int))=8*r.pos+i:=fun i hi=>by
   rw[xH (n:=8*r.pos) ⟨by omega,by omega⟩,xH ⟨by omega,by omega⟩]
  rw[e,flat_get]
  refine⟨?_,fun q hq=>?_⟩
  ·rw[List.pairwise_map]
   refine List.Pairwise.imp_of_mem ?_ (List.pairwise_lt_range (n:=jS (dK nd.x (aB r))))
   intro a b ha hb hab
   have ha:=List.mem_range.1 ha
   have hb:=List.mem_range.1 hb
   simp only[pos a (by omega),pos b (by omega)]
   omega
  ·obtain⟨i,hi,rfl⟩:=List.mem_map.1 hq
   have hi:=List.mem_range.1 hi
   simp only[pos i (by omega)]
   unfold xk wid
   rw[if_pos h4,if_pos h4]
   omega
 ·have key:(aJ nd T r).1=[]\/ ∃q,(aJ nd T r).1=[q]/\q.pos=r.pos:=by
   unfold aJ
   repeat' split
   all_goals first|exact .inl rfl|exact .inr ⟨_,rfl,rfl⟩|(exact absurd (by assumption) h4)
  unfold xk wid
  rw[if_neg h4,if_neg h4]
  rcases key with e|⟨q,e,hq⟩
  ·rw[e];exact⟨.nil,by simp⟩
  ·rw[e]
   refine⟨by simp,fun x hx=>?_⟩
   rw[List.mem_singleton.1 hx,hq];omega
theorem Ce {nd:dA}{C:Int}(hC:C<=1125899906842624): ∀(L:List Rec)(T:Tab),mW C L->
 (aN nd T L).1.Pairwise (fun a b=>a.pos<b.pos)/\ ∀q∈(aN nd T L).1,∃r∈L,xk nd.kind r.pos<=q.pos/\q.pos<xk nd.kind r.pos+wid nd.kind
 |[],T,_=>⟨by simp[aN],by simp[aN]⟩
 |r::l,T,⟨hp,hb⟩=>by
  obtain⟨hp1,hp2⟩:=List.pairwise_cons.1 hp
  obtain⟨i1,i2⟩:=Ce (nd:=nd) hC l (aJ nd T r).2 ⟨hp2,fun q hq=>hb q (by simp[hq])⟩
  have hr:=hb r (by simp)
  obtain⟨s1,s2⟩:=UD (nd:=nd) (T:=T) hr.1 (by omega)
  have hw: ∀q∈l,xk nd.kind r.pos+wid nd.kind<=xk nd.kind q.pos:=fun q hq=>by
   have:=hp1 q hq
   unfold xk wid
   split<;>omega
  simp only[aN]
  refine⟨List.pairwise_append.2 ⟨s1,i1,fun a ha b hbb=>?_⟩,fun q hq=>?_⟩
  ·have ha:=s2 a ha
   obtain⟨x,hx,hx1,_⟩:=i2 b hbb
   have:=hw x hx
   omega
  ·rcases List.mem_append.1 hq with hq|hq
   ·exact⟨r,by simp,s2 q hq⟩
   ·obtain⟨x,hx,hh⟩:=i2 q hq
    exact⟨x,by simp[hx],hh⟩
theorem UQ {nd:dA}{C:Int}{L:List Rec}{T:Tab}(hC:C<=1125899906842624)(h:mW C L):mW (if nd.kind=4 then 8*C else C) (aN nd T L).1:=by
 obtain⟨h1,h2⟩:=Ce (nd:=nd) hC L T h
 refine⟨h1,fun q hq=>?_⟩
 obtain⟨r,hr,h3,h4⟩:=h2 q hq
 have:=h.2 r hr
 unfold xk at h3 h4
 unfold wid at h4
 by_cases hk:nd.kind=4
 ·rw[if_pos hk]at h3 h4⊢;rw[if_pos hk]at h4;omega
 ·rw[if_neg hk]at h3 h4⊢;rw[if_neg hk]at h4;omega
theorem wR {L:List Rec}(h:(L.map (·.pos)).Nodup):(dM L).Pairwise (fun a b=>a.pos<b.pos):=by
 have hs:=zA L
 have hp:(dM L).Perm L:=List.mergeSort_perm L _
 have hn:((dM L).map (·.pos)).Nodup:=(hp.map (·.pos)).nodup_iff.2 h
 unfold Sorted at hs
 rw[List.Nodup,List.pairwise_map]at hn
 exact hs.imp₂ (fun a b h1 h2=>by omega) hn
theorem CS {b:Nat}{r:Rec}{C:Int}(hb:b<8)(h1:1<=r.pos)(h2:r.pos<C)(hC:C<=1125899906842624):(mg b r).pos=8*r.pos+b:=by
 unfold mg
 simp only
 rw[xH (n:=8*r.pos) ⟨by omega,by omega⟩,xH ⟨by omega,by omega⟩]
theorem Dt {C:Int}(hC:C<=1125899906842624): ∀(LL:List (List Rec))(b:Nat),b+LL.length<=8->(∀L∈LL,mW C L)->
 (((iF b LL).flatten).map (·.pos)).Nodup/\ ∀q∈(iF b LL).flatten,8<=q.pos/\q.pos<8*C/\(b:Int)<=q.pos%8
 |[],b,_,_=>by simp[iF]
 |L::LL,b,hb,h=>by
  rw[List.length_cons]at hb
  have ih:=Dt hC LL (b+1) (by omega) (fun M hM=>h M (by simp[hM]))
  have hL:=h L (by simp)
  have hpos: ∀q∈L.map (mg b),∃r∈L,q.pos=8*r.pos+b:=fun q hq=>by
   obtain⟨r,hr,rfl⟩:=List.mem_map.1 hq
   exact⟨r,hr,CS (by omega) (hL.2 r hr).1 (hL.2 r hr).2 hC⟩
  have e:iF b (L::LL)=L.map (mg b)::iF (b+1) LL:=rfl
  rw[e,List.flatten_cons,List.map_append]
  refine⟨List.nodup_append.2 ⟨?_,ih.1,fun x hx y hy=>?_⟩,fun q hq=>?_⟩
  ·rw[List.Nodup,List.map_map,List.pairwise_map]
   refine List.Pairwise.imp_of_mem ?_ hL.1
   intro a c ha hc hac
   simp only[Function.comp]
   rw[CS (by omega) (hL.2 a ha).1 (hL.2 a ha).2 hC,CS (by omega) (hL.2 c hc).1 (hL.2 c hc).2 hC]
   omega
  ·obtain⟨q,hq,rfl⟩:=List.mem_map.1 hx
   obtain⟨q',hq',rfl⟩:=List.mem_map.1 hy
   obtain⟨r,hr,hrp⟩:=hpos q hq
   have:=(ih.2 q' hq').2.2
   intro e
   omega
  ·rcases List.mem_append.1 hq with hq|hq
   ·obtain⟨r,hr,hrp⟩:=hpos q hq
    have:=hL.2 r hr
    omega
   ·have:=ih.2 q hq
    omega
theorem OC {kind C:Int}{LL:List (List Rec)}(hC:C<=1125899906842624)(h: ∀L∈LL,mW C L)(hn:kind=8/\LL.length<=3\/kind≠8/\LL.length<=1):mW (if kind=8 then 8*C else C) (jR kind LL):=by
 unfold jR
 rcases hn with⟨hk,hl⟩|⟨hk,hl⟩
 ·rw[if_pos hk,if_pos hk]
  obtain⟨h1,h2⟩:=Dt hC LL 0 (by omega) h
  refine⟨wR h1,fun q hq=>?_⟩
  have:=h2 q (qA.1 hq)
  omega
 ·rw[if_neg hk,if_neg hk]
  have hr:mW C LL.flatten:=by
   match LL,hl with
   |[],_=>exact⟨.nil,by simp⟩
   |[L],_=>simpa using h L (by simp)
  refine⟨wR ?_,fun q hq=>hr.2 q (qA.1 hq)⟩
  rw[List.Nodup,List.pairwise_map]
  exact hr.1.imp fun h=>by omega
theorem Ls {α:Type}{p:List α->Prop}(h0:p [])(h1: ∀l a,p l->p (l++[a]))(l:List α):p l:=by
 rw[<-List.reverse_reverse l]
 induction l.reverse with
 |nil=>exact h0
 |cons a l ih=>rw[List.reverse_cons];exact h1 _ _ ih
theorem ug (l:List JN)(d:JN):cO (l++[d])=cO l++[rG (cO l) d]:=by
 unfold cO;rw[List.foldl_append];rfl
theorem Td (l:List JN): ∀m:List JN,∃t,cO (l++m)=cO l++t:=by
 refine Ls ⟨[],by simp⟩ fun m d ih=>?_
 ·obtain⟨t,ht⟩:=ih
  refine⟨t++[rG (cO (l++m)) d],?_⟩
  rw[<-List.append_assoc,ug,ht,List.append_assoc]
theorem qh (l:List JN):(cO l).length=l.length:=by
 refine Ls (p:=fun l=>(cO l).length=l.length) rfl (fun l d ih=>?_) l
 rw[ug,List.length_append,List.length_append,ih];rfl
theorem S9 (nodes:List JN)(k:Nat): ∃t,cO nodes=cO (nodes.take k)++t:=by
 have:=Td (nodes.take k) (nodes.drop k)
 rwa[List.take_append_drop]at this
theorem Ic {nodes:List JN}{k i:Nat}(hk:k<=nodes.length)(hi:i<k):(cO (nodes.take k)).getD i 0=(cO nodes).getD i 0:=by
 obtain⟨t,ht⟩:=S9 nodes k
 rw[ht,List.getD_eq_getElem?_getD,List.getD_eq_getElem?_getD,List.getElem?_append_left (by rw[qh,List.length_take];omega)]
theorem Ie {nodes:List JN}{k:Nat}{d:JN}(hd:nodes[k]?=some d):(cO nodes).getD k 0=rG (cO (nodes.take k)) d:=by
 have hk:=(List.getElem?_eq_some_iff.1 hd).1
 have e:=Ic (nodes:=nodes) (k:=k+1) (i:=k) (by omega) (by omega)
 rw[<-e,List.take_add_one,hd]
 show(cO (nodes.take k++[d])).getD k 0=_
 rw[ug,List.getD_eq_getElem?_getD,List.getElem?_append_right (by rw[qh,List.length_take];omega),qh,List.length_take]
 rw[show k-min k nodes.length=0 by omega]
 rfl
structure aaY (nodes:List JN)(k:Nat)(d:JN):Prop where
 kind:1<=d.kind/\d.kind<=9
 name:lN d.uid=true
 ins:d.ins.length<=3
 one:d.kind≠8->d.ins.length<=1
 some:d.kind≠1->1<=d.ins.length
 src:d.kind=1↔k=0
 snk:d.kind=9↔k+1=nodes.length
 low: ∀x∈d.ins,0<=x/\x<(k:Int)
 nodup:d.ins.Nodup
 ways:(cO nodes).getD k 0<=64
 n:0<=d.n/\d.n<=16
theorem uh {j:Jb}(h:bK j=true){k:Nat}{d:JN}(hd:j.nodes[k]?=some d):aaY j.nodes k d:=by
 obtain⟨h1,_,h3⟩:=(kR h).2 k d hd
 unfold dU Df at h1
 split at h1
 ·cases h1
 rename_i ha
 split at h1
 ·cases h1
 rename_i hb
 split at h1
 ·cases h1
 rename_i hc
 unfold bD at h3
 simp only[Bool.or_eq_false_iff,bne_eq_false_iff_eq,decide_eq_false_iff_not,decide_eq_decide]at h3
 obtain⟨⟨⟨⟨⟨g1,g2⟩,g3⟩,g4⟩,g5⟩,g6⟩:=h3
 unfold jN at hc
 have hgood:ji d.ins k=true:=by
  cases e:ji d.ins k with
  |true=>rfl
  |false=>exact absurd (.inr (.inr e)) hb
 have b1:jc d.kind<=d.ins.length:=Nat.le_of_not_lt fun h=>hb (.inl h)
 have b2:d.ins.length<=iG d.kind:=Nat.le_of_not_lt fun h=>hb (.inr (.inl h))
 unfold ji at hgood
 rw[Bool.and_eq_true,List.all_eq_true,decide_eq_true_eq]at hgood
 refine⟨by omega,?_,?_,?_,?_,g1,g2,fun x hx=>by simpa using hgood.2 x hx,hgood.1,by omega,?_⟩
 ·cases e:lN d.uid with
  |true=>rfl
  |false=>exact absurd (.inl e) ha
 ·have:iG d.kind<=3:=by unfold iG;split;omega;split<;>omega
  omega
 ·intro e8
  have:iG d.kind<=1:=by unfold iG;rw[if_neg e8];split<;>omega
  omega
 ·intro e1
  have:1<=jc d.kind:=by unfold jc;rw[if_neg e1];split<;>omega
  omega
 ·split at hc<;>omega
def JR (nodes:List JN):Prop:= ∀d∈nodes,QA d.x
structure aaf (nodes:List JN)(i:Nat)(L:List Rec):Prop where
 recs: ∀q∈L,aU q
 rise:mW ((8^(i+1):Nat):Int) L
 few:(L.length:Int)<=(cO nodes).getD i 0
structure BD (nodes:List JN)(k:Nat)(st:List (List Rec)×Tabs):Prop where
 len:st.1.length=k
 tabs:dF nodes st.2
 rows: ∀(i:Nat)(L:List Rec),st.1[i]?=some L->aaf nodes i L
theorem BK {C D:Int}{L:List Rec}(h:mW C L)(hCD:C<=D):mW D L:=⟨h.1,fun r hr=>by have:=h.2 r hr;omega⟩
theorem Lh: ∀(LL:List (List Rec)),(LL.flatten.length:Int)=(LL.map fun L=>(L.length:Int)).sum
 |[]=>rfl
 |L::LL=>by rw[List.flatten_cons,List.length_append,List.map_cons,List.sum_cons,<-Lh LL];omega
theorem Uz: ∀{α:Type}(l:List α)(f g:α->Int),(∀x∈l,f x<=g x)->(l.map f).sum<=(l.map g).sum
 |_,[],_,_,_=>by simp
 |_,x::l,f,g,h=>by
  rw[List.map_cons,List.map_cons,List.sum_cons,List.sum_cons]
  have:=h x (by simp)
  have:=Uz l f g (fun y hy=>h y (by simp[hy]))
  omega
theorem Au (kind:Int)(LL:List (List Rec)):(jR kind LL).length=LL.flatten.length:=by
 unfold jR
 rw[mQ]
 split
 ·exact yA 0 LL
 ·rfl
def insOf (d:JN)(M:List (List Rec)):List (List Rec):=d.ins.map fun x=>M.getD x.toNat []
def jQ (r:Rec)(d:JN)(k:Nat)(M:List (List Rec)):List Rec:=if k=0 then[r]else jR d.kind (insOf d M)
theorem BZ {nodes:List JN}{k:Nat}{d:JN}(hd:nodes[k]?=some d)(r:Rec)(st:List (List Rec)×Tabs):zf nodes r st k=
 (st.1++[(aN d.lZ ((st.2.getD k none).getD []) (jQ r d k st.1)).1],st.2.set k ((st.2.getD k none).map fun _=>(aN d.lZ ((st.2.getD k none).getD []) (jQ r d k st.1)).2)):=by
 have e:nodes.getD k default=d:=by rw[List.getD_eq_getElem?_getD,hd];rfl
 unfold zf jQ insOf
 rw[e]
theorem Fa {k:Nat}(hk:k<=12):8^(k+1)<=1125899906842624:=by
 have:8^(k+1)<=8^13:=Nat.pow_le_pow_right (by omega) (by omega)
 omega
theorem Xt {b:Nat}{r:Rec}(h:aU r):aU (mg b r):=⟨kZ _,h.key,h.val⟩
theorem Ib: ∀(LL:List (List Rec))(b:Nat),(∀L∈LL,∀q∈L,aU q)-> ∀L∈iF b LL,∀q∈L,aU q
 |[],_,_,_,hL,_,_=>by cases hL
 |M::LL,b,h,L,hL,q,hq=>by
  have e:iF b (M::LL)=M.map (mg b)::iF (b+1) LL:=rfl
  rw[e]at hL
  rcases List.mem_cons.1 hL with rfl|hL
  ·obtain⟨r,hr,rfl⟩:=List.mem_map.1 hq
   exact Xt (h M (by simp) r hr)
  ·exact Ib LL (b+1) (fun L' h'=>h L' (by simp[h'])) L hL q hq
theorem YS {kind:Int}{LL:List (List Rec)}(h: ∀L∈LL,∀q∈L,aU q): ∀q∈jR kind LL,aU q:=by
 intro q hq
 unfold jR at hq
 have hq:=qA.1 hq
 obtain⟨L,hL,hqL⟩:=List.mem_flatten.1 hq
 split at hL
 ·exact Ib LL 0 h L hL q hqL
 ·exact h L hL q hqL
theorem Ti {W:List Int}{d:JN}(h:d.kind≠1):rG W d=(d.ins.map fun k=>W.getD k.toNat 0).sum*(wid d.kind:Int):=by
 unfold rG wid
 rw[if_neg h]
 split<;>rfl
theorem Vz {j:Jb}(hj:bK j=true){r:Rec}(hr:aU r)(hp:r.pos=1){k:Nat}{d:JN}(hd:j.nodes[k]?=some d){st:List (List Rec)×Tabs}(h:BD j.nodes k st):
 (∀q∈jQ r d k st.1,aU q)/\mW (if k=0 then 8 else if d.kind=8 then 8*((8^k:Nat):Int)else((8^k:Nat):Int)) (jQ r d k st.1)/\((jQ r d k st.1).length:Int)*(wid d.kind:Int)<=(cO j.nodes).getD k 0/\(jQ r d k st.1).length<=64/\
 (k≠0->(insOf d st.1).flatten.length<=64/\(insOf d st.1).length<=3):=by
 have hm:=uh hj hd
 have hlen:k<j.nodes.length:=(List.getElem?_eq_some_iff.1 hd).1
 have h12:j.nodes.length<=12:=by
  have:=(kR hj).1
  unfold fZ at this
  simp only[Bool.or_eq_false_iff,decide_eq_false_iff_not]at this
  omega
 have hW:=Ie hd
 unfold jQ
 by_cases hk:k=0
 ·subst hk
  have h1:=hm.src.2 rfl
  rw[if_pos rfl,if_pos rfl]
  refine⟨fun q hq=>by rw[List.mem_singleton.1 hq];exact hr,⟨by simp,fun q hq=>by rw[List.mem_singleton.1 hq,hp];omega⟩,?_,by simp,fun h=>absurd rfl h⟩
  rw[hW]
  unfold rG wid
  rw[if_pos h1,if_neg (by omega)]
  simp
 ·rw[if_neg hk,if_neg hk]
  have h1:d.kind≠1:=fun e=>hk (hm.src.1 e)
  have hrow: ∀x∈d.ins,∃L,st.1[x.toNat]?=some L/\st.1.getD x.toNat []=L/\x.toNat<k:=by
   intro x hx
   have hx':=hm.low x hx
   have hlt:x.toNat<st.1.length:=by rw[h.len];omega
   exact⟨st.1[x.toNat],List.getElem?_eq_getElem hlt,by simp[List.getD_eq_getElem?_getD,hlt],by omega⟩
  have hins: ∀L∈insOf d st.1,∃i,i<k/\aaf j.nodes i L:=by
   intro L hL
   obtain⟨x,hx,rfl⟩:=List.mem_map.1 hL
   obtain⟨L,e1,e2,e3⟩:=hrow x hx
   rw[e2]
   exact⟨_,e3,h.rows _ _ e1⟩
  have hC:((8^k:Nat):Int)<=1125899906842624:=by
   have:8^k<=8^(k+1):=Nat.pow_le_pow_right (by omega) (by omega)
   have:=Fa (k:=k) (by omega)
   omega
  have adN:((insOf d st.1).flatten.length:Int)<=(d.ins.map fun x=>(cO (j.nodes.take k)).getD x.toNat 0).sum:=by
   rw[Lh]
   unfold insOf
   rw[List.map_map]
   refine Uz _ _ _ fun x hx=>?_
   obtain⟨L,e1,e2,e3⟩:=hrow x hx
   simp only[Function.comp]
   rw[e2,Ic (by omega) e3]
   exact(h.rows _ _ e1).few
  have adK:((insOf d st.1).flatten.length:Int)*(wid d.kind:Int)<=(cO j.nodes).getD k 0:=by
   rw[hW,Ti h1]
   exact Int.mul_le_mul_of_nonneg_right adN (by omega)
  have h64:(insOf d st.1).flatten.length<=64:=by
   have hw:=hm.ways
   have:1<=wid d.kind:=by unfold wid;split<;>omega
   have h2:((insOf d st.1).flatten.length:Int)*1<=((insOf d st.1).flatten.length:Int)*(wid d.kind:Int):=Int.mul_le_mul_of_nonneg_left (by omega) (by omega)
   omega
  have hl3:(insOf d st.1).length<=3:=by unfold insOf;rw[List.length_map];exact hm.ins
  refine⟨YS fun L hL q hq=>?_,OC hC (fun L hL=>?_) ?_,by rw[Au];exact adK,by rw[Au];exact h64,fun _=>⟨h64,hl3⟩⟩
  ·obtain⟨i,_,ho⟩:=hins L hL
   exact ho.recs q hq
  ·obtain⟨i,hi,ho⟩:=hins L hL
   refine BK ho.rise ?_
   have:8^(i+1)<=8^k:=Nat.pow_le_pow_right (by omega) (by omega)
   omega
  ·by_cases e8:d.kind=8
   ·exact .inl ⟨e8,hl3⟩
   ·right;refine⟨e8,?_⟩;unfold insOf;rw[List.length_map];exact hm.one e8
theorem BD.step {j:Jb}(hj:bK j=true)(hR:JR j.nodes){r:Rec}(hr:aU r)(hp:r.pos=1){k:Nat}{d:JN}(hd:j.nodes[k]?=some d){st:List (List Rec)×Tabs}(h:BD j.nodes k st):BD j.nodes (k+1) (zf j.nodes r st k):=by
 have hm:=uh hj hd
 have hlen:k<j.nodes.length:=(List.getElem?_eq_some_iff.1 hd).1
 have h12:j.nodes.length<=12:=by
  have:=(kR hj).1
  unfold fZ at this
  simp only[Bool.or_eq_false_iff,decide_eq_false_iff_not]at this
  omega
 have hx:QA d.lZ.x:=hR d (List.mem_of_getElem? hd)
 obtain⟨i1,i2,i3,i4,_⟩:=Vz hj hr hp hd h
 have hkt:k<st.2.length:=by rw[h.tabs.len];exact hlen
 obtain⟨t,ht⟩: ∃t,st.2[k]?=some t:=⟨_,List.getElem?_eq_getElem hkt⟩
 have htk:st.2.getD k none=t:=by rw[List.getD_eq_getElem?_getD,ht];rfl
 have htok:dR (t.getD []):=by
  cases hs:stateful d.kind with
  |true=>obtain⟨T,hT,h1,_⟩:=h.tabs.has k d hd hs;rw[ht]at hT;injection hT with hT;subst hT;exact h1
  |false=>have:=h.tabs.not k d hd hs;rw[ht]at this;injection this with this;subst this;exact dR.nil
 rw[BZ hd,htk]
 obtain⟨g1,g2⟩:=Ci hx (jQ r d k st.1) (t.getD []) htok i1
 refine⟨by simp[h.len],⟨by simpa using h.tabs.len,fun i e he hs=>?_,fun i e he hs=>?_⟩,fun i L hL=>?_⟩
 ·rw[List.getElem?_set]
  split
  ·rename_i hik
   subst hik
   rw[hd]at he;injection he with he;subst he
   obtain⟨T,hT,h1,h2⟩:=h.tabs.has k d hd hs
   rw[ht]at hT;injection hT with hT;subst hT
   exact⟨_,rfl,g1,Cj hx _ _ htok i1 h2⟩
  ·exact h.tabs.has i e he hs
 ·rw[List.getElem?_set]
  split
  ·rename_i hik
   subst hik
   rw[hd]at he;injection he with he;subst he
   have:=h.tabs.not k d hd hs
   rw[ht]at this;injection this with this;subst this
   rfl
  ·exact h.tabs.not i e he hs
 ·by_cases hi:i<k
  ·rw[List.getElem?_append_left (by rw[h.len];exact hi)]at hL
   exact h.rows i L hL
  ·have hik:i=k:=by
    have:=(List.getElem?_eq_some_iff.1 hL).1
    simp[h.len]at this
    omega
   subst hik
   rw[List.getElem?_append_right (by rw[h.len];exact Nat.le_refl _),h.len,Nat.sub_self]at hL
   injection hL with hL
   subst hL
   refine⟨g2,?_,?_⟩
   ·have hC:((if i=0 then 8 else if d.kind=8 then 8*((8^i:Nat):Int)else((8^i:Nat):Int)):Int)<=1125899906842624:=by
     have h1:8^(i+1)=8*8^i:=by rw[Nat.pow_succ];omega
     have:=Fa (k:=i) (by omega)
     split
     ·omega
     ·split<;>omega
    refine BK (UQ (nd:=d.lZ) (T:=t.getD []) hC i2) ?_
    have h1:8^(i+1)=8*8^i:=by rw[Nat.pow_succ];omega
    have e:d.lZ.kind=d.kind:=rfl
    rw[e]
    by_cases h0:i=0
    ·subst h0
     have:=hm.src.2 rfl
     rw[if_neg (by omega),if_pos rfl];decide
    ·rw[if_neg h0]
     by_cases h4:d.kind=4
     ·rw[if_pos h4,if_neg (by omega)];omega
     ·rw[if_neg h4]
      split<;>omega
   ·have h1:=EI d.lZ (jQ r d i st.1) (t.getD [])
    have e:d.lZ.kind=d.kind:=rfl
    rw[e]at h1
    have h2:(((aN d.lZ (t.getD []) (jQ r d i st.1)).1.length:Nat):Int)<=((wid d.kind*(jQ r d i st.1).length:Nat):Int):=by omega
    rw[Int.natCast_mul,Int.mul_comm]at h2
    omega
theorem Sm {j:Jb}(hj:bK j=true)(hR:JR j.nodes){Ts:Tabs}(hT:dF j.nodes Ts){r:Rec}(hr:aU r)(hp:r.pos=1): ∀k,k<=j.nodes.length->BD j.nodes k (oO j.nodes r Ts k)
 |0,_=>⟨rfl,hT,fun i L h=>by simp[oO]at h⟩
 |k+1,hk=>BD.step hj hR hr hp (List.getElem?_eq_getElem (by omega)) (Sm hj hR hT hr hp k (by omega))
theorem uZ {j:Jb}(hj:bK j=true)(hR:JR j.nodes){Ts:Tabs}(hT:dF j.nodes Ts){key val:Int}(hk:aI key)(hv:aI val):
 dF j.nodes (fU j.nodes Ts key val).2/\(∀q∈(fU j.nodes Ts key val).1,aU q)/\mW 1125899906842624 (fU j.nodes Ts key val).1/\(fU j.nodes Ts key val).1.length<=64:=by
 have hr:aU ⟨1,key,val⟩:=⟨.small (by simp) (by simp),hk,hv⟩
 have h:=Sm hj hR hT hr rfl j.nodes.length (Nat.le_refl _)
 have hh:=(kR hj).1
 unfold fZ at hh
 simp only[Bool.or_eq_false_iff,decide_eq_false_iff_not]at hh
 have hn:j.nodes.length-1<(oO j.nodes ⟨1,key,val⟩ Ts j.nodes.length).1.length:=by rw[h.len];omega
 obtain⟨L,hL⟩: ∃L,(oO j.nodes ⟨1,key,val⟩ Ts j.nodes.length).1[j.nodes.length-1]?=some L:=⟨_,List.getElem?_eq_getElem hn⟩
 have ho:=h.rows _ _ hL
 have e:(fU j.nodes Ts key val).1=dM L:=by
  unfold fU
  simp only
  rw[List.getD_eq_getElem?_getD,hL];rfl
 have hw:=(uh hj (k:=j.nodes.length-1) (List.getElem?_eq_getElem (by omega))).ways
 refine⟨h.tabs,?_,?_,?_⟩
 ·rw[e];exact fun q hq=>ho.recs q (qA.1 hq)
 ·rw[e]
  refine⟨wR ?_,fun q hq=>?_⟩
  ·rw[List.Nodup,List.pairwise_map]
   exact ho.rise.1.imp fun h=>by omega
  ·have h1:=ho.rise.2 q (qA.1 hq)
   have:=Fa (k:=j.nodes.length-1) (by omega)
   omega
 ·rw[e,mQ]
  have:=ho.few
  omega
def lD (nodes:List JN)(i:Nat):Int:=if dU i (nodes.getD i default)=false then 120 else if ku nodes i (nodes.getD i default)=true then 121 else 0
def iZ (j:Jb):Int×Int:=
 if fZ j=true then(0,2)else
 match(List.range j.nodes.length).find? (fun i=>lD j.nodes i !=0)with
 |some i=>((i:Int),lD j.nodes i)
 |none=>match(List.range j.nodes.length).find? (fun i=>bD j.nodes i (j.nodes.getD i default))with
  |some i=>((i:Int),122)
  |none=>(0,0)
theorem Gv {j:Jb}(h:fZ j=true):iZ j=(0,2):=by unfold iZ;rw[if_pos h]
theorem MB {j:Jb}(h0:fZ j=false){k:Nat}(hk:k<j.nodes.length)(hp: ∀m,m<k->lD j.nodes m=0){e:Int}(he:lD j.nodes k=e)(hne:e≠0):iZ j=((k:Int),e):=by
 have hf:(List.range j.nodes.length).find? (fun i=>lD j.nodes i !=0)=some k:=by
  rw[List.find?_range_eq_some]
  refine⟨by rw[he];simp[hne],by simp[hk],fun m hm=>by rw[hp m hm];rfl⟩
 unfold iZ
 rw[if_neg (by rw[h0];simp),hf]
 show((k:Int),lD j.nodes k)=_
 rw[he]
theorem um {j:Jb}(hp: ∀m,m<j.nodes.length->lD j.nodes m=0):(List.range j.nodes.length).find? (fun i=>lD j.nodes i !=0)=none:=by
 rw[List.find?_range_eq_none]
 intro m hm;rw[hp m hm];rfl
theorem yP {j:Jb}(h0:fZ j=false)(h1: ∀m,m<j.nodes.length->lD j.nodes m=0){k:Nat}{d:JN}(hd:j.nodes[k]?=some d)(hp: ∀m e,m<k->j.nodes[m]?=some e->bD j.nodes m e=false)(hs:bD j.nodes k d=true):iZ j=((k:Int),122):=by
 have hk:k<j.nodes.length:=(List.getElem?_eq_some_iff.1 hd).1
 have hf:(List.range j.nodes.length).find? (fun i=>bD j.nodes i (j.nodes.getD i default))=some k:=by
  rw[List.find?_range_eq_some]
  refine⟨by rw[List.getD_eq_getElem?_getD,hd];exact hs,by simp[hk],fun m hm=>?_⟩
  have hm':m<j.nodes.length:=by omega
  rw[List.getD_eq_getElem?_getD,List.getElem?_eq_getElem hm']
  show(!bD j.nodes m j.nodes[m])=true
  rw[hp m _ hm (List.getElem?_eq_getElem hm')];rfl
 unfold iZ
 rw[if_neg (by rw[h0];simp),um h1,hf]
theorem PZ {j:Jb}(h0:fZ j=false)(h1: ∀m,m<j.nodes.length->lD j.nodes m=0)(hp: ∀m e,m<j.nodes.length->j.nodes[m]?=some e->bD j.nodes m e=false):iZ j=(0,0):=by
 have hf:(List.range j.nodes.length).find? (fun i=>bD j.nodes i (j.nodes.getD i default))=none:=by
  rw[List.find?_range_eq_none]
  intro m hm
  rw[List.getD_eq_getElem?_getD,List.getElem?_eq_getElem hm]
  show(!bD j.nodes m j.nodes[m])=true
  rw[hp m _ hm (List.getElem?_eq_getElem hm)];rfl
 unfold iZ
 rw[if_neg (by rw[h0];simp),um h1,hf]
theorem wJ {nodes:List JN}{k:Nat}{d:JN}(hd:nodes[k]?=some d):lD nodes k=0↔dU k d=true/\ku nodes k d=false:=by
 unfold lD
 rw[List.getD_eq_getElem?_getD,hd]
 show(if dU k d=false then(120:Int)else if ku nodes k d=true then 121 else 0)=0↔_
 cases dU k d<;>cases ku nodes k d<;>simp
theorem Zc {nodes:List JN}{k:Nat}{d:JN}(hd:nodes[k]?=some d)(h:dU k d=false):lD nodes k=120:=by
 unfold lD
 rw[List.getD_eq_getElem?_getD,hd]
 show(if dU k d=false then(120:Int)else if ku nodes k d=true then 121 else 0)=_
 rw[if_pos h]
theorem Zb {nodes:List JN}{k:Nat}{d:JN}(hd:nodes[k]?=some d)(h:dU k d=true)(h2:ku nodes k d=true):lD nodes k=121:=by
 unfold lD
 rw[List.getD_eq_getElem?_getD,hd]
 show(if dU k d=false then(120:Int)else if ku nodes k d=true then 121 else 0)=_
 rw[if_neg (by rw[h];simp),if_pos h2]
theorem uj (j:Jb):bK j=decide ((iZ j).2=0):=by
 have:= @um j
 cases h0:fZ j with
 |true=>
  rw[Gv h0]
  unfold bK;rw[h0];rfl
 |false=>
  cases h:bK j with
  |true=>
   obtain⟨_,h2⟩:=kR h
   rw[PZ h0 (fun m hm=>(wJ (List.getElem?_eq_getElem hm)).2 ⟨(h2 m _ (List.getElem?_eq_getElem hm)).1,(h2 m _ (List.getElem?_eq_getElem hm)).2.1⟩) (fun m e _ he=>(h2 m e he).2.2)]
   rfl
  |false=>
   refine(decide_eq_false fun hz=>?_).symm
   have:bK j=true:=by
    have h1: ∀m,m<j.nodes.length->lD j.nodes m=0:=by
     intro m hm
     cases hf:(List.range j.nodes.length).find? (fun i=>lD j.nodes i !=0)with
     |none=>
      rw[List.find?_range_eq_none]at hf
      simpa using hf m hm
     |some i=>
      unfold iZ at hz
      rw[if_neg (by rw[h0];simp),hf]at hz
      have:=List.find?_some hf
      rw[show lD j.nodes i=0 from hz]at this
      cases this
    refine MR h0 fun i d hd=>?_
    have hi:i<j.nodes.length:=(List.getElem?_eq_some_iff.1 hd).1
    have h3:=(wJ hd).1 (h1 i hi)
    refine⟨h3.1,h3.2,?_⟩
    cases hf:(List.range j.nodes.length).find? (fun i=>bD j.nodes i (j.nodes.getD i default))with
    |none=>
     rw[List.find?_range_eq_none]at hf
     have:=hf i hi
     rw[List.getD_eq_getElem?_getD,hd]at this
     simpa using this
    |some i=>
     unfold iZ at hz
     rw[if_neg (by rw[h0];simp),um h1,hf]at hz
     cases hz
   rw[h]at this;cases this
theorem Yb {k:Nat}{d:JN}(h1:dU k d=true):d.ins.length<=3/\ ∀x∈d.ins,0<=x/\x<(k:Int):=by
 unfold dU Df at h1
 split at h1
 ·cases h1
 split at h1
 ·cases h1
 rename_i hb
 have hgood:ji d.ins k=true:=by
  cases e:ji d.ins k with
  |true=>rfl
  |false=>exact absurd (.inr (.inr e)) hb
 have b2:d.ins.length<=iG d.kind:=Nat.le_of_not_lt fun h=>hb (.inr (.inl h))
 unfold ji at hgood
 rw[Bool.and_eq_true,List.all_eq_true,decide_eq_true_eq]at hgood
 refine⟨?_,fun x hx=>by simpa using hgood.2 x hx⟩
 have:iG d.kind<=3:=by unfold iG;split;omega;split<;>omega
 omega
def jC (W ins:List Int)(m:Nat):Int:=((ins.take m).map fun k=>W.getD k.toNat 0).sum
theorem Gg {W ins:List Int}{m:Nat}{x:Int}(h:ins[m]?=some x):jC W ins (m+1)=jC W ins m+W.getD x.toNat 0:=by
 unfold jC
 rw[List.take_add_one,h]
 simp
theorem Ey {W:List Int}(h: ∀x∈W,0<=x/\x<=64)(i:Nat):0<=W.getD i 0/\W.getD i 0<=64:=by
 rw[List.getD_eq_getElem?_getD]
 cases e:W[i]? with
 |none=>simp
 |some x=>exact h x (List.mem_of_getElem? e)
theorem yG {W ins:List Int}(h: ∀x∈W,0<=x/\x<=64): ∀m,0<=jC W ins m/\jC W ins m<=64*(m:Int)
 |0=>by simp[jC]
 |m+1=>by
  have ih:=yG (ins:=ins) h m
  cases e:ins[m]? with
  |none=>
   have:jC W ins (m+1)=jC W ins m:=by unfold jC;rw[List.take_add_one,e];simp
   rw[this];omega
  |some x=>
   have:=Ey h x.toNat
   rw[Gg e];omega
theorem Tf (W:List Int)(d:JN):rG W d=if d.kind=1 then 1 else jC W d.ins d.ins.length*(if d.kind=4 then 4 else 1):=by
 unfold rG jC;rw[List.take_length]
theorem row_ne {w:World}{base n B T E:Nat}{v:Value}{xs:List Value}{cs:Array Value}{f:Nat×Nat}(h:w.ownsRow base E 1 v n xs)(hB:w.heap[B]?=some (.cells cs T f))(hTE:T≠E):v.ownBlock≠some B:=by
 intro e
 rcases h.2 with⟨e1,_⟩|⟨g,cap,cur,e1,_,hg,_⟩
 ·rw[e1]at e;cases e
 ·rw[e1]at e
  have:g=B:=by simpa[Value.ownBlock]using e
  subst this
  rw[hg]at hB
  injection hB with hB
  injection hB with _ h2 _
  exact hTE h2.symm
theorem LJ {T E bytes:Nat}{z x:Value}{i:TypeInfo}(hT:Tryz.prog.underlying T=some (.slice E))(hi:Tryz.prog.info? E=some i)(hz:i.zero=some z)(hs:i.size=1)(hb:i.bytes=bytes)(hzc:z.cells.size=1)(hx:x.oneCell'=true)
 {wr:World} {base m:Nat} {v:Value} {xs:List Value} (hown:wr.ownsRow base E 1 v m xs) (hm:m<=100000) (hbb:bytes<=1000) (hbase:base<=wr.heap.size) (ty:TypeId):
 ∃g cap w',(Builtin.append_ #[T,T] ty #[v, .slice (some ⟨wr.heap.size,0,none⟩) 1 1]).run Tryz.prog (wr.alloc (.cells #[x] E))= .ok (.slice (some ⟨g,0,none⟩) (m+1) cap) w'/\w'.ownsRow base E 1 (.slice (some ⟨g,0,none⟩) (m+1) cap) (m+1) (xs++[x])/\Kept (fun k=>v.ownBlock=some k) wr w':=by
 have kA:Kept none' wr (wr.alloc (.cells #[x] E)):=(Kept.refl _ _).alloc _
 have hr:=Reads.lit wr [x] E 1 1 rfl (by unfold maxLen;omega)
 obtain⟨v',n',w',b1,b2,b3,b4,_⟩:=aW (P:=Tryz.prog) base T ty E i z 1 bytes hT hi hz hs hb hzc (by omega) (kA.owns hown (fun _ _ h=>h)) hr (by intro y hy;rw[List.mem_singleton.1 hy];exact hx)
  (by
    simp only[List.length_singleton,Nat.mul_one]
    calc(m+1)*bytes<=100001*1000:=Nat.mul_le_mul (by omega) hbb
     _<=140737488355328:=by decide) (by simp;unfold maxLen;omega) (by have:=kA.size;omega)
 have hn:n'=m+1:=by simpa using b3
 subst hn
 have hg: ∃g cap,v'= .slice (some ⟨g,0,none⟩) (m+1) cap:=by
  rcases b2.2 with⟨e1,_⟩|⟨g,cap,cur,e1,_⟩
  ·have:=b2.1
   have h2:=b2.2
   rcases h2 with⟨_,e2⟩|⟨g,cap,cur,e1',_⟩
   ·omega
   ·rw[e1]at e1';cases e1'
  ·exact⟨g,cap,e1⟩
 obtain⟨g,cap,rfl⟩:=hg
 exact⟨g,cap,w',b1,b2,kA.pure.trans (Kept.grown b4 (fun k hk _=>hk))⟩
end Go.Proofs.YtopeleenlcnkkaaGreatDoor
