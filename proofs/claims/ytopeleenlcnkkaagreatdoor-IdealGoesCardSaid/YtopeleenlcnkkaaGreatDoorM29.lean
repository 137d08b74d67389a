/- WHAT IS FED, IN PLAIN WORDS: how many records come of one, that they rise by their places, that tables stay good. -/
import Derived.Test.YtopeleenlcnkkaaGreatDoorM28
set_option linter.unusedVariables false
set_option linter.unusedSimpArgs false
set_option maxHeartbeats 1000000
set_option maxRecDepth 100000
namespace Go.Proofs.YtopeleenlcnkkaaGreatDoor
open Go Go.RowKit
def Pn (x:Ex):Prop:= ∀env,lZ env->aK (dJ x env)
def wid (kind:Int):Nat:=if kind=4 then 4 else 1
def wQ (kind p:Int):Int:=if kind=4 then 8*p else p
theorem LP (x:Int):jI x<=4:=by unfold jI;omega
theorem Gq (r:Rec)(k:Nat):(kC r k).length=k:=by simp[kC]
theorem Tv (nd:cu)(T:Tab)(r:Rec):(aJ nd T r).1.length<=wid nd.kind:=by
 unfold aJ wid
 have:=LP (dJ nd.x (aC r))
 repeat' split
 all_goals first|(simp only[Gq];omega)|(simp only[List.length_cons,List.length_nil];omega)
theorem DZ (nd:cu): ∀(L:List Rec)(T:Tab),(aN nd T L).1.length<=wid nd.kind*L.length
 |[],T=>by simp[aN]
 |r::l,T=>by
  have h1:=Tv nd T r
  have h2:=DZ nd l (aJ nd T r).2
  simp only[aN,List.length_append,List.length_cons,Nat.mul_add,Nat.mul_one]
  omega
theorem wY {n:Int}(h:aK n):wrap64 n=n:=by unfold aK at h;unfold wrap64;omega
theorem Tm (l:List Int):aK (sumW l):=by
 unfold sumW
 have: ∀(l:List Int)(a:Int),aK a->aK (l.foldl (fun a x=>wrap64 (a+x)) a):=by
  intro l
  induction l with
  |nil=>exact fun a h=>h
  |cons x l ih=>exact fun a _=>ih _ (kK _)
 exact this l 0 dQ
theorem D7 {T:Tab}(h:dB T)(k:Int):Ed (cellOf T k):=by
 unfold cellOf
 cases e:eP T k with
 |none=>exact⟨dQ,by simp,by simp⟩
 |some c=>exact h.cell _ ((jU h.rises).1 e)
theorem TP {T:Tab}{k:Int}{n:Nat}(h:gu T k n=0):n<=16/\(eP T k≠none\/bG T (grp k)<40):=by
 unfold gu at h
 split at h
 ·cases h
 ·split at h
  ·cases h
  ·rename_i h1 h2
   refine⟨by omega,?_⟩
   by_cases hn:eP T k=none
   ·right
    exact Nat.lt_of_not_le (fun h3=>h2 ⟨hn,h3⟩)
   ·exact .inl hn
theorem dB.ig {T:Tab}(h:dB T){k:Int}{c:Cell}(hk:aK k)(h1:aK c.1)(h2: ∀x∈c.2,aK x):dB (ig T k c):=by
 unfold Go.Proofs.YtopeleenlcnkkaaGreatDoor.ig
 split
 ·rename_i he
  obtain⟨h3,h4⟩:=TP he
  exact h.fK hk ⟨h1,h2,h3⟩ h4
 ·exact h
theorem WV {T:Tab}(h:bT T){k:Int}{c:Cell}{p:Int×Cell}(hp:p∈ig T k c):p=(k,c)\/p∈T:=by
 unfold ig at hp
 split at hp
 ·rcases(iq h).1 hp with hp|hp
  ·exact .inl hp
  ·exact .inr hp.1
 ·exact .inr hp
theorem Kq {nd:cu}{T:Tab}{r:Rec}(hx:Pn nd.x)(hT:dB T)(hr:bg r):dB (aJ nd T r).2:=by
 have hc:=D7 hT r.key
 have hl: ∀x∈(cellOf T r.key).2++[r.val],aK x:=fun x hx=>by
  rcases List.mem_append.1 hx with hx|hx
  ·exact hc.2.1 x hx
  ·rw[List.mem_singleton.1 hx];exact hr.val
 have h7:=hT.ig (c:=((cellOf T r.key).1,(cellOf T r.key).2++[r.val])) hr.key hc.1 hl
 have h6:=hT.ig (c:=(dJ nd.x {aC r with acc:=(cellOf T r.key).1},[])) hr.key (hx _ ⟨hr.key,hr.val,hc.1⟩) (by simp)
 unfold aJ
 repeat' split
 all_goals first|exact hT|exact h6|exact h7|exact h7.kX _
theorem vw {n acc:Int}{l:List Int}:bQ 7 n (acc,l)=true↔acc=0/\1<=l.length/\(l.length:Int)<n:=by
 have e:bQ 7 n (acc,l)=!((!decide (acc=0))||decide (l.length<1)||decide (n<=(l.length:Int))):=by
  unfold bQ
  rw[show decide ((7:Int)=6)=false from rfl,show decide ((7:Int)=7)=true from rfl]
  simp
 rw[e]
 by_cases h1:acc=0
 ·by_cases h2:l.length<1
  ·rw[decide_eq_true h1,decide_eq_true h2]
   exact⟨fun h=>(by cases h),fun h=>by omega⟩
  ·by_cases h3:n<=(l.length:Int)
   ·rw[decide_eq_true h1,decide_eq_false h2,decide_eq_true h3]
    exact⟨fun h=>(by cases h),fun h=>by omega⟩
   ·rw[decide_eq_true h1,decide_eq_false h2,decide_eq_false h3]
    exact⟨fun _=>by omega,fun _=>rfl⟩
 ·rw[decide_eq_false h1]
  exact⟨fun h=>(by cases h),fun h=>absurd h.1 h1⟩
theorem LQ {n acc:Int}{l:List Int}:bQ 6 n (acc,l)=true↔l=[]:=by
 unfold bQ
 simp
theorem fits_all {kind n:Int}{T:Tab}(h:eY kind n T=true):stateful kind=true/\ ∀p∈T,bQ kind n p.2=true:=by
 unfold eY at h
 rw[Bool.and_eq_true,List.all_eq_true]at h
 exact h
theorem EK {kind n:Int}{T:Tab}(h1:stateful kind=true)(h2: ∀p∈T,bQ kind n p.2=true):eY kind n T=true:=by
 unfold eY
 rw[Bool.and_eq_true,List.all_eq_true]
 exact⟨h1,h2⟩
theorem TA {nd:cu}{T:Tab}{r:Rec}(hT:dB T)(hf:eY nd.kind nd.n T=true):eY nd.kind nd.n (aJ nd T r).2=true:=by
 obtain⟨h1,h2⟩:=fits_all hf
 unfold aJ
 by_cases h6:nd.kind=6
 ·rw[if_neg (by omega),if_neg (by omega),if_neg (by omega),if_neg (by omega),if_pos h6]
  refine EK h1 fun p hp=>?_
  rcases WV hT.rises hp with rfl|hp
  ·rw[h6];exact LQ.2 rfl
  ·exact h2 p hp
 ·have h7:nd.kind=7:=by
   unfold stateful at h1
   simp at h1
   omega
  rw[if_neg (by omega),if_neg (by omega),if_neg (by omega),if_neg (by omega),if_neg h6,if_pos h7]
  have hacc:(cellOf T r.key).1=0:=by
   unfold cellOf
   cases e:eP T r.key with
   |none=>rfl
   |some c=>
    have:=h2 _ ((jU hT.rises).1 e)
    rw[h7]at this
    obtain⟨a,l⟩:=c
    exact(vw.1 this).1
  have key: ∀p∈ig T r.key ((cellOf T r.key).1,(cellOf T r.key).2++[r.val]),p.1≠r.key\/gu T r.key ((cellOf T r.key).2.length+1)≠0\/(((cellOf T r.key).2.length+1:Nat):Int)<nd.n->bQ nd.kind nd.n p.2=true:=by
   intro p hp hh
   by_cases hE:gu T r.key ((cellOf T r.key).2.length+1)=0
   ·unfold ig at hp
    rw[if_pos (by simpa using hE)]at hp
    rcases(iq hT.rises).1 hp with rfl|⟨hp,_⟩
    ·rw[h7]
     refine vw.2 ⟨hacc,by simp,?_⟩
     rcases hh with hh|hh|hh
     ·exact absurd rfl hh
     ·exact absurd hE hh
     ·simpa using hh
    ·exact h2 p hp
   ·unfold ig at hp
    rw[if_neg (by simpa using hE)]at hp
    exact h2 p hp
  split
  ·rename_i hh
   exact EK h1 fun p hp=>key p hp (.inr hh)
  ·exact EK h1 fun p hp=>by
    obtain⟨hp,hne⟩:=pW.1 hp
    exact key p hp (.inl hne)
theorem Tt {nd:cu}{T:Tab}{r:Rec}(hx:Pn nd.x)(hT:dB T)(hr:bg r): ∀q∈(aJ nd T r).1,bg q:=by
 have e1:=hx _ (rM hr)
 have e2:=hx {aC r with acc:=(cellOf T r.key).1} ⟨hr.key,hr.val,(D7 hT r.key).1⟩
 have one: ∀(q x:Rec),x∈[q]->bg q->bg x:=fun q x h k=>by rw[List.mem_singleton.1 h];exact k
 intro q hq
 unfold aJ at hq
 repeat' split at hq
 all_goals first
  |exact one _ _ hq ⟨hr.pos,hr.key,e1⟩
  |exact one _ _ hq ⟨hr.pos,e1,hr.val⟩
  |exact one _ _ hq hr
  |exact one _ _ hq ⟨hr.pos,hr.key,e2⟩
  |exact one _ _ hq ⟨hr.pos,hr.key,Tm _⟩
  |(unfold kC at hq;obtain⟨i,_,rfl⟩:=List.mem_map.1 hq;exact⟨kK _,hr.key,kK _⟩)
  |(cases hq)
theorem Bf {nd:cu}(hx:Pn nd.x): ∀(L:List Rec)(T:Tab),dB T->(∀r∈L,bg r)->dB (aN nd T L).2/\ ∀q∈(aN nd T L).1,bg q
 |[],T,hT,_=>⟨hT,by simp[aN]⟩
 |r::l,T,hT,hL=>by
  have hr:=hL r (by simp)
  have ih:=Bf hx l _ (Kq hx hT hr) (fun q hq=>hL q (by simp[hq]))
  refine⟨ih.1,fun q hq=>?_⟩
  simp only[aN]at hq
  rcases List.mem_append.1 hq with hq|hq
  ·exact Tt hx hT hr q hq
  ·exact ih.2 q hq
theorem Bh {nd:cu}(hx:Pn nd.x): ∀(L:List Rec)(T:Tab),dB T->(∀r∈L,bg r)->eY nd.kind nd.n T=true->eY nd.kind nd.n (aN nd T L).2=true
 |[],T,_,_,hf=>hf
 |r::l,T,hT,hL,hf=>Bh hx l _ (Kq hx hT (hL r (by simp))) (fun q hq=>hL q (by simp[hq])) (TA hT hf)
def mD (C:Int)(L:List Rec):Prop:=L.Pairwise (fun a b=>a.pos<b.pos)/\ ∀r∈L,1<=r.pos/\r.pos<C
theorem flat_get {r:Rec}{k:Nat}:kC r k=(List.range k).map fun(i:Nat)=>(⟨wrap64 (wrap64 (8*r.pos)+(i:Int)),r.key,wrap64 (r.val+(i:Int))⟩:Rec):=rfl
theorem Tq {nd:cu}{T:Tab}{r:Rec}(h0:1<=r.pos)(h1:r.pos<1125899906842624):
 (aJ nd T r).1.Pairwise (fun a b=>a.pos<b.pos)/\ ∀q∈(aJ nd T r).1,wQ nd.kind r.pos<=q.pos/\q.pos<wQ nd.kind r.pos+wid nd.kind:=by
 by_cases h4:nd.kind=4
 ·have e:(aJ nd T r).1=kC r (jI (dJ nd.x (aC r))):=by
   unfold aJ
   rw[if_neg (by omega),if_neg (by omega),if_neg (by omega),if_pos h4]
  have hk:=LP (dJ nd.x (aC r))
  have pos: ∀i:Nat,i<4->wrap64 (wrap64 (8*r.pos)+(i:Int))=8*r.pos+i:=fun i hi=>by
   rw[wY (n:=8*r.pos) ⟨by omega,by omega⟩,wY ⟨by omega,by omega⟩]
  rw[e,flat_get]
  refine⟨?_,fun q hq=>?_⟩
  ·rw[List.pairwise_map]
   refine List.Pairwise.imp_of_mem ?_ (List.pairwise_lt_range (n:=jI (dJ nd.x (aC r))))
   intro a b ha hb hab
   have ha:=List.mem_range.1 ha
   have hb:=List.mem_range.1 hb
   simp only[pos a (by omega),pos b (by omega)]
   omega
  ·obtain⟨i,hi,rfl⟩:=List.mem_map.1 hq
   have hi:=List.mem_range.1 hi
   simp only[pos i (by omega)]
   unfold wQ wid
   rw[if_pos h4,if_pos h4]
   omega
 ·have key:(aJ nd T r).1=[]\/ ∃q,(aJ nd T r).1=[q]/\q.pos=r.pos:=by
   unfold aJ
   repeat' split
   all_goals first|exact .inl rfl|exact .inr ⟨_,rfl,rfl⟩|(exact absurd (by assumption) h4)
  unfold wQ wid
  rw[if_neg h4,if_neg h4]
  rcases key with e|⟨q,e,hq⟩
  ·rw[e];exact⟨.nil,by simp⟩
  ·rw[e]
   refine⟨by simp,fun x hx=>?_⟩
   rw[List.mem_singleton.1 hx,hq];omega
theorem Bd {nd:cu}{C:Int}(hC:C<=1125899906842624): ∀(L:List Rec)(T:Tab),mD C L->
 (aN nd T L).1.Pairwise (fun a b=>a.pos<b.pos)/\ ∀q∈(aN nd T L).1,∃r∈L,wQ nd.kind r.pos<=q.pos/\q.pos<wQ nd.kind r.pos+wid nd.kind
 |[],T,_=>⟨by simp[aN],by simp[aN]⟩
 |r::l,T,⟨hp,hb⟩=>by
  obtain⟨hp1,hp2⟩:=List.pairwise_cons.1 hp
  obtain⟨i1,i2⟩:=Bd (nd:=nd) hC l (aJ nd T r).2 ⟨hp2,fun q hq=>hb q (by simp[hq])⟩
  have hr:=hb r (by simp)
  obtain⟨s1,s2⟩:=Tq (nd:=nd) (T:=T) hr.1 (by omega)
  have hw: ∀q∈l,wQ nd.kind r.pos+wid nd.kind<=wQ nd.kind q.pos:=fun q hq=>by
   have:=hp1 q hq
   unfold wQ wid
   split<;>omega
  simp only[aN]
  refine⟨List.pairwise_append.2 ⟨s1,i1,fun a ha b hbb=>?_⟩,fun q hq=>?_⟩
  ·have ha:=s2 a ha
   obtain⟨x,hx,hx1,_⟩:=i2 b hbb
   have:=hw x hx
   omega
  ·rcases List.mem_append.1 hq with hq|hq
   ·exact⟨r,by simp,s2 q hq⟩
   ·obtain⟨x,hx,hh⟩:=i2 q hq
    exact⟨x,by simp[hx],hh⟩
theorem TI {nd:cu}{C:Int}{L:List Rec}{T:Tab}(hC:C<=1125899906842624)(h:mD C L):mD (if nd.kind=4 then 8*C else C) (aN nd T L).1:=by
 obtain⟨h1,h2⟩:=Bd (nd:=nd) hC L T h
 refine⟨h1,fun q hq=>?_⟩
 obtain⟨r,hr,h3,h4⟩:=h2 q hq
 have:=h.2 r hr
 unfold wQ at h3 h4
 unfold wid at h4
 by_cases hk:nd.kind=4
 ·rw[if_pos hk]at h3 h4⊢;rw[if_pos hk]at h4;omega
 ·rw[if_neg hk]at h3 h4⊢;rw[if_neg hk]at h4;omega
theorem wL {L:List Rec}(h:(L.map (·.pos)).Nodup):(dK L).Pairwise (fun a b=>a.pos<b.pos):=by
 have hs:=yS L
 have hp:(dK L).Perm L:=List.mergeSort_perm L _
 have hn:((dK L).map (·.pos)).Nodup:=(hp.map (·.pos)).nodup_iff.2 h
 unfold Sorted at hs
 rw[List.Nodup,List.pairwise_map]at hn
 exact hs.imp₂ (fun a b h1 h2=>by omega) hn
theorem BA {b:Nat}{r:Rec}{C:Int}(hb:b<8)(h1:1<=r.pos)(h2:r.pos<C)(hC:C<=1125899906842624):(lM b r).pos=8*r.pos+b:=by
 unfold lM
 simp only
 rw[wY (n:=8*r.pos) ⟨by omega,by omega⟩,wY ⟨by omega,by omega⟩]
theorem Cm {C:Int}(hC:C<=1125899906842624): ∀(LL:List (List Rec))(b:Nat),b+LL.length<=8->(∀L∈LL,mD C L)->
 (((gQ b LL).flatten).map (·.pos)).Nodup/\ ∀q∈(gQ b LL).flatten,8<=q.pos/\q.pos<8*C/\(b:Int)<=q.pos%8
 |[],b,_,_=>by simp[gQ]
 |L::LL,b,hb,h=>by
  rw[List.length_cons]at hb
  have ih:=Cm hC LL (b+1) (by omega) (fun M hM=>h M (by simp[hM]))
  have hL:=h L (by simp)
  have hpos: ∀q∈L.map (lM b),∃r∈L,q.pos=8*r.pos+b:=fun q hq=>by
   obtain⟨r,hr,rfl⟩:=List.mem_map.1 hq
   exact⟨r,hr,BA (by omega) (hL.2 r hr).1 (hL.2 r hr).2 hC⟩
  have e:gQ b (L::LL)=L.map (lM b)::gQ (b+1) LL:=rfl
  rw[e,List.flatten_cons,List.map_append]
  refine⟨List.nodup_append.2 ⟨?_,ih.1,fun x hx y hy=>?_⟩,fun q hq=>?_⟩
  ·rw[List.Nodup,List.map_map,List.pairwise_map]
   refine List.Pairwise.imp_of_mem ?_ hL.1
   intro a c ha hc hac
   simp only[Function.comp]
   rw[BA (by omega) (hL.2 a ha).1 (hL.2 a ha).2 hC,BA (by omega) (hL.2 c hc).1 (hL.2 c hc).2 hC]
   omega
  ·obtain⟨q,hq,rfl⟩:=List.mem_map.1 hx
   obtain⟨q',hq',rfl⟩:=List.mem_map.1 hy
   obtain⟨r,hr,hrp⟩:=hpos q hq
   have:=(ih.2 q' hq').2.2
   intro e
   omega
  ·rcases List.mem_append.1 hq with hq|hq
   ·obtain⟨r,hr,hrp⟩:=hpos q hq
    have:=hL.2 r hr
    omega
   ·have:=ih.2 q hq
    omega
theorem Nw {kind C:Int}{LL:List (List Rec)}(hC:C<=1125899906842624)(h: ∀L∈LL,mD C L)(hn:kind=8/\LL.length<=3\/kind≠8/\LL.length<=1):mD (if kind=8 then 8*C else C) (jH kind LL):=by
 unfold jH
 rcases hn with⟨hk,hl⟩|⟨hk,hl⟩
 ·rw[if_pos hk,if_pos hk]
  obtain⟨h1,h2⟩:=Cm hC LL 0 (by omega) h
  refine⟨wL h1,fun q hq=>?_⟩
  have:=h2 q (qI.1 hq)
  omega
 ·rw[if_neg hk,if_neg hk]
  have hr:mD C LL.flatten:=by
   match LL,hl with
   |[],_=>exact⟨.nil,by simp⟩
   |[L],_=>simpa using h L (by simp)
  refine⟨wL ?_,fun q hq=>hr.2 q (qI.1 hq)⟩
  rw[List.Nodup,List.pairwise_map]
  exact hr.1.imp fun h=>by omega
theorem Ku {α:Type}{p:List α->Prop}(h0:p [])(h1: ∀l a,p l->p (l++[a]))(l:List α):p l:=by
 rw[<-List.reverse_reverse l]
 induction l.reverse with
 |nil=>exact h0
 |cons a l ih=>rw[List.reverse_cons];exact h1 _ _ ih
theorem um (l:List JN)(d:JN):bW (l++[d])=bW l++[rW (bW l) d]:=by
 unfold bW;rw[List.foldl_append];rfl
theorem Ri (l:List JN): ∀m:List JN,∃t,bW (l++m)=bW l++t:=by
 refine Ku ⟨[],by simp⟩ fun m d ih=>?_
 ·obtain⟨t,ht⟩:=ih
  refine⟨t++[rW (bW (l++m)) d],?_⟩
  rw[<-List.append_assoc,um,ht,List.append_assoc]
theorem qy (l:List JN):(bW l).length=l.length:=by
 refine Ku (p:=fun l=>(bW l).length=l.length) rfl (fun l d ih=>?_) l
 rw[um,List.length_append,List.length_append,ih];rfl
theorem Rf (nodes:List JN)(k:Nat): ∃t,bW nodes=bW (nodes.take k)++t:=by
 have:=Ri (nodes.take k) (nodes.drop k)
 rwa[List.take_append_drop]at this
theorem GV {nodes:List JN}{k i:Nat}(hk:k<=nodes.length)(hi:i<k):(bW (nodes.take k)).getD i 0=(bW nodes).getD i 0:=by
 obtain⟨t,ht⟩:=Rf nodes k
 rw[ht,List.getD_eq_getElem?_getD,List.getD_eq_getElem?_getD,List.getElem?_append_left (by rw[qy,List.length_take];omega)]
theorem GX {nodes:List JN}{k:Nat}{d:JN}(hd:nodes[k]?=some d):(bW nodes).getD k 0=rW (bW (nodes.take k)) d:=by
 have hk:=(List.getElem?_eq_some_iff.1 hd).1
 have e:=GV (nodes:=nodes) (k:=k+1) (i:=k) (by omega) (by omega)
 rw[<-e,List.take_add_one,hd]
 show(bW (nodes.take k++[d])).getD k 0=_
 rw[um,List.getD_eq_getElem?_getD,List.getElem?_append_right (by rw[qy,List.length_take];omega),qy,List.length_take]
 rw[show k-min k nodes.length=0 by omega]
 rfl
structure ZP (nodes:List JN)(k:Nat)(d:JN):Prop where
 kind:1<=d.kind/\d.kind<=9
 name:lD d.uid=true
 ins:d.ins.length<=3
 one:d.kind≠8->d.ins.length<=1
 some:d.kind≠1->1<=d.ins.length
 src:d.kind=1↔k=0
 snk:d.kind=9↔k+1=nodes.length
 low: ∀x∈d.ins,0<=x/\x<(k:Int)
 nodup:d.ins.Nodup
 ways:(bW nodes).getD k 0<=64
 n:0<=d.n/\d.n<=16
theorem uy {j:Jb}(h:dw j=true){k:Nat}{d:JN}(hd:j.nodes[k]?=some d):ZP j.nodes k d:=by
 obtain⟨h1,_,h3⟩:=(lK h).2 k d hd
 unfold dN BM at h1
 split at h1
 ·cases h1
 rename_i ha
 split at h1
 ·cases h1
 rename_i hb
 split at h1
 ·cases h1
 rename_i hc
 unfold bD at h3
 simp only[Bool.or_eq_false_iff,bne_eq_false_iff_eq,decide_eq_false_iff_not,decide_eq_decide]at h3
 obtain⟨⟨⟨⟨⟨g1,g2⟩,g3⟩,g4⟩,g5⟩,g6⟩:=h3
 unfold jN at hc
 have hgood:iT d.ins k=true:=by
  cases e:iT d.ins k with
  |true=>rfl
  |false=>exact absurd (.inr (.inr e)) hb
 have b1:iM d.kind<=d.ins.length:=Nat.le_of_not_lt fun h=>hb (.inl h)
 have b2:d.ins.length<=gV d.kind:=Nat.le_of_not_lt fun h=>hb (.inr (.inl h))
 unfold iT at hgood
 rw[Bool.and_eq_true,List.all_eq_true,decide_eq_true_eq]at hgood
 refine⟨by omega,?_,?_,?_,?_,g1,g2,fun x hx=>by simpa using hgood.2 x hx,hgood.1,by omega,?_⟩
 ·cases e:lD d.uid with
  |true=>rfl
  |false=>exact absurd (.inl e) ha
 ·have:gV d.kind<=3:=by unfold gV;split;omega;split<;>omega
  omega
 ·intro e8
  have:gV d.kind<=1:=by unfold gV;rw[if_neg e8];split<;>omega
  omega
 ·intro e1
  have:1<=iM d.kind:=by unfold iM;rw[if_neg e1];split<;>omega
  omega
 ·split at hc<;>omega
def JR (nodes:List JN):Prop:= ∀d∈nodes,Pn d.x
structure Y7 (nodes:List JN)(i:Nat)(L:List Rec):Prop where
 recs: ∀q∈L,bg q
 rise:mD ((8^(i+1):Nat):Int) L
 few:(L.length:Int)<=(bW nodes).getD i 0
structure Ar (nodes:List JN)(k:Nat)(st:List (List Rec)×Tabs):Prop where
 len:st.1.length=k
 tabs:bY nodes st.2
 rows: ∀(i:Nat)(L:List Rec),st.1[i]?=some L->Y7 nodes i L
theorem AB {C D:Int}{L:List Rec}(h:mD C L)(hCD:C<=D):mD D L:=⟨h.1,fun r hr=>by have:=h.2 r hr;omega⟩
theorem J9: ∀(LL:List (List Rec)),(LL.flatten.length:Int)=(LL.map fun L=>(L.length:Int)).sum
 |[]=>rfl
 |L::LL=>by rw[List.flatten_cons,List.length_append,List.map_cons,List.sum_cons,<-J9 LL];omega
theorem Tj: ∀{α:Type}(l:List α)(f g:α->Int),(∀x∈l,f x<=g x)->(l.map f).sum<=(l.map g).sum
 |_,[],_,_,_=>by simp
 |_,x::l,f,g,h=>by
  rw[List.map_cons,List.map_cons,List.sum_cons,List.sum_cons]
  have:=h x (by simp)
  have:=Tj l f g (fun y hy=>h y (by simp[hy]))
  omega
theorem zU (kind:Int)(LL:List (List Rec)):(jH kind LL).length=LL.flatten.length:=by
 unfold jH
 rw[l9]
 split
 ·exact x9 0 LL
 ·rfl
def insOf (d:JN)(M:List (List Rec)):List (List Rec):=d.ins.map fun x=>M.getD x.toNat []
def jG (r:Rec)(d:JN)(k:Nat)(M:List (List Rec)):List Rec:=if k=0 then[r]else jH d.kind (insOf d M)
theorem A8 {nodes:List JN}{k:Nat}{d:JN}(hd:nodes[k]?=some d)(r:Rec)(st:List (List Rec)×Tabs):yK nodes r st k=
 (st.1++[(aN d.lI ((st.2.getD k none).getD []) (jG r d k st.1)).1],st.2.set k ((st.2.getD k none).map fun _=>(aN d.lI ((st.2.getD k none).getD []) (jG r d k st.1)).2)):=by
 have e:nodes.getD k default=d:=by rw[List.getD_eq_getElem?_getD,hd];rfl
 unfold yK jG insOf
 rw[e]
theorem Es {k:Nat}(hk:k<=12):8^(k+1)<=1125899906842624:=by
 have:8^(k+1)<=8^13:=Nat.pow_le_pow_right (by omega) (by omega)
 omega
theorem VR {b:Nat}{r:Rec}(h:bg r):bg (lM b r):=⟨kK _,h.key,h.val⟩
theorem GU: ∀(LL:List (List Rec))(b:Nat),(∀L∈LL,∀q∈L,bg q)-> ∀L∈gQ b LL,∀q∈L,bg q
 |[],_,_,_,hL,_,_=>by cases hL
 |M::LL,b,h,L,hL,q,hq=>by
  have e:gQ b (M::LL)=M.map (lM b)::gQ (b+1) LL:=rfl
  rw[e]at hL
  rcases List.mem_cons.1 hL with rfl|hL
  ·obtain⟨r,hr,rfl⟩:=List.mem_map.1 hq
   exact VR (h M (by simp) r hr)
  ·exact GU LL (b+1) (fun L' h'=>h L' (by simp[h'])) L hL q hq
theorem XQ {kind:Int}{LL:List (List Rec)}(h: ∀L∈LL,∀q∈L,bg q): ∀q∈jH kind LL,bg q:=by
 intro q hq
 unfold jH at hq
 have hq:=qI.1 hq
 obtain⟨L,hL,hqL⟩:=List.mem_flatten.1 hq
 split at hL
 ·exact GU LL 0 h L hL q hqL
 ·exact h L hL q hqL
theorem Rk {W:List Int}{d:JN}(h:d.kind≠1):rW W d=(d.ins.map fun k=>W.getD k.toNat 0).sum*(wid d.kind:Int):=by
 unfold rW wid
 rw[if_neg h]
 split<;>rfl
theorem Uy {j:Jb}(hj:dw j=true){r:Rec}(hr:bg r)(hp:r.pos=1){k:Nat}{d:JN}(hd:j.nodes[k]?=some d){st:List (List Rec)×Tabs}(h:Ar j.nodes k st):
 (∀q∈jG r d k st.1,bg q)/\mD (if k=0 then 8 else if d.kind=8 then 8*((8^k:Nat):Int)else((8^k:Nat):Int)) (jG r d k st.1)/\((jG r d k st.1).length:Int)*(wid d.kind:Int)<=(bW j.nodes).getD k 0/\(jG r d k st.1).length<=64/\
 (k≠0->(insOf d st.1).flatten.length<=64/\(insOf d st.1).length<=3):=by
 have hm:=uy hj hd
 have hlen:k<j.nodes.length:=(List.getElem?_eq_some_iff.1 hd).1
 have h12:j.nodes.length<=12:=by
  have:=(lK hj).1
  unfold fH at this
  simp only[Bool.or_eq_false_iff,decide_eq_false_iff_not]at this
  omega
 have hW:=GX hd
 unfold jG
 by_cases hk:k=0
 ·subst hk
  have h1:=hm.src.2 rfl
  rw[if_pos rfl,if_pos rfl]
  refine⟨fun q hq=>by rw[List.mem_singleton.1 hq];exact hr,⟨by simp,fun q hq=>by rw[List.mem_singleton.1 hq,hp];omega⟩,?_,by simp,fun h=>absurd rfl h⟩
  rw[hW]
  unfold rW wid
  rw[if_pos h1,if_neg (by omega)]
  simp
 ·rw[if_neg hk,if_neg hk]
  have h1:d.kind≠1:=fun e=>hk (hm.src.1 e)
  have hrow: ∀x∈d.ins,∃L,st.1[x.toNat]?=some L/\st.1.getD x.toNat []=L/\x.toNat<k:=by
   intro x hx
   have hx':=hm.low x hx
   have hlt:x.toNat<st.1.length:=by rw[h.len];omega
   exact⟨st.1[x.toNat],List.getElem?_eq_getElem hlt,by simp[List.getD_eq_getElem?_getD,hlt],by omega⟩
  have hins: ∀L∈insOf d st.1,∃i,i<k/\Y7 j.nodes i L:=by
   intro L hL
   obtain⟨x,hx,rfl⟩:=List.mem_map.1 hL
   obtain⟨L,e1,e2,e3⟩:=hrow x hx
   rw[e2]
   exact⟨_,e3,h.rows _ _ e1⟩
  have hC:((8^k:Nat):Int)<=1125899906842624:=by
   have:8^k<=8^(k+1):=Nat.pow_le_pow_right (by omega) (by omega)
   have:=Es (k:=k) (by omega)
   omega
  have acL:((insOf d st.1).flatten.length:Int)<=(d.ins.map fun x=>(bW (j.nodes.take k)).getD x.toNat 0).sum:=by
   rw[J9]
   unfold insOf
   rw[List.map_map]
   refine Tj _ _ _ fun x hx=>?_
   obtain⟨L,e1,e2,e3⟩:=hrow x hx
   simp only[Function.comp]
   rw[e2,GV (by omega) e3]
   exact(h.rows _ _ e1).few
  have acI:((insOf d st.1).flatten.length:Int)*(wid d.kind:Int)<=(bW j.nodes).getD k 0:=by
   rw[hW,Rk h1]
   exact Int.mul_le_mul_of_nonneg_right acL (by omega)
  have h64:(insOf d st.1).flatten.length<=64:=by
   have hw:=hm.ways
   have:1<=wid d.kind:=by unfold wid;split<;>omega
   have h2:((insOf d st.1).flatten.length:Int)*1<=((insOf d st.1).flatten.length:Int)*(wid d.kind:Int):=Int.mul_le_mul_of_nonneg_left (by omega) (by omega)
   omega
  have hl3:(insOf d st.1).length<=3:=by unfold insOf;rw[List.length_map];exact hm.ins
  refine⟨XQ fun L hL q hq=>?_,Nw hC (fun L hL=>?_) ?_,by rw[zU];exact acI,by rw[zU];exact h64,fun _=>⟨h64,hl3⟩⟩
  ·obtain⟨i,_,ho⟩:=hins L hL
   exact ho.recs q hq
  ·obtain⟨i,hi,ho⟩:=hins L hL
   refine AB ho.rise ?_
   have:8^(i+1)<=8^k:=Nat.pow_le_pow_right (by omega) (by omega)
   omega
  ·by_cases e8:d.kind=8
   ·exact .inl ⟨e8,hl3⟩
   ·right;refine⟨e8,?_⟩;unfold insOf;rw[List.length_map];exact hm.one e8
theorem Ar.step {j:Jb}(hj:dw j=true)(hR:JR j.nodes){r:Rec}(hr:bg r)(hp:r.pos=1){k:Nat}{d:JN}(hd:j.nodes[k]?=some d){st:List (List Rec)×Tabs}(h:Ar j.nodes k st):Ar j.nodes (k+1) (yK j.nodes r st k):=by
 have hm:=uy hj hd
 have hlen:k<j.nodes.length:=(List.getElem?_eq_some_iff.1 hd).1
 have h12:j.nodes.length<=12:=by
  have:=(lK hj).1
  unfold fH at this
  simp only[Bool.or_eq_false_iff,decide_eq_false_iff_not]at this
  omega
 have hx:Pn d.lI.x:=hR d (List.mem_of_getElem? hd)
 obtain⟨i1,i2,i3,i4,_⟩:=Uy hj hr hp hd h
 have hkt:k<st.2.length:=by rw[h.tabs.len];exact hlen
 obtain⟨t,ht⟩: ∃t,st.2[k]?=some t:=⟨_,List.getElem?_eq_getElem hkt⟩
 have htk:st.2.getD k none=t:=by rw[List.getD_eq_getElem?_getD,ht];rfl
 have htok:dB (t.getD []):=by
  cases hs:stateful d.kind with
  |true=>obtain⟨T,hT,h1,_⟩:=h.tabs.has k d hd hs;rw[ht]at hT;injection hT with hT;subst hT;exact h1
  |false=>have:=h.tabs.not k d hd hs;rw[ht]at this;injection this with this;subst this;exact dB.nil
 rw[A8 hd,htk]
 obtain⟨g1,g2⟩:=Bf hx (jG r d k st.1) (t.getD []) htok i1
 refine⟨by simp[h.len],⟨by simpa using h.tabs.len,fun i e he hs=>?_,fun i e he hs=>?_⟩,fun i L hL=>?_⟩
 ·rw[List.getElem?_set]
  split
  ·rename_i hik
   subst hik
   rw[hd]at he;injection he with he;subst he
   obtain⟨T,hT,h1,h2⟩:=h.tabs.has k d hd hs
   rw[ht]at hT;injection hT with hT;subst hT
   exact⟨_,rfl,g1,Bh hx _ _ htok i1 h2⟩
  ·exact h.tabs.has i e he hs
 ·rw[List.getElem?_set]
  split
  ·rename_i hik
   subst hik
   rw[hd]at he;injection he with he;subst he
   have:=h.tabs.not k d hd hs
   rw[ht]at this;injection this with this;subst this
   rfl
  ·exact h.tabs.not i e he hs
 ·by_cases hi:i<k
  ·rw[List.getElem?_append_left (by rw[h.len];exact hi)]at hL
   exact h.rows i L hL
  ·have hik:i=k:=by
    have:=(List.getElem?_eq_some_iff.1 hL).1
    simp[h.len]at this
    omega
   subst hik
   rw[List.getElem?_append_right (by rw[h.len];exact Nat.le_refl _),h.len,Nat.sub_self]at hL
   injection hL with hL
   subst hL
   refine⟨g2,?_,?_⟩
   ·have hC:((if i=0 then 8 else if d.kind=8 then 8*((8^i:Nat):Int)else((8^i:Nat):Int)):Int)<=1125899906842624:=by
     have h1:8^(i+1)=8*8^i:=by rw[Nat.pow_succ];omega
     have:=Es (k:=i) (by omega)
     split
     ·omega
     ·split<;>omega
    refine AB (TI (nd:=d.lI) (T:=t.getD []) hC i2) ?_
    have h1:8^(i+1)=8*8^i:=by rw[Nat.pow_succ];omega
    have e:d.lI.kind=d.kind:=rfl
    rw[e]
    by_cases h0:i=0
    ·subst h0
     have:=hm.src.2 rfl
     rw[if_neg (by omega),if_pos rfl];decide
    ·rw[if_neg h0]
     by_cases h4:d.kind=4
     ·rw[if_pos h4,if_neg (by omega)];omega
     ·rw[if_neg h4]
      split<;>omega
   ·have h1:=DZ d.lI (jG r d i st.1) (t.getD [])
    have e:d.lI.kind=d.kind:=rfl
    rw[e]at h1
    have h2:(((aN d.lI (t.getD []) (jG r d i st.1)).1.length:Nat):Int)<=((wid d.kind*(jG r d i st.1).length:Nat):Int):=by omega
    rw[Int.natCast_mul,Int.mul_comm]at h2
    omega
theorem QG {j:Jb}(hj:dw j=true)(hR:JR j.nodes){Ts:Tabs}(hT:bY j.nodes Ts){r:Rec}(hr:bg r)(hp:r.pos=1): ∀k,k<=j.nodes.length->Ar j.nodes k (oC j.nodes r Ts k)
 |0,_=>⟨rfl,hT,fun i L h=>by simp[oC]at h⟩
 |k+1,hk=>Ar.step hj hR hr hp (List.getElem?_eq_getElem (by omega)) (QG hj hR hT hr hp k (by omega))
theorem pI {j:Jb}(hj:dw j=true)(hR:JR j.nodes){Ts:Tabs}(hT:bY j.nodes Ts){key val:Int}(hk:aK key)(hv:aK val):
 bY j.nodes (iU j.nodes Ts key val).2/\(∀q∈(iU j.nodes Ts key val).1,bg q)/\mD 1125899906842624 (iU j.nodes Ts key val).1/\(iU j.nodes Ts key val).1.length<=64:=by
 have hr:bg ⟨1,key,val⟩:=⟨.small (by simp) (by simp),hk,hv⟩
 have h:=QG hj hR hT hr rfl j.nodes.length (Nat.le_refl _)
 have hh:=(lK hj).1
 unfold fH at hh
 simp only[Bool.or_eq_false_iff,decide_eq_false_iff_not]at hh
 have hn:j.nodes.length-1<(oC j.nodes ⟨1,key,val⟩ Ts j.nodes.length).1.length:=by rw[h.len];omega
 obtain⟨L,hL⟩: ∃L,(oC j.nodes ⟨1,key,val⟩ Ts j.nodes.length).1[j.nodes.length-1]?=some L:=⟨_,List.getElem?_eq_getElem hn⟩
 have ho:=h.rows _ _ hL
 have e:(iU j.nodes Ts key val).1=dK L:=by
  unfold iU
  simp only
  rw[List.getD_eq_getElem?_getD,hL];rfl
 have hw:=(uy hj (k:=j.nodes.length-1) (List.getElem?_eq_getElem (by omega))).ways
 refine⟨h.tabs,?_,?_,?_⟩
 ·rw[e];exact fun q hq=>ho.recs q (qI.1 hq)
 ·rw[e]
  refine⟨wL ?_,fun q hq=>?_⟩
  ·rw[List.Nodup,List.pairwise_map]
   exact ho.rise.1.imp fun h=>by omega
  ·have h1:=ho.rise.2 q (qI.1 hq)
   have:=Es (k:=j.nodes.length-1) (by omega)
   omega
 ·rw[e,l9]
  have:=ho.few
  omega
theorem qG {a b:Bool}(h:a=b):Ending.returned (.bool a)= .returned (.bool b):=by rw[h]
theorem NK (r:Nat):jR r=true↔(97<=(r:Int)/\(r:Int)<=122)\/(65<=(r:Int)/\(r:Int)<=90)\/(191<(r:Int)/\(r:Int)≠65533):=by
 unfold jR
 simp only[Bool.or_eq_true,Bool.and_eq_true,decide_eq_true_eq,bne_iff_ne,ne_eq]
 omega
theorem Ql (r:Nat):nH r=true↔jR r=true\/(48<=(r:Int)/\(r:Int)<=57)\/(r:Int)=45:=by
 unfold nH
 simp only[Bool.or_eq_true,Bool.and_eq_true,decide_eq_true_eq,beq_iff_eq]
 have e:r=45↔(r:Int)=45:=by omega
 have e1:48<=r/\r<=57↔48<=(r:Int)/\(r:Int)<=57:=by omega
 rw[or_assoc,e,e1]
theorem WU {s:ByteArray}(hd: ∀q∈runes s,nH q.2=true)(hh: ∀q,(runes s).head?=some q->jR q.2=true):
 lD s=(decide (0<((runes s).length:Int))&&decide (((runes s).length:Int)<=24)):=by
 unfold lD
 cases e:runes s with
 |nil=>rfl
 |cons p l=>
  rw[e]at hd hh
  show(jR p.2&&(p::l).all (fun q=>nH q.2)&&decide ((p::l).length<=24))=_
  rw[hh p rfl,List.all_eq_true.2 hd,Bool.true_and,Bool.true_and,decide_eq_true (show 0<((p::l).length:Int) by simp),Bool.true_and]
  exact decide_eq_decide.2 (by omega)
theorem Ey {s:ByteArray}{done left:List (Nat×Nat)}{p:Nat×Nat}(h:runes s=done++p::left)(hp:(done=[]/\jR p.2=false)\/nH p.2=false):lD s=false:=by
 unfold lD
 rw[h]
 rcases hp with⟨rfl,hp⟩|hp
 ·rw[List.nil_append,Gx,hp];rfl
 ·have: ∀l:List (Nat×Nat),p∈l->Gx l=false:=by
   intro l hl
   cases l with
   |nil=>rfl
   |cons q l=>
    have:(q::l).all (fun q=>nH q.2)=false:=List.all_eq_false.2 ⟨p,hl,by simp[hp]⟩
    rw[Gx,this];simp
  exact this _ (by simp)
theorem Dn (r:Nat)(w:World):Calls Tryz.prog 124 #[.int .i32 (r:Int)] w fun e w'=>e= .returned (.bool (jR r))/\w=w':=by
 go_enter Tryz.func124,Tryz.ntmps124
 go_wp2
 all_goals
  go_ret
  refine⟨qG ?_,rfl⟩
  rw[Bool.eq_iff_iff,NK]
  simp only[Bool.or_eq_true,decide_eq_true_eq,bne_iff_ne,ne_eq,Bool.false_eq_true,true_iff,false_iff]
  omega
theorem Um (r:Nat)(w:World):Calls Tryz.prog 125 #[.int .i32 (r:Int)] w fun e w'=>e= .returned (.bool (nH r))/\w=w':=by
 have hr:=Ql r
 go_enter Tryz.func125,Tryz.ntmps125
 go_wp2_with (go_at_call 124;refine(Dn _ _).mono ?_;rintro e w' ⟨rfl,rfl⟩)
 all_goals
  go_ret
  refine⟨qG ?_,rfl⟩
  rw[Bool.eq_iff_iff,hr]
  simp only[Bool.or_eq_true,decide_eq_true_eq,beq_iff_eq,Bool.false_eq_true,true_or,false_or,true_and, *]
  try omega
theorem name_any (s:ByteArray)(hs:s.size<=maxLen)(w:World):Calls Tryz.prog 101 #[.string s] w fun e w'=>e= .returned (.bool (lD s))/\Kept none' w w':=by
 obtain⟨w0,hrun,hit,hk0,hs0⟩:=jP (P:=Tryz.prog) w 9 s Tryz.underlying9
 have hlen:=jw s
 have H:=Lib.hid (And.intro hit (And.intro hk0 hs0))
 clear hit hk0 hs0
 unfold maxLen at hs
 go_enter Tryz.func101,Tryz.ntmps101
 go_wp2
 go_loopg [3] (runes s).length (fun k i wr=> ∃left done,kH wr w.heap.size s left/\runes s=done++left/\left.length=k/\i= .int .i64 ((done.length:Nat):Int)/\(∀q∈done,nH q.2=true)/\(∀q,done.head?=some q->jR q.2=true)/\Kept none' w wr)
 case atStart=>exact⟨runes s,[],H.out.1,rfl,rfl,rfl,by simp,by simp,H.out.2.1⟩
 case round=>
  obtain⟨left,done,hit,hall,hk,rfl,hd,hh,hk1⟩:=hrel
  have A:=Lib.hid (And.intro hall (And.intro hd (And.intro hh (And.intro hk hk1))))
  clear hall hd hh hk hk1
  rcases hit.next (P:=Tryz.prog) 0 with⟨rfl,hrun⟩|⟨p,left',w2,hp,hrun,hit2,hk2,hs2⟩
  ·clear hit
   obtain⟨h1,h2,h3,h4,h5⟩:=A.out
   rw[List.append_nil]at h1
   subst h1
   have F:=Lib.hid (WU h2 h3)
   clear h2 h3 A
   go_wp2
   all_goals
    go_ret
    refine⟨qG ?_,h5⟩
    rw[F.out,Bool.eq_iff_iff]
    simp only[Bool.and_eq_true,decide_eq_true_eq,Bool.false_eq_true,false_iff,iff_and_self, *]
    try omega
  ·clear hit
   have hk3:Kept none' w w2:=A.out.2.2.2.2.new hk2 (fun i hi e=>by unfold one at e;omega)
   have hl:runes s=done++p::left':=by rw[A.out.1,hp]
   have hstep:nH p.2=true->(done=[]->jR p.2=true)->(∀q∈done++[p],nH q.2=true)/\(∀q,(done++[p]).head?=some q->jR q.2=true):=fun g1 g2=>by
    refine⟨fun q hq=>?_,fun q hq=>?_⟩
    ·rcases List.mem_append.1 hq with hq|hq
     ·exact A.out.2.1 q hq
     ·rw[List.mem_singleton.1 hq];exact g1
    ·cases done with
     |nil=>simp at hq;subst hq;exact g2 rfl
     |cons x d=>exact A.out.2.2.1 q (by simpa using hq)
   have hm:left'.length<gk:=by have:=A.out.2.2.2.1;rw[hp]at this;simp at this;omega
   have G:=Lib.hid (And.intro hit2 (And.intro hk3 (And.intro hl (And.intro hstep hm))))
   clear hit2 hk3 hl hstep hm hp hk2 hs2 A H hlen
   go_wp2_with (first|(go_at_call 124;refine(Dn _ _).mono ?_;rintro e w' ⟨rfl,rfl⟩)|(go_at_call 125;refine(Um _ _).mono ?_;rintro e w' ⟨rfl,rfl⟩))
   ·rename_i h1 h2 h3
    go_ret
    exact⟨qG (Ey G.out.2.2.1 (.inr (by simpa using h3))).symm,G.out.2.1⟩
   ·rename_i h1 h2 h3
    go_roundg left'.length
    case rel=>
     obtain⟨g1,g2⟩:=G.out.2.2.2.1 (by simpa using h3) (fun _=>h2)
     exact⟨left',done++[p],G.out.1,by rw[G.out.2.2.1];simp,rfl,by subst h1;rfl,g1,g2,G.out.2.1⟩
    case measure=>exact G.out.2.2.2.2
   ·rename_i h1 h2
    go_ret
    exact⟨qG (Ey G.out.2.2.1 (.inl ⟨h1,by simpa using h2⟩)).symm,G.out.2.1⟩
   ·rename_i h1 h3
    go_ret
    exact⟨qG (Ey G.out.2.2.1 (.inr (by simpa using h3))).symm,G.out.2.1⟩
   ·rename_i h1 h3
    have hlt:done.length<9223372036854775807:=by
     have:=jw s
     rw[G.out.2.2.1]at this
     simp at this
     omega
    go_roundg left'.length
    case rel=>
     obtain⟨g1,g2⟩:=G.out.2.2.2.1 (by simpa using h3) (fun h=>absurd h h1)
     exact⟨left',done++[p],G.out.1,by rw[G.out.2.2.1];simp,rfl,by rw[show wrap64 ((done.length:Int)+1)=((done.length+1:Nat):Int) by unfold wrap64;omega,List.length_append];rfl,g1,g2,G.out.2.1⟩
    case measure=>exact G.out.2.2.2.2
end Go.Proofs.YtopeleenlcnkkaaGreatDoor
