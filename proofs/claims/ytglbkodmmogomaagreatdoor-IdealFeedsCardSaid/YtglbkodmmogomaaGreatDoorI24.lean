/- WHAT IS FED, IN PLAIN WORDS: how many records come of one, that they rise by their places, that tables stay good. -/
import Derived.Test.YtglbkodmmogomaaGreatDoorI18
import Derived.Test.YtglbkodmmogomaaGreatDoorI23
set_option linter.unusedVariables false
set_option linter.unusedSimpArgs false
namespace Go.Proofs.YtglbkodmmogomaaGreatDoor
open Go Go.RowKit
def Ur (x:Ex):Prop:= ∀env,iq env->aH (dA x env)
def wid (kind:Int):Nat:=if kind=4 then 4 else 1
def yN (kind p:Int):Int:=if kind=4 then 8*p else p
theorem Ql (x:Int):jC x<=4:=by unfold jC;omega
theorem J7 (r:Rec)(k:Nat):(iR r k).length=k:=by simp[iR]
theorem XL (nd:dD)(T:Tab)(r:Rec):(aF nd T r).1.length<=wid nd.kind:=by
 unfold aF wid;have:=Ql (dA nd.x (aI r))
 repeat' split
 all_goals first|(simp only[J7];omega)|(simp only[φ,Γ];omega)
theorem GR (nd:dD): ∀(L:List Rec)(T:Tab),(aJ nd T L).1.length<=wid nd.kind*L.length
 |[],T=>by simp[aJ]
 |r::l,T=>by have h1:=XL nd T r;have h2:=GR nd l (aF nd T r).2;simp only[aJ,ν,φ,Nat.mul_add,Nat.mul_one];omega
theorem yV {n:Int}(h:aH n):wrap64 n=n:=by unfold aH at h;unfold wrap64;omega
theorem XH (l:List Int):aH (sumW l):=by
 unfold sumW;have: ∀(l:List Int)(a:Int),aH a->aH (l.foldl (fun a x=>wrap64 (a+x)) a):=by
  intro l
  induction l with
  |nil=>exact fun a h=>h
  |cons x l ih=>exact fun a _=>ih _ (mJ _)
 exact this l 0 eX
theorem GV {T:Tab}(h:eP T)(k:Int):G8 (cellOf T k):=by
 unfold cellOf
 cases e:bY T k with
 |none=>exact⟨eX,by simp,by simp⟩
 |some c=>exact h.cell _ ((nS h.rises).1 e)
theorem Yg {T:Tab}{k:Int}{n:Nat}(h:dW T k n=0):n<=16/\(bY T k≠none\/aV T (grp k)<40):=by
 unfold dW at h;split at h
 ·cases h
 ·split at h
  ·cases h
  ·rename_i h1 h2
   refine⟨by omega,?_⟩;by_cases hn:bY T k=none
   ·right
    exact Nat.lt_of_not_le (fun h3=>h2 ⟨hn,h3⟩)
   ·exact .inl hn
theorem eP.dH {T:Tab}(h:eP T){k:Int}{c:Cell}(hk:aH k)(h1:aH c.1)(h2: ∀x∈c.2,aH x):eP (dH T k c):=by
 unfold Go.Proofs.YtglbkodmmogomaaGreatDoor.dH;split
 ·rename_i he
  obtain⟨h3,h4⟩:=Yg he;exact h.gQ hk ⟨h1,h2,h3⟩ h4
 ·exact h
theorem aaB {T:Tab}(h:dJ T){k:Int}{c:Cell}{p:Int×Cell}(hp:p∈dH T k c):p=(k,c)\/p∈T:=by
 unfold dH at hp;split at hp
 ·rcases(jU h).1 hp with hp|hp
  ·exact .inl hp
  ·exact .inr hp.1
 ·exact .inr hp
theorem OA {nd:dD}{T:Tab}{r:Rec}(hx:Ur nd.x)(hT:eP T)(hr:bQ r):eP (aF nd T r).2:=by
 have hc:=GV hT r.key;have hl: ∀x∈(cellOf T r.key).2++[r.val],aH x:=fun x hx=>by
  rcases abL.1 hx with hx|hx
  ·exact hc.2.1 x hx
  ·rw[abQ.1 hx];exact hr.val
 have h7:=hT.dH (c:=((cellOf T r.key).1,(cellOf T r.key).2++[r.val])) hr.key hc.1 hl;have h6:=hT.dH (c:=(dA nd.x {aI r with acc:=(cellOf T r.key).1},[])) hr.key (hx _ ⟨hr.key,hr.val,hc.1⟩) (by simp);unfold aF
 repeat' split
 all_goals first|exact hT|exact h6|exact h7|exact h7.dS _
theorem CB {n acc:Int}{l:List Int}:bC 7 n (acc,l)=true↔acc=0/\1<=l.length/\(l.length:Int)<n:=by
 have e:bC 7 n (acc,l)=!((!decide (acc=0))||decide (l.length<1)||decide (n<=(l.length:Int))):=(by unfold bC;rw[show decide ((7:Int)=6)=false from rfl,show decide ((7:Int)=7)=true from rfl];simp);rw[e];by_cases h1:acc=0
 ·by_cases h2:l.length<1
  ·rw[decide_eq_true h1,decide_eq_true h2]
   exact⟨fun h=>(by cases h),fun h=>by omega⟩
  ·by_cases h3:n<=(l.length:Int)
   ·rw[decide_eq_true h1,decide_eq_false h2,decide_eq_true h3]
    exact⟨fun h=>(by cases h),fun h=>by omega⟩
   ·rw[decide_eq_true h1,decide_eq_false h2,decide_eq_false h3]
    exact⟨fun _=>by omega,fun _=>rfl⟩
 ·rw[decide_eq_false h1]
  exact⟨fun h=>(by cases h),fun h=>absurd h.1 h1⟩
theorem Qm {n acc:Int}{l:List Int}:bC 6 n (acc,l)=true↔l=[]:=by unfold bC;simp
theorem fits_all {kind n:Int}{T:Tab}(h:fD kind n T=true):stateful kind=true/\ ∀p∈T,bC kind n p.2=true:=by unfold fD at h;rw[Φ,List.all_eq_true]at h;exact h
theorem Ip {kind n:Int}{T:Tab}(h1:stateful kind=true)(h2: ∀p∈T,bC kind n p.2=true):fD kind n T=true:=by unfold fD;rw[Φ,List.all_eq_true];exact⟨h1,h2⟩
theorem XO {nd:dD}{T:Tab}{r:Rec}(hT:eP T)(hf:fD nd.kind nd.n T=true):fD nd.kind nd.n (aF nd T r).2=true:=by
 obtain⟨h1,h2⟩:=fits_all hf;unfold aF;by_cases h6:nd.kind=6
 ·rw[if_neg (by omega),if_neg (by omega),if_neg (by omega),if_neg (by omega),if_pos h6]
  refine Ip h1 fun p hp=>?_
  rcases aaB hT.rises hp with rfl|hp
  ·rw[h6];exact Qm.2 rfl
  ·exact h2 p hp
 ·have h7:nd.kind=7:=by
   unfold stateful at h1;simp at h1;omega
  rw[if_neg (by omega),if_neg (by omega),if_neg (by omega),if_neg (by omega),if_neg h6,if_pos h7];have hacc:(cellOf T r.key).1=0:=by
   unfold cellOf
   cases e:bY T r.key with
   |none=>rfl
   |some c=>have:=h2 _ ((nS hT.rises).1 e);rw[h7]at this;obtain⟨a,l⟩:=c;exact(CB.1 this).1
  have key: ∀p∈dH T r.key ((cellOf T r.key).1,(cellOf T r.key).2++[r.val]),p.1≠r.key\/dW T r.key ((cellOf T r.key).2.length+1)≠0\/(((cellOf T r.key).2.length+1:Nat):Int)<nd.n->bC nd.kind nd.n p.2=true:=by
   intro p hp hh;by_cases hE:dW T r.key ((cellOf T r.key).2.length+1)=0
   ·unfold dH at hp
    rw[if_pos (by simpa using hE)]at hp
    rcases(jU hT.rises).1 hp with rfl|⟨hp,_⟩
    ·rw[h7]
     refine CB.2 ⟨hacc,by simp,?_⟩
     rcases hh with hh|hh|hh
     ·exact absurd rfl hh
     ·exact absurd hE hh
     ·simpa using hh
    ·exact h2 p hp
   ·unfold dH at hp
    rw[if_neg (by simpa using hE)]at hp;exact h2 p hp
  split
  ·rename_i hh
   exact Ip h1 fun p hp=>key p hp (.inr hh)
  ·exact Ip h1 fun p hp=>by obtain⟨hp,hne⟩:=rV.1 hp;exact key p hp (.inl hne)
theorem XK {nd:dD}{T:Tab}{r:Rec}(hx:Ur nd.x)(hT:eP T)(hr:bQ r): ∀q∈(aF nd T r).1,bQ q:=by
 have e1:=hx _ (uN hr);have e2:=hx {aI r with acc:=(cellOf T r.key).1} ⟨hr.key,hr.val,(GV hT r.key).1⟩;have one: ∀(q x:Rec),x∈[q]->bQ q->bQ x:=fun q x h k=>(by rw[abQ.1 h];exact k);intro q hq;unfold aF at hq
 repeat' split at hq
 all_goals first
  |exact one _ _ hq ⟨hr.pos,hr.key,e1⟩
  |exact one _ _ hq ⟨hr.pos,e1,hr.val⟩
  |exact one _ _ hq hr
  |exact one _ _ hq ⟨hr.pos,hr.key,e2⟩
  |exact one _ _ hq ⟨hr.pos,hr.key,XH _⟩
  |(unfold iR at hq;obtain⟨i,_,rfl⟩:=abK.1 hq;exact⟨mJ _,hr.key,mJ _⟩)
  |(cases hq)
theorem Ee {nd:dD}(hx:Ur nd.x): ∀(L:List Rec)(T:Tab),eP T->(∀r∈L,bQ r)->eP (aJ nd T L).2/\ ∀q∈(aJ nd T L).1,bQ q
 |[],T,hT,_=>⟨hT,by simp[aJ]⟩
 |r::l,T,hT,hL=>by
  have hr:=hL r (by simp);have ih:=Ee hx l _ (OA hx hT hr) (fun q hq=>hL q (by simp[hq]));refine⟨ih.1,fun q hq=>?_⟩;simp only[aJ]at hq
  rcases abL.1 hq with hq|hq
  ·exact XK hx hT hr q hq
  ·exact ih.2 q hq
theorem Ef {nd:dD}(hx:Ur nd.x): ∀(L:List Rec)(T:Tab),eP T->(∀r∈L,bQ r)->fD nd.kind nd.n T=true->fD nd.kind nd.n (aJ nd T L).2=true
 |[],T,_,_,hf=>hf
 |r::l,T,hT,hL,hf=>Ef hx l _ (OA hx hT (hL r (by simp))) (fun q hq=>hL q (by simp[hq])) (XO hT hf)
def oI (C:Int)(L:List Rec):Prop:=L.Pairwise (fun a b=>a.pos<b.pos)/\ ∀r∈L,1<=r.pos/\r.pos<C
theorem flat_get {r:Rec}{k:Nat}:iR r k=(List.range k).map fun(i:Nat)=>(⟨wrap64 (wrap64 (8*r.pos)+(i:Int)),r.key,wrap64 (r.val+(i:Int))⟩:Rec):=rfl
theorem XJ {nd:dD}{T:Tab}{r:Rec}(h0:1<=r.pos)(h1:r.pos<1125899906842624):
 (aF nd T r).1.Pairwise (fun a b=>a.pos<b.pos)/\ ∀q∈(aF nd T r).1,yN nd.kind r.pos<=q.pos/\q.pos<yN nd.kind r.pos+wid nd.kind:=by
 by_cases h4:nd.kind=4
 ·have e:(aF nd T r).1=iR r (jC (dA nd.x (aI r))):=by
   unfold aF;rw[if_neg (by omega),if_neg (by omega),if_neg (by omega),if_pos h4]
  have hk:=Ql (dA nd.x (aI r));have pos: ∀i:Nat,i<4->wrap64 (wrap64 (8*r.pos)+(i:Int))=8*r.pos+i:=fun i hi=>(by rw[yV (n:=8*r.pos) ⟨by omega,by omega⟩,yV ⟨by omega,by omega⟩]);rw[e,flat_get];refine⟨?_,fun q hq=>?_⟩
  ·rw[List.pairwise_map]
   refine List.Pairwise.imp_of_mem ?_ (List.pairwise_lt_range (n:=jC (dA nd.x (aI r))));intro a b ha hb hab;have ha:=List.mem_range.1 ha;have hb:=List.mem_range.1 hb;simp only[pos a (by omega),pos b (by omega)];omega
  ·obtain⟨i,hi,rfl⟩:=abK.1 hq
   have hi:=List.mem_range.1 hi;simp only[pos i (by omega)];unfold yN wid;rw[if_pos h4,if_pos h4];omega
 ·have key:(aF nd T r).1=[]\/ ∃q,(aF nd T r).1=[q]/\q.pos=r.pos:=by
   unfold aF
   repeat' split
   all_goals first|exact .inl rfl|exact .inr ⟨_,rfl,rfl⟩|(exact absurd (by assumption) h4)
  unfold yN wid;rw[if_neg h4,if_neg h4]
  rcases key with e|⟨q,e,hq⟩
  ·rw[e];exact⟨.nil,by simp⟩
  ·rw[e]
   refine⟨by simp,fun x hx=>?_⟩;rw[abQ.1 hx,hq];omega
theorem Ed {nd:dD}{C:Int}(hC:C<=1125899906842624): ∀(L:List Rec)(T:Tab),oI C L->
 (aJ nd T L).1.Pairwise (fun a b=>a.pos<b.pos)/\ ∀q∈(aJ nd T L).1,∃r∈L,yN nd.kind r.pos<=q.pos/\q.pos<yN nd.kind r.pos+wid nd.kind
 |[],T,_=>⟨by simp[aJ],by simp[aJ]⟩
 |r::l,T,⟨hp,hb⟩=>by
  obtain⟨hp1,hp2⟩:=List.pairwise_cons.1 hp;obtain⟨i1,i2⟩:=Ed (nd:=nd) hC l (aF nd T r).2 ⟨hp2,fun q hq=>hb q (by simp[hq])⟩;have hr:=hb r (by simp);obtain⟨s1,s2⟩:=XJ (nd:=nd) (T:=T) hr.1 (by omega);have hw: ∀q∈l,yN nd.kind r.pos+wid nd.kind<=yN nd.kind q.pos:=fun q hq=>(by have:=hp1 q hq;unfold yN wid;split<;>omega);simp only[aJ];refine⟨List.pairwise_append.2 ⟨s1,i1,fun a ha b hbb=>?_⟩,fun q hq=>?_⟩
  ·have ha:=s2 a ha
   obtain⟨x,hx,hx1,_⟩:=i2 b hbb;have:=hw x hx;omega
  ·rcases abL.1 hq with hq|hq
   ·exact⟨r,by simp,s2 q hq⟩
   ·obtain⟨x,hx,hh⟩:=i2 q hq
    exact⟨x,by simp[hx],hh⟩
theorem X4 {nd:dD}{C:Int}{L:List Rec}{T:Tab}(hC:C<=1125899906842624)(h:oI C L):oI (if nd.kind=4 then 8*C else C) (aJ nd T L).1:=by
 obtain⟨h1,h2⟩:=Ed (nd:=nd) hC L T h;refine⟨h1,fun q hq=>?_⟩;obtain⟨r,hr,h3,h4⟩:=h2 q hq;have:=h.2 r hr;unfold yN at h3 h4;unfold wid at h4;by_cases hk:nd.kind=4
 ·rw[if_pos hk]at h3 h4⊢;rw[if_pos hk]at h4;omega
 ·rw[if_neg hk]at h3 h4⊢;rw[if_neg hk]at h4;omega
theorem yJ {L:List Rec}(h:(L.map (·.pos)).Nodup):(aO L).Pairwise (fun a b=>a.pos<b.pos):=by have hs:=qR L;have hp:(aO L).Perm L:=List.mergeSort_perm L _;have hn:((aO L).map (·.pos)).Nodup:=(hp.map (·.pos)).nodup_iff.2 h;unfold Sorted at hs;rw[List.Nodup,List.pairwise_map]at hn;exact hs.imp₂ (fun a b h1 h2=>by omega) hn
theorem Es {b:Nat}{r:Rec}{C:Int}(hb:b<8)(h1:1<=r.pos)(h2:r.pos<C)(hC:C<=1125899906842624):(iJ b r).pos=8*r.pos+b:=by unfold iJ;simp only;rw[yV (n:=8*r.pos) ⟨by omega,by omega⟩,yV ⟨by omega,by omega⟩]
theorem Fb {C:Int}(hC:C<=1125899906842624): ∀(LL:List (List Rec))(b:Nat),b+LL.length<=8->(∀L∈LL,oI C L)->
 (((iK b LL).flatten).map (·.pos)).Nodup/\ ∀q∈(iK b LL).flatten,8<=q.pos/\q.pos<8*C/\(b:Int)<=q.pos%8
 |[],b,_,_=>by simp[iK]
 |L::LL,b,hb,h=>by
  rw[φ]at hb;have ih:=Fb hC LL (b+1) (by omega) (fun M hM=>h M (by simp[hM]));have hL:=h L (by simp);have hpos: ∀q∈L.map (iJ b),∃r∈L,q.pos=8*r.pos+b:=fun q hq=>(by obtain⟨r,hr,rfl⟩:=abK.1 hq;exact⟨r,hr,Es (by omega) (hL.2 r hr).1 (hL.2 r hr).2 hC⟩);have e:iK b (L::LL)=L.map (iJ b)::iK (b+1) LL:=rfl;rw[e,List.flatten_cons,abM];refine⟨List.nodup_append.2 ⟨?_,ih.1,fun x hx y hy=>?_⟩,fun q hq=>?_⟩
  ·rw[List.Nodup,List.map_map,List.pairwise_map]
   refine List.Pairwise.imp_of_mem ?_ hL.1;intro a c ha hc hac;simp only[Function.comp];rw[Es (by omega) (hL.2 a ha).1 (hL.2 a ha).2 hC,Es (by omega) (hL.2 c hc).1 (hL.2 c hc).2 hC];omega
  ·obtain⟨q,hq,rfl⟩:=abK.1 hx
   obtain⟨q',hq',rfl⟩:=abK.1 hy;obtain⟨r,hr,hrp⟩:=hpos q hq;have:=(ih.2 q' hq').2.2;intro e;omega
  ·rcases abL.1 hq with hq|hq
   ·obtain⟨r,hr,hrp⟩:=hpos q hq
    have:=hL.2 r hr;omega
   ·have:=ih.2 q hq
    omega
theorem Rw {kind C:Int}{LL:List (List Rec)}(hC:C<=1125899906842624)(h: ∀L∈LL,oI C L)(hn:kind=8/\LL.length<=3\/kind≠8/\LL.length<=1):oI (if kind=8 then 8*C else C) (ji kind LL):=by
 unfold ji
 rcases hn with⟨hk,hl⟩|⟨hk,hl⟩
 ·rw[if_pos hk,if_pos hk]
  obtain⟨h1,h2⟩:=Fb hC LL 0 (by omega) h;refine⟨yJ h1,fun q hq=>?_⟩;have:=h2 q (tu.1 hq);omega
 ·rw[if_neg hk,if_neg hk]
  have hr:oI C LL.flatten:=by
   match LL,hl with
   |[],_=>exact⟨.nil,by simp⟩
   |[L],_=>simpa using h L (by simp)
  refine⟨yJ ?_,fun q hq=>hr.2 q (tu.1 hq)⟩;rw[List.Nodup,List.pairwise_map];exact hr.1.imp fun h=>by omega
theorem OG {α:Type}{p:List α->Prop}(h0:p [])(h1: ∀l a,p l->p (l++[a]))(l:List α):p l:=by
 rw[<-List.reverse_reverse l]
 induction l.reverse with
 |nil=>exact h0
 |cons a l ih=>rw[List.reverse_cons];exact h1 _ _ ih
theorem wG (l:List JN)(d:JN):bJ (l++[d])=bJ l++[uU (bJ l) d]:=by unfold bJ;rw[List.foldl_append];rfl
theorem Wh (l:List JN): ∀m:List JN,∃t,bJ (l++m)=bJ l++t:=by
 refine OG ⟨[],by simp⟩ fun m d ih=>?_
 ·obtain⟨t,ht⟩:=ih
  refine⟨t++[uU (bJ (l++m)) d],?_⟩;rw[<-List.append_assoc,wG,ht,List.append_assoc]
theorem pz (l:List JN):(bJ l).length=l.length:=by refine OG (p:=fun l=>(bJ l).length=l.length) rfl (fun l d ih=>?_) l;rw[wG,ν,ν,ih];rfl
theorem V9 (nodes:List JN)(k:Nat): ∃t,bJ nodes=bJ (nodes.take k)++t:=by have:=Wh (nodes.take k) (nodes.drop k);rwa[List.take_append_drop]at this
theorem KI {nodes:List JN}{k i:Nat}(hk:k<=nodes.length)(hi:i<k):(bJ (nodes.take k)).getD i 0=(bJ nodes).getD i 0:=by obtain⟨t,ht⟩:=V9 nodes k;rw[ht,σ,σ,Ω (by rw[pz,υ];omega)]
theorem Et {nodes:List JN}{k:Nat}{d:JN}(hd:nodes[k]?=some d):(bJ nodes).getD k 0=uU (bJ (nodes.take k)) d:=by have hk:=(μ.1 hd).1;have e:=KI (nodes:=nodes) (k:=k+1) (i:=k) (by omega) (by omega);rw[<-e,ψ,hd];show(bJ (nodes.take k++[d])).getD k 0=_;rw[wG,σ,Ψ (by rw[pz,υ];omega),pz,υ];rw[show k-min k nodes.length=0 by omega];rfl
structure ado (nodes:List JN)(k:Nat)(d:JN):Prop where
 kind:1<=d.kind/\d.kind<=9
 name:fB d.uid=true
 ins:d.ins.length<=3
 one:d.kind≠8->d.ins.length<=1
 some:d.kind≠1->1<=d.ins.length
 src:d.kind=1↔k=0
 snk:d.kind=9↔k+1=nodes.length
 low: ∀x∈d.ins,0<=x/\x<(k:Int)
 nodup:d.ins.Nodup
 ways:(bJ nodes).getD k 0<=64
 n:0<=d.n/\d.n<=16
theorem qB {j:Jb}(h:gu j=true){k:Nat}{d:JN}(hd:j.nodes[k]?=some d):ado j.nodes k d:=by
 obtain⟨h1,_,h3⟩:=(nU h).2 k d hd;unfold aX zT at h1;split at h1
 ·cases h1
 rename_i ha;split at h1
 ·cases h1
 rename_i hb;split at h1
 ·cases h1
 rename_i hc;unfold aS at h3;simp only[Bool.or_eq_false_iff,bne_eq_false_iff_eq,decide_eq_false_iff_not,decide_eq_decide]at h3;obtain⟨⟨⟨⟨⟨g1,g2⟩,g3⟩,g4⟩,g5⟩,g6⟩:=h3;unfold jN at hc;have hgood:fE d.ins k=true:=by
  cases e:fE d.ins k with
  |true=>rfl
  |false=>exact absurd (.inr (.inr e)) hb
 have b1:jI d.kind<=d.ins.length:=Nat.le_of_not_lt fun h=>hb (.inl h);have b2:d.ins.length<=jh d.kind:=Nat.le_of_not_lt fun h=>hb (.inr (.inl h));unfold fE at hgood;rw[Φ,List.all_eq_true,decide_eq_true_eq]at hgood;refine⟨by omega,?_,?_,?_,?_,g1,g2,fun x hx=>by simpa using hgood.2 x hx,hgood.1,by omega,?_⟩
 ·cases e:fB d.uid with
  |true=>rfl
  |false=>exact absurd (.inl e) ha
 ·have:jh d.kind<=3:=by unfold jh;split;omega;split<;>omega
  omega
 ·intro e8
  have:jh d.kind<=1:=(by unfold jh;rw[if_neg e8];split<;>omega);omega
 ·intro e1
  have:1<=jI d.kind:=(by unfold jI;rw[if_neg e1];split<;>omega);omega
 ·split at hc<;>omega
def JR (nodes:List JN):Prop:= ∀d∈nodes,Ur d.x
structure acv (nodes:List JN)(i:Nat)(L:List Rec):Prop where
 recs: ∀q∈L,bQ q
 rise:oI ((8^(i+1):Nat):Int) L
 few:(L.length:Int)<=(bJ nodes).getD i 0
structure Dw (nodes:List JN)(k:Nat)(st:List (List Rec)×Tabs):Prop where
 len:st.1.length=k
 tabs:eH nodes st.2
 rows: ∀(i:Nat)(L:List Rec),st.1[i]?=some L->acv nodes i L
theorem DL {C D:Int}{L:List Rec}(h:oI C L)(hCD:C<=D):oI D L:=⟨h.1,fun r hr=>by have:=h.2 r hr;omega⟩
theorem Oz: ∀(LL:List (List Rec)),(LL.flatten.length:Int)=(LL.map fun L=>(L.length:Int)).sum
 |[]=>rfl
 |L::LL=>by rw[List.flatten_cons,ν,Θ,List.sum_cons,<-Oz LL];omega
theorem XG: ∀{α:Type}(l:List α)(f g:α->Int),(∀x∈l,f x<=g x)->(l.map f).sum<=(l.map g).sum
 |_,[],_,_,_=>by simp
 |_,x::l,f,g,h=>by rw[Θ,Θ,List.sum_cons,List.sum_cons];have:=h x (by simp);have:=XG l f g (fun y hy=>h y (by simp[hy]));omega
theorem Cm (kind:Int)(LL:List (List Rec)):(ji kind LL).length=LL.flatten.length:=by
 unfold ji;rw[iY];split
 ·exact wF 0 LL
 ·rfl
def insOf (d:JN)(M:List (List Rec)):List (List Rec):=d.ins.map fun x=>M.getD x.toNat []
def fC (r:Rec)(d:JN)(k:Nat)(M:List (List Rec)):List Rec:=if k=0 then[r]else ji d.kind (insOf d M)
theorem yO {nodes:List JN}{k:Nat}{d:JN}(hd:nodes[k]?=some d)(r:Rec)(st:List (List Rec)×Tabs):Ag nodes r st k=
 (st.1++[(aJ d.iy ((st.2.getD k none).getD []) (fC r d k st.1)).1],st.2.set k ((st.2.getD k none).map fun _=>(aJ d.iy ((st.2.getD k none).getD []) (fC r d k st.1)).2)):=by
 have e:nodes.getD k default=d:=(by rw[σ,hd];rfl);unfold Ag fC insOf;rw[e]
theorem Hy {k:Nat}(hk:k<=12):8^(k+1)<=1125899906842624:=by have:8^(k+1)<=8^13:=Nat.pow_le_pow_right (by omega) (by omega);omega
theorem ZU {b:Nat}{r:Rec}(h:bQ r):bQ (iJ b r):=⟨mJ _,h.key,h.val⟩
theorem KH: ∀(LL:List (List Rec))(b:Nat),(∀L∈LL,∀q∈L,bQ q)-> ∀L∈iK b LL,∀q∈L,bQ q
 |[],_,_,_,hL,_,_=>by cases hL
 |M::LL,b,h,L,hL,q,hq=>by
  have e:iK b (M::LL)=M.map (iJ b)::iK (b+1) LL:=rfl;rw[e]at hL
  rcases abR.1 hL with rfl|hL
  ·obtain⟨r,hr,rfl⟩:=abK.1 hq
   exact ZU (h M (by simp) r hr)
  ·exact KH LL (b+1) (fun L' h'=>h L' (by simp[h'])) L hL q hq
theorem aa8 {kind:Int}{LL:List (List Rec)}(h: ∀L∈LL,∀q∈L,bQ q): ∀q∈ji kind LL,bQ q:=by
 intro q hq;unfold ji at hq;have hq:=tu.1 hq;obtain⟨L,hL,hqL⟩:=List.mem_flatten.1 hq;split at hL
 ·exact KH LL 0 h L hL q hqL
 ·exact h L hL q hqL
theorem Wj {W:List Int}{d:JN}(h:d.kind≠1):uU W d=(d.ins.map fun k=>W.getD k.toNat 0).sum*(wid d.kind:Int):=by unfold uU wid;rw[if_neg h];split<;>rfl
theorem PI {j:Jb}(hj:gu j=true){r:Rec}(hr:bQ r)(hp:r.pos=1){k:Nat}{d:JN}(hd:j.nodes[k]?=some d){st:List (List Rec)×Tabs}(h:Dw j.nodes k st):
 (∀q∈fC r d k st.1,bQ q)/\oI (if k=0 then 8 else if d.kind=8 then 8*((8^k:Nat):Int)else((8^k:Nat):Int)) (fC r d k st.1)/\((fC r d k st.1).length:Int)*(wid d.kind:Int)<=(bJ j.nodes).getD k 0/\(fC r d k st.1).length<=64/\
 (k≠0->(insOf d st.1).flatten.length<=64/\(insOf d st.1).length<=3):=by
 have hm:=qB hj hd;have hlen:k<j.nodes.length:=(μ.1 hd).1;have h12:j.nodes.length<=12:=(by have:=(nU hj).1;unfold eF at this;simp only[Bool.or_eq_false_iff,decide_eq_false_iff_not]at this;omega);have hW:=Et hd;unfold fC;by_cases hk:k=0
 ·subst hk
  have h1:=hm.src.2 rfl;rw[if_pos rfl,if_pos rfl];refine⟨fun q hq=>by rw[abQ.1 hq];exact hr,⟨by simp,fun q hq=>by rw[abQ.1 hq,hp];omega⟩,?_,by simp,fun h=>absurd rfl h⟩;rw[hW];unfold uU wid;rw[if_pos h1,if_neg (by omega)];simp
 ·rw[if_neg hk,if_neg hk]
  have h1:d.kind≠1:=fun e=>hk (hm.src.1 e);have hrow: ∀x∈d.ins,∃L,st.1[x.toNat]?=some L/\st.1.getD x.toNat []=L/\x.toNat<k:=(by intro x hx;have hx':=hm.low x hx;have hlt:x.toNat<st.1.length:=(by rw[h.len];omega);exact⟨st.1[x.toNat],ι hlt,by simp[σ,hlt],by omega⟩);have hins: ∀L∈insOf d st.1,∃i,i<k/\acv j.nodes i L:=(by intro L hL;obtain⟨x,hx,rfl⟩:=abK.1 hL;obtain⟨L,e1,e2,e3⟩:=hrow x hx;rw[e2];exact⟨_,e3,h.rows _ _ e1⟩);have hC:((8^k:Nat):Int)<=1125899906842624:=(by have:8^k<=8^(k+1):=Nat.pow_le_pow_right (by omega) (by omega);have:=Hy (k:=k) (by omega);omega);have afL:((insOf d st.1).flatten.length:Int)<=(d.ins.map fun x=>(bJ (j.nodes.take k)).getD x.toNat 0).sum:=(by rw[Oz];unfold insOf;rw[List.map_map];refine XG _ _ _ fun x hx=>?_;obtain⟨L,e1,e2,e3⟩:=hrow x hx;simp only[Function.comp];rw[e2,KI (by omega) e3];exact(h.rows _ _ e1).few);have afH:((insOf d st.1).flatten.length:Int)*(wid d.kind:Int)<=(bJ j.nodes).getD k 0:=(by rw[hW,Wj h1];exact Int.mul_le_mul_of_nonneg_right afL (by omega));have h64:(insOf d st.1).flatten.length<=64:=(by have hw:=hm.ways;have:1<=wid d.kind:=(by unfold wid;split<;>omega);have h2:((insOf d st.1).flatten.length:Int)*1<=((insOf d st.1).flatten.length:Int)*(wid d.kind:Int):=Int.mul_le_mul_of_nonneg_left (by omega) (by omega);omega);have hl3:(insOf d st.1).length<=3:=(by unfold insOf;rw[List.length_map];exact hm.ins);refine⟨aa8 fun L hL q hq=>?_,Rw hC (fun L hL=>?_) ?_,by rw[Cm];exact afH,by rw[Cm];exact h64,fun _=>⟨h64,hl3⟩⟩
  ·obtain⟨i,_,ho⟩:=hins L hL
   exact ho.recs q hq
  ·obtain⟨i,hi,ho⟩:=hins L hL
   refine DL ho.rise ?_;have:8^(i+1)<=8^k:=Nat.pow_le_pow_right (by omega) (by omega);omega
  ·by_cases e8:d.kind=8
   ·exact .inl ⟨e8,hl3⟩
   ·right;refine⟨e8,?_⟩;unfold insOf;rw[List.length_map];exact hm.one e8
theorem Dw.step {j:Jb}(hj:gu j=true)(hR:JR j.nodes){r:Rec}(hr:bQ r)(hp:r.pos=1){k:Nat}{d:JN}(hd:j.nodes[k]?=some d){st:List (List Rec)×Tabs}(h:Dw j.nodes k st):Dw j.nodes (k+1) (Ag j.nodes r st k):=by
 have hm:=qB hj hd;have hlen:k<j.nodes.length:=(μ.1 hd).1;have h12:j.nodes.length<=12:=(by have:=(nU hj).1;unfold eF at this;simp only[Bool.or_eq_false_iff,decide_eq_false_iff_not]at this;omega);have hx:Ur d.iy.x:=hR d (ς hd);obtain⟨i1,i2,i3,i4,_⟩:=PI hj hr hp hd h;have hkt:k<st.2.length:=(by rw[h.tabs.len];exact hlen);obtain⟨t,ht⟩: ∃t,st.2[k]?=some t:=⟨_,ι hkt⟩;have htk:st.2.getD k none=t:=(by rw[σ,ht];rfl);have htok:eP (t.getD []):=by
  cases hs:stateful d.kind with
  |true=>obtain⟨T,hT,h1,_⟩:=h.tabs.has k d hd hs;rw[ht]at hT;injection hT with hT;subst hT;exact h1
  |false=>have:=h.tabs.not k d hd hs;rw[ht]at this;injection this with this;subst this;exact eP.nil
 rw[yO hd,htk];obtain⟨g1,g2⟩:=Ee hx (fC r d k st.1) (t.getD []) htok i1;refine⟨by simp[h.len],⟨by simpa using h.tabs.len,fun i e he hs=>?_,fun i e he hs=>?_⟩,fun i L hL=>?_⟩
 ·rw[List.getElem?_set]
  split
  ·rename_i hik
   subst hik
   rw[hd]at he;injection he with he;subst he
   obtain⟨T,hT,h1,h2⟩:=h.tabs.has k d hd hs
   rw[ht]at hT;injection hT with hT;subst hT
   exact⟨_,rfl,g1,Ef hx _ _ htok i1 h2⟩
  ·exact h.tabs.has i e he hs
 ·rw[List.getElem?_set]
  split
  ·rename_i hik
   subst hik
   rw[hd]at he;injection he with he;subst he
   have:=h.tabs.not k d hd hs
   rw[ht]at this;injection this with this;subst this
   rfl
  ·exact h.tabs.not i e he hs
 ·by_cases hi:i<k
  ·rw[Ω (by rw[h.len];exact hi)]at hL
   exact h.rows i L hL
  ·have hik:i=k:=by
    have:=(μ.1 hL).1;simp[h.len]at this;omega
   subst hik;rw[Ψ (by rw[h.len];exact ξ _),h.len,Nat.sub_self]at hL
   injection hL with hL
   subst hL;refine⟨g2,?_,?_⟩
   ·have hC:((if i=0 then 8 else if d.kind=8 then 8*((8^i:Nat):Int)else((8^i:Nat):Int)):Int)<=1125899906842624:=by
     have h1:8^(i+1)=8*8^i:=(by rw[Nat.pow_succ];omega);have:=Hy (k:=i) (by omega);split
     ·omega
     ·split<;>omega
    refine DL (X4 (nd:=d.iy) (T:=t.getD []) hC i2) ?_;have h1:8^(i+1)=8*8^i:=(by rw[Nat.pow_succ];omega);have e:d.iy.kind=d.kind:=rfl;rw[e];by_cases h0:i=0
    ·subst h0
     have:=hm.src.2 rfl;rw[if_neg (by omega),if_pos rfl];decide
    ·rw[if_neg h0]
     by_cases h4:d.kind=4
     ·rw[if_pos h4,if_neg (by omega)];omega
     ·rw[if_neg h4]
      split<;>omega
   ·have h1:=GR d.iy (fC r d i st.1) (t.getD [])
    have e:d.iy.kind=d.kind:=rfl;rw[e]at h1;have h2:(((aJ d.iy (t.getD []) (fC r d i st.1)).1.length:Nat):Int)<=((wid d.kind*(fC r d i st.1).length:Nat):Int):=(by omega);rw[Int.natCast_mul,Int.mul_comm]at h2;omega
theorem Kw {j:Jb}(hj:gu j=true)(hR:JR j.nodes){Ts:Tabs}(hT:eH j.nodes Ts){r:Rec}(hr:bQ r)(hp:r.pos=1): ∀k,k<=j.nodes.length->Dw j.nodes k (gV j.nodes r Ts k)
 |0,_=>⟨rfl,hT,fun i L h=>by simp[gV]at h⟩
 |k+1,hk=>Dw.step hj hR hr hp (ι (by omega)) (Kw hj hR hT hr hp k (by omega))
theorem EW {j:Jb}(hj:gu j=true)(hR:JR j.nodes){Ts:Tabs}(hT:eH j.nodes Ts){key val:Int}(hk:aH key)(hv:aH val):
 eH j.nodes (iF j.nodes Ts key val).2/\(∀q∈(iF j.nodes Ts key val).1,bQ q)/\oI 1125899906842624 (iF j.nodes Ts key val).1/\(iF j.nodes Ts key val).1.length<=64:=by
 have hr:bQ ⟨1,key,val⟩:=⟨.small (by simp) (by simp),hk,hv⟩;have h:=Kw hj hR hT hr rfl j.nodes.length (ξ _);have hh:=(nU hj).1;unfold eF at hh;simp only[Bool.or_eq_false_iff,decide_eq_false_iff_not]at hh;have hn:j.nodes.length-1<(gV j.nodes ⟨1,key,val⟩ Ts j.nodes.length).1.length:=(by rw[h.len];omega);obtain⟨L,hL⟩: ∃L,(gV j.nodes ⟨1,key,val⟩ Ts j.nodes.length).1[j.nodes.length-1]?=some L:=⟨_,ι hn⟩;have ho:=h.rows _ _ hL;have e:(iF j.nodes Ts key val).1=aO L:=(by unfold iF;simp only;rw[σ,hL];rfl);have hw:=(qB hj (k:=j.nodes.length-1) (ι (by omega))).ways;refine⟨h.tabs,?_,?_,?_⟩
 ·rw[e];exact fun q hq=>ho.recs q (tu.1 hq)
 ·rw[e]
  refine⟨yJ ?_,fun q hq=>?_⟩
  ·rw[List.Nodup,List.pairwise_map]
   exact ho.rise.1.imp fun h=>by omega
  ·have h1:=ho.rise.2 q (tu.1 hq)
   have:=Hy (k:=j.nodes.length-1) (by omega);omega
 ·rw[e,iY]
  have:=ho.few;omega
def kY (nodes:List JN)(i:Nat):Int:=if aX i (nodes.getD i default)=false then 120 else if jD nodes i (nodes.getD i default)=true then 121 else 0
def gU (j:Jb):Int×Int:=
 if eF j=true then(0,2)else
 match(List.range j.nodes.length).find? (fun i=>kY j.nodes i !=0)with
 |some i=>((i:Int),kY j.nodes i)
 |none=>match(List.range j.nodes.length).find? (fun i=>aS j.nodes i (j.nodes.getD i default))with
  |some i=>((i:Int),122)
  |none=>(0,0)
theorem BO {j:Jb}(h:eF j=true):gU j=(0,2):=by unfold gU;rw[if_pos h]
theorem zU {j:Jb}(h0:eF j=false){k:Nat}(hk:k<j.nodes.length)(hp: ∀m,m<k->kY j.nodes m=0){e:Int}(he:kY j.nodes k=e)(hne:e≠0):gU j=((k:Int),e):=by have hf:(List.range j.nodes.length).find? (fun i=>kY j.nodes i !=0)=some k:=(by rw[List.find?_range_eq_some];refine⟨by rw[he];simp[hne],by simp[hk],fun m hm=>by rw[hp m hm];rfl⟩);unfold gU;rw[if_neg (by rw[h0];simp),hf];show((k:Int),kY j.nodes k)=_;rw[he]
theorem wK {j:Jb}(hp: ∀m,m<j.nodes.length->kY j.nodes m=0):(List.range j.nodes.length).find? (fun i=>kY j.nodes i !=0)=none:=by rw[List.find?_range_eq_none];intro m hm;rw[hp m hm];rfl
theorem qp {j:Jb}(h0:eF j=false)(h1: ∀m,m<j.nodes.length->kY j.nodes m=0){k:Nat}{d:JN}(hd:j.nodes[k]?=some d)(hp: ∀m e,m<k->j.nodes[m]?=some e->aS j.nodes m e=false)(hs:aS j.nodes k d=true):gU j=((k:Int),122):=by have hk:k<j.nodes.length:=(μ.1 hd).1;have hf:(List.range j.nodes.length).find? (fun i=>aS j.nodes i (j.nodes.getD i default))=some k:=(by rw[List.find?_range_eq_some];refine⟨by rw[σ,hd];exact hs,by simp[hk],fun m hm=>?_⟩;have hm':m<j.nodes.length:=(by omega);rw[σ,ι hm'];show(!aS j.nodes m j.nodes[m])=true;rw[hp m _ hm (ι hm')];rfl);unfold gU;rw[if_neg (by rw[h0];simp),wK h1,hf]
theorem Ib {j:Jb}(h0:eF j=false)(h1: ∀m,m<j.nodes.length->kY j.nodes m=0)(hp: ∀m e,m<j.nodes.length->j.nodes[m]?=some e->aS j.nodes m e=false):gU j=(0,0):=by have hf:(List.range j.nodes.length).find? (fun i=>aS j.nodes i (j.nodes.getD i default))=none:=(by rw[List.find?_range_eq_none];intro m hm;rw[σ,ι hm];show(!aS j.nodes m j.nodes[m])=true;rw[hp m _ hm (ι hm)];rfl);unfold gU;rw[if_neg (by rw[h0];simp),wK h1,hf]
theorem sD {nodes:List JN}{k:Nat}{d:JN}(hd:nodes[k]?=some d):kY nodes k=0↔aX k d=true/\jD nodes k d=false:=by unfold kY;rw[σ,hd];show(if aX k d=false then(120:Int)else if jD nodes k d=true then 121 else 0)=0↔_;cases aX k d<;>cases jD nodes k d<;>simp
theorem QF {nodes:List JN}{k:Nat}{d:JN}(hd:nodes[k]?=some d)(h:aX k d=false):kY nodes k=120:=by unfold kY;rw[σ,hd];show(if aX k d=false then(120:Int)else if jD nodes k d=true then 121 else 0)=_;rw[if_pos h]
theorem QE {nodes:List JN}{k:Nat}{d:JN}(hd:nodes[k]?=some d)(h:aX k d=true)(h2:jD nodes k d=true):kY nodes k=121:=by unfold kY;rw[σ,hd];show(if aX k d=false then(120:Int)else if jD nodes k d=true then 121 else 0)=_;rw[if_neg (by rw[h];simp),if_pos h2]
theorem zX (j:Jb):gu j=decide ((gU j).2=0):=by
 have:= @wK j
 cases h0:eF j with
 |true=>rw[BO h0];unfold gu;rw[h0];rfl
 |false=>
  cases h:gu j with
  |true=>obtain⟨_,h2⟩:=nU h;rw[Ib h0 (fun m hm=>(sD (ι hm)).2 ⟨(h2 m _ (ι hm)).1,(h2 m _ (ι hm)).2.1⟩) (fun m e _ he=>(h2 m e he).2.2)];rfl
  |false=>
   refine(decide_eq_false fun hz=>?_).symm;have:gu j=true:=by
    have h1: ∀m,m<j.nodes.length->kY j.nodes m=0:=by
     intro m hm
     cases hf:(List.range j.nodes.length).find? (fun i=>kY j.nodes i !=0)with
     |none=>rw[List.find?_range_eq_none]at hf;simpa using hf m hm
     |some i=>unfold gU at hz;rw[if_neg (by rw[h0];simp),hf]at hz;have:=List.find?_some hf;rw[show kY j.nodes i=0 from hz]at this;cases this
    refine aaJ h0 fun i d hd=>?_;have hi:i<j.nodes.length:=(μ.1 hd).1;have h3:=(sD hd).1 (h1 i hi);refine⟨h3.1,h3.2,?_⟩
    cases hf:(List.range j.nodes.length).find? (fun i=>aS j.nodes i (j.nodes.getD i default))with
    |none=>rw[List.find?_range_eq_none]at hf;have:=hf i hi;rw[σ,hd]at this;simpa using this
    |some i=>unfold gU at hz;rw[if_neg (by rw[h0];simp),wK h1,hf]at hz;cases hz
   rw[h]at this;cases this
theorem O9 {k:Nat}{d:JN}(h1:aX k d=true):d.ins.length<=3/\ ∀x∈d.ins,0<=x/\x<(k:Int):=by
 unfold aX zT at h1;split at h1
 ·cases h1
 split at h1
 ·cases h1
 rename_i hb;have hgood:fE d.ins k=true:=by
  cases e:fE d.ins k with
  |true=>rfl
  |false=>exact absurd (.inr (.inr e)) hb
 have b2:d.ins.length<=jh d.kind:=Nat.le_of_not_lt fun h=>hb (.inr (.inl h));unfold fE at hgood;rw[Φ,List.all_eq_true,decide_eq_true_eq]at hgood;refine⟨?_,fun x hx=>by simpa using hgood.2 x hx⟩;have:jh d.kind<=3:=(by unfold jh;split;omega;split<;>omega);omega
def iG (W ins:List Int)(m:Nat):Int:=((ins.take m).map fun k=>W.getD k.toNat 0).sum
theorem Bq {W ins:List Int}{m:Nat}{x:Int}(h:ins[m]?=some x):iG W ins (m+1)=iG W ins m+W.getD x.toNat 0:=by unfold iG;rw[ψ,h];simp
theorem Gy {W:List Int}(h: ∀x∈W,0<=x/\x<=64)(i:Nat):0<=W.getD i 0/\W.getD i 0<=64:=by
 rw[σ]
 cases e:W[i]? with
 |none=>simp
 |some x=>exact h x (ς e)
theorem wI {W ins:List Int}(h: ∀x∈W,0<=x/\x<=64): ∀m,0<=iG W ins m/\iG W ins m<=64*(m:Int)
 |0=>by simp[iG]
 |m+1=>by
  have ih:=wI (ins:=ins) h m
  cases e:ins[m]? with
  |none=>have:iG W ins (m+1)=iG W ins m:=(by unfold iG;rw[ψ,e];simp);rw[this];omega
  |some x=>have:=Gy h x.toNat;rw[Bq e];omega
theorem Iz (W:List Int)(d:JN):uU W d=if d.kind=1 then 1 else iG W d.ins d.ins.length*(if d.kind=4 then 4 else 1):=by unfold uU iG;rw[List.take_length]
theorem row_ne {w:World}{base n B T E:Nat}{v:Value}{xs:List Value}{cs:Array Value}{f:Nat×Nat}(h:w.ownsRow base E 1 v n xs)(hB:w.heap[B]?=some (.cells cs T f))(hTE:T≠E):v.ownBlock≠some B:=by
 intro e
 rcases h.2 with⟨e1,_⟩|⟨g,cap,cur,e1,_,hg,_⟩
 ·rw[e1]at e;cases e
 ·rw[e1]at e
  have:g=B:=(by simpa[Value.ownBlock]using e);subst this;rw[hg]at hB
  injection hB with hB
  injection hB with _ h2 _
  exact hTE h2.symm
theorem kQ {T E bytes:Nat}{z x:Value}{i:TypeInfo}(hT:Tryz.prog.underlying T=some (.slice E))(hi:Tryz.prog.info? E=some i)(hz:i.zero=some z)(hs:i.size=1)(hb:i.bytes=bytes)(hzc:z.cells.size=1)(hx:x.oneCell'=true)
 {wr:World} {base m:Nat} {v:Value} {xs:List Value} (hown:wr.ownsRow base E 1 v m xs) (hm:m<=100000) (hbb:bytes<=1000) (hbase:base<=wr.heap.size) (ty:TypeId):
 ∃g cap w',(Builtin.append_ #[T,T] ty #[v,.slice (some ⟨wr.heap.size,0,none⟩) 1 1]).run Tryz.prog (wr.alloc (.cells #[x] E))= .ok (.slice (some ⟨g,0,none⟩) (m+1) cap) w'/\w'.ownsRow base E 1 (.slice (some ⟨g,0,none⟩) (m+1) cap) (m+1) (xs++[x])/\ε (fun k=>v.ownBlock=some k) wr w':=by
 have kA:ε η wr (wr.alloc (.cells #[x] E)):=δ.alloc _;have hr:=Reads.lit wr [x] E 1 1 rfl (by unfold maxLen;omega);obtain⟨v',n',w',b1,b2,b3,b4,_⟩:=aW (P:=Tryz.prog) base T ty E i z 1 bytes hT hi hz hs hb hzc (by omega) (kA.owns hown (fun _ _ h=>h)) hr (by intro y hy;rw[abQ.1 hy];exact hx)
  (by
    simp only[List.length_singleton,Nat.mul_one]
    calc(m+1)*bytes<=100001*1000:=Nat.mul_le_mul (by omega) hbb
     _<=140737488355328:=by decide) (by simp;unfold maxLen;omega) (by have:=kA.size;omega)
 have hn:n'=m+1:=(by simpa using b3);subst hn;have hg: ∃g cap,v'= .slice (some ⟨g,0,none⟩) (m+1) cap:=by
  rcases b2.2 with⟨e1,_⟩|⟨g,cap,cur,e1,_⟩
  ·have:=b2.1
   have h2:=b2.2
   rcases h2 with⟨_,e2⟩|⟨g,cap,cur,e1',_⟩
   ·omega
   ·rw[e1]at e1';cases e1'
  ·exact⟨g,cap,e1⟩
 obtain⟨g,cap,rfl⟩:=hg;exact⟨g,cap,w',b1,b2,kA.pure.trans (ε.grown b4 (fun k hk _=>hk))⟩
