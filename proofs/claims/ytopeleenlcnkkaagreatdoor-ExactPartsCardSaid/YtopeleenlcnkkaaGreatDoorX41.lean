/- COURSES IN PLAIN WORDS: a job, turns to other jobs, records: what comes out. -/
import Derived.Test.YtopeleenlcnkkaaGreatDoorX40
set_option linter.unusedVariables false
set_option linter.unusedSimpArgs false
set_option maxHeartbeats 2000000
set_option maxRecDepth 100000
namespace Go.Proofs.YtopeleenlcnkkaaGreatDoor
section
open Go Go.RowKit
abbrev Turn:=Int×Jb
abbrev Now:=Jb×Tabs
def qO (s:Now)(k:Jb):Except Int Now:=
 match jA s.1 k (aS s.1.nodes s.2)with
 | .error e=> .error e
 | .ok kept=>match bJ k kept with| .error e=> .error e| .ok Us=> .ok (k,Us)
def cu (at_:Int):List Turn->Now->Except Int (Now×List Turn)
 |[],s=> .ok (s,[])
 |t::l,s=>if t.1=at_ then(match qO s t.2 with| .error e=> .error e| .ok s'=>cu at_ l s')else .ok (s,t::l)
def lT:List (Int×Int)->Int->List Turn->Now->List Rec->Except Int (Now×List Rec)
 |[],at_,ts,s,o=>match cu at_ ts s with| .error e=> .error e| .ok r=> .ok (r.1,o)
 |y::l,at_,ts,s,o=>match cu at_ ts s with
  | .error e=> .error e
  | .ok r=>lT l (at_+1) r.2 (r.1.1,(fU r.1.1.nodes r.1.2 y.1 y.2).2) (o++(fU r.1.1.nodes r.1.2 y.1 y.2).1)
def bM (end_:Int):Int->List Turn->Bool
 |_,[]=>true
 |last,t::l=>decide (last<=t.1)&&decide (t.1<=end_)&&bM end_ t.1 l
def gG (first:Jb)(turns:List Turn)(l:List (Int×Int))(end_:Int):Except Int (Now×List Rec):=
 if end_<0\/(l.length:Int)<end_\/bM end_ 0 turns=false then .error 2
 else match bJ first []with| .error e=> .error e| .ok Ts=>lT (l.take end_.toNat) 0 turns (first,Ts) []
theorem O5 {e a b:Int}: ∀{l:List Turn},bM e a l=true->(∀t∈l,b<=t.1)->bM e b l=true
 |[],_,_=>rfl
 |t::l,h,hb=>by
  unfold bM at h⊢
  simp only[Bool.and_eq_true,decide_eq_true_eq]at h⊢
  exact⟨⟨hb t (by simp),h.1.2⟩,h.2⟩
theorem zn {e:Int}: ∀{l:List Turn}{a:Int},bM e a l=true-> ∀t∈l,a<=t.1/\t.1<=e
 |[],_,_,t,ht=>by cases ht
 |u::l,a,h,t,ht=>by
  unfold bM at h
  simp only[Bool.and_eq_true,decide_eq_true_eq]at h
  rcases List.mem_cons.1 ht with rfl|ht
  ·exact h.1
  ·have:=zn h.2 t ht
   omega
theorem uF {at_ e:Int}: ∀{l:List Turn}{s:Now}{r:Now×List Turn},bM e at_ l=true->cu at_ l s= .ok r->bM e (at_+1) r.2=true
 |[],s,r,_,hr=>by injection hr with hr;subst hr;rfl
 |t::l,s,r,h,hr=>by
  unfold cu at hr
  have h':=h
  unfold bM at h
  simp only[Bool.and_eq_true,decide_eq_true_eq]at h
  split at hr
  ·rename_i heq
   split at hr
   ·cases hr
   ·exact uF (by have:=h.2;rwa[heq]at this) hr
  ·rename_i hne
   injection hr with hr
   subst hr
   refine O5 h' fun u hu=>?_
   rcases List.mem_cons.1 hu with rfl|hu
   ·have:=h.1.1;omega
   ·have:=zn h.2 u hu
    have:=h.1.1
    omega
theorem O4 {e a:Int}(h:e<a): ∀{l:List Turn},bM e a l=true->l=[]
 |[],_=>rfl
 |t::l,hl=>by
  have:=zn hl t (by simp)
  omega
theorem Fz: ∀(l:List (Int×Int))(at_:Int)(s:Now)(o:List Rec),lT l at_ [] s o= .ok ((s.1,(dO s.1.nodes s.2 l).2),o++(dO s.1.nodes s.2 l).1)
 |[],at_,s,o=>by simp[lT,cu,dO]
 |y::l,at_,s,o=>by
  unfold lT
  simp only[cu]
  rw[Fz l]
  simp only[dO,List.append_assoc]
theorem Eu: ∀(l m:List (Int×Int))(at_:Int)(ts:List Turn)(s:Now)(o:List Rec),bM (at_+l.length) at_ ts=true->
 lT (l++m) at_ ts s o=match lT l at_ ts s o with| .error e=> .error e| .ok r=>lT m (at_+l.length) [] r.1 r.2
 |[],m,at_,ts,s,o,h=>by
  simp only[List.nil_append,List.length_nil,Int.natCast_zero,Int.add_zero]at h⊢
  cases e:cu at_ ts s with
  |error f=>
   cases m with
   |nil=>simp[lT,e]
   |cons y m=>simp[lT,e]
  |ok r=>
   have hr:r.2=[]:=O4 (by omega) (uF h e)
   cases m with
   |nil=>simp[lT,e,cu]
   |cons y m=>simp only[lT,e,cu,hr]
 |y::l,m,at_,ts,s,o,h=>by
  simp only[List.cons_append,lT]
  rw[List.length_cons]at h
  cases e:cu at_ ts s with
  |error f=>simp
  |ok r=>
   simp only
   have h2:=uF h e
   have e1:at_+((l.length+1:Nat):Int)=at_+1+(l.length:Int):=by omega
   rw[e1]at h2
   rw[Eu l m (at_+1) r.2 _ _ h2,List.length_cons,e1]
theorem o8 (p:Nat)(L M:List Rec):jy p (L++M)=jy p L++jy p M:=by unfold jy;rw[List.filter_append,List.map_append]
structure adW (s:Now):Prop where
 job:bK s.1=true
 exps:JR s.1.nodes
 tabs:dF s.1.nodes s.2
theorem VW {j:Jb}(hj:bK j=true)(hR:JR j.nodes): ∀(l:List (Int×Int))(Ts:Tabs),dF j.nodes Ts->(∀y∈l,aI y.1/\aI y.2)->dF j.nodes (dO j.nodes Ts l).2/\(∀q∈(dO j.nodes Ts l).1,aU q)/\(dO j.nodes Ts l).1.length<=64*l.length
 |[],Ts,h,_=>⟨h,by simp[dO],by simp[dO]⟩
 |y::l,Ts,h,hy=>by
  obtain⟨k1,k2⟩:=hy y (by simp)
  obtain⟨f1,f2,_,f4⟩:=uZ hj hR h k1 k2
  obtain⟨g1,g2,g3⟩:=VW hj hR l _ f1 (fun z hz=>hy z (by simp[hz]))
  refine⟨g1,fun q hq=>?_,?_⟩
  ·simp only[dO]at hq
   rcases List.mem_append.1 hq with hq|hq
   ·exact f2 q hq
   ·exact g2 q hq
  ·simp only[dO,List.length_append,List.length_cons]
   omega
theorem Gi {first:Jb}{turns:List Turn}{l:List (Int×Int)}{end_:Int}{r:Now×List Rec}(h:gG first turns l end_= .ok r):
 0<=end_/\end_<=l.length/\bM end_ 0 turns=true/\ ∃Ts,bJ first []= .ok Ts/\lT (l.take end_.toNat) 0 turns (first,Ts) []= .ok r:=by
 unfold gG at h
 split at h
 ·cases h
 ·rename_i hn
  simp only[not_or,Bool.not_eq_false]at hn
  cases e:bJ first []with
  |error f=>rw[e]at h;cases h
  |ok Ts=>rw[e]at h;exact⟨by omega,by omega,hn.2.2,Ts,rfl,h⟩
theorem Cm {e e':Int}(he:e<=e'): ∀{l:List Turn}{a:Int},bM e a l=true->bM e' a l=true
 |[],_,_=>rfl
 |t::l,a,h=>by
  unfold bM at h⊢
  simp only[Bool.and_eq_true,decide_eq_true_eq]at h⊢
  exact⟨⟨h.1.1,by omega⟩,Cm he h.2⟩
theorem E8 {first:Jb}{turns:List Turn}{l:List (Int×Int)}{at_:Nat}(hat:at_<=l.length)(hc:bM at_ 0 turns=true):
 gG first turns l l.length=match gG first turns l at_ with| .error e=> .error e| .ok r=> .ok ((r.1.1,(dO r.1.1.nodes r.1.2 (l.drop at_)).2),r.2++(dO r.1.1.nodes r.1.2 (l.drop at_)).1):=by
 unfold gG
 rw[if_neg (by simp[Cm (show((at_:Nat):Int)<=(l.length:Int) by omega) hc]<;>omega),if_neg (by simp[hc]<;>omega)]
 cases bJ first []with
 |error e=>rfl
 |ok Ts=>
  simp only[Int.toNat_natCast,List.take_length]
  have h:=Eu (l.take at_) (l.drop at_) 0 turns (first,Ts) [] (by rw[List.length_take,show min at_ l.length=at_ by omega];simpa using hc)
  rw[List.take_append_drop]at h
  rw[h]
  cases lT (l.take at_) 0 turns (first,Ts) []with
  |error e=>rfl
  |ok r=>simp only[Fz]
theorem Ur {s:Now}(h:adW s){k:Jb}(hk:bK k=true)(hn:k.nodes=s.1.nodes):qO s k= .ok (k,s.2):=by
 unfold qO
 rw[(SG h.job hk hn h.tabs).2]
 simp only
 have:=wY (j:=k) (Ts:=s.2) hk (by rw[hn];exact h.tabs)
 rw[hn]at this
 rw[this]
theorem UM {first k:Jb}{l:List (Int×Int)}{at_:Nat}(hj:bK first=true)(hR:JR first.nodes)(hy: ∀y∈l,aI y.1/\aI y.2)(hat:at_<=l.length)(hk:bK k=true)(hn:k.nodes=first.nodes):
 ∃Ts,gG first [] l l.length= .ok ((first,(dO first.nodes Ts l).2),(dO first.nodes Ts l).1)/\gG first [((at_:Nat),k)] l l.length= .ok ((k,(dO first.nodes Ts l).2),(dO first.nodes Ts l).1):=by
 have hc:bM (at_:Int) 0 [((at_:Nat),k)]=true:=by simp[bM]
 have hl:bJ first []= .ok (iH first.nodes (dh first.nodes)):=by unfold bJ;rw[if_pos hj];rfl
 have ht:=(xX hl).2
 refine⟨iH first.nodes (dh first.nodes),?_,?_⟩
 ·unfold gG
  rw[if_neg (by simp[bM]<;>omega),hl]
  simp only[Int.toNat_natCast,List.take_length,Fz,List.nil_append]
 ·have split: ∀(m m':List (Int×Int))(Ts:Tabs),dO first.nodes Ts (m++m')=((dO first.nodes Ts m).1++(dO first.nodes (dO first.nodes Ts m).2 m').1,(dO first.nodes (dO first.nodes Ts m).2 m').2):=by
   intro m
   induction m with
   |nil=>intro m' Ts;simp[dO]
   |cons y m ih=>intro m' Ts;simp only[List.cons_append,dO,ih,List.append_assoc]
  have h0: ∀(m:List (Int×Int))(a:Int)(Ts:Tabs)(o:List Rec),dF first.nodes Ts->(∀y∈m,aI y.1/\aI y.2)->lT m a [(a+m.length,k)] (first,Ts) o= .ok ((k,(dO first.nodes Ts m).2),o++(dO first.nodes Ts m).1):=by
   intro m
   induction m with
   |nil=>
    intro a Ts o hT _
    simp only[lT,cu,List.length_nil,Int.natCast_zero,Int.add_zero,if_true,Ur (s:=(first,Ts)) ⟨hj,hR,hT⟩ hk hn,dO,List.append_nil]
   |cons y m ih=>
    intro a Ts o hT hm
    have hne: ¬a+((m.length+1:Nat):Int)=a:=by omega
    simp only[lT,cu,List.length_cons,if_neg hne]
    have e1:a+((m.length+1:Nat):Int)=a+1+(m.length:Int):=by omega
    obtain⟨k1,k2⟩:=hm y (by simp)
    rw[e1,ih (a+1) _ _ (uZ hj hR hT k1 k2).1 (fun z hz=>hm z (by simp[hz]))]
    simp only[dO,List.append_assoc]
  rw[E8 hat hc]
  have h1:gG first [((at_:Nat),k)] l at_= .ok ((k,(dO first.nodes (iH first.nodes (dh first.nodes)) (l.take at_)).2),(dO first.nodes (iH first.nodes (dh first.nodes)) (l.take at_)).1):=by
   unfold gG
   rw[if_neg (by simp[hc]<;>omega),hl]
   have:=h0 (l.take at_) 0 (iH first.nodes (dh first.nodes)) [] ht (fun y hy'=>hy y (List.mem_of_mem_take hy'))
   rw[List.length_take,show min at_ l.length=at_ by omega]at this
   simpa using this
  rw[h1]
  simp only
  rw[hn]
  have:=split (l.take at_) (l.drop at_) (iH first.nodes (dh first.nodes))
  rw[List.take_append_drop]at this
  rw[this]
end
section
open Go Go.RowKit
attribute [local irreducible] bU dL H2.cZ
def dI (r:Rec):Int×Int:=(r.key,r.val)
theorem XZ {L:List Rec}(h: ∀r∈L,aU r)(k:Nat): ∀y∈(L.take k).map dI,aI y.1/\aI y.2:=fun y hy=>by
 obtain⟨r,hr,rfl⟩:=List.mem_map.1 hy
 have:=h r (List.mem_of_mem_take hr)
 exact⟨this.key,this.val⟩
theorem bZ.nodes {w:World}{par:Int}{v:Value}{j:Jb}(h:bZ w #[.int .i64 par,v] j):dP w v j.nodes:=by
 obtain⟨v',e,hn,_⟩:=h
 injection e with e
 injection e with _ e
 injection e with e
 subst e
 exact hn
theorem Ew (nodes:List JN): ∀(l m:List (Int×Int))(Ts:Tabs),dO nodes Ts (l++m)=((dO nodes Ts l).1++(dO nodes (dO nodes Ts l).2 m).1,(dO nodes (dO nodes Ts l).2 m).2)
 |[],m,Ts=>by simp[dO]
 |y::l,m,Ts=>by simp only[List.cons_append,dO,Ew nodes l m,List.append_assoc]
theorem YQ (nodes:List JN)(Ts:Tabs){L:List Rec}{k:Nat}{r:Rec}(h:L[k]?=some r):
 dO nodes Ts ((L.take (k+1)).map dI)=((dO nodes Ts ((L.take k).map dI)).1++(fU nodes (dO nodes Ts ((L.take k).map dI)).2 r.key r.val).1,(fU nodes (dO nodes Ts ((L.take k).map dI)).2 r.key r.val).2):=by
 rw[List.take_add_one,h,Option.toList_some,List.map_append,Ew]
 simp[dO,dI]
theorem Reads.WY {w:World}{v:Value}{cs:List Value}{k b:Nat}(h:Reads w k v cs)(hk:0<k)(hb:Value.blk v=some b):b<w.heap.size:=by
 obtain⟨c,E,f,h⟩:=h.isCells hk hb
 exact(Array.getElem?_eq_some_iff.1 h).1
theorem rZ (key:Int):partOf key<2:=by unfold partOf;split<;>omega
theorem Gz (p:Nat)(L:List Rec):(jy p L).length<=L.length:=by unfold jy;rw[List.length_map];exact List.length_filter_le _ _
end
section
open Go Go.RowKit Go.ChangeShapes Go.WideShapes Go.ChangeAt Go.Deep
section
variable {H:Type} {enc:TypeId×Value->H} {w:World}
theorem C9 {fuel n cap:Nat}{a:Option Addr}{x:DataW H×List MemPlace}(h:DataW.trod enc Tryz.prog w 0 (fun _=>true) true fuel 49 [.slice a n cap]=some x):
 ∃L:List Rec,L.length=n/\Reads w 3 (.slice a n cap) (recs L)/\ ∀r∈L,aU r:=by
 obtain⟨cs,hl,hr,hel⟩:=qw (k:=3) Tryz.underlying49 (by kernel_rfl) (by omega) h
 have each: ∀i,i<n-> ∃r:Rec,aU r/\(cs.drop (i*3)).take 3=[.int .i64 r.pos, .int .i64 r.key, .int .i64 r.val]:=by
  intro i hi
  obtain⟨m,y,hy⟩:=hel i hi
  obtain⟨v0,v1,v2,hd⟩: ∃v0 v1 v2,(cs.drop (i*3)).take 3=[v0,v1,v2]:=by
   have hlen:((cs.drop (i*3)).take 3).length=3:=by rw[List.length_take,List.length_drop];omega
   match(cs.drop (i*3)).take 3,hlen with
   |[v0,v1,v2],_=>exact⟨v0,v1,v2,rfl⟩
  rw[hd]at hy⊢
  obtain⟨xs,f1,_,_,_,hxl,hf⟩:=DataW.trod_struct Tryz.underlying86 hy
  have g0:DataW.trod enc Tryz.prog w 0 (fun _=>true) true f1 3 ([v0,v1,v2].drop 0|>.take (Tryz.prog.cellsOf 3))=xs[0]?:=hf 0 _ rfl
  have g1:DataW.trod enc Tryz.prog w 0 (fun _=>true) true f1 2 ([v0,v1,v2].drop 1|>.take (Tryz.prog.cellsOf 2))=xs[1]?:=hf 1 _ rfl
  have g2:DataW.trod enc Tryz.prog w 0 (fun _=>true) true f1 2 ([v0,v1,v2].drop 2|>.take (Tryz.prog.cellsOf 2))=xs[2]?:=hf 2 _ rfl
  rw[show Tryz.prog.cellsOf 3=1 by kernel_rfl]at g0
  rw[show Tryz.prog.cellsOf 2=1 by kernel_rfl]at g1 g2
  simp only[List.drop_succ_cons,List.drop_zero,List.take_succ_cons,List.take_zero]at g0 g1 g2
  match xs,hxl with
  |[x0,x1,x2],_=>
   obtain⟨z0,hz0,_,hw0⟩:=DataW.trod_int Tryz.underlying3 g0
   obtain⟨z1,hz1,_,hw1⟩:=DataW.trod_int Tryz.underlying2 g1
   obtain⟨z2,hz2,_,hw2⟩:=DataW.trod_int Tryz.underlying2 g2
   injection hz0 with hz0 _
   injection hz1 with hz1 _
   injection hz2 with hz2 _
   subst hz0 hz1 hz2
   exact⟨⟨z0,z1,z2⟩,⟨.vX hw0, .vX hw1, .vX hw2⟩,rfl⟩
 obtain⟨O,hO⟩:=choose_lt each
 refine⟨(List.range n).map O,by simp,?_,fun r hr=>?_⟩
 ·have:cs=recs ((List.range n).map O):=by
   apply List.ext_getElem?
   intro j
   by_cases hj:j<n*3
   ·have hi:j/3<n:=by omega
    have h1:=(hO (j/3) hi).2
    have h2:cs[j]?=((cs.drop (j/3*3)).take 3)[j%3]?:=by
     rw[List.getElem?_take,if_pos (Nat.mod_lt _ (by omega)),List.getElem?_drop]
     congr 1;omega
    rw[h2,h1]
    have h3:((List.range n).map O)[j/3]?=some (O (j/3)):=by rw[List.getElem?_map,List.getElem?_range hi];rfl
    obtain⟨e0,e1,e2⟩:=CX h3
    have hm:j%3=0\/j%3=1\/j%3=2:=by omega
    rcases hm with hm|hm|hm
    ·rw[hm,show j=j/3*3 by omega,show j/3*3/3=j/3 by omega,e0];rfl
    ·rw[hm,show j=j/3*3+1 by omega,show(j/3*3+1)/3=j/3 by omega,e1];rfl
    ·rw[hm,show j=j/3*3+2 by omega,show(j/3*3+2)/3=j/3 by omega,e2];rfl
   ·rw[List.getElem?_eq_none (by rw[hl];omega),List.getElem?_eq_none (by rw[dH];simp;omega)]
  rw[<-this];exact hr
 ·obtain⟨i,hi,rfl⟩:=List.mem_map.1 hr
  exact(hO i (List.mem_range.1 hi)).1
theorem trodAll_four {P:Program}{base:Nat}{spare:Nat->Bool}{held:Bool}{t t' t'' u:TypeId}{args:Array Value}{ds:List (DataW H)}{ps:List MemPlace}(h:DataW.TrodAll enc P w base spare held [t,t',t'',u] args.toList ds ps):
 ∃v v' v'' y d d' d'' f p p' p'' q,args= #[v,v',v'',y]/\ds=[d,d',d'',f]/\ps=p++p'++p''++q/\DataW.Trod enc P w base spare held t v d p/\DataW.Trod enc P w base spare held t' v' d' p'/\DataW.Trod enc P w base spare held t'' v'' d'' p''/\DataW.Trod enc P w base spare held u y f q:=by
 obtain⟨v,vs,d,ds',p,q,hargs,rfl,rfl,hd,hrest⟩:=trodAll_cons h
 obtain⟨v',vs',d',ds'',p',q',rfl,rfl,rfl,hd',hrest'⟩:=trodAll_cons hrest
 obtain⟨v'',vs'',d'',ds''',p'',q'',rfl,rfl,rfl,hd'',hrest''⟩:=trodAll_cons hrest'
 obtain⟨y,vs3,f,ds4,p3,q3,rfl,rfl,rfl,hd3,hrest3⟩:=trodAll_cons hrest''
 obtain⟨rfl,rfl,rfl⟩:=trodAll_nil hrest3
 exact⟨v,v',v'',y,d,d',d'',f,p,p',p'',p3,by cases args;simp_all,rfl,by simp,hd,hd',hd'',hd3⟩
end
end
section
open Go Go.RowKit
section
variable {P:Program} {ops:Array Oper} {C:World->Prop} {Q:Act->World->Prop}
theorem QD {n i k m:Nat}{listed:Array Bool}{a:Act}{w:World}{o o' o'':Oper}(hp:DT ops listed=none)(hr:Region.ready .any ops listed=[i,k,m])(ho:ops[i]?=some o)(hw:Region.wanted o (yielded ops a.tmps)=true)
 (ho':ops[k]?=some o') (hw':Region.wanted o' (yielded ops a.tmps)=true) (afD:ops[m]?=some o'') (hw'':Region.wanted o'' (yielded ops a.tmps)=true)
 (h: ∀K:Act->World->Prop,(∀a' w',C w'->dL P ops C Q n (listed.setIfInBounds i true) a' w'->K a' w')->o.wp P a w K (iU Q))
 (h': ∀K:Act->World->Prop,(∀a' w',C w'->dL P ops C Q n (listed.setIfInBounds k true) a' w'->K a' w')->o'.wp P a w K (iU Q))
 (h'': ∀K:Act->World->Prop,(∀a' w',C w'->dL P ops C Q n (listed.setIfInBounds m true) a' w'->K a' w')->o''.wp P a w K (iU Q)):dL P ops C Q (n+1) listed a w:=by
 unfold dL
 rw[hp,hr]
 refine⟨by simp,fun j hj=>?_⟩
 have hj:j=i\/j=k\/j=m:=by simpa using hj
 rcases hj with rfl|rfl|rfl
 ·refine⟨o,ho,?_⟩
  rw[if_pos hw]
  exact h _ fun a' w' h1 h2=>⟨h1,h2⟩
 ·refine⟨o',ho',?_⟩
  rw[if_pos hw']
  exact h' _ fun a' w' h1 h2=>⟨h1,h2⟩
 ·refine⟨o'',afD,?_⟩
  rw[if_pos hw'']
  exact h'' _ fun a' w' h1 h2=>⟨h1,h2⟩
end
attribute [local irreducible] bU dL H2.cZ
theorem Rl {T:Tab}{k:Nat}{q:Int×Cell}(h:T[k]?=some q):oI (T.take (k+1))=max (oI (T.take k)) q.2.2.length:=by
 unfold oI
 rw[List.take_add_one,h,Option.toList_some,List.foldl_append]
 rfl
theorem Yc {T:Tab}(hT:dR T)(k:Nat):oI (T.take k)<=16:=by
 have:=MG (T:=T.take k) (n:=17) (by omega) (fun p hp=>by have:=(hT.cell p (List.mem_of_mem_take hp)).2.2;omega)
 omega
theorem OJ (B:Nat->Prop)(b m:Nat)(T:Tab)(w:World)(hT:TabAt w B b m T):
 Calls Tryz.prog 43 #[.pointer (some ⟨b,0,none⟩)] w (Gives w (.int .i64 (oI T:Int))):=by
 have ck:=uJ B b m T w hT
 have H:=Lib.hid hT
 clear hT
 go_enter Tryz.func43,Tryz.ntmps43
 go_wp2_with fail
 (with_reducible refine ck.mono ?_)
 clear ck
 rintro e W2 ⟨v,rfl,hown,-,k2⟩
 obtain⟨va,vc,rfl⟩:=ay hown
 have acp:T.length<=9223372036854775807:=by
  obtain⟨_,_,e1,e2,e3,_⟩:=(Reads.aZ hown).at
  unfold maxLen at e3
  unfold aP at e2
  rw[List.length_map]at e2
  omega
 have hkl:(aP T).length=T.length:=by unfold aP;rw[List.length_map]
 rw[hkl]at hown
 have K2:=Lib.hid (And.intro k2 (And.intro (H.out.pure k2) hown))
 rw[hkl]
 clear hown k2
 go_wp2_with fail
 go_loopg [3,11] T.length (fun g vn vi wr=> ∃k:Nat,k<=T.length/\vi= .int .i64 (k:Int)/\vn= .int .i64 ((oI (T.take k):Nat):Int)/\T.length-k<=g/\Kept none' W2 wr)
 case atStart=>exact⟨0,by omega,rfl,rfl,by omega,Kept.refl _ _⟩
 case round=>
  obtain⟨k,hk,rfl,rfl,hg,hkp⟩:=hrel
  by_cases hlt:k<T.length
  ·obtain⟨q,hq⟩: ∃q,T[k]?=some q:=⟨_,List.getElem?_eq_getElem hlt⟩
   obtain⟨pa,pc,pe,_,_,hcell⟩:=((Reads.aZ K2.out.2.2).pure hkp).at
   injection pe with pe1 Zn U4
   subst pe1 U4
   clear Zn
   obtain⟨bi,X4,rfl,hcell2⟩:=hcell.resolve_left (fun h=>by rw[h]at hkl;simp at hkl;omega)
   have y0:=hcell2 k q.1 (by unfold aP;rw[List.getElem?_map,hq];rfl)
   clear hcell hcell2
   have cg:=get_any B b m T q.1 wr (K2.out.2.1.pure hkp)
   have hget:=Px K2.out.2.1.ok.rises hq
   unfold FM at cg
   rw[hget]at cg
   simp only[Option.getD_some,Option.isSome_some]at cg
   have hsn:=Rl hq
   obtain⟨key,acc,L⟩:=q
   have afJ:L.length<=16:=(K2.out.2.1.ok.cell _ (List.mem_of_getElem? hq)).2.2
   have hn16:=Yc K2.out.2.1.ok k
   obtain⟨N,hN⟩: ∃N,oI (T.take k)=N:=⟨_,rfl⟩
   rw[hN]at hsn hn16
   simp only at cg y0 hsn
   have G:=Lib.hid (And.intro hg (And.intro hkp (And.intro hsn hN)))
   clear hq hg hkp hget hkl hsn
   rw[hN]
   clear hN
   go_wp2_with fail
   (with_reducible refine cg.mono ?_)
   clear cg
   rintro e w3 ⟨lv,n',rfl,hl1,rfl,k3⟩
   obtain⟨la,lc,rfl⟩:=ay hl1
   have hmx:max (N:Int) (L.length:Int)=((max N L.length:Nat):Int):=by omega
   have F:=Lib.hid (G.out.2.1.trans (k3.alloc (.cells #[.int .i64 acc, .slice la L.length lc] 124)))
   clear k3 hl1 y0
   go_wp2_with fail
   try rw[hmx]
   go_roundg (T.length-(k+1))
   case rel=>exact⟨k+1,by omega,by go_num,by rw[G.out.2.2.1];try rw[hmx],Nat.le_refl _,F.out⟩
   case measure=>have:=G.out.1;omega
  ·have e1:k=T.length:=by omega
   subst e1
   have F:=Lib.hid hkp
   clear hkp
   go_wp2_with fail
   go_ret
   exact⟨fV (by rw[List.take_of_length_le (Nat.le_refl _)]),K2.out.1.trans F.out⟩
end
end Go.Proofs.YtopeleenlcnkkaaGreatDoor
