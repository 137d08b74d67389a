/- ROWS OF OUTPUTS in memory, beside one another: their slices stand in one block. -/
import Derived.Test.YtopeleenlcnkkaaGreatDoorX39
set_option linter.unusedVariables false
set_option linter.unusedSimpArgs false
set_option maxHeartbeats 1000000
set_option maxRecDepth 100000
namespace Go.Proofs.YtopeleenlcnkkaaGreatDoor
section
open Go Go.RowKit
theorem Tryz.info80: ∃i z,Tryz.prog.info? 80=some i/\i.zero=some z/\i.size=2/\i.bytes=16/\z.cells.size=2:=by
 have h:(Tryz.prog.info? 80).map (fun i=>(i.zero,i.size,i.bytes))=some (some (.agg #[.int .i64 0, .int .i64 0]),2,16):=by kernel_rfl
 obtain⟨i,hi,h⟩:=Option.map_eq_some_iff.1 h
 simp only[Prod.mk.injEq]at h
 exact⟨i,_,hi,h.1,h.2.1,h.2.2,by rfl⟩
def oQ (l:List dV):List Value:=l.flatMap fun o=>[.int .i64 o.1, .int .i64 o.2]
theorem wX: ∀l:List dV,(oQ l).length=l.length*2
 |[]=>rfl
 |o::l=>by
  have:=wX l
  unfold oQ at this⊢
  rw[List.flatMap_cons,List.length_append,this,List.length_cons]
  simp;omega
theorem U7 (l:List dV)(o:dV):oQ (l++[o])=oQ l++[.int .i64 o.1, .int .i64 o.2]:=by
 unfold oQ;rw[List.flatMap_append];rfl
theorem LZ: ∀{l:List dV}{i:Nat}{o:dV},l[i]?=some o->(oQ l)[i*2]?=some (.int .i64 o.1)/\(oQ l)[i*2+1]?=some (.int .i64 o.2)
 |[],i,o,h=>by cases h
 |p::l,0,o,h=>by cases h;exact⟨rfl,rfl⟩
 |p::l,i+1,o,h=>by
  have:=LZ (l:=l) (i:=i) (o:=o) h
  unfold oQ at this⊢
  rw[List.flatMap_cons,show(i+1)*2=i*2+1+1 by omega]
  exact this
theorem XU {w:World}{base n:Nat}{va:Value}{l:List dV}(h:w.ownsRow base 80 2 va n (oQ l))(o:dV)(hb:base<=w.heap.size)(hn:n<=100000):
 ∃dS w',(Builtin.append_ #[78,78] 78 #[va, .slice (some ⟨w.heap.size,0,none⟩) 1 1]).run Tryz.prog (w.alloc (.cells #[.int .i64 o.1, .int .i64 o.2] 80))= .ok dS w'/\w'.ownsRow base 80 2 dS (n+1) (oQ (l++[o]))/\
  Kept (fun q=>va.ownBlock=some q) w w'/\ ∀q,dS.ownBlock=some q->va.ownBlock=some q\/w.heap.size<=q:=by
 obtain⟨i,z,hi,hz,hs,hby,hzs⟩:=Tryz.info80
 obtain⟨news,En⟩: ∃news:List Value,[Value.int .i64 o.1, .int .i64 o.2]=news:=⟨_,rfl⟩
 have hl:news.length=2:=by rw[<-En];rfl
 have h1: ∀x∈news,x.oneCell'=true:=by rw[<-En];intro y hy;simp at hy;rcases hy with rfl|rfl<;>rfl
 rw[U7,show(#[Value.int .i64 o.1, .int .i64 o.2]:Array Value)=[Value.int .i64 o.1, .int .i64 o.2].toArray from rfl,En]
 clear En
 obtain⟨cs,hcs⟩: ∃cs,oQ l=cs:=⟨_,rfl⟩
 rw[hcs]at h⊢
 clear hcs
 have kA:Kept none' w (w.alloc (.cells news.toArray 80)):=(Kept.refl _ _).alloc _
 have hr:=Reads.lit w news 80 2 1 (by omega) (by unfold maxLen;omega)
 have hA:=kA.owns h (fun _ _ h=>h)
 have hcl:cs.length=n*2:=h.1
 obtain⟨v',n',w',b1,b2,b3,b4,_⟩:=aW (P:=Tryz.prog) base 78 78 80 i z 2 16 Tryz.underlying78 hi hz hs hby hzs (by omega) hA hr h1
  (by rw[hl];omega) (by rw[hl];unfold maxLen;omega) (by have:=kA.size;omega)
 have hn':n'=n+1:=by rw[hl]at b3;omega
 subst hn'
 refine⟨v',w',b1,b2,kA.pure.trans (Kept.grown b4 (fun k hk _=>hk)),fun q hq=>?_⟩
 have hsz:(w.alloc (.cells news.toArray 80)).heap.size=w.heap.size+1:=by simp
 have hnews: ∀j v,news[j]?=some v->(w.alloc (.cells news.toArray 80)).cell? ((⟨w.heap.size,0,none⟩:Addr).add j)=some v:=fun j v hj=>by
  rw[Addr.add_lit,World.cell?_alloc_new];simpa using hj
 rcases h.2 with⟨rfl,rfl⟩|⟨g,cap,cur,rfl,hbg,hg,hnc,hcm,hcs,htake⟩
 ·have hr:=run_append_nil (P:=Tryz.prog) (w.alloc (.cells news.toArray 80)) 78 78 80 i z Tryz.underlying78 hi hz ⟨w.heap.size,0,none⟩ 1 1 news (by rw[hs];omega) hnews (by omega) (by omega) (by omega)
  rw[b1]at hr
  injection hr with e1 e2
  rw[e1]at hq
  right
  have:(w.alloc (.cells news.toArray 80)).heap.size=q:=by simpa[Value.ownBlock]using hq
  omega
 ·by_cases hroom:n+1<=cap
  ·obtain⟨w2,hr,_⟩:=run_append_fits (P:=Tryz.prog) (w.alloc (.cells news.toArray 80)) base 78 78 80 i 2 Tryz.underlying78 hi hs g n cap cs hA ⟨w.heap.size,0,none⟩ 1 1 news (by omega) hnews h1 hroom
   rw[b1]at hr
   injection hr with e1 e2
   rw[e1]at hq
   left
   exact hq
  ·have holds: ∀j u,cs[j]?=some u->(w.alloc (.cells news.toArray 80)).cell? ((⟨g,0,none⟩:Addr).add j)=some u:=hA.cells (g:=g) rfl
   have hr:=run_append_grow (P:=Tryz.prog) (w.alloc (.cells news.toArray 80)) 78 78 80 i z Tryz.underlying78 hi hz ⟨g,0,none⟩ n cap cs (by rw[hs];exact hcl) holds ⟨w.heap.size,0,none⟩ 1 1 news (by rw[hs];omega) hnews (by omega) (by omega) (growslice_fits (by omega) (by rw[hby];omega))
   rw[b1]at hr
   injection hr with e1 e2
   rw[e1]at hq
   right
   have:(w.alloc (.cells news.toArray 80)).heap.size=q:=by simpa[Value.ownBlock]using hq
   omega
structure bY (w:World)(base B E:Nat)(V:List Value)(O:List (List dV)):Prop where
 blk:w.heap[B]?=some (.cells V.toArray E (0,0))
 len:V.length=O.length
 own: ∀(i:Nat)(v:Value)(o:List dV),V[i]?=some v->O[i]?=some o->w.ownsRow base 80 2 v o.length (oQ o)
 dist: ∀(i k:Nat)(v u:Value)(q:Nat),i≠k->V[i]?=some v->V[k]?=some u->v.ownBlock=some q->u.ownBlock≠some q
 ne: ∀(i:Nat)(v:Value)(q:Nat),V[i]?=some v->v.ownBlock=some q->q≠B
def bP (B:Nat)(V:List Value):Nat->Prop:=fun q=>q=B\/ ∃(i:Nat)(v:Value),V[i]?=some v/\v.ownBlock=some q
theorem bY.fH {S:Nat->Prop}{w w':World}{base B E:Nat}{V:List Value}{O:List (List dV)}(h:bY w base B E V O)(hk:Kept S w w')(hS: ∀q,bP B V q-> ¬S q):bY w' base B E V O:=
 ⟨hk.heap h.blk (hS B (.inl rfl)),h.len,fun i v o hv ho=>hk.owns (h.own i v o hv ho) (fun k hk hs=>hS k (.inr ⟨i,v,hv,hk⟩) hs),h.dist,h.ne⟩
theorem bY.pure {w w':World}{base B E:Nat}{V:List Value}{O:List (List dV)}(h:bY w base B E V O)(hk:Kept none' w w'):bY w' base B E V O:=h.fH hk (fun _ _ h=>h)
theorem bY.lt {w:World}{base B E:Nat}{V:List Value}{O:List (List dV)}(h:bY w base B E V O){q:Nat}(hq:bP B V q):q<w.heap.size:=by
 rcases hq with rfl|⟨i,v,hv,hq⟩
 ·exact(Array.getElem?_eq_some_iff.1 h.blk).1
 ·obtain⟨o,ho⟩: ∃o,O[i]?=some o:=⟨_,List.getElem?_eq_getElem (by rw[<-h.len];exact(List.getElem?_eq_some_iff.1 hv).1)⟩
  exact((h.own i v o hv ho).lt q hq).2
theorem bY.ge {w:World}{base B E:Nat}{V:List Value}{O:List (List dV)}(h:bY w base B E V O)(hB:base<=B){q:Nat}(hq:bP B V q):base<=q:=by
 rcases hq with rfl|⟨i,v,hv,hq⟩
 ·exact hB
 ·obtain⟨o,ho⟩: ∃o,O[i]?=some o:=⟨_,List.getElem?_eq_getElem (by rw[<-h.len];exact(List.getElem?_eq_some_iff.1 hv).1)⟩
  exact((h.own i v o hv ho).lt q hq).1
theorem bY.isCells {w:World}{base B E:Nat}{V:List Value}{O:List (List dV)}(h:bY w base B E V O){q:Nat}(hq:bP B V q): ∃c T f,w.heap[q]?=some (.cells c T f):=by
 rcases hq with rfl|⟨i,v,hv,hq⟩
 ·exact⟨_,_,_,h.blk⟩
 ·obtain⟨o,ho⟩: ∃o,O[i]?=some o:=⟨_,List.getElem?_eq_getElem (by rw[<-h.len];exact(List.getElem?_eq_some_iff.1 hv).1)⟩
  rcases(h.own i v o hv ho).2 with⟨rfl,_⟩|⟨g,cap,cur,rfl,_,hg,_⟩
  ·cases hq
  ·cases hq;exact⟨_,_,_,hg⟩
theorem bY.ty {w:World}{base B E:Nat}{V:List Value}{O:List (List dV)}(h:bY w base B E V O){q:Nat}(hq:bP B V q): ∃c T f,w.heap[q]?=some (.cells c T f)/\(T=E\/T=80):=by
 rcases hq with rfl|⟨i,v,hv,hq⟩
 ·exact⟨_,_,_,h.blk, .inl rfl⟩
 ·obtain⟨o,ho⟩: ∃o,O[i]?=some o:=⟨_,List.getElem?_eq_getElem (by rw[<-h.len];exact(List.getElem?_eq_some_iff.1 hv).1)⟩
  rcases(h.own i v o hv ho).2 with⟨rfl,_⟩|⟨g,cap,cur,rfl,_,hg,_⟩
  ·cases hq
  ·cases hq;exact⟨_,_,_,hg, .inr rfl⟩
theorem bY.at_ {w:World}{base B E:Nat}{V:List Value}{O:List (List dV)}(h:bY w base B E V O){q:Nat}(hq:bP B V q):q=B\/base<=q:=by
 rcases hq with rfl|⟨i,v,hv,hq⟩
 ·exact .inl rfl
 ·obtain⟨o,ho⟩: ∃o,O[i]?=some o:=⟨_,List.getElem?_eq_getElem (by rw[<-h.len];exact(List.getElem?_eq_some_iff.1 hv).1)⟩
  exact .inr ((h.own i v o hv ho).lt q hq).1
theorem aY.abA {w:World}{m:Nat}{Ts:Tabs}{pm:Nat->Nat×Nat}(h:aY w m Ts pm): ∀c E f,w.heap[m]?≠some (.cells c E f):=by
 obtain⟨l,h1,_⟩:=h.map
 intro c E f e
 exact iR.map h1 zy m rfl trivial h1.lt c E f e
theorem bY.push {w:World}{base B E:Nat}{V:List Value}{O:List (List dV)}(h:bY w base B E V O)(hb:base<=w.heap.size){i:Nat}{v:Value}{l:List dV}(hv:V[i]?=some v)(hl:O[i]?=some l)(hn:l.length<=100000)(o:dV):
 ∃a cap w1,(Builtin.append_ #[78,78] 78 #[v, .slice (some ⟨w.heap.size,0,none⟩) 1 1]).run Tryz.prog (w.alloc (.cells #[.int .i64 o.1, .int .i64 o.2] 80))= .ok (.slice a (l.length+1) cap) w1/\
  Kept (fun q=>v.ownBlock=some q) w w1/\w1.heap[B]?=some (.cells V.toArray E (0,0))/\
  bY (w1.setCell ⟨B,i,none⟩ (.slice a (l.length+1) cap)) base B E (V.set i (.slice a (l.length+1) cap)) (O.set i (l++[o]))/\
  Kept (bP B V) w (w1.setCell ⟨B,i,none⟩ (.slice a (l.length+1) cap))/\ ∀q,bP B (V.set i (.slice a (l.length+1) cap)) q->bP B V q\/w.heap.size<=q:=by
 have hown:=h.own i v l hv hl
 obtain⟨dS,w1,g1,g2,g3,g4⟩:=XU hown o hb hn
 obtain⟨a,cap,rfl⟩:=ay g2
 have hB1: ¬v.ownBlock=some B:=fun e=>h.ne i v B hv e rfl
 have hB2:w1.heap[B]?=some (.cells V.toArray E (0,0)):=g3.heap h.blk hB1
 have hset:=aK hB2 i (.slice a (l.length+1) cap)
 have hBlt:=h.lt (q:=B) (.inl rfl)
 have ks:Kept (one B) w1 (w1.setCell ⟨B,i,none⟩ (.slice a (l.length+1) cap)):=Kept.setCell (p:=⟨B,i,none⟩) (Kept.refl (one B) _) (.inl rfl) _
 have ZI: ∀q,(Value.slice a (l.length+1) cap).ownBlock=some q->q≠B:=fun q hq=>by
  rcases g4 q hq with e|e
  ·exact h.ne i v q hv e
  ·omega
 have hil:i<V.length:=(List.getElem?_eq_some_iff.1 hv).1
 have VK:i<O.length:=(List.getElem?_eq_some_iff.1 hl).1
 refine⟨a,cap,w1,g1,g3,hB2,⟨by simpa using hset,by simp[h.len],fun k u p hu hp=>?_,fun k m u x q hkm hu hx hq=>?_,fun k u q hu hq=>?_⟩,?_,fun q hq=>?_⟩
 ·by_cases hk:i=k
  ·subst hk
   rw[List.getElem?_set_self hil]at hu
   rw[List.getElem?_set_self VK]at hp
   cases hu;cases hp
   rw[List.length_append,List.length_singleton]
   exact ks.owns g2 (fun k hk hs=>ZI k hk hs)
  ·rw[List.getElem?_set_ne hk]at hu hp
   have ho:=h.own k u p hu hp
   exact ks.owns (g3.owns ho (fun q hq hs=>h.dist i k v u q hk hv hu hs hq)) (fun q hq hs=>h.ne k u q hu hq hs)
 ·by_cases hk:i=k
  ·subst hk
   rw[List.getElem?_set_self hil]at hu
   cases hu
   rw[List.getElem?_set_ne hkm]at hx
   intro e
   rcases g4 q hq with e1|e1
   ·exact h.dist i m v x q hkm hv hx e1 e
   ·have:=h.lt (q:=q) (.inr ⟨m,x,hx,e⟩);omega
  ·rw[List.getElem?_set_ne hk]at hu
   by_cases hm:i=m
   ·subst hm
    rw[List.getElem?_set_self hil]at hx
    cases hx
    intro e
    rcases g4 q e with e1|e1
    ·exact h.dist k i u v q hkm hu hv hq e1
    ·have:=h.lt (q:=q) (.inr ⟨k,u,hu,hq⟩);omega
   ·rw[List.getElem?_set_ne hm]at hx
    exact h.dist k m u x q hkm hu hx hq
 ·by_cases hk:i=k
  ·subst hk
   rw[List.getElem?_set_self hil]at hu
   cases hu
   exact ZI q hq
  ·rw[List.getElem?_set_ne hk]at hu
   exact h.ne k u q hu hq
 ·exact(g3.mono (S':=bP B V) (fun k _ hs=> .inr ⟨i,v,hv,hs⟩)).new ks (fun k _ hs=> .inl hs)
 ·rcases hq with rfl|⟨k,u,hu,hq⟩
  ·exact .inl (.inl rfl)
  ·by_cases hk:i=k
   ·subst hk
    rw[List.getElem?_set_self hil]at hu
    cases hu
    rcases g4 q hq with e|e
    ·exact .inl (.inr ⟨i,v,hv,e⟩)
    ·exact .inr e
   ·rw[List.getElem?_set_ne hk]at hu
    exact .inl (.inr ⟨k,u,hu,hq⟩)
end
section
open Go Go.RowKit
attribute [local irreducible] bU dL H2.cZ
theorem LU (key:Int)(w:World):Calls Tryz.prog 38 #[.int .i64 key] w fun e w'=>e= .returned (.int .i64 ((partOf key:Nat):Int))/\w=w':=by
 have hg:=And.intro (VT key) (VU key)
 unfold partOf
 obtain⟨g,hgg⟩: ∃g,grp key=g:=⟨_,rfl⟩
 have co:=sF key w
 rw[hgg]at hg co⊢
 clear hgg
 go_enter Tryz.func38,Tryz.ntmps38
 go_wp2_with fail
 (with_reducible refine co.mono ?_)
 clear co
 rintro e w' ⟨rfl,rfl⟩
 have h8:g=0\/g=1\/g=2\/g=3\/g=4\/g=5\/g=6\/g=7:=by omega
 clear hg
 rcases h8 with rfl|rfl|rfl|rfl|rfl|rfl|rfl|rfl<;>
 ·go_wp2_with fail
  go_ret
  exact⟨fV (by decide),rfl⟩
theorem Reads.Hq {w:World}{v:Value}{l:List dV}(h:Reads w 2 v (oQ l)): ∃a cap,v= .slice a l.length cap/\l.length<=cap/\cap<=maxLen/\
 (l=[]\/ ∃b off,a=some ⟨b,off,none⟩/\ ∀(i:Nat)(s:dV),l[i]?=some s->w.cell? ⟨b,off+i*2,none⟩=some (.int .i64 s.1)/\w.cell? ⟨b,off+i*2+1,none⟩=some (.int .i64 s.2)):=by
 obtain⟨a,n,cap,rfl,h1,h2,h3,h4⟩:=h
 rw[wX]at h3
 have hn:n=l.length:=by omega
 subst hn
 refine⟨a,cap,rfl,h1,h2,?_⟩
 rcases h4 with h4|⟨b,off,hb,h4⟩
 ·left
  have:=congrArg List.length h4
  rw[wX]at this
  exact List.eq_nil_of_length_eq_zero (by simp only[List.length_nil]at this;omega)
 ·right
  refine⟨b,off,hb,fun i s hs=>?_⟩
  obtain⟨q0,q1⟩:=LZ hs
  have z0:=h4 _ _ q0
  have z1:=h4 _ _ q1
  rw[<-Nat.add_assoc]at z1
  exact⟨z0,z1⟩
end
section
open Go Go.RowKit
def nI (s:ByteArray):Tab:=match lG s.data.toList with| .ok T _=>T| .err _=>[]
def oI (T:Tab):Nat:=T.foldl (fun n p=>max n p.2.2.length) 0
def emptyS:ByteArray:=⟨#[]⟩
def ql (a b:List JN)(s:St):Bool:=decide ((nodeAt a (aO a s.1)).kind≠(nodeAt b (aO b s.1)).kind)||(decide ((nodeAt b (aO b s.1)).kind=7)&&decide ((nodeAt b (aO b s.1)).n<=(oI (nI s.2):Int)))
def kV (a b:List JN):List St->ByteArray×Int
 |[]=>(emptyS,0)
 |s::l=>if nI s.2=[]then kV a b l else if aO b s.1<0 then(s.1,240)else if ql a b s=true then(s.1,241)else kV a b l
def dJ (a b:Jb)(l:List St):ByteArray×Int:=match bJ a l with| .error e=>(emptyS,e)| .ok _=>if bK b=true then kV a.nodes b.nodes l else(emptyS,2)
def gW (l:List St):List St:=l.filter fun s=>decide (nI s.2≠[])
def jA (a b:Jb)(l:List St):Except Int (List St):=
 if(dJ a b l).2≠0 then .error (dJ a b l).2 else match bJ b (gW l)with| .ok Ts=> .ok (aS b.nodes Ts)| .error e=> .error e
theorem zJ {T:Tab}(h:dR T):nI (strOf (bf (pz T)))=T:=by
 unfold nI
 rw[wO,zK h]
def lH (t:Option Tab):Option Tab:=match t with|some []=>none|t=>t
theorem Ro {j:Jb}{Ts:Tabs}(hj:bK j=true)(h:dF j.nodes Ts): ∀(m k:Nat),k+m=j.nodes.length->
 eG j.nodes (gW (aS (j.nodes.drop k) (Ts.drop k))) ((Ts.take k).map lH++List.replicate m none)= .ok (Ts.map lH):=by
 intro m
 induction m with
 |zero=>
  intro k hk
  rw[List.drop_eq_nil_of_le (by omega),List.take_of_length_le (by have:=h.len;omega)]
  simp[aS,eG,gW]
 |succ m ih=>
  intro k hk
  have hkn:k<j.nodes.length:=by omega
  have hkt:k<Ts.length:=by rw[h.len];exact hkn
  rw[List.drop_eq_getElem_cons hkn,List.drop_eq_getElem_cons hkt,zM]
  have hd:j.nodes[k]?=some j.nodes[k]:=List.getElem?_eq_getElem hkn
  have hml:((Ts.take k).map lH).length=k:=by rw[List.length_map,List.length_take];omega
  have step:(Ts.take (k+1)).map lH++List.replicate m none=((Ts.take k).map lH++List.replicate (m+1) none).set k (lH Ts[k]):=by
   rw[List.take_add_one,List.getElem?_eq_getElem hkt,List.set_append_right _ _ (by omega),hml,Nat.sub_self,List.replicate_succ,List.set_cons_zero,List.map_append,List.append_assoc]
   rfl
  have same:((Ts.take k).map lH++List.replicate (m+1) none).set k (none:Option Tab)=(Ts.take k).map lH++List.replicate (m+1) none:=by
   rw[List.set_append_right _ _ (by omega),hml,Nat.sub_self,List.replicate_succ,List.set_cons_zero]
  have next:=ih (k+1) (by omega)
  rw[step]at next
  cases ht:Ts[k]with
  |none=>
   rw[ht,show lH none=none from rfl,same]at next
   simpa using next
  |some T=>
   have hs:stateful (j.nodes[k]).kind=true:=by
    cases hs:stateful (j.nodes[k]).kind with
    |true=>rfl
    |false=>have:=h.not k _ hd hs;rw[List.getElem?_eq_getElem hkt,ht]at this;cases this
   obtain⟨U,hU,hT,hf⟩:=h.has k _ hd hs
   rw[List.getElem?_eq_getElem hkt,ht]at hU
   injection hU with hU;injection hU with hU;subst hU
   rw[ht]at next
   simp only[List.cons_append,List.nil_append]
   by_cases hnil:T=[]
   ·subst hnil
    rw[show lH (some [])=none from rfl,same]at next
    unfold gW
    rw[List.filter_cons,if_neg (by simp[zJ dR.nil])]
    exact next
   ·have hkt:lH (some T)=some T:=by cases T with|nil=>exact absurd rfl hnil|cons x l=>rfl
    rw[hkt]at next
    have hfind:=yB hj hd
    unfold gW
    rw[List.filter_cons,if_pos (by simp[zJ hT,hnil]),eG]
    simp only[hfind]
    have aX:nodeAt j.nodes ((k:Nat):Int)=j.nodes[k]:=by unfold nodeAt;simp[List.getD_eq_getElem?_getD,hkn]
    rw[aX]
    have hnone:(((Ts.take k).map lH++List.replicate (m+1) none).getD (((k:Nat):Int).toNat) none).isSome=false:=by
     rw[Int.toNat_natCast,List.getD_eq_getElem?_getD,List.getElem?_append_right (by omega),hml,Nat.sub_self]
     simp[List.replicate_succ]
    rw[if_neg (by rw[hs,hnone];simp),wO,zK hT]
    simp only[hf,if_true,Int.toNat_natCast]
    exact next
theorem V4 {nodes:List JN}{Ts:Tabs}(h:dF nodes Ts):iH nodes (Ts.map lH)=Ts:=by
 apply List.ext_getElem?
 intro i
 by_cases hi:i<nodes.length
 ·have hd:nodes[i]?=some nodes[i]:=List.getElem?_eq_getElem hi
  obtain⟨t,ht⟩: ∃t,Ts[i]?=some t:=⟨_,List.getElem?_eq_getElem (by rw[h.len];exact hi)⟩
  have ht':(Ts.map lH)[i]?=some (lH t):=by rw[List.getElem?_map,ht];rfl
  rw[wH nodes (Ts.map lH) i hd ht',ht]
  cases hs:stateful (nodes[i]).kind with
  |false=>
   have:=h.not i _ hd hs
   rw[ht]at this;injection this with this;subst this
   rfl
  |true=>
   obtain⟨T,hT,_⟩:=h.has i _ hd hs
   rw[hT]at ht;injection ht with ht;subst ht
   cases T<;>rfl
 ·rw[List.getElem?_eq_none (by rw[Az _ _ (by simpa using h.len)];omega),List.getElem?_eq_none (by rw[h.len];omega)]
theorem Vj {j:Jb}{Ts:Tabs}(hj:bK j=true)(h:dF j.nodes Ts):bJ j (gW (aS j.nodes Ts))= .ok Ts:=by
 have:=Ro hj h j.nodes.length 0 (by omega)
 simp only[List.drop_zero,List.take_zero,List.map_nil,List.nil_append]at this
 unfold bJ dh
 rw[if_pos hj,this]
 simp only
 rw[V4 h]
theorem MG {T:Tab}{n:Nat}(h0:0<n)(h: ∀p∈T,p.2.2.length<n):oI T<n:=by
 unfold oI
 have: ∀(T:Tab)(a:Nat),a<n->(∀p∈T,p.2.2.length<n)->T.foldl (fun n p=>max n p.2.2.length) a<n:=by
  intro T
  induction T with
  |nil=>exact fun a ha _=>ha
  |cons p T ih=>exact fun a ha hT=>ih _ (Nat.max_lt.2 ⟨ha,hT p (by simp)⟩) (fun q hq=>hT q (by simp[hq]))
 exact this T 0 h0 h
theorem DZ {nodes:List JN}{Ts:Tabs}{s:St}(h:s∈aS nodes Ts): ∃(i:Nat)(d:JN)(T:Tab),nodes[i]?=some d/\Ts[i]?=some (some T)/\s=(d.uid,strOf (bf (pz T))):=by
 unfold aS at h
 obtain⟨p,hp,hs⟩:=List.mem_filterMap.1 h
 obtain⟨i,hi⟩:=List.mem_iff_getElem?.1 hp
 rw[List.getElem?_zip_eq_some]at hi
 unfold uq at hs
 cases e:p.2 with
 |none=>rw[e]at hs;cases hs
 |some T=>
  rw[e]at hs
  injection hs with hs
  exact⟨i,p.1,T,hi.1,by rw[hi.2,e],hs.symm⟩
theorem GV {a b:List JN}: ∀{l:List St},(∀s∈l,nI s.2≠[]->0<=aO b s.1/\ql a b s=false)->kV a b l=(emptyS,0)
 |[],_=>rfl
 |s::l,h=>by
  have ih:=GV (l:=l) (fun t ht=>h t (by simp[ht]))
  unfold kV
  by_cases hT:nI s.2=[]
  ·rw[if_pos hT];exact ih
  ·obtain⟨h1,h2⟩:=h s (by simp) hT
   rw[if_neg hT,if_neg (by omega),if_neg (by rw[h2];simp)]
   exact ih
theorem Vx {j:Jb}(h:bK j=true){par:Int}(h1:1<=par)(h2:par<=4):bK {j with par:=par}=true:=by
 obtain⟨h3,h4⟩:=kR h
 refine MR ?_ h4
 unfold fZ at h3⊢
 simp only[Bool.or_eq_false_iff,decide_eq_false_iff_not]at h3⊢
 omega
theorem SG {j k:Jb}{Ts:Tabs}(hj:bK j=true)(hk:bK k=true)(hn:k.nodes=j.nodes)(h:dF j.nodes Ts):dJ j k (aS j.nodes Ts)=(emptyS,0)/\jA j k (aS j.nodes Ts)= .ok (aS j.nodes Ts):=by
 have hc:dJ j k (aS j.nodes Ts)=(emptyS,0):=by
  unfold dJ
  rw[wY hj h]
  simp only[hk,if_true]
  rw[hn]
  refine GV fun s hs hne=>?_
  obtain⟨i,d,T,hd,hT,rfl⟩:=DZ hs
  have hfind:=yB hj hd
  have aX:nodeAt j.nodes ((i:Nat):Int)=d:=by unfold nodeAt;rw[Int.toNat_natCast,List.getD_eq_getElem?_getD,hd];rfl
  refine⟨by rw[hfind];omega,?_⟩
  unfold ql
  simp only[hfind,aX]
  have hst:stateful d.kind=true:=by
   cases hs':stateful d.kind with
   |true=>rfl
   |false=>have:=h.not i d hd hs';rw[hT]at this;cases this
  obtain⟨U,hU,hok,hf⟩:=h.has i d hd hst
  rw[hT]at hU;injection hU with hU;injection hU with hU;subst hU
  simp only[zJ hok]at hne⊢
  rw[Bool.or_eq_false_iff]
  refine⟨by simp,?_⟩
  rw[Bool.and_eq_false_iff]
  by_cases h7:d.kind=7
  ·right
   obtain⟨p,hp⟩:=List.exists_mem_of_ne_nil T hne
   have hall: ∀q∈T,1<=q.2.2.length/\(q.2.2.length:Int)<d.n:=fun q hq=>by
    unfold fQ at hf
    rw[Bool.and_eq_true,List.all_eq_true]at hf
    have:=hf.2 q hq
    rw[h7]at this
    have:=(uV (acc:=q.2.1) (l:=q.2.2)).1 this
    omega
   have h1:=hall p hp
   have:=MG (n:=d.n.toNat) (T:=T) (by omega) (fun q hq=>by have:=hall q hq;omega)
   rw[decide_eq_false_iff_not]
   omega
  ·left;exact decide_eq_false h7
 refine⟨hc,?_⟩
 unfold jA
 rw[hc,if_neg (by simp)]
 have:bJ k (gW (aS j.nodes Ts))= .ok Ts:=by
  have:=Vj (j:=k) (Ts:=Ts) hk (by rw[hn];exact h)
  rwa[hn]at this
 rw[this,hn]
theorem Y7 {a b:Jb}{l x:List St}(h:jA a b l= .ok x):(dJ a b l).2=0/\ ∃Ts,bJ b (gW l)= .ok Ts/\x=aS b.nodes Ts:=by
 unfold jA at h
 split at h
 ·cases h
 ·rename_i hc
  refine⟨Classical.not_not.1 hc,?_⟩
  cases e:bJ b (gW l)with
  |error f=>rw[e]at h;cases h
  |ok Ts=>rw[e]at h;injection h with h;exact⟨Ts,rfl,h.symm⟩
end
end Go.Proofs.YtopeleenlcnkkaaGreatDoor
