/- What each law of the ideals ends in: the document's job, fed twice. -/
import Derived.Test.YtglbkodmmogomaaGreatDoorS15
set_option linter.unusedVariables false
set_option linter.unusedSimpArgs false
set_option maxHeartbeats 4000000
set_option maxRecDepth 100000
namespace Go.Proofs.YtglbkodmmogomaaGreatDoor
open List Go.Proofs.Tryz
section
open Go Go.RowKit
attribute [local irreducible] dI iO H2.eX
theorem iI.IG {nodes:List JN}{Ts Us:Tabs}(h:iI nodes Ts)(hu:iI nodes Us){i:Nat}{T:Tab}(hT:Ts[i]?=some (some T)): ∃U,Us[i]?=some (some U):=by
 have hi:i<nodes.length:=(by rw[<-h.len];exact(μ.1 hT).1);obtain⟨d,hd⟩: ∃d,nodes[i]?=some d:=⟨_,ι hi⟩
 cases hs:stateful d.kind with
 |false=>rw[h.not i d hd hs]at hT;cases hT
 |true=>obtain⟨U,hU,_⟩:=hu.has i d hd hs;exact⟨U,hU⟩
theorem iI.newT {nodes:List JN}{Ts Us:Tabs}(h:iI nodes Ts)(hu:iI nodes Us){n:Nat}{pm:Nat->Nat×Nat}(hn:wV n Ts pm):wV n Us pm:=fun q U hU=>by obtain⟨T,hT⟩:=hu.IG h hU;exact hn q T hT
theorem iR.jr {w:World}{v:Value}{L:List JN}(h:iR w v L):JR L:=by obtain⟨cs,h1,h2,h3⟩:=h;intro d hd env he;obtain⟨i,hi⟩:=getElem?_of_mem hd;obtain⟨pi,ci,p,c,_,h6,_⟩:=h3 i d hi;exact wK h6 he
end
section
open Go Go.RowKit
attribute [local irreducible] dI
end
section
open Go Go.RowKit
def gZ (nodes:List JN):Tabs->List (Int×Int)->List Rec×Tabs
 |Ts,[]=>([],Ts)
 |Ts,y::l=>((gW nodes Ts y.1 y.2).1++(gZ nodes (gW nodes Ts y.1 y.2).2 l).1,(gZ nodes (gW nodes Ts y.1 y.2).2 l).2)
def partOf (key:Int):Nat:=if grp key<4 then 0 else 1
abbrev dU:=Int×Int
def bU (p:Nat)(L:List Rec):List dU:=(L.filter fun r=>partOf r.key==p).map fun r=>(r.key,r.val)
def eH:List dU->List dU->Nat->Option Nat
 |[],[],_=>none
 |[],_::_,n=>some n
 |_::_,[],n=>some n
 |a::x,b::y,n=>if a=b then eH x y (n+1)else some n
abbrev Jf:=Bool×Int×Int
def kQ (x y:Nat->List dU):Jf:=
 match eH (x 0) (y 0) 0 with
 |some n=>(false,0,(n:Int))
 |none=>match eH (x 1) (y 1) 0 with
  |some n=>(false,1,(n:Int))
  |none=>(true,0,0)
abbrev Side:=Jb×List St
def ng (s:Side)(Ts:Tabs)(l:List (Int×Int))(p:Nat):List dU:=bU p (gZ s.1.nodes Ts l).1
def fQ (a b:Side)(l:List (Int×Int)):Jf×Int:=
 match fG a.1 a.2 with
 | .error e=>((false,0,0),e)
 | .ok Ts=>match fG b.1 b.2 with
   | .error e=>((false,0,0),e)
   | .ok Us=>(kQ (ng a Ts l) (ng b Us l),0)
theorem Tryz.info86: ∃i z,Tryz.prog.info? 86=some i/\i.zero=some z/\i.size=2/\i.bytes=16/\z.cells.size=2:=by have h:(prog.info? 86).map (fun i=>(i.zero,i.size,i.bytes))=some (some (.agg #[.int .i64 0,.int .i64 0]),2,16):=(by kernel_rfl);obtain⟨i,hi,h⟩:=acg.1 h;simp only[Prod.mk.injEq]at h;exact⟨i,_,hi,h.1,h.2.1,h.2.2,by rfl⟩
def lM (l:List dU):List Value:=l.flatMap fun o=>[.int .i64 o.1,.int .i64 o.2]
theorem y9: ∀l:List dU,(lM l).length=l.length*2
 |[]=>rfl
 |o::l=>by have:=y9 l;unfold lM at this⊢;rw[flatMap_cons,ν,this,φ];simp;omega
theorem YM (l:List dU)(o:dU):lM (l++[o])=lM l++[.int .i64 o.1,.int .i64 o.2]:=by unfold lM;rw[flatMap_append];rfl
theorem PU: ∀{l:List dU}{i:Nat}{o:dU},l[i]?=some o->(lM l)[i*2]?=some (.int .i64 o.1)/\(lM l)[i*2+1]?=some (.int .i64 o.2)
 |[],i,o,h=>by cases h
 |p::l,0,o,h=>by cases h;exact⟨rfl,rfl⟩
 |p::l,i+1,o,h=>by have:=PU (l:=l) (i:=i) (o:=o) h;unfold lM at this⊢;rw[flatMap_cons,show(i+1)*2=i*2+1+1 by omega];exact this
theorem PK {w:World}{base n:Nat}{va:Value}{l:List dU}(h:w.ownsRow base 86 2 va n (lM l))(o:dU)(hb:base<=w.heap.size)(hn:n<=100000):
 ∃iC w',(Builtin.append_ #[79,79] 79 #[va,.slice (some ⟨w.heap.size,0,none⟩) 1 1]).run prog (w.alloc (.cells #[.int .i64 o.1,.int .i64 o.2] 86))= .ok iC w'/\w'.ownsRow base 86 2 iC (n+1) (lM (l++[o]))/\
  ε (fun q=>va.ownBlock=some q) w w'/\ ∀q,iC.ownBlock=some q->va.ownBlock=some q\/w.heap.size<=q:=by
 obtain⟨i,z,hi,hz,hs,hby,hzs⟩:=Tryz.info86;obtain⟨news,He⟩: ∃news:List Value,[Value.int .i64 o.1,.int .i64 o.2]=news:=⟨_,rfl⟩;have hl:news.length=2:=by rw[<-He];rfl
 have h1: ∀x∈news,x.oneCell'=true:=by rw[<-He];intro y hy;simp at hy;rcases hy with rfl|rfl<;>rfl
 rw[YM,show(#[Value.int .i64 o.1,.int .i64 o.2]:Array Value)=[Value.int .i64 o.1,.int .i64 o.2].toArray from rfl,He];clear He;obtain⟨cs,hcs⟩:=acu (lM l);rw[hcs]at h⊢;clear hcs;have kA:ε η w (w.alloc (.cells news.toArray 86)):=δ.alloc _;have hr:=Reads.lit w news 86 2 1 (by omega) (by unfold maxLen;omega);have hA:=kA.owns h (fun _ _ h=>h);have hcl:cs.length=n*2:=h.1;obtain⟨v',n',w',b1,b2,b3,b4,_⟩:=aZ (P:=prog) base 79 79 86 i z 2 16 underlying79 hi hz hs hby hzs (by omega) hA hr h1
  (by rw[hl];omega) (by rw[hl];unfold maxLen;omega) (by have:=kA.size;omega)
 have hn':n'=n+1:=(by rw[hl]at b3;omega);subst hn';refine⟨v',w',b1,b2,kA.pure.trans (ε.grown b4 (fun k hk _=>hk)),fun q hq=>?_⟩;have hsz:(w.alloc (.cells news.toArray 86)).heap.size=w.heap.size+1:=(by simp);have hnews: ∀j v,news[j]?=some v->(w.alloc (.cells news.toArray 86)).cell? ((⟨w.heap.size,0,none⟩:Addr).add j)=some v:=fun j v hj=>by rw[Addr.add_lit,World.cell?_alloc_new];simpa using hj
 rcases h.2 with⟨rfl,rfl⟩|⟨g,cap,cur,rfl,hbg,hg,hnc,hcm,hcs,htake⟩
 ·have hr:=run_append_nil (P:=prog) (w.alloc (.cells news.toArray 86)) 79 79 86 i z underlying79 hi hz ⟨w.heap.size,0,none⟩ 1 1 news (by rw[hs];omega) hnews (by omega) (by omega) (by omega)
  rw[b1]at hr
  injection hr with e1 e2
  rw[e1]at hq;right;have:(w.alloc (.cells news.toArray 86)).heap.size=q:=(by simpa[Value.ownBlock]using hq);omega
 ·by_cases hroom:n+1<=cap
  ·obtain⟨w2,hr,_⟩:=run_append_fits (P:=prog) (w.alloc (.cells news.toArray 86)) base 79 79 86 i 2 underlying79 hi hs g n cap cs hA ⟨w.heap.size,0,none⟩ 1 1 news (by omega) hnews h1 hroom
   rw[b1]at hr
   injection hr with e1 e2
   rw[e1]at hq;left;exact hq
  ·have holds: ∀j u,cs[j]?=some u->(w.alloc (.cells news.toArray 86)).cell? ((⟨g,0,none⟩:Addr).add j)=some u:=hA.cells (g:=g) rfl
   have hr:=run_append_grow (P:=prog) (w.alloc (.cells news.toArray 86)) 79 79 86 i z underlying79 hi hz ⟨g,0,none⟩ n cap cs (by rw[hs];exact hcl) holds ⟨w.heap.size,0,none⟩ 1 1 news (by rw[hs];omega) hnews (by omega) (by omega) (growslice_fits (by omega) (by rw[hby];omega));rw[b1]at hr
   injection hr with e1 e2
   rw[e1]at hq;right;have:(w.alloc (.cells news.toArray 86)).heap.size=q:=(by simpa[Value.ownBlock]using hq);omega
structure dV (w:World)(base B E:Nat)(V:List Value)(O:List (List dU)):Prop where
 blk:w.heap[B]?=some (.cells V.toArray E (0,0))
 len:V.length=O.length
 own: ∀(i:Nat)(v:Value)(o:List dU),V[i]?=some v->O[i]?=some o->w.ownsRow base 86 2 v o.length (lM o)
 dist: ∀(i k:Nat)(v u:Value)(q:Nat),i≠k->V[i]?=some v->V[k]?=some u->v.ownBlock=some q->u.ownBlock≠some q
 ne: ∀(i:Nat)(v:Value)(q:Nat),V[i]?=some v->v.ownBlock=some q->q≠B
def dJ (B:Nat)(V:List Value):Nat->Prop:=fun q=>q=B\/ ∃(i:Nat)(v:Value),V[i]?=some v/\v.ownBlock=some q
theorem dV.iT {S:Nat->Prop}{w w':World}{base B E:Nat}{V:List Value}{O:List (List dU)}(h:dV w base B E V O)(hk:ε S w w')(hS: ∀q,dJ B V q-> ¬S q):dV w' base B E V O:=
 ⟨hk.heap h.blk (hS B (.inl rfl)),h.len,fun i v o hv ho=>hk.owns (h.own i v o hv ho) (fun k hk hs=>hS k (.inr ⟨i,v,hv,hk⟩) hs),h.dist,h.ne⟩
theorem dV.pure {w w':World}{base B E:Nat}{V:List Value}{O:List (List dU)}(h:dV w base B E V O)(hk:ε η w w'):dV w' base B E V O:=h.iT hk (fun _ _ h=>h)
theorem dV.lt {w:World}{base B E:Nat}{V:List Value}{O:List (List dU)}(h:dV w base B E V O){q:Nat}(hq:dJ B V q):q<w.heap.size:=by
 rcases hq with rfl|⟨i,v,hv,hq⟩
 ·exact(κ.1 h.blk).1
 ·obtain⟨o,ho⟩: ∃o,O[i]?=some o:=⟨_,ι (by rw[<-h.len];exact(μ.1 hv).1)⟩
  exact((h.own i v o hv ho).lt q hq).2
theorem dV.isCells {w:World}{base B E:Nat}{V:List Value}{O:List (List dU)}(h:dV w base B E V O){q:Nat}(hq:dJ B V q): ∃c T f,w.heap[q]?=some (.cells c T f):=by
 rcases hq with rfl|⟨i,v,hv,hq⟩
 ·exact⟨_,_,_,h.blk⟩
 ·obtain⟨o,ho⟩: ∃o,O[i]?=some o:=⟨_,ι (by rw[<-h.len];exact(μ.1 hv).1)⟩
  rcases(h.own i v o hv ho).2 with⟨rfl,_⟩|⟨g,cap,cur,rfl,_,hg,_⟩
  ·cases hq
  ·cases hq;exact⟨_,_,_,hg⟩
theorem aa3 {w:World}{base B E:Nat}(h:w.heap[B]?=some (.cells #[.slice none 0 0,.slice none 0 0,.slice none 0 0,.slice none 0 0] E (0,0))):dV w base B E [.slice none 0 0,.slice none 0 0,.slice none 0 0,.slice none 0 0] [[],[],[],[]]:=by
 have hall: ∀(i:Nat)(v:Value),([.slice none 0 0,.slice none 0 0,.slice none 0 0,.slice none 0 0]:List Value)[i]?=some v->v= .slice none 0 0:=fun i v hv=>(by have:=ς hv;simpa using this);have hal2: ∀(i:Nat)(o:List dU),([[],[],[],[]]:List (List dU))[i]?=some o->o=[]:=fun i o ho=>(by have:=ς ho;simpa using this);refine⟨h,rfl,fun i v o hv ho=>?_,fun i k v u q _ hv _ hq=>?_,fun i v q hv hq=>?_⟩
 ·rw[hall i v hv,hal2 i o ho];exact World.ownsRow_nil _ _ _ _
 ·rw[hall i v hv]at hq;cases hq
 ·rw[hall i v hv]at hq;cases hq
theorem dV.ty {w:World}{base B E:Nat}{V:List Value}{O:List (List dU)}(h:dV w base B E V O){q:Nat}(hq:dJ B V q): ∃c T f,w.heap[q]?=some (.cells c T f)/\(T=E\/T=86):=by
 rcases hq with rfl|⟨i,v,hv,hq⟩
 ·exact⟨_,_,_,h.blk,.inl rfl⟩
 ·obtain⟨o,ho⟩: ∃o,O[i]?=some o:=⟨_,ι (by rw[<-h.len];exact(μ.1 hv).1)⟩
  rcases(h.own i v o hv ho).2 with⟨rfl,_⟩|⟨g,cap,cur,rfl,_,hg,_⟩
  ·cases hq
  ·cases hq;exact⟨_,_,_,hg,.inr rfl⟩
theorem dV.at_ {w:World}{base B E:Nat}{V:List Value}{O:List (List dU)}(h:dV w base B E V O){q:Nat}(hq:dJ B V q):q=B\/base<=q:=by
 rcases hq with rfl|⟨i,v,hv,hq⟩
 ·exact .inl rfl
 ·obtain⟨o,ho⟩: ∃o,O[i]?=some o:=⟨_,ι (by rw[<-h.len];exact(μ.1 hv).1)⟩
  exact .inr ((h.own i v o hv ho).lt q hq).1
theorem dM.YX {w:World}{m:Nat}{Ts:Tabs}{pm:Nat->Nat×Nat}(h:dM w m Ts pm): ∀c E f,w.heap[m]?≠some (.cells c E f):=by obtain⟨l,h1,_⟩:=h.map;intro c E f e;exact lI.map h1 zu m rfl trivial h1.lt c E f e
theorem dV.push {w:World}{base B E:Nat}{V:List Value}{O:List (List dU)}(h:dV w base B E V O)(hb:base<=w.heap.size){i:Nat}{v:Value}{l:List dU}(hv:V[i]?=some v)(hl:O[i]?=some l)(hn:l.length<=100000)(o:dU):
 ∃a cap w1,(Builtin.append_ #[79,79] 79 #[v,.slice (some ⟨w.heap.size,0,none⟩) 1 1]).run prog (w.alloc (.cells #[.int .i64 o.1,.int .i64 o.2] 86))= .ok (.slice a (l.length+1) cap) w1/\
  ε (fun q=>v.ownBlock=some q) w w1/\w1.heap[B]?=some (.cells V.toArray E (0,0))/\
  dV (w1.setCell ⟨B,i,none⟩ (.slice a (l.length+1) cap)) base B E (V.set i (.slice a (l.length+1) cap)) (O.set i (l++[o]))/\
  ε (dJ B V) w (w1.setCell ⟨B,i,none⟩ (.slice a (l.length+1) cap))/\ ∀q,dJ B (V.set i (.slice a (l.length+1) cap)) q->dJ B V q\/w.heap.size<=q:=by
 have hown:=h.own i v l hv hl;obtain⟨iC,w1,g1,g2,g3,g4⟩:=PK hown o hb hn;obtain⟨a,cap,rfl⟩:=au g2;have hB1: ¬v.ownBlock=some B:=fun e=>h.ne i v B hv e rfl;have hB2:w1.heap[B]?=some (.cells V.toArray E (0,0)):=g3.heap h.blk hB1;have hset:=aU hB2 i (.slice a (l.length+1) cap);have hBlt:=h.lt (q:=B) (.inl rfl);have ks:ε (one B) w1 (w1.setCell ⟨B,i,none⟩ (.slice a (l.length+1) cap)):=ε.setCell (p:=⟨B,i,none⟩) (ε.refl (one B) _) (.inl rfl) _;have acI: ∀q,(Value.slice a (l.length+1) cap).ownBlock=some q->q≠B:=fun q hq=>by
  rcases g4 q hq with e|e
  ·exact h.ne i v q hv e
  ·omega
 have hil:i<V.length:=(μ.1 hv).1;have Hg:i<O.length:=(μ.1 hl).1;refine⟨a,cap,w1,g1,g3,hB2,⟨by simpa using hset,by simp[h.len],fun k u p hu hp=>?_,fun k m u x q hkm hu hx hq=>?_,fun k u q hu hq=>?_⟩,?_,fun q hq=>?_⟩
 ·by_cases hk:i=k
  ·subst hk
   rw[getElem?_set_self hil]at hu;rw[getElem?_set_self Hg]at hp;cases hu;cases hp;rw[ν,length_singleton];exact ks.owns g2 (fun k hk hs=>acI k hk hs)
  ·rw[getElem?_set_ne hk]at hu hp
   have ho:=h.own k u p hu hp;exact ks.owns (g3.owns ho (fun q hq hs=>h.dist i k v u q hk hv hu hs hq)) (fun q hq hs=>h.ne k u q hu hq hs)
 ·by_cases hk:i=k
  ·subst hk
   rw[getElem?_set_self hil]at hu;cases hu;rw[getElem?_set_ne hkm]at hx;intro e
   rcases g4 q hq with e1|e1
   ·exact h.dist i m v x q hkm hv hx e1 e
   ·have:=h.lt (q:=q) (.inr ⟨m,x,hx,e⟩);omega
  ·rw[getElem?_set_ne hk]at hu
   by_cases hm:i=m
   ·subst hm
    rw[getElem?_set_self hil]at hx;cases hx;intro e
    rcases g4 q e with e1|e1
    ·exact h.dist k i u v q hkm hu hv hq e1
    ·have:=h.lt (q:=q) (.inr ⟨k,u,hu,hq⟩);omega
   ·rw[getElem?_set_ne hm]at hx
    exact h.dist k m u x q hkm hu hx hq
 ·by_cases hk:i=k
  ·subst hk
   rw[getElem?_set_self hil]at hu;cases hu;exact acI q hq
  ·rw[getElem?_set_ne hk]at hu
   exact h.ne k u q hu hq
 ·exact(g3.mono (S':=dJ B V) (fun k _ hs=> .inr ⟨i,v,hv,hs⟩)).new ks (fun k _ hs=> .inl hs)
 ·rcases hq with rfl|⟨k,u,hu,hq⟩
  ·exact .inl (.inl rfl)
  ·by_cases hk:i=k
   ·subst hk
    rw[getElem?_set_self hil]at hu;cases hu
    rcases g4 q hq with e|e
    ·exact .inl (.inr ⟨i,v,hv,e⟩)
    ·exact .inr e
   ·rw[getElem?_set_ne hk]at hu
    exact .inl (.inr ⟨k,u,hu,hq⟩)
end
section
open Go Go.RowKit
attribute [local irreducible] dI iO H2.eX
theorem PO (key:Int)(w:World):Calls prog 64 #[.int .i64 key] w fun e w'=>e= .returned (.int .i64 ((partOf key:Nat):Int))/\w=w':=by
 have hg:=θ (ZK key) (ZL key);unfold partOf;obtain⟨g,hgg⟩:=acu (grp key);have co:=wE key w;rw[hgg]at hg co⊢;clear hgg;go_enter func64,ntmps64;go_wp2_with fail;refine co.mono ?_;clear co;rintro e w' ⟨rfl,rfl⟩;have h8:g=0\/g=1\/g=2\/g=3\/g=4\/g=5\/g=6\/g=7:=(by omega);clear hg
 rcases h8 with rfl|rfl|rfl|rfl|rfl|rfl|rfl|rfl<;>
 ·go_wp2
  go_ret;exact⟨gV (by decide),rfl⟩
def Xc (w:World)(base B E:Nat)(V:List Value)(O:List (List dU))(i:Nat)(l:List dU)(o:dU)(e:Ending)(w':World):Prop:=
 e= .returned (.tuple #[])/\ ∃V',dV w' base B E V' (O.set i (l++[o]))/\ε (dJ B V) w w'/\ ∀q,dJ B V' q->dJ B V q\/w.heap.size<=q
theorem add_any (w:World)(base B E:Nat)(V:List Value)(O:List (List dU))(off p:Nat)(r:Rec)(l:List dU)(h:dV w base B E V O)(hb:base<=w.heap.size)(hl:O[off+p]?=some l)(hp:p<2)(hn:l.length<=100000):
 Calls prog 63 #[.pointer (some ⟨B,off,none⟩),.int .i64 (p:Int),.agg #[.int .i64 r.pos,.int .i64 r.key,.int .i64 r.val]] w (Xc w base B E V O (off+p) l (r.key,r.val)):=by
 obtain⟨v,hv⟩: ∃v,V[off+p]?=some v:=⟨_,ι (by rw[h.len];exact(μ.1 hl).1)⟩;have kA:ε η w (w.alloc (.cells #[.int .i64 r.pos,.int .i64 r.key,.int .i64 r.val] 68)):=δ.alloc _;have rB:(w.alloc (.cells #[.int .i64 r.pos,.int .i64 r.key,.int .i64 r.val] 68)).heap[w.heap.size]?=some (.cells #[.int .i64 r.pos,.int .i64 r.key,.int .i64 r.val] 68 (0,0)):=heap_alloc_new _ _;have hB0:=h.lt (q:=B) (.inl rfl);go_enter func63,ntmps63;go_wp2_with fail;obtain⟨W1,hW1⟩:=acu (w.alloc (.cells #[.int .i64 r.pos,.int .i64 r.key,.int .i64 r.val] 68));rw[hW1]at kA rB⊢;have hsz:W1.heap.size=w.heap.size+1:=(by rw[<-hW1];simp);clear hW1;have h1:=h.pure kA;have hd1:=h1.pure (ε.refl η W1).drew;have hbd:base<=W1.drew.heap.size:=ω hb (by have:W1.drew.heap.size=W1.heap.size:=rfl;omega);obtain⟨a,cap,w2,g1,g2,g3,g4,g5,g6⟩:=hd1.push hbd hv hl hn (r.key,r.val);obtain⟨va,vc,hve⟩:=au (h1.own _ _ _ hv hl);subst hve;have Ja: ∀o,W1.drew.alloc o=(W1.alloc o).drew:=fun o=>rfl;have QI:W1.drew.heap.size=W1.heap.size:=rfl;rw[Ja,QI]at g1;dsimp only at g1;have y:W1.cell? ⟨B,off+p,none⟩=some (.slice va l.length vc):=ζ h1.blk (by simpa using hv);have hno: ¬(Value.slice va l.length vc).ownBlock=some B:=fun e=>h.ne _ _ _ hv e rfl;have aeY: ¬(Value.slice va l.length vc).ownBlock=some w.heap.size:=fun e=>(by have:=h.lt (q:=w.heap.size) (.inr ⟨_,_,hv,e⟩);omega);have ws:=ζ (g3) (j:=off+p) (v:= .slice va l.length vc) (by simpa using hv);have wf:=free_at g3 (off+p);have F:Xc w base B E V O (off+p) l (r.key,r.val) (.returned (.tuple #[])) (w2.setCell ⟨B,off+p,none⟩ (.slice a (l.length+1) cap)):=
  ⟨rfl,_,g4,kA.pure.trans (g5.aW),fun q hq=>(g6 q hq).imp id (fun h=>by omega)⟩
 have kg:ε (fun q=>(Value.slice va l.length vc).ownBlock=some q) W1 w2:=g2.aW;have Z:=γ (θ F (θ rB (θ y (θ hno (θ aeY kg)))));have G1:=γ g1;clear F rB y hno aeY kg g1 g2 g3 g4 g5 g6 h1 hd1 h hv hl kA Ja hbd;have hpI:(p:Int)<2:=(by omega);refine H2.fJ [0,1,2,3,4,5,6,7,8,9,10,11,14,12,13,15,16] (fun W=>ε (fun q=>(Value.slice va l.length vc).ownBlock=some q) W1 W) (by kernel_rfl) (by kernel_rfl) rfl δ.drew ?_;simp only[aco];iterate 13 (first|(apply H2.dZ rfl rfl;(intro W;go_simp;rfl);go_frame)|(apply H2.lJ rfl rfl rfl;(intro W hW;have oW:=hW.cell (p:=⟨B,off+p,none⟩) Z.o.2.2.2.1 Z.o.2.2.1;have xW:=hW.heap Z.o.2.1 Z.o.2.2.2.2.1;have m0:=ζ xW (j:=0) rfl;have m1:=ζ xW (j:=1) rfl;have m2:=ζ xW (j:=2) rfl;clear xW;go_simp;rfl);go_frame))
 apply H2.iZ rfl rfl rfl;intro K hK;go_wp2;refine hK _ _ (fun _=>δ.drew.alloc _) ?_;clear hK;apply H2.iZ rfl rfl rfl;intro K hK;have ZG:=G1.o;have he1: ∀(b:Act),b.tmps[12]?=some (Value.slice va l.length vc)->b.eval (.tmp 12)=Value.slice va l.length vc:=fun b hb=>(by simp[Act.eval,Array.getD_eq_getD_getElem?,hb]);have he2: ∀(b:Act),b.tmps[18]?=some (Value.slice (some ⟨W1.heap.size,0,none⟩) 1 1)->b.eval (.tmp 18)=Value.slice (some ⟨W1.heap.size,0,none⟩) 1 1:=fun b hb=>(by simp[Act.eval,Array.getD_eq_getD_getElem?,hb]);refine rZ (.tmp 12) (.tmp 18) 79 rfl (.slice va l.length vc) (.slice (some ⟨W1.heap.size,0,none⟩) 1 1) (.slice a (l.length+1) cap) (he1 _ (by simp)) (he2 _ (by simp)) ZG ?_;refine hK _ _ (fun _=>Z.o.2.2.2.2.2) ?_;clear hK;go_frame;apply H2.dZ rfl rfl
 ·intro W;go_simp;rfl
 go_frame;apply H2.jH rfl rfl rfl;intro K2 hK2;go_wp2_with fail;apply H2.nT;go_wp2_with fail
 go_end0
 exact Z.o.1
theorem Reads.DJ {w:World}{v:Value}{l:List dU}(h:Reads w 2 v (lM l)): ∃a cap,v= .slice a l.length cap/\l.length<=cap/\cap<=maxLen/\
 (l=[]\/ ∃b off,a=some ⟨b,off,none⟩/\ ∀(i:Nat)(s:dU),l[i]?=some s->w.cell? ⟨b,off+i*2,none⟩=some (.int .i64 s.1)/\w.cell? ⟨b,off+i*2+1,none⟩=some (.int .i64 s.2)):=by
 obtain⟨a,n,cap,rfl,h1,h2,h3,h4⟩:=h;rw[y9]at h3;have hn:n=l.length:=(by omega);subst hn;refine⟨a,cap,rfl,h1,h2,?_⟩
 rcases h4 with h4|⟨b,off,hb,h4⟩
 ·left
  have:=congrArg length h4;rw[y9]at this;exact τ (by simp only[Γ]at this;omega)
 ·right
  refine⟨b,off,hb,fun i s hs=>?_⟩;obtain⟨q0,q1⟩:=PU hs;have z0:=h4 _ _ q0;have z1:=h4 _ _ q1;rw[<-Nat.add_assoc]at z1;exact⟨z0,z1⟩
theorem EC {x y:List dU}{k:Nat}(h1:k<x.length)(h2:k<y.length)(n:Nat):eH (x.drop k) (y.drop k) n=if x[k]=y[k]then eH (x.drop (k+1)) (y.drop (k+1)) (n+1)else some n:=by rw[acn h1,acn h2,eH]
theorem Ez {x y:List dU}{k:Nat}(h1:x.length<=k)(h2:k<y.length)(n:Nat):eH (x.drop k) (y.drop k) n=some n:=by rw[drop_eq_nil_of_le h1,acn h2];rfl
theorem Dc {x y:List dU}{k:Nat}(h1:k<x.length)(h2:y.length<=k)(n:Nat):eH (x.drop k) (y.drop k) n=some n:=by rw[drop_eq_nil_of_le h2,acn h1];rfl
theorem Ia {x y:List dU}{k:Nat}(h1:x.length<=k)(h2:y.length<=k)(n:Nat):eH (x.drop k) (y.drop k) n=none:=by rw[drop_eq_nil_of_le h1,drop_eq_nil_of_le h2];rfl
theorem vY {x y:Nat->List dU}{p n:Nat}(hp:p<2)(h0: ∀q,q<p->eH (x q) (y q) 0=none)(h:eH (x p) (y p) 0=some n):kQ x y=(false,(p:Int),(n:Int)):=by
 unfold kQ;have h2:p=0\/p=1:=by omega
 rcases h2 with rfl|rfl
 ·rw[h];rfl
 ·rw[h0 0 (by omega)];simp only;rw[h];rfl
theorem Dh {x y:Nat->List dU}(h0: ∀q,q<2->eH (x q) (y q) 0=none):kQ x y=(true,0,0):=by unfold kQ;rw[h0 0 (by omega)];simp only;rw[h0 1 (by omega)]
def Dv (v:Jf):Array Value:= #[.bool v.1,.int .i64 v.2.1,.int .i64 v.2.2]
def ac4 (w:World)(v:Jf)(e:Ending)(w':World):Prop:=e= .returned (.agg (Dv v))/\ε η w w'
theorem kX {w wq:World}{B:Nat}{a b c:Value}(h:wq.heap[B]?=some (.cells #[a,b,c] 57 (0,0)))(hk:ε η w wq)(hB:w.heap.size<=B)(d:Bool)(n m:Int):
 (((wq.setCell ⟨B,0,none⟩ (.bool d)).setCell ⟨B,1,none⟩ (.int .i64 n)).setCell ⟨B,2,none⟩ (.int .i64 m)).cell? ⟨B,0,none⟩=some (.bool d)/\
 (((wq.setCell ⟨B,0,none⟩ (.bool d)).setCell ⟨B,1,none⟩ (.int .i64 n)).setCell ⟨B,2,none⟩ (.int .i64 m)).cell? ⟨B,1,none⟩=some (.int .i64 n)/\
 (((wq.setCell ⟨B,0,none⟩ (.bool d)).setCell ⟨B,1,none⟩ (.int .i64 n)).setCell ⟨B,2,none⟩ (.int .i64 m)).cell? ⟨B,2,none⟩=some (.int .i64 m)/\
 ε η w (((wq.setCell ⟨B,0,none⟩ (.bool d)).setCell ⟨B,1,none⟩ (.int .i64 n)).setCell ⟨B,2,none⟩ (.int .i64 m)):=by
 have h3:=aU (aU (aU h 0 (.bool d)) 1 (.int .i64 n)) 2 (.int .i64 m);exact⟨ζ h3 (j:=0) rfl,ζ h3 (j:=1) rfl,ζ h3 (j:=2) rfl,((hk.setCell (p:=⟨B,0,none⟩) (.inr hB) _).setCell (p:=⟨B,1,none⟩) (.inr hB) _).setCell (p:=⟨B,2,none⟩) (.inr hB) _⟩
theorem yX {w wq:World}{B:Nat}{a b c:Value}(h:wq.heap[B]?=some (.cells #[a,b,c] 57 (0,0)))(hk:ε η w wq)(hB:w.heap.size<=B)(d:Bool)(n m:Int):
 (((wq.setCell ⟨B,0,none⟩ (.bool d)).setCell ⟨B,1,none⟩ (.int .i64 n)).setCell ⟨B,2,none⟩ (.int .i64 m)).drew.cell? ⟨B,0,none⟩=some (.bool d)/\
 (((wq.setCell ⟨B,0,none⟩ (.bool d)).setCell ⟨B,1,none⟩ (.int .i64 n)).setCell ⟨B,2,none⟩ (.int .i64 m)).drew.cell? ⟨B,1,none⟩=some (.int .i64 n)/\
 (((wq.setCell ⟨B,0,none⟩ (.bool d)).setCell ⟨B,1,none⟩ (.int .i64 n)).setCell ⟨B,2,none⟩ (.int .i64 m)).drew.cell? ⟨B,2,none⟩=some (.int .i64 m)/\
 ε η w (((wq.setCell ⟨B,0,none⟩ (.bool d)).setCell ⟨B,1,none⟩ (.int .i64 n)).setCell ⟨B,2,none⟩ (.int .i64 m)).drew:=by
 obtain⟨h1,h2,h3,h4⟩:=kX h hk hB d n m;exact⟨h1,h2,h3,h4.drew⟩
theorem TR (w:World)(x y:Nat->List dU)(u v:Nat->Value)(hx: ∀q,q<2->Reads w 2 (u q) (lM (x q)))(hy: ∀q,q<2->Reads w 2 (v q) (lM (y q))):
 Calls prog 65 #[.agg #[u 0,u 1],.agg #[v 0,v 1]] w (ac4 w (kQ x y)):=by
 have kA:ε η w (((w.alloc (.cells #[u 0,u 1] 129)).alloc (.cells #[v 0,v 1] 129)).alloc (.cells #[.bool false,.int .i64 0,.int .i64 0] 57)):=((δ.alloc _).alloc _).alloc _;have t0:(((w.alloc (.cells #[u 0,u 1] 129)).alloc (.cells #[v 0,v 1] 129)).alloc (.cells #[.bool false,.int .i64 0,.int .i64 0] 57)).heap[w.heap.size]?=some (.cells #[u 0,u 1] 129 (0,0)):=
  (((ε.refl η _).alloc _).alloc _).heap (heap_alloc_new w _) id
 have t1:(((w.alloc (.cells #[u 0,u 1] 129)).alloc (.cells #[v 0,v 1] 129)).alloc (.cells #[.bool false,.int .i64 0,.int .i64 0] 57)).heap[w.heap.size+1]?=some (.cells #[v 0,v 1] 129 (0,0)):=(by have:=((ε.refl η _).alloc (.cells #[.bool false,.int .i64 0,.int .i64 0] 57)).heap (heap_alloc_new (w.alloc (.cells #[u 0,u 1] 129)) (.cells #[v 0,v 1] 129)) id;rwa[World.size_alloc]at this);have t2:(((w.alloc (.cells #[u 0,u 1] 129)).alloc (.cells #[v 0,v 1] 129)).alloc (.cells #[.bool false,.int .i64 0,.int .i64 0] 57)).heap[w.heap.size+1+1]?=some (.cells #[.bool false,.int .i64 0,.int .i64 0] 57 (0,0)):=(by have:=heap_alloc_new ((w.alloc (.cells #[u 0,u 1] 129)).alloc (.cells #[v 0,v 1] 129)) (.cells #[.bool false,.int .i64 0,.int .i64 0] 57);rwa[World.size_alloc,World.size_alloc]at this);obtain⟨W0,hW0⟩:=acu (((w.alloc (.cells #[u 0,u 1] 129)).alloc (.cells #[v 0,v 1] 129)).alloc (.cells #[.bool false,.int .i64 0,.int .i64 0] 57));rw[hW0]at kA t0 t1 t2;have hsz:w.heap.size+1+1<W0.heap.size:=(κ.1 t2).1;have H:=γ (θ hx (θ hy (θ kA (θ t0 (θ t1 t2)))));clear hx hy kA t0 t1 t2;go_enter func65,ntmps65;go_wp2_with fail;try rw[hW0]
 clear hW0;go_loopg [9] 2 (fun g vi wr=> ∃(p:Nat),p<=2/\vi= .int .i64 (p:Int)/\2-p<=g/\(∀q,q<p->eH (x q) (y q) 0=none)/\ε η W0 wr)
 case atStart=>exact⟨0,by omega,rfl,by omega,fun q hq=>absurd hq (by omega),ε.refl _ _⟩
 case round=>
  obtain⟨p,hpl,rfl,hg,hnone,hkp⟩:=hrel;have hw:=H.o.2.2.1.trans hkp;by_cases hlt:p<2
  ·have ae1:(p:Int)<2:=by omega
   have b0:wr.cell? ⟨w.heap.size,p,none⟩=some (u p):=by
    have:=hkp.heap H.o.2.2.2.1 id;have h2:p=0\/p=1:=by omega
    rcases h2 with rfl|rfl<;>exact ζ this rfl
   have b1:wr.cell? ⟨w.heap.size+1,p,none⟩=some (v p):=by
    have:=hkp.heap H.o.2.2.2.2.1 id;have h2:p=0\/p=1:=by omega
    rcases h2 with rfl|rfl<;>exact ζ this rfl
   obtain⟨pa,ca,ea,a1,a2,a3⟩:=(H.o.1 p hlt).DJ;obtain⟨pb,cb,eb,d1,d2,d3⟩:=(H.o.2.1 p hlt).DJ;unfold maxLen at a2 d2;rw[ea]at b0;rw[eb]at b1;obtain⟨X,hX⟩:=acu (x p);obtain⟨Y,hY⟩:=acu (y p);rw[hX]at b0 a1 a3;rw[hY]at b1 d1 d3;have G:=γ (θ hg (θ hnone (θ hkp (θ hX (θ hY (θ a3 d3))))));clear hg hnone hkp hX hY a3 d3 ea eb;go_wp2;refine acv [0,1,2,3,4,5,6,7] ?_;simp only[aco];iterate 8 (apply aj rfl rfl;(intro W hW;have q1:=hW.cell (p:=⟨w.heap.size,p,none⟩) id b0;have q2:=hW.cell (p:=⟨w.heap.size+1,p,none⟩) id b1;go_simp;rfl);go_frame)
   refine aA (fun _=>δ.drew) ?_;clear b0 b1;go_wp2_with fail;obtain⟨M,hM,hM1,hM2,hM3⟩: ∃M:Nat,max (X.length:Int) (Y.length:Int)=(M:Int)/\X.length<=M/\Y.length<=M/\(M=X.length\/M=Y.length):=⟨max X.length Y.length,by omega,by omega,by omega,by omega⟩;rw[hM];have HM:=γ (θ hM1 (θ hM2 hM3));clear hM hM1 hM2 hM3;go_loopg [23] M (fun g vi wq=> ∃(k:Nat),k<=M/\vi= .int .i64 (k:Int)/\M-k<=g/\eH X Y 0=eH (X.drop k) (Y.drop k) k/\ε η W0 wq)
   case atStart=>exact⟨0,by omega,rfl,by omega,rfl,G.o.2.2.1.drew⟩
   case round=>
    obtain⟨wq,rfl⟩: ∃wq:World,wq=wr:=⟨_,rfl⟩;obtain⟨k,hkM,rfl,hg,hfu,hkq⟩:=hrel;have Q:=γ (θ hg (θ hfu hkq));have t2:=hkq.heap H.o.2.2.2.2.2 id;have f0:=ζ t2 (j:=0) rfl;have f1:=ζ t2 (j:=1) rfl;have f2:=ζ t2 (j:=2) rfl;have g0:=free_at t2 0;have g1:=free_at t2 1;have g2:=free_at t2 2;clear hg hfu hkq t2;by_cases hkl:k<M
    ·by_cases hx1:X.length<=k
     ·have hy1:k<Y.length:=by have:=HM.o;omega
      go_wp2;refine acv [0,1,2,3,4,5,6,7,8,9,10,11,12,13,14,15,16,17,18,19,20] ?_;simp only[aco];iterate 3 (apply aj rfl rfl;(intro W hW;go_simp;rfl);go_frame)
      refine aj (v:= .bool true) rfl rfl (by intro W hW;go_simp;try(simp;try omega)) ?_;go_frame;iterate 1 (apply aj rfl rfl;(intro W hW;go_simp;rfl);go_frame)
      iterate 4 (apply aT rfl;go_frame)
      iterate 2 (apply aj rfl rfl;(intro W hW;go_simp;rfl);go_frame)
      iterate 9 (apply aT rfl;go_frame)
      iterate 1 (apply aj rfl rfl;(intro W hW;go_simp;rfl);go_frame)
      refine aA (fun _=>δ.drew) ?_;go_wp2_with fail;obtain⟨q0,q1,q2,kE⟩:=yX (w:=w) (Q.o.2.2.heap H.o.2.2.2.2.2 id) (H.o.2.2.1.trans Q.o.2.2) (by omega) false (p:Int) (k:Int);refine bodyPost_ret (v:= .agg #[.bool false,.int .i64 (p:Int),.int .i64 (k:Int)]) (by simp[results,results65,go_sem,q0,q1,q2]) rfl ⟨by rw[vY hlt G.o.2.1 (show eH (x p) (y p) 0=some k by rw[G.o.2.2.2.1,G.o.2.2.2.2.1,Q.o.2.1];exact Ez hx1 hy1 k)];rfl,kE⟩
     ·by_cases hy1:Y.length<=k
      ·have hx2:k<X.length:=by omega
       go_wp2;refine acv [0,1,2,3,4,5,6,7,8,9,10,11,12,13,14,15,16,17,18,19,20] ?_;simp only[aco];iterate 3 (apply aj rfl rfl;(intro W hW;go_simp;rfl);go_frame)
       refine aj (v:= .bool false) rfl rfl (by intro W hW;go_simp;try(simp;try omega)) ?_;go_frame;iterate 1 (apply aj rfl rfl;(intro W hW;go_simp;rfl);go_frame)
       iterate 3 (apply aj rfl rfl;(intro W hW;go_simp;rfl);go_frame)
       refine aj (v:= .bool true) rfl rfl (by intro W hW;go_simp;try(simp;try omega)) ?_;go_frame;iterate 2 (apply aj rfl rfl;(intro W hW;go_simp;rfl);go_frame)
       iterate 9 (apply aT rfl;go_frame)
       iterate 1 (apply aj rfl rfl;(intro W hW;go_simp;rfl);go_frame)
       refine aA (fun _=>δ.drew) ?_;go_wp2_with fail;obtain⟨q0,q1,q2,kE⟩:=yX (w:=w) (Q.o.2.2.heap H.o.2.2.2.2.2 id) (H.o.2.2.1.trans Q.o.2.2) (by omega) false (p:Int) (k:Int);refine bodyPost_ret (v:= .agg #[.bool false,.int .i64 (p:Int),.int .i64 (k:Int)]) (by simp[results,results65,go_sem,q0,q1,q2]) rfl ⟨by rw[vY hlt G.o.2.1 (show eH (x p) (y p) 0=some k by rw[G.o.2.2.2.1,G.o.2.2.2.2.1,Q.o.2.1];exact Dc hx2 hy1 k)];rfl,kE⟩
      ·have hx2:k<X.length:=by omega
       have hy2:k<Y.length:=(by omega);obtain⟨bx,ox,rfl,hcx⟩:=G.o.2.2.2.2.2.1.resolve_left (fun h=>by rw[h]at hx2;simp at hx2);obtain⟨by',oy,rfl,hcy⟩:=G.o.2.2.2.2.2.2.resolve_left (fun h=>by rw[h]at hy2;simp at hy2);have kq:=H.o.2.2.1.trans Q.o.2.2;have x0:=kq.cell (p:=⟨bx,ox+k*2,none⟩) id (hcx k _ (ι hx2)).1;have x1:=kq.cell (p:=⟨bx,ox+k*2+1,none⟩) id (hcx k _ (ι hx2)).2;have y0:=kq.cell (p:=⟨by',oy+k*2,none⟩) id (hcy k _ (ι hy2)).1;have y1:=kq.cell (p:=⟨by',oy+k*2+1,none⟩) id (hcy k _ (ι hy2)).2;have hfd:=γ (EC hx2 hy2 k);obtain⟨s,hs⟩:=acu (X[k]);obtain⟨t,ht⟩:=acu (Y[k]);rw[hs]at x0 x1 hfd;rw[ht]at y0 y1 hfd;clear hcx hcy kq hs ht;go_wp2;refine acv [0,1,2,3,4,5,6,7,8,9,10,11,12,13,14,15,16,17,18,19,20] ?_;simp only[aco];iterate 3 (apply aj rfl rfl;(intro W hW;go_simp;rfl);go_frame)
       refine aj (v:= .bool false) rfl rfl (by intro W hW;go_simp;try(simp;try omega)) ?_;go_frame;iterate 1 (apply aj rfl rfl;(intro W hW;go_simp;rfl);go_frame)
       iterate 3 (apply aj rfl rfl;(intro W hW;go_simp;rfl);go_frame)
       refine aj (v:= .bool false) rfl rfl (by intro W hW;go_simp;try(simp;try omega)) ?_;go_frame;iterate 2 (apply aj rfl rfl;(intro W hW;go_simp;rfl);go_frame)
       iterate 8 (apply aj rfl rfl;(intro W hW;have c0:=hW.cell (p:=⟨bx,ox+k*2,none⟩) id x0;have c1:=hW.cell (p:=⟨bx,ox+k*2+1,none⟩) id x1;have d0:=hW.cell (p:=⟨by',oy+k*2,none⟩) id y0;have d1:=hW.cell (p:=⟨by',oy+k*2+1,none⟩) id y1;go_simp;rfl);go_frame)
       refine aj (v:= .bool (decide (s≠t))) rfl rfl ?_ ?_
       ·intro W hW
        go_simp;by_cases hst:s=t
        ·subst hst;simp
        ·have:s.1≠t.1\/s.2≠t.2:=by
          by_cases h1:s.1=t.1
          ·right;intro h2;exact hst (Prod.ext h1 h2)
          ·left;exact h1
         rcases this with h|h
         ·simp[h,hst]
         ·simp[h,hst]
       go_frame;clear x0 x1 y0 y1;by_cases hst:s=t
       ·have hf:decide (s≠t)=false:=by simp[hst]
        rw[hf];rw[if_pos hst]at hfd;have HF:=γ hfd;clear hf hst hfd;apply aj rfl rfl;(intro W hW;go_simp;rfl);go_frame;refine aA (fun _=>δ.drew) ?_;go_wp2;go_roundg (M-(k+1))
        case rel=>exact⟨k+1,by omega,by go_num,ξ _,by rw[Q.o.2.1];exact HF.o.o,Q.o.2.2.drew⟩
        case measure=>have:=Q.o.1;omega
       ·have hf:decide (s≠t)=true:=by simp[hst]
        rw[hf];rw[if_neg hst]at hfd;have HF:=γ hfd;clear hf hst hfd;apply aj rfl rfl;(intro W hW;go_simp;rfl);go_frame;refine aA (fun _=>δ.drew) ?_;go_wp2_with fail;obtain⟨q0,q1,q2,kE⟩:=yX (w:=w) (Q.o.2.2.heap H.o.2.2.2.2.2 id) (H.o.2.2.1.trans Q.o.2.2) (by omega) false (p:Int) (k:Int);refine bodyPost_ret (v:= .agg #[.bool false,.int .i64 (p:Int),.int .i64 (k:Int)]) (by simp[results,results65,go_sem,q0,q1,q2]) rfl ⟨by rw[vY hlt G.o.2.1 (show eH (x p) (y p) 0=some k by rw[G.o.2.2.2.1,G.o.2.2.2.2.1,Q.o.2.1];exact HF.o.o)];rfl,kE⟩
    ·have hlast:eH X Y 0=none:=by rw[Q.o.2.1];exact Ia (by have:=HM.o;omega) (by have:=HM.o;omega) k
     have hn: ∀q,q<p+1->eH (x q) (y q) 0=none:=fun q hq=>by
      by_cases hqp:q=p
      ·subst hqp;rw[G.o.2.2.2.1,G.o.2.2.2.2.1];exact hlast
      ·exact G.o.2.1 q (by omega)
     have HN:=γ hn;clear hlast hn;go_wp2;go_roundg (2-(p+1))
     case rel=>exact⟨p+1,by omega,by go_num,ξ _,HN.o,Q.o.2.2⟩
     case measure=>have:=G.o.1;omega
  ·have hp2:p=2:=by omega
   subst hp2;have t2:=hkp.heap H.o.2.2.2.2.2 id;have f0:=ζ t2 (j:=0) rfl;have f1:=ζ t2 (j:=1) rfl;have f2:=ζ t2 (j:=2) rfl;have g0:=free_at t2 0;have g1:=free_at t2 1;have g2:=free_at t2 2;have Q:=γ (θ t2 (θ hw hnone));clear hkp hg t2 hw hnone;go_wp2_with fail;obtain⟨q0,q1,q2,kE⟩:=kX (w:=w) Q.o.1 Q.o.2.1 (by omega) true 0 0;refine bodyPost_ret (v:= .agg #[.bool true,.int .i64 0,.int .i64 0]) (by simp[results,results65,go_sem,q0,q1,q2]) rfl ⟨by rw[Dh Q.o.2.2];rfl,kE⟩
end
section
open Go Go.RowKit
theorem Hy {j:Jb}(hj:iD j=true)(hR:JR j.nodes): ∀(l:List (Int×Int))(Ts:Tabs),iI j.nodes Ts->(∀y∈l,aJ y.1/\aJ y.2)->iI j.nodes (gZ j.nodes Ts l).2/\(∀q∈(gZ j.nodes Ts l).1,bF q)/\(gZ j.nodes Ts l).1.length<=64*l.length
 |[],Ts,h,_=>⟨h,by simp[gZ],by simp[gZ]⟩
 |y::l,Ts,h,hy=>by
  obtain⟨k1,k2⟩:=hy y (by simp);obtain⟨f1,f2,_,f4⟩:=yD hj hR h k1 k2;obtain⟨g1,g2,g3⟩:=Hy hj hR l _ f1 (fun z hz=>hy z (by simp[hz]));refine⟨g1,fun q hq=>?_,?_⟩
  ·simp only[gZ]at hq
   rcases aax.1 hq with hq|hq
   ·exact f2 q hq
   ·exact g2 q hq
  ·simp only[gZ,ν,φ]
   omega
end
section
open Go Go.RowKit
attribute [local irreducible] dI iO H2.eX
def lZ (w:World)(v u:Value)(s:Side):Prop:=oh w #[.int .i64 s.1.par,v] s.1/\Reads w 2 u (wS s.2)/\ ∀x∈s.2,x.1.size<=maxLen/\x.2.size<=maxLen
def bT (r:Rec):Int×Int:=(r.key,r.val)
theorem Fq {L:List Rec}(h: ∀r∈L,bF r)(k:Nat): ∀y∈(L.take k).map bT,aJ y.1/\aJ y.2:=fun y hy=>by obtain⟨r,hr,rfl⟩:=aaw.1 hy;have:=h r (mem_of_mem_take hr);exact⟨this.key,this.val⟩
theorem oh.nodes {w:World}{par:Int}{v:Value}{j:Jb}(h:oh w #[.int .i64 par,v] j):iR w v j.nodes:=by
 obtain⟨v',e,hn,_⟩:=h
 injection e with e
 injection e with _ e
 injection e with e
 subst e;exact hn
theorem Hz (nodes:List JN): ∀(l m:List (Int×Int))(Ts:Tabs),gZ nodes Ts (l++m)=((gZ nodes Ts l).1++(gZ nodes (gZ nodes Ts l).2 m).1,(gZ nodes (gZ nodes Ts l).2 m).2)
 |[],m,Ts=>by simp[gZ]
 |y::l,m,Ts=>by simp only[cons_append,gZ,Hz nodes l m,append_assoc]
theorem FP (nodes:List JN)(Ts:Tabs){L:List Rec}{k:Nat}{r:Rec}(h:L[k]?=some r):
 gZ nodes Ts ((L.take (k+1)).map bT)=((gZ nodes Ts ((L.take k).map bT)).1++(gW nodes (gZ nodes Ts ((L.take k).map bT)).2 r.key r.val).1,(gW nodes (gZ nodes Ts ((L.take k).map bT)).2 r.key r.val).2):=by
 rw[ψ,h,Option.toList_some,aay,Hz];simp[gZ,bT]
theorem Reads.Rq {w:World}{v:Value}{cs:List Value}{k b:Nat}(h:Reads w k v cs)(hk:0<k)(hb:Value.blk v=some b):b<w.heap.size:=by obtain⟨c,E,f,h⟩:=h.isCells hk hb;exact(κ.1 h).1
theorem yM (key:Int):partOf key<2:=by unfold partOf;split<;>omega
theorem CS (p:Nat)(L:List Rec):(bU p L).length<=L.length:=by unfold bU;rw[length_map];exact length_filter_le _ _
def O4 (A B:List Rec):List (List dU):=[bU 0 A,bU 1 A,bU 0 B,bU 1 B]
theorem rE (p:Nat)(A:List Rec)(s:Rec):bU p (A++[s])=bU p A++if partOf s.key=p then[(s.key,s.val)]else[]:=by
 unfold bU;rw[filter_append,aay];by_cases h:partOf s.key=p
 ·rw[if_pos h];simp[h]
 ·rw[if_neg h];simp[h]
theorem adI (A B:List Rec){p:Nat}(h:p<2):(O4 A B)[p]?=some (bU p A):=by
 have:p=0\/p=1:=by omega
 rcases this with rfl|rfl<;>rfl
theorem adH (A B:List Rec){p:Nat}(h:p<2):(O4 A B)[2+p]?=some (bU p B):=by
 have:p=0\/p=1:=by omega
 rcases this with rfl|rfl<;>rfl
theorem aa8 (A B:List Rec)(s:Rec):(O4 A B).set (partOf s.key) (bU (partOf s.key) A++[(s.key,s.val)])=O4 (A++[s]) B:=by
 have hp:=yM s.key;have:partOf s.key=0\/partOf s.key=1:=(by omega);unfold O4;rw[rE,rE]
 rcases this with h|h<;>rw[h]<;>simp
theorem aa7 (A B:List Rec)(s:Rec):(O4 A B).set (2+partOf s.key) (bU (partOf s.key) B++[(s.key,s.val)])=O4 A (B++[s]):=by
 have hp:=yM s.key;have:partOf s.key=0\/partOf s.key=1:=(by omega);unfold O4;rw[rE,rE]
 rcases this with h|h<;>rw[h]<;>simp
theorem Eu {sa sb:Side}{l:List (Int×Int)}{er:Int}(h:fG sa.1 sa.2= .error er):fQ sa sb l=((false,0,0),er):=by unfold fQ;rw[h]
theorem TI {sa sb:Side}{l:List (Int×Int)}{er:Int}{A:List Rec}(ha: ∃Ts,fG sa.1 sa.2= .ok Ts/\A=(gZ sa.1.nodes Ts l).1)(h:fG sb.1 sb.2= .error er):fQ sa sb l=((false,0,0),er):=by obtain⟨Ts,ha,_⟩:=ha;unfold fQ;rw[ha];simp only;rw[h]
theorem TJ {sa sb:Side}{l:List (Int×Int)}{A B:List Rec}(ha: ∃Ts,fG sa.1 sa.2= .ok Ts/\A=(gZ sa.1.nodes Ts l).1)(hb: ∃Ts,fG sb.1 sb.2= .ok Ts/\B=(gZ sb.1.nodes Ts l).1):fQ sa sb l=(kQ (fun p=>bU p A) (fun p=>bU p B),0):=by obtain⟨Ts,ha,rfl⟩:=ha;obtain⟨Us,hb,rfl⟩:=hb;unfold fQ ng;rw[ha];simp only;rw[hb]
theorem VF (a b c d e f:Value)(w:World):(Instr.index 131 (.agg #[a,b,c,d,e,f]) (.int .i64 0)).run prog w= .ok (.agg #[a,b,c]) w:=by apply Eq.symm;apply Eq.symm;kernel_rfl
theorem VE (a b c d e f:Value)(w:World):(Instr.index 131 (.agg #[a,b,c,d,e,f]) (.int .i64 1)).run prog w= .ok (.agg #[d,e,f]) w:=by apply Eq.symm;apply Eq.symm;kernel_rfl
def D6 (w:World)(v:Jf×Int)(e:Ending)(w':World):Prop:=e= .returned (.tuple #[.agg (Dv v.1),.int .i64 v.2])/\ε η w w'
theorem Am (sa sb:Side)(va ua vb ub lv:Value)(L:List Rec)(w:World)(ha:lZ w va ua sa)(hb:lZ w vb ub sb)(hl:Reads w 3 lv (recs L))(hL: ∀r∈L,bF r)(hlen:L.length<=60):
 Calls prog 22 #[.agg #[.int .i64 sa.1.par,va,ua],.agg #[.int .i64 sb.1.par,vb,ub],lv] w (D6 w (fQ sa sb (L.map bT))):=by
 obtain⟨la,Qa,rfl,l1,l2,l3⟩:=hl.recAt;unfold maxLen at l2;have H:=γ (θ ha (θ hb (θ l3 hL)));obtain⟨eF,dS,rfl⟩: ∃a c,va= .slice a sa.1.nodes.length c:=(by obtain⟨a,c,h,_⟩:=ha.1.nodes.at;exact⟨a,c,h⟩);obtain⟨vb1,iy,rfl⟩: ∃a c,vb= .slice a sb.1.nodes.length c:=(by obtain⟨a,c,h,_⟩:=hb.1.nodes.at;exact⟨a,c,h⟩);obtain⟨lg,kZ,rfl⟩: ∃a c,ua= .slice a sa.2.length c:=(by obtain⟨a,c,h,_⟩:=ha.2.1.yY;exact⟨a,c,h⟩);obtain⟨oG,oC,rfl⟩: ∃a c,ub= .slice a sb.2.length c:=(by obtain⟨a,c,h,_⟩:=hb.2.1.yY;exact⟨a,c,h⟩);clear ha hb hl l3 hL;have kA:ε η w ((((w.alloc (.cells #[.int .i64 sa.1.par,(.slice eF sa.1.nodes.length dS),(.slice lg sa.2.length kZ)] 53)).alloc (.cells #[.int .i64 sb.1.par,(.slice vb1 sb.1.nodes.length iy),(.slice oG sb.2.length oC)] 53)).alloc (.cells #[.bool false,.int .i64 0,.int .i64 0] 57)).alloc (.cells #[.slice none 0 0,.slice none 0 0,.slice none 0 0,.slice none 0 0] 130)):=(((δ.alloc _).alloc _).alloc _).alloc _;have t2:((((w.alloc (.cells #[.int .i64 sa.1.par,(.slice eF sa.1.nodes.length dS),(.slice lg sa.2.length kZ)] 53)).alloc (.cells #[.int .i64 sb.1.par,(.slice vb1 sb.1.nodes.length iy),(.slice oG sb.2.length oC)] 53)).alloc (.cells #[.bool false,.int .i64 0,.int .i64 0] 57)).alloc (.cells #[.slice none 0 0,.slice none 0 0,.slice none 0 0,.slice none 0 0] 130)).heap[w.heap.size+1+1]?=some (.cells #[.bool false,.int .i64 0,.int .i64 0] 57 (0,0)):=(by have:=((ε.refl η _).alloc (.cells #[.slice none 0 0,.slice none 0 0,.slice none 0 0,.slice none 0 0] 130)).heap (heap_alloc_new ((w.alloc (.cells #[.int .i64 sa.1.par,(.slice eF sa.1.nodes.length dS),(.slice lg sa.2.length kZ)] 53)).alloc (.cells #[.int .i64 sb.1.par,(.slice vb1 sb.1.nodes.length iy),(.slice oG sb.2.length oC)] 53)) (.cells #[.bool false,.int .i64 0,.int .i64 0] 57)) id;rwa[World.size_alloc,World.size_alloc]at this);have t3:((((w.alloc (.cells #[.int .i64 sa.1.par,(.slice eF sa.1.nodes.length dS),(.slice lg sa.2.length kZ)] 53)).alloc (.cells #[.int .i64 sb.1.par,(.slice vb1 sb.1.nodes.length iy),(.slice oG sb.2.length oC)] 53)).alloc (.cells #[.bool false,.int .i64 0,.int .i64 0] 57)).alloc (.cells #[.slice none 0 0,.slice none 0 0,.slice none 0 0,.slice none 0 0] 130)).heap[w.heap.size+1+1+1]?=some (.cells #[.slice none 0 0,.slice none 0 0,.slice none 0 0,.slice none 0 0] 130 (0,0)):=(by have:=heap_alloc_new (((w.alloc (.cells #[.int .i64 sa.1.par,(.slice eF sa.1.nodes.length dS),(.slice lg sa.2.length kZ)] 53)).alloc (.cells #[.int .i64 sb.1.par,(.slice vb1 sb.1.nodes.length iy),(.slice oG sb.2.length oC)] 53)).alloc (.cells #[.bool false,.int .i64 0,.int .i64 0] 57)) (.cells #[.slice none 0 0,.slice none 0 0,.slice none 0 0,.slice none 0 0] 130);rwa[World.size_alloc,World.size_alloc,World.size_alloc]at this);have t0:((((w.alloc (.cells #[.int .i64 sa.1.par,(.slice eF sa.1.nodes.length dS),(.slice lg sa.2.length kZ)] 53)).alloc (.cells #[.int .i64 sb.1.par,(.slice vb1 sb.1.nodes.length iy),(.slice oG sb.2.length oC)] 53)).alloc (.cells #[.bool false,.int .i64 0,.int .i64 0] 57)).alloc (.cells #[.slice none 0 0,.slice none 0 0,.slice none 0 0,.slice none 0 0] 130)).heap[w.heap.size]?=some (.cells #[.int .i64 sa.1.par,(.slice eF sa.1.nodes.length dS),(.slice lg sa.2.length kZ)] 53 (0,0)):=
  ((((ε.refl η _).alloc _).alloc _).alloc _).heap (heap_alloc_new w _) id
 have t1:((((w.alloc (.cells #[.int .i64 sa.1.par,(.slice eF sa.1.nodes.length dS),(.slice lg sa.2.length kZ)] 53)).alloc (.cells #[.int .i64 sb.1.par,(.slice vb1 sb.1.nodes.length iy),(.slice oG sb.2.length oC)] 53)).alloc (.cells #[.bool false,.int .i64 0,.int .i64 0] 57)).alloc (.cells #[.slice none 0 0,.slice none 0 0,.slice none 0 0,.slice none 0 0] 130)).heap[w.heap.size+1]?=some (.cells #[.int .i64 sb.1.par,(.slice vb1 sb.1.nodes.length iy),(.slice oG sb.2.length oC)] 53 (0,0)):=(by have:=(((ε.refl η _).alloc (.cells #[.bool false,.int .i64 0,.int .i64 0] 57)).alloc (.cells #[.slice none 0 0,.slice none 0 0,.slice none 0 0,.slice none 0 0] 130)).heap (heap_alloc_new (w.alloc (.cells #[.int .i64 sa.1.par,(.slice eF sa.1.nodes.length dS),(.slice lg sa.2.length kZ)] 53)) (.cells #[.int .i64 sb.1.par,(.slice vb1 sb.1.nodes.length iy),(.slice oG sb.2.length oC)] 53)) id;rwa[World.size_alloc]at this);obtain⟨W1,hW1⟩:=acu ((((w.alloc (.cells #[.int .i64 sa.1.par,(.slice eF sa.1.nodes.length dS),(.slice lg sa.2.length kZ)] 53)).alloc (.cells #[.int .i64 sb.1.par,(.slice vb1 sb.1.nodes.length iy),(.slice oG sb.2.length oC)] 53)).alloc (.cells #[.bool false,.int .i64 0,.int .i64 0] 57)).alloc (.cells #[.slice none 0 0,.slice none 0 0,.slice none 0 0,.slice none 0 0] 130));rw[hW1]at kA t0 t1 t2 t3;have p0:=ζ t0 (j:=0) rfl;have p1:=ζ t0 (j:=1) rfl;have p2:=ζ t0 (j:=2) rfl;have r0:=ζ t1 (j:=0) rfl;have r1:=ζ t1 (j:=1) rfl;have r2:=ζ t1 (j:=2) rfl;have hsz:w.heap.size+1+1+1<W1.heap.size:=(κ.1 t3).1;have T2:=γ (θ t3 t2);have KW:=γ kA;have acG:dV W1 W1.heap.size (w.heap.size+1+1+1) 130 [.slice none 0 0,.slice none 0 0,.slice none 0 0,.slice none 0 0] (O4 [] []):=aa3 t3;have HO:=γ acG;clear kA t0 t1 t2 t3 acG;go_enter func22,ntmps22;go_wp2_with fail;try rw[hW1]
 clear hW1 p0 p1 p2 r0 r1 r2
 go_loopg [20] 2 (fun g vi wr=> ∃(i:Nat)(A B:List Rec)(V:List Value),i<=2/\vi= .int .i64 (i:Int)/\2-i<=g/\
  ((i=0->A=[]/\B=[])/\(1<=i-> ∃Ts,fG sa.1 sa.2= .ok Ts/\A=(gZ sa.1.nodes Ts (L.map bT)).1)/\(i=1->B=[])/\(2<=i-> ∃Ts,fG sb.1 sb.2= .ok Ts/\B=(gZ sb.1.nodes Ts (L.map bT)).1))/\
  dV wr W1.heap.size (w.heap.size+1+1+1) 130 V (O4 A B)/\ε (one (w.heap.size+1+1+1)) W1 wr)
 case atStart=>exact⟨0,[],[],_,by omega,rfl,by omega,⟨fun _=>⟨rfl,rfl⟩,fun h=>absurd h (by omega),fun _=>rfl,fun h=>absurd h (by omega)⟩,HO.o,ε.refl _ _⟩
 case round=>
  obtain⟨i,A,B,V,hil,rfl,hg,hst,hout,hkp⟩:=hrel;have h3:i=0\/i=1\/i=2:=by omega
  rcases h3 with rfl|rfl|rfl
  ·have kA:ε η wr (wr.alloc (.cells #[.int .i64 sa.1.par,(.slice eF sa.1.nodes.length dS),(.slice lg sa.2.length kZ)] 53)):=δ.alloc _
   have aB:(wr.alloc (.cells #[.int .i64 sa.1.par,(.slice eF sa.1.nodes.length dS),(.slice lg sa.2.length kZ)] 53)).heap[wr.heap.size]?=some (.cells #[.int .i64 sa.1.par,(.slice eF sa.1.nodes.length dS),(.slice lg sa.2.length kZ)] 53 (0,0)):=heap_alloc_new _ _;obtain⟨W2,hW2⟩:=acu (wr.alloc (.cells #[.int .i64 sa.1.par,(.slice eF sa.1.nodes.length dS),(.slice lg sa.2.length kZ)] 53));rw[hW2]at kA aB;have m0:=ζ aB (j:=0) rfl;have m1:=ζ aB (j:=1) rfl;have m2:=ζ aB (j:=2) rfl;have jF:ε η w W2:=(KW.o.new hkp (fun q hq hs=>by unfold one at hs;omega)).trans kA;have cl:=JM sa.1 (.slice eF sa.1.nodes.length dS) (.slice lg sa.2.length kZ) sa.2 W2 (H.o.1.1.pure jF) (H.o.1.2.1.pure jF) H.o.1.2.2;have G:=γ (θ hg (θ (hout.pure kA) (hkp.trans kA.pure)));have ST:=γ hst;have hidx:=fun W=>VF (.int .i64 sa.1.par) (.slice eF sa.1.nodes.length dS) (.slice lg sa.2.length kZ) (.int .i64 sb.1.par) (.slice vb1 sb.1.nodes.length iy) (.slice oG sb.2.length oC) W;have KW2:=γ jF;clear hg hout hkp hst kA aB jF;go_wp2_with fail;try rw[hW2]
   clear hW2 hidx m0 m1 m2;refine cl.mono ?_;clear cl;intro e w3 hq;unfold nG at hq
   cases hl:fG sa.1 sa.2 with
   |error er=>rw[hl]at hq;obtain⟨rfl,hne,k3⟩:=hq;have t2:=(G.o.2.2.trans k3.pure).heap T2.o.2 (fun e=>by unfold one at e;omega);have F:=γ (θ t2 (θ (KW2.o.trans k3) (show fQ sa sb (L.map bT)=((false,0,0),er)from Eu hl)));have f0:=ζ t2 (j:=0) rfl;have f1:=ζ t2 (j:=1) rfl;have f2:=ζ t2 (j:=2) rfl;have g0:=free_at t2 0;have g1:=free_at t2 1;have g2:=free_at t2 2;clear k3 t2 hl;go_wp2_with fail;obtain⟨q0,q1,q2,kE⟩:=kX (w:=w) F.o.1 F.o.2.1 (by omega) false 0 0;refine bodyPost_ret (v:= .tuple #[.agg #[.bool false,.int .i64 0,.int .i64 0],.int .i64 er]) (by simp[results,results22,go_sem,q0,q1,q2]) rfl ⟨by rw[F.o.2.2];rfl,kE⟩
   |ok kF=>
    rw[hl]at hq;obtain⟨bi,mi,pm,rfl,hob,hbi,hnn,hpar,Zx,htx,hnt,k3⟩:=hq;obtain⟨hok,hT0⟩:=IY hl;have hjr:JR sa.1.nodes:=hnn.jr;have hle:W1.heap.size<=W2.heap.size:=G.o.2.2.size;have HL:=γ hl;have HI:=γ (θ hok (θ hjr (θ hT0 (θ hpar (θ hbi (θ Zx hnt))))))
    have HS:=γ (show dV w3 W1.heap.size (w.heap.size+1+1+1) 130 V (O4 ([]) [])/\dh w3 (fun q=> ¬dJ (w.heap.size+1+1+1) V q) mi kF pm/\ε (one (w.heap.size+1+1+1)) W1 w3 from
     ⟨by have:=G.o.2.1.pure k3;rw[(ST.o.1 (by simp)).1,(ST.o.1 (by simp)).2]at this;exact this,htx.mono (fun q hq _ hb=>by have:=G.o.2.1.lt hb;unfold up at hq;omega),G.o.2.2.trans k3.pure⟩)
    have HN:=γ (H.o.1.1.nodes);have HOB:=γ hob;clear hl hok hjr hT0 hpar hbi Zx hnt hob hnn htx k3 hle;go_wp2
    go_loopg [38] L.length (fun g vi wk=> ∃(k:Nat)(V:List Value),k<=L.length/\vi= .int .i64 (k:Int)/\L.length-k<=g/\wk.heap[bi]?=some (.cells #[.int .i64 sa.1.par,(.slice eF sa.1.nodes.length dS),.map (some mi)] 140 (0,0))/\
     dh wk (fun q=> ¬dJ (w.heap.size+1+1+1) V q) mi (gZ sa.1.nodes kF ((L.take k).map bT)).2 pm/\dV wk W1.heap.size (w.heap.size+1+1+1) 130 V (O4 ((gZ sa.1.nodes kF ((L.take k).map bT)).1) [])/\ε (one (w.heap.size+1+1+1)) W1 wk)
    case atStart=>exact⟨0,V,by omega,rfl,by omega,HOB.o,HS.o.2.1,HS.o.1,HS.o.2.2⟩
    case round=>
     obtain⟨wk,rfl⟩: ∃wk:World,wk=wr:=⟨_,rfl⟩;obtain⟨k,V,hkl,rfl,hgk,hob,htx,hout,hkp⟩:=hrel;have ko:=Hy HI.o.1 HI.o.2.1 ((L.take k).map bT) kF HI.o.2.2.1 (Fq H.o.2.2.2 k);obtain⟨Ts,hTs⟩:=acu ((gZ sa.1.nodes kF ((L.take k).map bT)).2);obtain⟨A1,hA1⟩:=acu ((gZ sa.1.nodes kF ((L.take k).map bT)).1);rw[hTs]at htx ko;rw[hA1]at hout ko;by_cases hkt:k<L.length
     ·obtain⟨r,hrk⟩: ∃r,L[k]?=some r:=⟨_,ι hkt⟩
      obtain⟨lb,Cm,rfl,hlc⟩:=H.o.2.2.1.resolve_left (fun h=>by rw[h]at hkt;simp at hkt);have Qc:ε η w wk:=KW.o.new hkp (fun q hq hs=>by unfold one at hs;omega);obtain⟨c0,c1,c2⟩:=(hlc k r hrk).pure Qc;have hro:=H.o.2.2.2 r (ς hrk);have hstep:=FP sa.1.nodes kF hrk;rw[hTs,hA1]at hstep;have ka:ε η wk (wk.alloc (.cells #[.int .i64 r.pos,.int .i64 r.key,.int .i64 r.val] 133)):=δ.alloc _;obtain⟨W4,iW⟩:=acu (wk.alloc (.cells #[.int .i64 r.pos,.int .i64 r.key,.int .i64 r.val] 133));have rB:=heap_alloc_new wk (.cells #[.int .i64 r.pos,.int .i64 r.key,.int .i64 r.val] 133);rw[iW]at ka rB;have m0:=ζ rB (j:=0) rfl;have m1:=ζ rB (j:=1) rfl;have m2:=ζ rB (j:=2) rfl;have hiw:Iq W4 bi mi sa.1 Ts pm:=⟨⟨(.slice eF sa.1.nodes.length dS),ka.heap hob id,HN.o.pure (Qc.trans ka)⟩,HI.o.2.2.2.1,htx.at_.pure ka⟩;have cf:=Kr (fun q=> ¬dJ (w.heap.size+1+1+1) V q) sa.1 bi mi Ts pm r.key r.val W4 hiw (htx.pure ka) HI.o.1 HI.o.2.1 ko.1 hro.key hro.val;have fo:=yD HI.o.1 HI.o.2.1 ko.1 hro.key hro.val;have hnw:=HI.o.2.2.1.newT ko.1 HI.o.2.2.2.2.2.2;have GK:=γ (θ hgk (θ (ka.heap hob id) (θ (hout.pure ka) (θ (hkp.trans ka.pure) (θ hstep (θ fo (θ ko (θ hnw hiw))))))));clear hgk hob htx hout hkp hro hstep hrk hlc Qc ka hiw fo ko hnw hTs hA1;go_wp2_with fail;try rw[iW]
      clear iW m0 m1 m2 rB;refine cf.mono ?_;clear cf c0 c1 c2;rintro e w5 ⟨v5,rfl,hv5,hb5,hi5,k5,hx5⟩;obtain⟨T2,O,hO,hT2⟩: ∃T2 O,(gW sa.1.nodes Ts r.key r.val).1=O/\(gW sa.1.nodes Ts r.key r.val).2=T2:=⟨_,_,rfl,rfl⟩;have fo:=GK.o.2.2.2.2.2.1;have hstep:=GK.o.2.2.2.2.1;rw[hO,hT2]at fo hstep;rw[hO]at hv5;rw[hT2]at hi5 hx5;have FC:=hv5;obtain⟨oa,xU,rfl,o1,o2,o3⟩:=hv5.recAt;unfold maxLen at o2;have zf:=k5.heap GK.o.2.1 (fun hs=>GK.o.2.2.2.2.2.2.2.2.tabs.sG hs _ _ _ GK.o.2.1);have G9:=GK.o.2.2.1.iT k5 (fun q hq hs=>by obtain⟨c,T,f,h⟩:=GK.o.2.2.1.isCells hq;exact GK.o.2.2.2.2.2.2.2.2.tabs.sG hs _ _ _ h);have Qm:dh w5 (fun q=> ¬dJ (w.heap.size+1+1+1) V q) mi T2 pm:=hx5.mono (fun q hq _ hb=>hq.elim (fun h=>h hb) (fun h=>by have:=GK.o.2.2.1.lt hb;omega))
      have hk5:ε (one (w.heap.size+1+1+1)) W1 w5:=GK.o.2.2.2.1.new k5 (fun q hq hs=>by
       obtain⟨i',T',hT',rfl⟩:=hs;have:=GK.o.2.2.2.2.2.2.2.1 i' T' hT';have:=G.o.2.2.size
       omega)
      have QL: ∀b,Value.blk (.slice oa O.length xU)=some b-> ¬dJ (w.heap.size+1+1+1) V b/\b<w5.heap.size:=fun b hb=>⟨fun h=>by have:=GK.o.2.2.1.lt h;have:=hb5 b hb;omega,FC.Rq (by omega) hb⟩;have hAl:A1.length<=64*60:=(by have:=GK.o.2.2.2.2.2.2.1.2.2;rw[length_map,υ]at this;omega);have Z:=γ (θ zf (θ Qm (θ G9 (θ hk5 (θ FC (θ QL (θ hstep (θ fo hAl))))))));clear zf Qm hx5 G9 hk5 hv5 FC hb5 QL hi5 k5 fo hstep hO hT2 o3 hAl;go_wp2
      go_loopg [49] O.length (fun g vi wq=> ∃(n:Nat)(V:List Value),n<=O.length/\vi= .int .i64 (n:Int)/\O.length-n<=g/\wq.heap[bi]?=some (.cells #[.int .i64 sa.1.par,(.slice eF sa.1.nodes.length dS),.map (some mi)] 140 (0,0))/\
       dh wq (fun q=> ¬dJ (w.heap.size+1+1+1) V q) mi T2 pm/\dV wq W1.heap.size (w.heap.size+1+1+1) 130 V (O4 (A1++O.take n) [])/\ε (one (w.heap.size+1+1+1)) W1 wq/\
       Reads wq 3 (.slice oa O.length xU) (recs O)/\ ∀b,Value.blk (.slice oa O.length xU)=some b-> ¬dJ (w.heap.size+1+1+1) V b/\b<wq.heap.size)
      case atStart=>exact⟨0,V,by omega,rfl,by omega,Z.o.1,Z.o.2.1,by rw[take_zero,append_nil];exact Z.o.2.2.1,Z.o.2.2.2.1,Z.o.2.2.2.2.1,Z.o.2.2.2.2.2.1⟩
      case round=>
       obtain⟨wq,rfl⟩: ∃wq:World,wq=wr:=⟨_,rfl⟩;obtain⟨n,V,hnl,rfl,hgn,hob,htx,hout,hkp,hrd,hbl⟩:=hrel;by_cases hnt:n<O.length
       ·obtain⟨s,hs⟩: ∃s,O[n]?=some s:=⟨_,ι hnt⟩
        obtain⟨oa',agl,eo,-,-,o3⟩:=hrd.recAt
        injection eo with Z9 _ Z8
        subst Z9 Z8;obtain⟨ob,xR,rfl,hoc⟩:=o3.resolve_left (fun h=>by rw[h]at hnt;simp at hnt);obtain⟨d0,d1,d2⟩:=hoc n s hs;have ka:ε η wq (wq.alloc (.cells #[.int .i64 s.pos,.int .i64 s.key,.int .i64 s.val] 68)):=δ.alloc _;have sB:(wq.alloc (.cells #[.int .i64 s.pos,.int .i64 s.key,.int .i64 s.val] 68)).heap[wq.heap.size]?=some (.cells #[.int .i64 s.pos,.int .i64 s.key,.int .i64 s.val] 68 (0,0)):=heap_alloc_new _ _;obtain⟨W6,wW⟩:=acu (wq.alloc (.cells #[.int .i64 s.pos,.int .i64 s.key,.int .i64 s.val] 68));rw[wW]at ka sB;have hp2:=yM s.key;have abE:(A1++O.take n).length<=100000:=(by rw[ν,υ];have:=Z.o.2.2.2.2.2.2.2.2;have:=Z.o.2.2.2.2.2.2.2.1.2.2.2;omega);have hgt:=adI (A1++O.take n) [] hp2;have hpu:=aa8 (A1++O.take n) [] s;have hin:=CS (partOf s.key) (A1++O.take n);have ca:=add_any W6.drew W1.heap.size (w.heap.size+1+1+1) 130 V _ 0 (partOf s.key) s _ ((hout.pure ka).pure (ε.refl η W6).drew) (by have:=hkp.size;have:=ka.size;have:W6.drew.heap.size=W6.heap.size:=rfl;omega) (by rw[Nat.zero_add];exact hgt) hp2 (by omega);unfold Xc at ca;rw[Nat.zero_add,hpu]at ca;have Qn: ¬dJ (w.heap.size+1+1+1) V wq.heap.size:=fun h=>(by have:=hout.lt h;omega);have Y:=γ (θ hgn (θ (ka.heap hob id) (θ (htx.pure ka) (θ (hout.pure ka) (θ (hkp.trans ka.pure) (θ (hrd.pure ka) (θ (fun b hb=>(⟨(hbl b hb).1,Pe (hbl b hb).2 ka.size⟩: ¬dJ (w.heap.size+1+1+1) V b/\b<W6.heap.size)) (θ sB (θ Qn hs)))))))));clear hgn hob htx hout hkp hrd hbl hoc hs o3 ka sB hp2 abE hgt hpu hin Qn;go_wp2_with fail;try rw[wW]
        clear wW d0 d1 d2;have z0:=ζ Y.o.2.2.2.2.2.2.2.1 (j:=0) rfl;have z1:=ζ Y.o.2.2.2.2.2.2.2.1 (j:=1) rfl;have z2:=ζ Y.o.2.2.2.2.2.2.2.1 (j:=2) rfl;refine ak [0,1,2,3,5,4,6] (fun W=>ε (dJ (w.heap.size+1+1+1) V) W6 W) (by kernel_rfl) (by kernel_rfl) rfl δ.drew ?_;simp only[aco];iterate 5 (apply aj rfl rfl;(intro W hW;have q0:=hW.cell (p:=⟨wq.heap.size,0,none⟩) Y.o.2.2.2.2.2.2.2.2.1 z0;have q1:=hW.cell (p:=⟨wq.heap.size,1,none⟩) Y.o.2.2.2.2.2.2.2.2.1 z1;have q2:=hW.cell (p:=⟨wq.heap.size,2,none⟩) Y.o.2.2.2.2.2.2.2.2.1 z2;go_simp;rfl);go_frame)
        clear z0 z1 z2;apply ay rfl rfl;intro K hK;go_wp2_with fail;refine(PO s.key _).mono ?_;rintro e w7 ⟨rfl,rfl⟩;go_wp2;refine hK _ _ (fun _=>δ.drew) ?_;clear hK;apply ay rfl rfl;intro K hK;go_wp2_with fail;refine ca.mono ?_;clear ca;rintro e w8 ⟨rfl,V8,Zw,k8,Qz⟩;have wG:=k8.aW;go_wp2;refine hK _ _ (fun _=>wG) ?_;clear hK;have hds:W6.drew.heap.size=W6.heap.size:=rfl
        have F:=γ (show w8.heap[bi]?=some (.cells #[.int .i64 sa.1.par,(.slice eF sa.1.nodes.length dS),.map (some mi)] 140 (0,0))/\dh w8 (fun q=> ¬dJ (w.heap.size+1+1+1) V8 q) mi T2 pm/\dV w8 W1.heap.size (w.heap.size+1+1+1) 130 V8 (O4 (A1++O.take (n+1)) [])/\ε (one (w.heap.size+1+1+1)) W1 w8/\
         Reads w8 3 (.slice (some ⟨ob,xR,none⟩) O.length xU) (recs O)/\ ∀b,Value.blk (.slice (some ⟨ob,xR,none⟩) O.length xU)=some b-> ¬dJ (w.heap.size+1+1+1) V8 b/\b<w8.heap.size from by
          refine⟨wG.heap Y.o.2.1 (fun hs=>?_),((Y.o.2.2.1.mono (M':=fun q=> ¬dJ (w.heap.size+1+1+1) V q/\ ¬dJ (w.heap.size+1+1+1) V8 q) (fun q hq hlt=>⟨hq,fun hs=>(Qz q hs).elim hq (fun h=>by omega)⟩)).VQ (fun q hq hn=>hn.1 hq) (fun hs=>?_) wG).mono (fun q hq _=>hq.2),?_,Y.o.2.2.2.2.1.new wG (fun q hq hs=>?_),Y.o.2.2.2.2.2.1.kept wG (fun b hb=>(Y.o.2.2.2.2.2.2.1 b hb).1),fun b hb=>⟨fun hs=>?_,Pe (Y.o.2.2.2.2.2.2.1 b hb).2 wG.size⟩⟩
          ·obtain⟨c',T',f',h1,h2⟩:=Y.o.2.2.2.1.ty hs
           rw[Y.o.2.1]at h1
           injection h1 with h1
           injection h1 with _ h1 _
           rcases h2 with h2|h2<;>rw[h2]at h1<;>exact absurd h1 (by decide)
          ·obtain⟨c',T',f',h1,_⟩:=Y.o.2.2.2.1.ty hs
           exact Y.o.2.2.1.at_.YX _ _ _ h1
          ·rw[ψ,Y.o.2.2.2.2.2.2.2.2.2,Option.toList_some,<-append_assoc];exact Zw
          ·rcases Y.o.2.2.2.1.at_ hs with h|h
           ·exact h
           ·exact absurd hq (by omega)
          ·rcases Qz b hs with h|h
           ·exact(Y.o.2.2.2.2.2.2.1 b hb).1 h
           ·have:=(Y.o.2.2.2.2.2.2.1 b hb).2;omega)
        clear Zw k8 Qz hds;refine aA (fun _=>wG) ?_;clear wG;go_wp2;go_roundg (O.length-(n+1))
        case rel=>exact⟨n+1,V8,by omega,by go_num,ξ _,F.o.1,F.o.2.1,F.o.2.2.1,F.o.2.2.2.1,F.o.2.2.2.2.1,F.o.2.2.2.2.2⟩
        case measure=>have:=Y.o.1;omega
       ·have hn2:O.take n=O:=χ (by omega)
        rw[hn2]at hout;have F:=γ (θ hob (θ htx (θ hout hkp)));clear hob htx hout hkp hrd hbl hgn;go_wp2;go_roundg (L.length-(k+1))
        case rel=>exact⟨k+1,V,by omega,by go_num,ξ _,F.o.1,by rw[Z.o.2.2.2.2.2.2.1];exact F.o.2.1,by rw[Z.o.2.2.2.2.2.2.1];exact F.o.2.2.1,F.o.2.2.2⟩
        case measure=>have:=GK.o.1;omega
     ·have hk2:L.take k=L:=χ (by omega)
      rw[hk2]at hTs hA1;subst hA1;have F:=γ (θ hout hkp);clear hgk hob htx hout hkp ko hTs;go_wp2;go_roundg (2-(0+1))
      case rel=>exact⟨1,(gZ sa.1.nodes kF (L.map bT)).1,[],V,by omega,by go_num,ξ _,⟨fun h=>absurd h (by omega),fun _=>⟨kF,HL.o,rfl⟩,fun _=>rfl,fun h=>absurd h (by omega)⟩,F.o.1,F.o.2⟩
      case measure=>have:=G.o.1;omega
  ·have kA:ε η wr (wr.alloc (.cells #[.int .i64 sb.1.par,(.slice vb1 sb.1.nodes.length iy),(.slice oG sb.2.length oC)] 53)):=δ.alloc _
   have aB:(wr.alloc (.cells #[.int .i64 sb.1.par,(.slice vb1 sb.1.nodes.length iy),(.slice oG sb.2.length oC)] 53)).heap[wr.heap.size]?=some (.cells #[.int .i64 sb.1.par,(.slice vb1 sb.1.nodes.length iy),(.slice oG sb.2.length oC)] 53 (0,0)):=heap_alloc_new _ _;obtain⟨W2,hW2⟩:=acu (wr.alloc (.cells #[.int .i64 sb.1.par,(.slice vb1 sb.1.nodes.length iy),(.slice oG sb.2.length oC)] 53));rw[hW2]at kA aB;have m0:=ζ aB (j:=0) rfl;have m1:=ζ aB (j:=1) rfl;have m2:=ζ aB (j:=2) rfl;have jF:ε η w W2:=(KW.o.new hkp (fun q hq hs=>by unfold one at hs;omega)).trans kA;have cl:=JM sb.1 (.slice vb1 sb.1.nodes.length iy) (.slice oG sb.2.length oC) sb.2 W2 (H.o.2.1.1.pure jF) (H.o.2.1.2.1.pure jF) H.o.2.1.2.2;have G:=γ (θ hg (θ (hout.pure kA) (hkp.trans kA.pure)));have ST:=γ hst;have hidx:=fun W=>VE (.int .i64 sa.1.par) (.slice eF sa.1.nodes.length dS) (.slice lg sa.2.length kZ) (.int .i64 sb.1.par) (.slice vb1 sb.1.nodes.length iy) (.slice oG sb.2.length oC) W;have KW2:=γ jF;clear hg hout hkp hst kA aB jF;go_wp2_with fail;try rw[hW2]
   clear hW2 hidx m0 m1 m2;refine cl.mono ?_;clear cl;intro e w3 hq;unfold nG at hq
   cases hl:fG sb.1 sb.2 with
   |error er=>rw[hl]at hq;obtain⟨rfl,hne,k3⟩:=hq;have t2:=(G.o.2.2.trans k3.pure).heap T2.o.2 (fun e=>by unfold one at e;omega);have F:=γ (θ t2 (θ (KW2.o.trans k3) (show fQ sa sb (L.map bT)=((false,0,0),er)from TI (ST.o.2.1 (by simp)) hl)));have f0:=ζ t2 (j:=0) rfl;have f1:=ζ t2 (j:=1) rfl;have f2:=ζ t2 (j:=2) rfl;have g0:=free_at t2 0;have g1:=free_at t2 1;have g2:=free_at t2 2;clear k3 t2 hl;go_wp2_with fail;obtain⟨q0,q1,q2,kE⟩:=kX (w:=w) F.o.1 F.o.2.1 (by omega) false 0 0;refine bodyPost_ret (v:= .tuple #[.agg #[.bool false,.int .i64 0,.int .i64 0],.int .i64 er]) (by simp[results,results22,go_sem,q0,q1,q2]) rfl ⟨by rw[F.o.2.2];rfl,kE⟩
   |ok kF=>
    rw[hl]at hq;obtain⟨bi,mi,pm,rfl,hob,hbi,hnn,hpar,Zx,htx,hnt,k3⟩:=hq;obtain⟨hok,hT0⟩:=IY hl;have hjr:JR sb.1.nodes:=hnn.jr;have hle:W1.heap.size<=W2.heap.size:=G.o.2.2.size;have HL:=γ hl;have HI:=γ (θ hok (θ hjr (θ hT0 (θ hpar (θ hbi (θ Zx hnt))))))
    have HS:=γ (show dV w3 W1.heap.size (w.heap.size+1+1+1) 130 V (O4 A ([]))/\dh w3 (fun q=> ¬dJ (w.heap.size+1+1+1) V q) mi kF pm/\ε (one (w.heap.size+1+1+1)) W1 w3 from
     ⟨by have:=G.o.2.1.pure k3;rw[ST.o.2.2.1 (by simp)]at this;exact this,htx.mono (fun q hq _ hb=>by have:=G.o.2.1.lt hb;unfold up at hq;omega),G.o.2.2.trans k3.pure⟩)
    have HN:=γ (H.o.2.1.1.nodes);have HOB:=γ hob;clear hl hok hjr hT0 hpar hbi Zx hnt hob hnn htx k3 hle;go_wp2
    go_loopg [38] L.length (fun g vi wk=> ∃(k:Nat)(V:List Value),k<=L.length/\vi= .int .i64 (k:Int)/\L.length-k<=g/\wk.heap[bi]?=some (.cells #[.int .i64 sb.1.par,(.slice vb1 sb.1.nodes.length iy),.map (some mi)] 140 (0,0))/\
     dh wk (fun q=> ¬dJ (w.heap.size+1+1+1) V q) mi (gZ sb.1.nodes kF ((L.take k).map bT)).2 pm/\dV wk W1.heap.size (w.heap.size+1+1+1) 130 V (O4 A ((gZ sb.1.nodes kF ((L.take k).map bT)).1))/\ε (one (w.heap.size+1+1+1)) W1 wk)
    case atStart=>exact⟨0,V,by omega,rfl,by omega,HOB.o,HS.o.2.1,HS.o.1,HS.o.2.2⟩
    case round=>
     obtain⟨wk,rfl⟩: ∃wk:World,wk=wr:=⟨_,rfl⟩;obtain⟨k,V,hkl,rfl,hgk,hob,htx,hout,hkp⟩:=hrel;have ko:=Hy HI.o.1 HI.o.2.1 ((L.take k).map bT) kF HI.o.2.2.1 (Fq H.o.2.2.2 k);obtain⟨Ts,hTs⟩:=acu ((gZ sb.1.nodes kF ((L.take k).map bT)).2);obtain⟨A1,hA1⟩:=acu ((gZ sb.1.nodes kF ((L.take k).map bT)).1);rw[hTs]at htx ko;rw[hA1]at hout ko;by_cases hkt:k<L.length
     ·obtain⟨r,hrk⟩: ∃r,L[k]?=some r:=⟨_,ι hkt⟩
      obtain⟨lb,Cm,rfl,hlc⟩:=H.o.2.2.1.resolve_left (fun h=>by rw[h]at hkt;simp at hkt);have Qc:ε η w wk:=KW.o.new hkp (fun q hq hs=>by unfold one at hs;omega);obtain⟨c0,c1,c2⟩:=(hlc k r hrk).pure Qc;have hro:=H.o.2.2.2 r (ς hrk);have hstep:=FP sb.1.nodes kF hrk;rw[hTs,hA1]at hstep;have ka:ε η wk (wk.alloc (.cells #[.int .i64 r.pos,.int .i64 r.key,.int .i64 r.val] 133)):=δ.alloc _;obtain⟨W4,iW⟩:=acu (wk.alloc (.cells #[.int .i64 r.pos,.int .i64 r.key,.int .i64 r.val] 133));have rB:=heap_alloc_new wk (.cells #[.int .i64 r.pos,.int .i64 r.key,.int .i64 r.val] 133);rw[iW]at ka rB;have m0:=ζ rB (j:=0) rfl;have m1:=ζ rB (j:=1) rfl;have m2:=ζ rB (j:=2) rfl;have hiw:Iq W4 bi mi sb.1 Ts pm:=⟨⟨(.slice vb1 sb.1.nodes.length iy),ka.heap hob id,HN.o.pure (Qc.trans ka)⟩,HI.o.2.2.2.1,htx.at_.pure ka⟩;have cf:=Kr (fun q=> ¬dJ (w.heap.size+1+1+1) V q) sb.1 bi mi Ts pm r.key r.val W4 hiw (htx.pure ka) HI.o.1 HI.o.2.1 ko.1 hro.key hro.val;have fo:=yD HI.o.1 HI.o.2.1 ko.1 hro.key hro.val;have hnw:=HI.o.2.2.1.newT ko.1 HI.o.2.2.2.2.2.2;have GK:=γ (θ hgk (θ (ka.heap hob id) (θ (hout.pure ka) (θ (hkp.trans ka.pure) (θ hstep (θ fo (θ ko (θ hnw hiw))))))));clear hgk hob htx hout hkp hro hstep hrk hlc Qc ka hiw fo ko hnw hTs hA1;go_wp2_with fail;try rw[iW]
      clear iW m0 m1 m2 rB;refine cf.mono ?_;clear cf c0 c1 c2;rintro e w5 ⟨v5,rfl,hv5,hb5,hi5,k5,hx5⟩;obtain⟨T2,O,hO,hT2⟩: ∃T2 O,(gW sb.1.nodes Ts r.key r.val).1=O/\(gW sb.1.nodes Ts r.key r.val).2=T2:=⟨_,_,rfl,rfl⟩;have fo:=GK.o.2.2.2.2.2.1;have hstep:=GK.o.2.2.2.2.1;rw[hO,hT2]at fo hstep;rw[hO]at hv5;rw[hT2]at hi5 hx5;have FC:=hv5;obtain⟨oa,xU,rfl,o1,o2,o3⟩:=hv5.recAt;unfold maxLen at o2;have zf:=k5.heap GK.o.2.1 (fun hs=>GK.o.2.2.2.2.2.2.2.2.tabs.sG hs _ _ _ GK.o.2.1);have G9:=GK.o.2.2.1.iT k5 (fun q hq hs=>by obtain⟨c,T,f,h⟩:=GK.o.2.2.1.isCells hq;exact GK.o.2.2.2.2.2.2.2.2.tabs.sG hs _ _ _ h);have Qm:dh w5 (fun q=> ¬dJ (w.heap.size+1+1+1) V q) mi T2 pm:=hx5.mono (fun q hq _ hb=>hq.elim (fun h=>h hb) (fun h=>by have:=GK.o.2.2.1.lt hb;omega))
      have hk5:ε (one (w.heap.size+1+1+1)) W1 w5:=GK.o.2.2.2.1.new k5 (fun q hq hs=>by
       obtain⟨i',T',hT',rfl⟩:=hs;have:=GK.o.2.2.2.2.2.2.2.1 i' T' hT';have:=G.o.2.2.size
       omega)
      have QL: ∀b,Value.blk (.slice oa O.length xU)=some b-> ¬dJ (w.heap.size+1+1+1) V b/\b<w5.heap.size:=fun b hb=>⟨fun h=>by have:=GK.o.2.2.1.lt h;have:=hb5 b hb;omega,FC.Rq (by omega) hb⟩;have hAl:A1.length<=64*60:=(by have:=GK.o.2.2.2.2.2.2.1.2.2;rw[length_map,υ]at this;omega);have Z:=γ (θ zf (θ Qm (θ G9 (θ hk5 (θ FC (θ QL (θ hstep (θ fo hAl))))))));clear zf Qm hx5 G9 hk5 hv5 FC hb5 QL hi5 k5 fo hstep hO hT2 o3 hAl;go_wp2
      go_loopg [49] O.length (fun g vi wq=> ∃(n:Nat)(V:List Value),n<=O.length/\vi= .int .i64 (n:Int)/\O.length-n<=g/\wq.heap[bi]?=some (.cells #[.int .i64 sb.1.par,(.slice vb1 sb.1.nodes.length iy),.map (some mi)] 140 (0,0))/\
       dh wq (fun q=> ¬dJ (w.heap.size+1+1+1) V q) mi T2 pm/\dV wq W1.heap.size (w.heap.size+1+1+1) 130 V (O4 A (A1++O.take n))/\ε (one (w.heap.size+1+1+1)) W1 wq/\
       Reads wq 3 (.slice oa O.length xU) (recs O)/\ ∀b,Value.blk (.slice oa O.length xU)=some b-> ¬dJ (w.heap.size+1+1+1) V b/\b<wq.heap.size)
      case atStart=>exact⟨0,V,by omega,rfl,by omega,Z.o.1,Z.o.2.1,by rw[take_zero,append_nil];exact Z.o.2.2.1,Z.o.2.2.2.1,Z.o.2.2.2.2.1,Z.o.2.2.2.2.2.1⟩
      case round=>
       obtain⟨wq,rfl⟩: ∃wq:World,wq=wr:=⟨_,rfl⟩;obtain⟨n,V,hnl,rfl,hgn,hob,htx,hout,hkp,hrd,hbl⟩:=hrel;by_cases hnt:n<O.length
       ·obtain⟨s,hs⟩: ∃s,O[n]?=some s:=⟨_,ι hnt⟩
        obtain⟨oa',agl,eo,-,-,o3⟩:=hrd.recAt
        injection eo with Z9 _ Z8
        subst Z9 Z8;obtain⟨ob,xR,rfl,hoc⟩:=o3.resolve_left (fun h=>by rw[h]at hnt;simp at hnt);obtain⟨d0,d1,d2⟩:=hoc n s hs;have ka:ε η wq (wq.alloc (.cells #[.int .i64 s.pos,.int .i64 s.key,.int .i64 s.val] 68)):=δ.alloc _;have sB:(wq.alloc (.cells #[.int .i64 s.pos,.int .i64 s.key,.int .i64 s.val] 68)).heap[wq.heap.size]?=some (.cells #[.int .i64 s.pos,.int .i64 s.key,.int .i64 s.val] 68 (0,0)):=heap_alloc_new _ _;obtain⟨W6,wW⟩:=acu (wq.alloc (.cells #[.int .i64 s.pos,.int .i64 s.key,.int .i64 s.val] 68));rw[wW]at ka sB;have hp2:=yM s.key;have abE:(A1++O.take n).length<=100000:=(by rw[ν,υ];have:=Z.o.2.2.2.2.2.2.2.2;have:=Z.o.2.2.2.2.2.2.2.1.2.2.2;omega);have hgt:=adH A (A1++O.take n) hp2;have hpu:=aa7 A (A1++O.take n) s;have hin:=CS (partOf s.key) (A1++O.take n);have ca:=add_any W6.drew W1.heap.size (w.heap.size+1+1+1) 130 V _ 2 (partOf s.key) s _ ((hout.pure ka).pure (ε.refl η W6).drew) (by have:=hkp.size;have:=ka.size;have:W6.drew.heap.size=W6.heap.size:=rfl;omega) (hgt) hp2 (by omega);unfold Xc at ca;rw[hpu]at ca;have Qn: ¬dJ (w.heap.size+1+1+1) V wq.heap.size:=fun h=>(by have:=hout.lt h;omega);have Y:=γ (θ hgn (θ (ka.heap hob id) (θ (htx.pure ka) (θ (hout.pure ka) (θ (hkp.trans ka.pure) (θ (hrd.pure ka) (θ (fun b hb=>(⟨(hbl b hb).1,Pe (hbl b hb).2 ka.size⟩: ¬dJ (w.heap.size+1+1+1) V b/\b<W6.heap.size)) (θ sB (θ Qn hs)))))))));clear hgn hob htx hout hkp hrd hbl hoc hs o3 ka sB hp2 abE hgt hpu hin Qn;go_wp2_with fail;try rw[wW]
        clear wW d0 d1 d2;have z0:=ζ Y.o.2.2.2.2.2.2.2.1 (j:=0) rfl;have z1:=ζ Y.o.2.2.2.2.2.2.2.1 (j:=1) rfl;have z2:=ζ Y.o.2.2.2.2.2.2.2.1 (j:=2) rfl;refine ak [0,1,2,3,5,4,6] (fun W=>ε (dJ (w.heap.size+1+1+1) V) W6 W) (by kernel_rfl) (by kernel_rfl) rfl δ.drew ?_;simp only[aco];iterate 5 (apply aj rfl rfl;(intro W hW;have q0:=hW.cell (p:=⟨wq.heap.size,0,none⟩) Y.o.2.2.2.2.2.2.2.2.1 z0;have q1:=hW.cell (p:=⟨wq.heap.size,1,none⟩) Y.o.2.2.2.2.2.2.2.2.1 z1;have q2:=hW.cell (p:=⟨wq.heap.size,2,none⟩) Y.o.2.2.2.2.2.2.2.2.1 z2;go_simp;rfl);go_frame)
        clear z0 z1 z2;apply ay rfl rfl;intro K hK;go_wp2_with fail;refine(PO s.key _).mono ?_;rintro e w7 ⟨rfl,rfl⟩;go_wp2;refine hK _ _ (fun _=>δ.drew) ?_;clear hK;apply ay rfl rfl;intro K hK;go_wp2_with fail;refine ca.mono ?_;clear ca;rintro e w8 ⟨rfl,V8,Zw,k8,Qz⟩;have wG:=k8.aW;go_wp2;refine hK _ _ (fun _=>wG) ?_;clear hK;have hds:W6.drew.heap.size=W6.heap.size:=rfl
        have F:=γ (show w8.heap[bi]?=some (.cells #[.int .i64 sb.1.par,(.slice vb1 sb.1.nodes.length iy),.map (some mi)] 140 (0,0))/\dh w8 (fun q=> ¬dJ (w.heap.size+1+1+1) V8 q) mi T2 pm/\dV w8 W1.heap.size (w.heap.size+1+1+1) 130 V8 (O4 A (A1++O.take (n+1)))/\ε (one (w.heap.size+1+1+1)) W1 w8/\
         Reads w8 3 (.slice (some ⟨ob,xR,none⟩) O.length xU) (recs O)/\ ∀b,Value.blk (.slice (some ⟨ob,xR,none⟩) O.length xU)=some b-> ¬dJ (w.heap.size+1+1+1) V8 b/\b<w8.heap.size from by
          refine⟨wG.heap Y.o.2.1 (fun hs=>?_),((Y.o.2.2.1.mono (M':=fun q=> ¬dJ (w.heap.size+1+1+1) V q/\ ¬dJ (w.heap.size+1+1+1) V8 q) (fun q hq hlt=>⟨hq,fun hs=>(Qz q hs).elim hq (fun h=>by omega)⟩)).VQ (fun q hq hn=>hn.1 hq) (fun hs=>?_) wG).mono (fun q hq _=>hq.2),?_,Y.o.2.2.2.2.1.new wG (fun q hq hs=>?_),Y.o.2.2.2.2.2.1.kept wG (fun b hb=>(Y.o.2.2.2.2.2.2.1 b hb).1),fun b hb=>⟨fun hs=>?_,Pe (Y.o.2.2.2.2.2.2.1 b hb).2 wG.size⟩⟩
          ·obtain⟨c',T',f',h1,h2⟩:=Y.o.2.2.2.1.ty hs
           rw[Y.o.2.1]at h1
           injection h1 with h1
           injection h1 with _ h1 _
           rcases h2 with h2|h2<;>rw[h2]at h1<;>exact absurd h1 (by decide)
          ·obtain⟨c',T',f',h1,_⟩:=Y.o.2.2.2.1.ty hs
           exact Y.o.2.2.1.at_.YX _ _ _ h1
          ·rw[ψ,Y.o.2.2.2.2.2.2.2.2.2,Option.toList_some,<-append_assoc];exact Zw
          ·rcases Y.o.2.2.2.1.at_ hs with h|h
           ·exact h
           ·exact absurd hq (by omega)
          ·rcases Qz b hs with h|h
           ·exact(Y.o.2.2.2.2.2.2.1 b hb).1 h
           ·have:=(Y.o.2.2.2.2.2.2.1 b hb).2;omega)
        clear Zw k8 Qz hds;refine aA (fun _=>wG) ?_;clear wG;go_wp2;go_roundg (O.length-(n+1))
        case rel=>exact⟨n+1,V8,by omega,by go_num,ξ _,F.o.1,F.o.2.1,F.o.2.2.1,F.o.2.2.2.1,F.o.2.2.2.2.1,F.o.2.2.2.2.2⟩
        case measure=>have:=Y.o.1;omega
       ·have hn2:O.take n=O:=χ (by omega)
        rw[hn2]at hout;have F:=γ (θ hob (θ htx (θ hout hkp)));clear hob htx hout hkp hrd hbl hgn;go_wp2;go_roundg (L.length-(k+1))
        case rel=>exact⟨k+1,V,by omega,by go_num,ξ _,F.o.1,by rw[Z.o.2.2.2.2.2.2.1];exact F.o.2.1,by rw[Z.o.2.2.2.2.2.2.1];exact F.o.2.2.1,F.o.2.2.2⟩
        case measure=>have:=GK.o.1;omega
     ·have hk2:L.take k=L:=χ (by omega)
      rw[hk2]at hTs hA1;subst hA1;have F:=γ (θ hout hkp);clear hgk hob htx hout hkp ko hTs;go_wp2;go_roundg (2-(1+1))
      case rel=>exact⟨2,A,(gZ sb.1.nodes kF (L.map bT)).1,V,by omega,by go_num,ξ _,⟨fun h=>absurd h (by omega),fun _=>ST.o.2.1 (by simp),fun h=>absurd h (by omega),fun _=>⟨kF,HL.o,rfl⟩⟩,F.o.1,F.o.2⟩
      case measure=>have:=G.o.1;omega
  ·have h4:V.length=4:=hout.len
   match V,h4,hout with
   |[V0,V1,V2,V3],_,hout=>
    have t2:=hkp.heap T2.o.2 (fun e=>by unfold one at e;omega);have t3:wr.heap[w.heap.size+1+1+1]?=some (.cells #[V0,V1,V2,V3] 130 (0,0)):=hout.blk;have kw:=KW.o.new hkp (fun q hq hs=>by unfold one at hs;omega);have c0:=ζ t3 (j:=0) rfl;have c1:=ζ t3 (j:=1) rfl;have c2:=ζ t3 (j:=2) rfl;have c3:=ζ t3 (j:=3) rfl;have cc:Calls prog 65 #[.agg #[V0,V1],.agg #[V2,V3]] wr (ac4 wr (kQ (fun p=>bU p A) (fun p=>bU p B))):=
     TR wr (fun p=>bU p A) (fun p=>bU p B) (fun p=>if p=0 then V0 else V1) (fun p=>if p=0 then V2 else V3)
      (fun q hq=>by have h2:q=0\/q=1:=by omega
                    rcases h2 with rfl|rfl
                    ·exact Reads.aN (hout.own 0 V0 _ rfl rfl)
                    ·exact Reads.aN (hout.own 1 V1 _ rfl rfl))
      (fun q hq=>by have h2:q=0\/q=1:=by omega
                    rcases h2 with rfl|rfl
                    ·exact Reads.aN (hout.own 2 V2 _ rfl rfl)
                    ·exact Reads.aN (hout.own 3 V3 _ rfl rfl))
    have hid:=TJ (hst.2.1 (by omega)) (hst.2.2.2 (by omega));obtain⟨vd,hvd⟩:=acu (kQ (fun p=>bU p A) (fun p=>bU p B));rw[hvd]at hid cc;obtain⟨vb,v1,v2⟩:=vd;have HID:=γ hid;have T:=γ (θ t2 kw);clear hg hst hout hkp t2 t3 kw hid hvd;go_wp2_with fail;refine cc.mono ?_;clear cc c0 c1 c2 c3;rintro e w5 ⟨rfl,k5⟩;have t2:=k5.heap T.o.1 id;have f0:=ζ t2 (j:=0) rfl;have f1:=ζ t2 (j:=1) rfl;have f2:=ζ t2 (j:=2) rfl;have g0:=free_at t2 0;have g1:=free_at t2 1;have g2:=free_at t2 2;have F:=γ (θ t2 (T.o.2.trans k5));clear k5 t2;unfold Dv;go_wp2_with fail;obtain⟨q0,q1,q2,kE⟩:=kX (w:=w) F.o.1 F.o.2 (by omega) vb v1 v2;refine bodyPost_ret (v:= .tuple #[.agg #[.bool vb,.int .i64 v1,.int .i64 v2],.int .i64 0]) (by simp[results,results22,go_sem,q0,q1,q2]) rfl ⟨by rw[HID.o];rfl,kE⟩
end
section
open Go Go.RowKit Go.ChangeShapes Go.WideShapes Go.ChangeAt Go.Deep
section
variable {H:Type} {enc:TypeId×Value->H} {w:World}
theorem aa4 {fuel n cap:Nat}{a:Option Addr}{x:DataW H×List MemPlace}(h:DataW.trod enc prog w 0 (fun _=>true) true fuel 25 [.slice a n cap]=some x):
 ∃L:List St,L.length=n/\Reads w 2 (.slice a n cap) (wS L)/\ ∀s∈L,s.1.size<=maxLen/\s.2.size<=maxLen:=by
 obtain⟨cs,hl,hr,hel⟩:=tX (k:=2) underlying25 (by kernel_rfl) (by omega) h;have each: ∀i,i<n-> ∃s:St,(s.1.size<=maxLen/\s.2.size<=maxLen)/\(cs.drop (i*2)).take 2=[.string s.1,.string s.2]:=by
  intro i hi;obtain⟨m,y,hy⟩:=hel i hi
  obtain⟨v0,v1,hd⟩: ∃v0 v1,(cs.drop (i*2)).take 2=[v0,v1]:=by
   have hlen:((cs.drop (i*2)).take 2).length=2:=by rw[υ,length_drop];omega
   match(cs.drop (i*2)).take 2,hlen with
   |[v0,v1],_=>exact⟨v0,v1,rfl⟩
  rw[hd]at hy⊢;obtain⟨xs,f1,_,_,_,hxl,hf⟩:=DataW.trod_struct underlying35 hy;have g0:DataW.trod enc prog w 0 (fun _=>true) true f1 9 ([v0,v1].drop 0|>.take (prog.cellsOf 9))=xs[0]?:=hf 0 _ rfl;have g1:DataW.trod enc prog w 0 (fun _=>true) true f1 9 ([v0,v1].drop 1|>.take (prog.cellsOf 9))=xs[1]?:=hf 1 _ rfl;rw[show prog.cellsOf 9=1 by kernel_rfl]at g0 g1;simp only[drop_succ_cons,drop_zero,take_succ_cons,take_zero]at g0 g1
  match xs,hxl with
  |[x0,x1],_=>
   obtain⟨s0,hs0,_,hz0⟩:=DataW.trod_string underlying9 g0;obtain⟨s1,hs1,_,hz1⟩:=DataW.trod_string underlying9 g1
   injection hs0 with hs0 _
   injection hs1 with hs1 _
   subst hs0 hs1;exact⟨(s0,s1),⟨hz0,hz1⟩,rfl⟩
 obtain⟨O,hO⟩:=choose_lt each;refine⟨(range n).map O,by simp,?_,fun r hr=>?_⟩
 ·have:cs=wS ((range n).map O):=by
   apply ext_getElem?;intro j;by_cases hj:j<n*2
   ·have hi:j/2<n:=by omega
    have h1:=(hO (j/2) hi).2;have h2:cs[j]?=((cs.drop (j/2*2)).take 2)[j%2]?:=by
     rw[aaA,if_pos (Nat.mod_lt _ (by omega)),getElem?_drop]
     congr 1;omega
    rw[h2,h1];have h3:((range n).map O)[j/2]?=some (O (j/2)):=(by rw[aav,getElem?_range hi];rfl);obtain⟨e0,e1⟩:=EZ h3;have hm:j%2=0\/j%2=1:=by omega
    rcases hm with hm|hm
    ·rw[hm,show j=j/2*2 by omega,show j/2*2/2=j/2 by omega,e0];rfl
    ·rw[hm,show j=j/2*2+1 by omega,show(j/2*2+1)/2=j/2 by omega,e1];rfl
   ·rw[aak (by rw[hl];omega),aak (by rw[vI];simp;omega)]
  rw[<-this];exact hr
 ·obtain⟨i,hi,rfl⟩:=aaw.1 hr
  exact(hO i (mem_range.1 hi)).1
theorem JJ {fuel:Nat}{cs:List Value}{x:DataW H×List MemPlace}(h:DataW.trod enc prog w 0 (fun _=>true) true fuel 53 cs=some x): ∃(s:Side)(v u:Value),cs.toArray= #[.int .i64 s.1.par,v,u]/\lZ w v u s:=by
 obtain⟨xs,n,rfl,_,hl,hxl,hf⟩:=DataW.trod_struct underlying53 h;rw[show prog.cellsOf 53=3 by kernel_rfl]at hl
 match cs,hl with
 |[c0,c1,c2],_=>
  have g0:DataW.trod enc prog w 0 (fun _=>true) true n 24 ([c0,c1,c2].drop 0|>.take (prog.cellsOf 24))=xs[0]?:=hf 0 _ rfl;have g1:DataW.trod enc prog w 0 (fun _=>true) true n 25 ([c0,c1,c2].drop 2|>.take (prog.cellsOf 25))=xs[1]?:=hf 1 _ rfl;rw[show prog.cellsOf 24=2 by kernel_rfl]at g0;rw[show prog.cellsOf 25=1 by kernel_rfl]at g1;simp only[drop_succ_cons,drop_zero,take_succ_cons,take_zero]at g0 g1
  match xs,hxl with
  |[x0,x1],_=>
   obtain⟨j,hj⟩:=aa5 g0
   obtain⟨a,ln,cap,rfl⟩: ∃a n cap,c2= .slice a n cap:=by
    rcases DataW.trod_slice underlying25 g1 with⟨h,_⟩|⟨a,len,cap,_,_,_,_,h,_⟩
    ·injection h with h _;exact⟨_,_,_,h⟩
    ·injection h with h _;exact⟨_,_,_,h⟩
   obtain⟨L,_,hr,hL⟩:=aa4 g1;have hj':=hj;obtain⟨v,e,_,_⟩:=hj';have e': #[c0,c1]= #[.int .i64 j.par,v]:=e
   injection e' with e'
   injection e' with e0 e'
   injection e' with e1 _
   subst e0 e1;exact⟨(j,L),c1,_,rfl,hj,hr,hL⟩
theorem aa6 {fuel n cap:Nat}{a:Option Addr}{x:DataW H×List MemPlace}(h:DataW.trod enc prog w 0 (fun _=>true) true fuel 54 [.slice a n cap]=some x):
 ∃L:List Rec,L.length=n/\Reads w 3 (.slice a n cap) (recs L)/\ ∀r∈L,bF r:=by
 obtain⟨cs,hl,hr,hel⟩:=tX (k:=3) underlying54 (by kernel_rfl) (by omega) h;have each: ∀i,i<n-> ∃r:Rec,bF r/\(cs.drop (i*3)).take 3=[.int .i64 r.pos,.int .i64 r.key,.int .i64 r.val]:=by
  intro i hi;obtain⟨m,y,hy⟩:=hel i hi
  obtain⟨v0,v1,v2,hd⟩: ∃v0 v1 v2,(cs.drop (i*3)).take 3=[v0,v1,v2]:=by
   have hlen:((cs.drop (i*3)).take 3).length=3:=by rw[υ,length_drop];omega
   match(cs.drop (i*3)).take 3,hlen with
   |[v0,v1,v2],_=>exact⟨v0,v1,v2,rfl⟩
  rw[hd]at hy⊢;obtain⟨xs,f1,_,_,_,hxl,hf⟩:=DataW.trod_struct underlying133 hy;have g0:DataW.trod enc prog w 0 (fun _=>true) true f1 3 ([v0,v1,v2].drop 0|>.take (prog.cellsOf 3))=xs[0]?:=hf 0 _ rfl;have g1:DataW.trod enc prog w 0 (fun _=>true) true f1 2 ([v0,v1,v2].drop 1|>.take (prog.cellsOf 2))=xs[1]?:=hf 1 _ rfl;have g2:DataW.trod enc prog w 0 (fun _=>true) true f1 2 ([v0,v1,v2].drop 2|>.take (prog.cellsOf 2))=xs[2]?:=hf 2 _ rfl;rw[show prog.cellsOf 3=1 by kernel_rfl]at g0;rw[show prog.cellsOf 2=1 by kernel_rfl]at g1 g2;simp only[drop_succ_cons,drop_zero,take_succ_cons,take_zero]at g0 g1 g2
  match xs,hxl with
  |[x0,x1,x2],_=>
   obtain⟨z0,hz0,_,hw0⟩:=DataW.trod_int underlying3 g0;obtain⟨z1,hz1,_,hw1⟩:=DataW.trod_int underlying2 g1;obtain⟨z2,hz2,_,hw2⟩:=DataW.trod_int underlying2 g2
   injection hz0 with hz0 _
   injection hz1 with hz1 _
   injection hz2 with hz2 _
   subst hz0 hz1 hz2;exact⟨⟨z0,z1,z2⟩,⟨.Ad hw0, .Ad hw1, .Ad hw2⟩,rfl⟩
 obtain⟨O,hO⟩:=choose_lt each;refine⟨(range n).map O,by simp,?_,fun r hr=>?_⟩
 ·have:cs=recs ((range n).map O):=by
   apply ext_getElem?;intro j;by_cases hj:j<n*3
   ·have hi:j/3<n:=by omega
    have h1:=(hO (j/3) hi).2;have h2:cs[j]?=((cs.drop (j/3*3)).take 3)[j%3]?:=by
     rw[aaA,if_pos (Nat.mod_lt _ (by omega)),getElem?_drop]
     congr 1;omega
    rw[h2,h1];have h3:((range n).map O)[j/3]?=some (O (j/3)):=(by rw[aav,getElem?_range hi];rfl);obtain⟨e0,e1,e2⟩:=Fh h3;have hm:j%3=0\/j%3=1\/j%3=2:=by omega
    rcases hm with hm|hm|hm
    ·rw[hm,show j=j/3*3 by omega,show j/3*3/3=j/3 by omega,e0];rfl
    ·rw[hm,show j=j/3*3+1 by omega,show(j/3*3+1)/3=j/3 by omega,e1];rfl
    ·rw[hm,show j=j/3*3+2 by omega,show(j/3*3+2)/3=j/3 by omega,e2];rfl
   ·rw[aak (by rw[hl];omega),aak (by rw[aQ];simp;omega)]
  rw[<-this];exact hr
 ·obtain⟨i,hi,rfl⟩:=aaw.1 hr
  exact(hO i (mem_range.1 hi)).1
end
end
