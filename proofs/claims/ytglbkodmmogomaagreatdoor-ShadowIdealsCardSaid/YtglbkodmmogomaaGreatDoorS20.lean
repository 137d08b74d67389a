/- The document's expressions: what one comes to. -/
import Derived.Test.YtglbkodmmogomaaGreatDoorS19
set_option linter.unusedVariables false
set_option linter.unusedSimpArgs false
set_option maxHeartbeats 16000000
set_option maxRecDepth 100000
namespace Go.Proofs.YtglbkodmmogomaaGreatDoor
open List Go.Proofs.Tryz
section
open Go Go.RowKit
attribute [local irreducible] dI
def tI (b:Bool):Int:=if b then 1 else 0
def gI:EV->Int| .num n=>n| .jE b=>tI b
def kH (op n:Int)(env:Env)(a b c:Int):Int:=
 if op=1 then n else if op=2 then env.key else if op=3 then env.val else if op=4 then env.acc
 else if op=5 then wrap64 (-a)else if op=6 then wrap64 (1-a)
 else if op=7 then wrap64 (a+b)else if op=8 then wrap64 (a-b)else if op=9 then wrap64 (a*b)
 else if op=10 then(if b=0 then 0 else wrap64 (a.tdiv b))else if op=11 then(if b=0 then 0 else a.tmod b)
 else if op=12 then tI (decide (a<b))else if op=13 then tI (decide (a<=b))else if op=14 then tI (a==b)else if op=15 then tI (a !=b)
 else if op=16 then wrap64 (a*b)else if op=17 then tI (decide (0<wrap64 (a+b)))
 else if a=1 then b else c
theorem adC {w:World}{env:Env}(he:iK env){f:Nat}{x:Ex}{v:Array Value}(h:aF w v x)(hm:bg (f+1) x=true)(ht:aC (f+1) x≠0):
 gI (aK (f+1) env x)=kH x.op x.n env ((x.args.map fun y=>gI (aK f env y)).getD 0 0) ((x.args.map fun y=>gI (aK f env y)).getD 1 0) ((x.args.map fun y=>gI (aK f env y)).getD 2 0):=by
 rcases FT hm ht with⟨_,hop⟩|⟨y1,ha,m1,hh⟩|⟨y1,y2,ha,m1,m2,hh⟩|⟨y1,y2,y3,ha,m1,m2,m3,hop,t1,t2,t3⟩
 ·obtain⟨op,n,args⟩:=x
  simp only[Ex.op]at hop
  rcases hop with rfl|rfl|rfl|rfl<;>rfl
 ·have s1:=h.vH he (i:=0) (by rw[ha];rfl) m1 (by omega)
  obtain⟨op,n,args⟩:=x;simp only[Ex.op,Ex.args]at hh ha;subst ha
  rcases hh with⟨rfl,t1,_⟩|⟨rfl,t1,_⟩
  ·obtain⟨u,hu⟩:=EV.Bf (s1.1.trans t1)
   show gI (.num (wrap64 (-(aK f env y1).n)))=wrap64 (-(gI (aK f env y1)));rw[hu];rfl
  ·obtain⟨u,hu⟩:=EV.Eo (s1.1.trans t1)
   show gI (.jE (!(aK f env y1).b))=wrap64 (1-(gI (aK f env y1)));rw[hu];cases u<;>simp[gI,EV.b,tI,wrap64]
 ·have s1:=h.vH he (i:=0) (by rw[ha];rfl) m1 (by omega)
  have s2:=h.vH he (i:=1) (by rw[ha];rfl) m2 (by omega);obtain⟨op,n,args⟩:=x;simp only[Ex.op,Ex.args]at hh ha;subst ha
  rcases hh with⟨hop,t1,t2,_⟩|⟨hop,t1,t2,_⟩|⟨hop,t1,t2,_⟩
  ·obtain⟨u,hu⟩:=EV.Bf (s1.1.trans t1)
   obtain⟨v,hv⟩:=EV.Bf (s2.1.trans t2);have e2:aK (f+1) env (.mk op n [y1,y2])=fH op (.num u) (.num v):=by
    rw[<-hu,<-hv]
    rcases hop with rfl|rfl|rfl|rfl|rfl<;>rfl
   rw[e2];show _=kH op n env (gI (aK f env y1)) (gI (aK f env y2)) 0;rw[hu,hv]
   rcases hop with rfl|rfl|rfl|rfl|rfl
   ·rfl
   ·rfl
   ·rfl
   ·by_cases h0:v=0
    ·subst h0;rfl
    ·have:fH 10 (.num u) (.num v)= .num (wrap64 (u.tdiv v)):=by unfold fH;simp[EV.n,h0]
     rw[this];unfold kH;simp[gI,h0]
   ·by_cases h0:v=0
    ·subst h0;rfl
    ·have:fH 11 (.num u) (.num v)= .num (u.tmod v):=by unfold fH;simp[EV.n,h0]
     rw[this];unfold kH;simp[gI,h0]
  ·obtain⟨u,hu⟩:=EV.Bf (s1.1.trans t1)
   obtain⟨v,hv⟩:=EV.Bf (s2.1.trans t2);have e2:aK (f+1) env (.mk op n [y1,y2])=fH op (.num u) (.num v):=by
    rw[<-hu,<-hv]
    rcases hop with rfl|rfl|rfl|rfl<;>rfl
   rw[e2];show _=kH op n env (gI (aK f env y1)) (gI (aK f env y2)) 0;rw[hu,hv]
   rcases hop with rfl|rfl|rfl|rfl<;>rfl
  ·obtain⟨u,hu⟩:=EV.Eo (s1.1.trans t1)
   obtain⟨v,hv⟩:=EV.Eo (s2.1.trans t2);have e2:aK (f+1) env (.mk op n [y1,y2])=fH op (.jE u) (.jE v):=by
    rw[<-hu,<-hv]
    rcases hop with rfl|rfl|rfl|rfl<;>rfl
   rw[e2];show _=kH op n env (gI (aK f env y1)) (gI (aK f env y2)) 0;rw[hu,hv]
   rcases hop with rfl|rfl|rfl|rfl<;>cases u<;>cases v<;>first|rfl|(simp[kH,fH,gI,EV.b,EV.n,tI,wrap64];done)
 ·have s1:=h.vH he (i:=0) (by rw[ha];rfl) m1 (by omega)
  obtain⟨u,hu⟩:=EV.Eo (s1.1.trans t1);obtain⟨op,n,args⟩:=x;simp only[Ex.op,Ex.args]at hop ha;subst ha hop;show gI (if(aK f env y1).b then aK f env y2 else aK f env y3)=(if gI (aK f env y1)=1 then gI (aK f env y2)else gI (aK f env y3));rw[hu];cases u<;>rfl
theorem wz (b:Bool)(w:World):Calls prog 243 #[.bool b] w (Is w (.int .i64 (tI b))):=by
 cases b with
 |true=>go_enter func243,ntmps243;go_wp2;go_ret;exact⟨rfl,rfl⟩
 |false=>go_enter func243,ntmps243;go_wp2;go_ret;exact⟨rfl,rfl⟩
theorem ri {a b:Int}(h:a=b):Ending.returned (.int .i64 a)= .returned (.int .i64 b):=by rw[h]
theorem adS {v:EV}(h:aJ v.n):aJ (gI v):=by
 cases v with
 |num n=>exact h
 |jE b=>cases b<;>exact .small (by decide) (by decide)
def afY (f:Nat):Prop:= ∀(x:Ex)(a:Array Value)(env:Env)(w:World),aF w a x->iK env->bg f x=true->aC f x≠0->Calls prog 215 #[.agg a,fD env] w (Gives w (.int .i64 (gI (aK f env x))))
theorem Uh: ∀f,afY f
 |0=>fun x a env w h he hm ht=>absurd hm (by cases x;simp[bg])
 |f+1=>fun x a env w h he hm ht=>by
  have HV:=γ (adC he h hm ht);obtain⟨hop1,hop2⟩:=zo (by obtain⟨_,_,_,h0,_⟩:=h.parts;exact h0) (show arity x.op=x.args.length by obtain⟨op,n,args⟩:=x;exact(uq hm).1);have hAR:arity x.op=x.args.length:=(by obtain⟨op,n,args⟩:=x;exact(uq hm).1);have hl:x.args.length<=3:=by have:=yG x.op;omega
  have HS:=γ (show∀y∈x.args,bg f y=true/\aC f y≠0/\aJ (aK f env y).n from fun y hy=>by
   obtain⟨i,hi⟩:=mem_iff_getElem?.1 hy;have h1:bg f y=true:=(by obtain⟨op,n,args⟩:=x;exact(uq hm).2.2.2 y hy);have h2:aC f y≠0:=by obtain⟨op,n,args⟩:=x;exact(Kt ht).1 y hy
   exact⟨h1,h2,(h.vH he hi h1 h2).2⟩)
  obtain⟨p,cap,rfl,h0,h1,h2,h3,h4,h5⟩:=h.parts;have IH:=γ (Uh f);have H5:=γ h5;obtain⟨L,hL⟩:=acu (x.args.map fun y=>gI (aK f env y));rw[hL]at HV;have HL:=γ (show L.length=x.args.length by rw[<-hL];simp)
  have HT:=γ (show∀t∈L,aJ t by
   intro t ht;rw[<-hL]at ht;obtain⟨y,hy,rfl⟩:=aaw.1 ht
   exact adS (HS.o y hy).2.2)
  have HA:=γ hAR;have HR:=γ hL;have HE:=γ he;obtain⟨⟨k1,k2⟩,⟨v1,v2⟩,⟨c1,c2⟩⟩:=(id he:iK env);unfold aJ at h2;unfold maxLen at h4;clear h h5 hAR hL he hm ht;unfold fD;go_enter func215,ntmps215;go_wp2_with fail;obtain⟨W0,hW0⟩:=acu ((w.alloc (.cells #[.int .u8 x.op,.int .i64 x.n,.slice p x.args.length cap] 40)).alloc (.cells #[.int .i64 env.key,.int .i64 env.val,.int .i64 env.acc] 182));have k0:ε η w W0:=(by rw[<-hW0];exact(δ.alloc _).alloc _);have dB:W0.heap[w.heap.size]?=some (.cells #[.int .u8 x.op,.int .i64 x.n,.slice p x.args.length cap] 40 (0,0)):=(by rw[<-hW0];exact((ε.refl η _).alloc _).heap (heap_alloc_new w _) id);have eB:W0.heap[w.heap.size+1]?=some (.cells #[.int .i64 env.key,.int .i64 env.val,.int .i64 env.acc] 182 (0,0)):=(by rw[<-hW0];have:=heap_alloc_new (w.alloc (.cells #[.int .u8 x.op,.int .i64 x.n,.slice p x.args.length cap] 40)) (.cells #[.int .i64 env.key,.int .i64 env.val,.int .i64 env.acc] 182);rwa[World.size_alloc]at this);have hs0:w.heap.size+1<W0.heap.size:=(κ.1 eB).1;rw[hW0];have K0:=γ (θ k0 (θ dB eB));clear hW0 k0 dB eB;go_loopg [5,6] x.args.length (fun g vs vi wr=> ∃k:Nat,k<=x.args.length/\vi= .int .i64 (k:Int)/\x.args.length-k<=g/\wr.ownsRow W0.heap.size 2 1 vs k (ints (L.take k))/\ε η W0 wr)
  case atStart=>exact⟨0,by omega,rfl,by omega,World.ownsRow_nil _ _ _ _,ε.refl _ _⟩
  case round=>
   obtain⟨k,hkl,rfl,hg,ho,hkp⟩:=hrel;obtain⟨wo,rfl⟩: ∃wo:World,wo=wr:=⟨_,rfl⟩;have oD:=hkp.heap K0.o.2.1 id;have oE:=hkp.heap K0.o.2.2 id;have dd:wo.cell? ⟨w.heap.size,2,none⟩=some (.slice p x.args.length cap):=ζ oD rfl;obtain⟨a1,c1,rfl⟩:=au ho;have hsw:w.heap.size+1<wo.heap.size:=Pe hs0 hkp.size;have hsx:w.heap.size<wo.heap.size:=(by omega);by_cases hlt:k<x.args.length
   ·obtain⟨y,hy⟩: ∃y,x.args[k]?=some y:=⟨_,ι hlt⟩
    obtain⟨b,off,p',cap',rfl,q0,q1,q2,hy2⟩:=H5.o k y hy;have hW:=(K0.o.1.trans hkp:ε η w wo);have hbl:b<w.heap.size:=block_lt_of_cell q0;have hB1:w.heap.size<W0.heap.size:=(by omega);have hB3:b<W0.heap.size:=(by omega);have r0:=hW.cell (p:=⟨b,off+k*3,none⟩) id q0;have r1:=hW.cell (p:=⟨b,off+k*3+1,none⟩) id q1;have r2:=hW.cell (p:=⟨b,off+k*3+2,none⟩) id q2;have e0:wo.cell? ⟨w.heap.size+1,0,none⟩=some (.int .i64 env.key):=ζ oE rfl;have e1:wo.cell? ⟨w.heap.size+1,1,none⟩=some (.int .i64 env.val):=ζ oE rfl;have e2:wo.cell? ⟨w.heap.size+1,2,none⟩=some (.int .i64 env.acc):=ζ oE rfl;have kd:ε η wo wo.drew:=δ.drew;have cc:=IH.o y _ env wo.drew (aF.pure (hW.trans kd) hy2) HE.o (HS.o y (ς hy)).1 (HS.o y (ς hy)).2.1;have HN:=γ (show L[k]?=some (gI (aK f env y)) by rw[<-HR.o,aav,hy];rfl);have hno: ∀q,q<W0.heap.size-> ¬(Value.slice a1 k c1).ownBlock=some q:=fun q hq e=>(by have:=(ho.lt _ e).1;omega);have Y:=γ (θ dd (θ r0 (θ r1 (θ r2 (θ e0 (θ e1 e2))))));have uD:=γ (θ hg (θ hkp ho));clear q0 q1 q2 hy hy2 hW hkp hg ho oD oE r0 r1 r2 e0 e1 e2 kd;unfold fD at cc;go_wp2;refine ak [0,1,2,3,4,5,6,7,8,9,10] (fun W=>ε (fun q=>(Value.slice a1 k c1).ownBlock=some q) wo W) (by kernel_rfl) (by kernel_rfl) rfl δ.drew ?_;simp only[aco];iterate 7 (apply aj rfl rfl;(intro W hW;have o0:=hW.cell (p:=⟨w.heap.size,2,none⟩) (hno _ hB1) Y.o.1;have o1:=hW.cell (p:=⟨b,off+k*3,none⟩) (hno _ hB3) Y.o.2.1;have o2:=hW.cell (p:=⟨b,off+k*3+1,none⟩) (hno _ hB3) Y.o.2.2.1;have o3:=hW.cell (p:=⟨b,off+k*3+2,none⟩) (hno _ hB3) Y.o.2.2.2.1;have o4:=hW.cell (p:=⟨w.heap.size+1,0,none⟩) (hno _ hs0) Y.o.2.2.2.2.1;have o5:=hW.cell (p:=⟨w.heap.size+1,1,none⟩) (hno _ hs0) Y.o.2.2.2.2.2.1;have o6:=hW.cell (p:=⟨w.heap.size+1,2,none⟩) (hno _ hs0) Y.o.2.2.2.2.2.2;go_simp;rfl);go_frame)
    apply ay rfl rfl;intro K hK;go_wp2_with fail;refine cc.mono ?_;clear cc;rintro e w5 ⟨rfl,k5⟩;obtain⟨T,hT⟩:=acu (gI (aK f env y));rw[hT]at HN;rw[hT];clear hT;go_wp2_with fail;have zJ:=k5.aW;refine hK _ _ (fun _=>zJ.pure) ?_;clear hK;have o5:=zJ.owns uD.o.2.2 (fun _ _ h=>h);obtain⟨i1,hi1,hz1,hsz1,CX⟩:=info_parts Tryz.info2;obtain⟨g1,cp1,w6,s1,p1,e1⟩:=lK (x:= .int .i64 T) (bytes:=8) underlying97 hi1 hz1 hsz1 CX rfl rfl o5 (by omega) (by omega) (by have:=uD.o.2.1.size;have:=zJ.size;omega) 97;have hown: ∀i,(Value.slice a1 k c1).ownBlock=some i->W0.heap.size<=i:=fun i hi=>(aY o5 hi).1;have k4:ε η W0 w6:=(uD.o.2.1.trans zJ).new e1 (fun i hi e=>by have:=hown i e;omega);have S1:=γ s1;have G:=γ (θ p1 (θ k4 (θ zJ e1)));clear o5 hi1 hz1 hsz1 CX p1 e1 hown k4 k5 zJ s1;apply ay rfl rfl;intro K2 hK2;go_wp2;refine hK2 _ _ (fun _=>(G.o.2.2.1.alloc _).pure) ?_;clear hK2;apply ay rfl rfl;intro K3 hK3;refine rZ (.tmp 14) (.tmp 22) 97 rfl _ _ _ rfl rfl S1.o ?_;refine hK3 _ _ (fun _=>G.o.2.2.1.pure.trans G.o.2.2.2) ?_;clear hK3;apply aj rfl rfl
    ·intro W hW;go_simp;rfl
    go_frame;refine aA (fun _=>G.o.2.2.1.pure.trans G.o.2.2.2) ?_;go_wp2;go_roundg (x.args.length-(k+1))
    case rel=>refine⟨k+1,by omega,by go_num,ξ _,?_,G.o.2.1⟩;have e:ints (L.take (k+1))=ints (L.take k)++[.int .i64 T]:=(by unfold ints;rw[ψ,HN.o];simp);rw[e];exact G.o.1
    case measure=>have:=uD.o.1;omega
   ·obtain rfl:k=x.args.length:=by omega
    rw[χ (by rw[HL.o];exact ξ _)]at ho;obtain⟨pa,n',pc,pe,_,_,_,hcell⟩:=Reads.aN ho
    injection pe with pe1 Em BZ
    subst pe1 BZ;have e0:=ζ oD (j:=0) (v:= .int .u8 x.op) rfl;have e1:=ζ oD (j:=1) (v:= .int .i64 x.n) rfl;have g0:wo.cell? ⟨w.heap.size+1,0,none⟩=some (.int .i64 env.key):=ζ oE rfl;have g1:wo.cell? ⟨w.heap.size+1,1,none⟩=some (.int .i64 env.val):=ζ oE rfl;have g2:wo.cell? ⟨w.heap.size+1,2,none⟩=some (.int .i64 env.acc):=ζ oE rfl;obtain⟨o,hox⟩:=acu x.op;have KF:=γ (K0.o.1.trans hkp)
    have Y:=γ (show L=[]\/ ∃bi bW,a1=some ⟨bi,bW,none⟩/\ ∀k t,L[k]?=some t->wo.cell? ⟨bi,bW+k,none⟩=some (.int .i64 t)from by
     rcases hcell with h|⟨bi,bW,rfl,hc⟩
     ·left;unfold ints at h;simpa using h
     ·exact .inr ⟨bi,bW,rfl,fun k t ht=>hc k _ (by unfold ints;rw[aav,ht];rfl)⟩)
    clear ho hkp Em hg oD oE hcell;rw[hox]at hop1 hop2 HA e0 h0 h1 HV;clear hox;obtain⟨N,hN⟩:=acu x.args.length;rw[hN]at HA HL dd hl h3;rw[hN];clear hN hkl hlt HR H5 IH HS;obtain rfl|rfl|rfl|rfl|rfl|rfl|rfl|rfl|rfl|rfl|rfl|rfl|rfl|rfl|rfl|rfl|rfl|rfl:o=1\/o=2\/o=3\/o=4\/o=5\/o=6\/o=7\/o=8\/o=9\/o=10\/o=11\/o=12\/o=13\/o=14\/o=15\/o=16\/o=17\/o=18:=by omega
    ·have jX:N=0:=by have:=HA.o;unfold arity at this;simp at this;omega
     subst jX;have Z:=γ (show gI (aK (f+1) env x)=x.n from by rw[HV.o];unfold kH;simp);go_wp2;go_ret;exact⟨by rw[Z.o];first|rfl|(rw[<-IntWalk.i64_left];rfl),KF.o⟩
    ·have jX:N=0:=by have:=HA.o;unfold arity at this;simp at this;omega
     subst jX;have Z:=γ (show gI (aK (f+1) env x)=env.key from by rw[HV.o];unfold kH;simp);go_wp2;go_ret;exact⟨by rw[Z.o];first|rfl|(rw[<-IntWalk.i64_left];rfl),KF.o⟩
    ·have jX:N=0:=by have:=HA.o;unfold arity at this;simp at this;omega
     subst jX;have Z:=γ (show gI (aK (f+1) env x)=env.val from by rw[HV.o];unfold kH;simp);go_wp2;go_ret;exact⟨by rw[Z.o];first|rfl|(rw[<-IntWalk.i64_left];rfl),KF.o⟩
    ·have jX:N=0:=by have:=HA.o;unfold arity at this;simp at this;omega
     subst jX;have Z:=γ (show gI (aK (f+1) env x)=env.acc from by rw[HV.o];unfold kH;simp);go_wp2;go_ret;exact⟨by rw[Z.o];first|rfl|(rw[<-IntWalk.i64_left];rfl),KF.o⟩
    ·have jX:N=1:=by have:=HA.o;unfold arity at this;simp at this;omega
     subst jX
     obtain⟨a,nX⟩: ∃a,L=[a]:=by
      have h:=HL.o
      match L,h with|[a],_=>exact⟨a,rfl⟩
     subst nX;obtain⟨bi,bW,rfl,hc⟩:=Y.o.resolve_left (by simp);have y0:wo.cell? ⟨bi,bW,none⟩=some (.int .i64 a):=hc 0 a rfl;have R0:=HT.o a (by simp);unfold aJ at R0;have Z:=γ (show gI (aK (f+1) env x)=wrap64 (-a)from by rw[HV.o];unfold kH;simp);clear hc HV HA HL HT Y;go_wp2;go_ret;exact⟨by rw[Z.o];first|rfl|(rw[<-IntWalk.i64_left];rfl),KF.o⟩
    ·have jX:N=1:=by have:=HA.o;unfold arity at this;simp at this;omega
     subst jX
     obtain⟨a,nX⟩: ∃a,L=[a]:=by
      have h:=HL.o
      match L,h with|[a],_=>exact⟨a,rfl⟩
     subst nX;obtain⟨bi,bW,rfl,hc⟩:=Y.o.resolve_left (by simp);have y0:wo.cell? ⟨bi,bW,none⟩=some (.int .i64 a):=hc 0 a rfl;have R0:=HT.o a (by simp);unfold aJ at R0;have Z:=γ (show gI (aK (f+1) env x)=wrap64 (1-a)from by rw[HV.o];unfold kH;simp);clear hc HV HA HL HT Y;go_wp2;go_ret;exact⟨by rw[Z.o];first|rfl|(rw[<-IntWalk.i64_left];rfl),KF.o⟩
    ·have jX:N=2:=by have:=HA.o;unfold arity at this;simp at this;omega
     subst jX
     obtain⟨a,b,nX⟩: ∃a b,L=[a,b]:=by
      have h:=HL.o
      match L,h with|[a,b],_=>exact⟨a,b,rfl⟩
     subst nX;obtain⟨bi,bW,rfl,hc⟩:=Y.o.resolve_left (by simp);have y0:wo.cell? ⟨bi,bW,none⟩=some (.int .i64 a):=hc 0 a rfl;have R0:=HT.o a (by simp);unfold aJ at R0;have y1:wo.cell? ⟨bi,bW+1,none⟩=some (.int .i64 b):=hc 1 b rfl;have R1:=HT.o b (by simp);unfold aJ at R1;have Z:=γ (show gI (aK (f+1) env x)=wrap64 (a+b)from by rw[HV.o];unfold kH;simp);clear hc HV HA HL HT Y;go_wp2;refine acv [0,1,2,3,4,5,6,7] ?_;simp only[aco];iterate 8 (apply aj rfl rfl;(intro W hW;have z0:=hW.cell id y0;have z1:=hW.cell id y1;go_simp;rfl);go_frame)
     refine aA (fun _=>δ.drew) ?_;go_wp2;go_ret;exact⟨by rw[Z.o];first|rfl|(rw[<-IntWalk.i64_left];rfl),KF.o.trans δ.drew⟩
    ·have jX:N=2:=by have:=HA.o;unfold arity at this;simp at this;omega
     subst jX
     obtain⟨a,b,nX⟩: ∃a b,L=[a,b]:=by
      have h:=HL.o
      match L,h with|[a,b],_=>exact⟨a,b,rfl⟩
     subst nX;obtain⟨bi,bW,rfl,hc⟩:=Y.o.resolve_left (by simp);have y0:wo.cell? ⟨bi,bW,none⟩=some (.int .i64 a):=hc 0 a rfl;have R0:=HT.o a (by simp);unfold aJ at R0;have y1:wo.cell? ⟨bi,bW+1,none⟩=some (.int .i64 b):=hc 1 b rfl;have R1:=HT.o b (by simp);unfold aJ at R1;have Z:=γ (show gI (aK (f+1) env x)=wrap64 (a-b)from by rw[HV.o];unfold kH;simp);clear hc HV HA HL HT Y;go_wp2;refine acv [0,1,2,3,4,5,6,7] ?_;simp only[aco];iterate 8 (apply aj rfl rfl;(intro W hW;have z0:=hW.cell id y0;have z1:=hW.cell id y1;go_simp;rfl);go_frame)
     refine aA (fun _=>δ.drew) ?_;go_wp2;go_ret;exact⟨by rw[Z.o];first|rfl|(rw[<-IntWalk.i64_left];rfl),KF.o.trans δ.drew⟩
    ·have jX:N=2:=by have:=HA.o;unfold arity at this;simp at this;omega
     subst jX
     obtain⟨a,b,nX⟩: ∃a b,L=[a,b]:=by
      have h:=HL.o
      match L,h with|[a,b],_=>exact⟨a,b,rfl⟩
     subst nX;obtain⟨bi,bW,rfl,hc⟩:=Y.o.resolve_left (by simp);have y0:wo.cell? ⟨bi,bW,none⟩=some (.int .i64 a):=hc 0 a rfl;have R0:=HT.o a (by simp);unfold aJ at R0;have y1:wo.cell? ⟨bi,bW+1,none⟩=some (.int .i64 b):=hc 1 b rfl;have R1:=HT.o b (by simp);unfold aJ at R1;have Z:=γ (show gI (aK (f+1) env x)=wrap64 (a*b)from by rw[HV.o];unfold kH;simp);clear hc HV HA HL HT Y;go_wp2;refine acv [0,1,2,3,4,5,6,7] ?_;simp only[aco];iterate 8 (apply aj rfl rfl;(intro W hW;have z0:=hW.cell id y0;have z1:=hW.cell id y1;go_simp;rfl);go_frame)
     refine aA (fun _=>δ.drew) ?_;go_wp2;go_ret;exact⟨by rw[Z.o];first|rfl|(rw[<-IntWalk.i64_left];rfl),KF.o.trans δ.drew⟩
    ·have jX:N=2:=by have:=HA.o;unfold arity at this;simp at this;omega
     subst jX
     obtain⟨a,b,nX⟩: ∃a b,L=[a,b]:=by
      have h:=HL.o
      match L,h with|[a,b],_=>exact⟨a,b,rfl⟩
     subst nX;obtain⟨bi,bW,rfl,hc⟩:=Y.o.resolve_left (by simp);have y0:wo.cell? ⟨bi,bW,none⟩=some (.int .i64 a):=hc 0 a rfl;have R0:=HT.o a (by simp);unfold aJ at R0;have y1:wo.cell? ⟨bi,bW+1,none⟩=some (.int .i64 b):=hc 1 b rfl;have R1:=HT.o b (by simp);unfold aJ at R1;have Z:=γ (show gI (aK (f+1) env x)=(if b=0 then 0 else wrap64 (a.tdiv b))from by rw[HV.o];unfold kH;simp);clear hc HV HA HL HT Y;by_cases hb0:b=0
     ·have Z2:=γ (Z.o.trans (if_pos hb0))
      subst hb0;clear Z;go_wp2;go_ret;exact⟨by rw[Z2.o];first|rfl|(rw[<-IntWalk.i64_left];rfl),KF.o⟩
     ·have Z2:=γ (Z.o.trans (if_neg hb0))
      have hbb:(b==0)=false:=beq_eq_false_iff_ne.2 hb0;clear Z;go_wp2;refine acv [0,1,2,3,4,5,6,7] ?_;simp only[aco];iterate 8 (apply aj rfl rfl;(intro W hW;have z0:=hW.cell id y0;have z1:=hW.cell id y1;go_simp;rfl);go_frame)
      refine aA (fun _=>δ.drew) ?_;go_wp2;go_ret;exact⟨by rw[Z2.o];first|rfl|(rw[<-IntWalk.i64_left];rfl),KF.o.trans δ.drew⟩
    ·have jX:N=2:=by have:=HA.o;unfold arity at this;simp at this;omega
     subst jX
     obtain⟨a,b,nX⟩: ∃a b,L=[a,b]:=by
      have h:=HL.o
      match L,h with|[a,b],_=>exact⟨a,b,rfl⟩
     subst nX;obtain⟨bi,bW,rfl,hc⟩:=Y.o.resolve_left (by simp);have y0:wo.cell? ⟨bi,bW,none⟩=some (.int .i64 a):=hc 0 a rfl;have R0:=HT.o a (by simp);unfold aJ at R0;have y1:wo.cell? ⟨bi,bW+1,none⟩=some (.int .i64 b):=hc 1 b rfl;have R1:=HT.o b (by simp);unfold aJ at R1;have Z:=γ (show gI (aK (f+1) env x)=(if b=0 then 0 else a.tmod b)from by rw[HV.o];unfold kH;simp);clear hc HV HA HL HT Y;by_cases hb0:b=0
     ·have Z2:=γ (Z.o.trans (if_pos hb0))
      subst hb0;clear Z;go_wp2;go_ret;exact⟨by rw[Z2.o];first|rfl|(rw[<-IntWalk.i64_left];rfl),KF.o⟩
     ·have Z2:=γ (Z.o.trans (if_neg hb0))
      have hbb:(b==0)=false:=beq_eq_false_iff_ne.2 hb0;clear Z;go_wp2;refine acv [0,1,2,3,4,5,6,7] ?_;simp only[aco];iterate 8 (apply aj rfl rfl;(intro W hW;have z0:=hW.cell id y0;have z1:=hW.cell id y1;go_simp;rfl);go_frame)
      refine aA (fun _=>δ.drew) ?_;go_wp2;go_ret;exact⟨by rw[Z2.o];first|rfl|(rw[<-IntWalk.i64_left];rfl),KF.o.trans δ.drew⟩
    ·have jX:N=2:=by have:=HA.o;unfold arity at this;simp at this;omega
     subst jX
     obtain⟨a,b,nX⟩: ∃a b,L=[a,b]:=by
      have h:=HL.o
      match L,h with|[a,b],_=>exact⟨a,b,rfl⟩
     subst nX;obtain⟨bi,bW,rfl,hc⟩:=Y.o.resolve_left (by simp);have y0:wo.cell? ⟨bi,bW,none⟩=some (.int .i64 a):=hc 0 a rfl;have R0:=HT.o a (by simp);unfold aJ at R0;have y1:wo.cell? ⟨bi,bW+1,none⟩=some (.int .i64 b):=hc 1 b rfl;have R1:=HT.o b (by simp);unfold aJ at R1;have Z:=γ (show gI (aK (f+1) env x)=tI (decide (a<b))from by rw[HV.o];unfold kH;simp);clear hc HV HA HL HT Y;go_wp2;refine acv [0,1,2,3,4,5,6,7,8] ?_;simp only[aco];iterate 7 (apply aj rfl rfl;(intro W hW;have z0:=hW.cell id y0;have z1:=hW.cell id y1;go_simp;rfl);go_frame)
     apply ay rfl rfl;intro K hK;go_wp2_with fail;refine(wz _ _).mono ?_;rintro e w' ⟨rfl,rfl⟩;go_wp2;refine hK _ _ (fun _=>δ.drew) ?_;clear hK;apply aj rfl rfl
     ·intro W hW;go_simp;rfl
     go_frame;refine aA (fun _=>δ.drew) ?_;go_wp2;go_ret;exact⟨by rw[Z.o];first|rfl|(rw[<-IntWalk.i64_left];rfl),KF.o.trans δ.drew⟩
    ·have jX:N=2:=by have:=HA.o;unfold arity at this;simp at this;omega
     subst jX
     obtain⟨a,b,nX⟩: ∃a b,L=[a,b]:=by
      have h:=HL.o
      match L,h with|[a,b],_=>exact⟨a,b,rfl⟩
     subst nX;obtain⟨bi,bW,rfl,hc⟩:=Y.o.resolve_left (by simp);have y0:wo.cell? ⟨bi,bW,none⟩=some (.int .i64 a):=hc 0 a rfl;have R0:=HT.o a (by simp);unfold aJ at R0;have y1:wo.cell? ⟨bi,bW+1,none⟩=some (.int .i64 b):=hc 1 b rfl;have R1:=HT.o b (by simp);unfold aJ at R1;have Z:=γ (show gI (aK (f+1) env x)=tI (decide (a<=b))from by rw[HV.o];unfold kH;simp);clear hc HV HA HL HT Y;go_wp2;refine acv [0,1,2,3,4,5,6,7,8] ?_;simp only[aco];iterate 7 (apply aj rfl rfl;(intro W hW;have z0:=hW.cell id y0;have z1:=hW.cell id y1;go_simp;rfl);go_frame)
     apply ay rfl rfl;intro K hK;go_wp2_with fail;refine(wz _ _).mono ?_;rintro e w' ⟨rfl,rfl⟩;go_wp2;refine hK _ _ (fun _=>δ.drew) ?_;clear hK;apply aj rfl rfl
     ·intro W hW;go_simp;rfl
     go_frame;refine aA (fun _=>δ.drew) ?_;go_wp2;go_ret;exact⟨by rw[Z.o];first|rfl|(rw[<-IntWalk.i64_left];rfl),KF.o.trans δ.drew⟩
    ·have jX:N=2:=by have:=HA.o;unfold arity at this;simp at this;omega
     subst jX
     obtain⟨a,b,nX⟩: ∃a b,L=[a,b]:=by
      have h:=HL.o
      match L,h with|[a,b],_=>exact⟨a,b,rfl⟩
     subst nX;obtain⟨bi,bW,rfl,hc⟩:=Y.o.resolve_left (by simp);have y0:wo.cell? ⟨bi,bW,none⟩=some (.int .i64 a):=hc 0 a rfl;have R0:=HT.o a (by simp);unfold aJ at R0;have y1:wo.cell? ⟨bi,bW+1,none⟩=some (.int .i64 b):=hc 1 b rfl;have R1:=HT.o b (by simp);unfold aJ at R1;have Z:=γ (show gI (aK (f+1) env x)=tI ((a==b))from by rw[HV.o];unfold kH;simp);clear hc HV HA HL HT Y;go_wp2;refine acv [0,1,2,3,4,5,6,7,8] ?_;simp only[aco];iterate 7 (apply aj rfl rfl;(intro W hW;have z0:=hW.cell id y0;have z1:=hW.cell id y1;go_simp;rfl);go_frame)
     apply ay rfl rfl;intro K hK;go_wp2_with fail;refine(wz _ _).mono ?_;rintro e w' ⟨rfl,rfl⟩;go_wp2;refine hK _ _ (fun _=>δ.drew) ?_;clear hK;apply aj rfl rfl
     ·intro W hW;go_simp;rfl
     go_frame;refine aA (fun _=>δ.drew) ?_;go_wp2;go_ret;exact⟨by rw[Z.o];first|rfl|(rw[<-IntWalk.i64_left];rfl),KF.o.trans δ.drew⟩
    ·have jX:N=2:=by have:=HA.o;unfold arity at this;simp at this;omega
     subst jX
     obtain⟨a,b,nX⟩: ∃a b,L=[a,b]:=by
      have h:=HL.o
      match L,h with|[a,b],_=>exact⟨a,b,rfl⟩
     subst nX;obtain⟨bi,bW,rfl,hc⟩:=Y.o.resolve_left (by simp);have y0:wo.cell? ⟨bi,bW,none⟩=some (.int .i64 a):=hc 0 a rfl;have R0:=HT.o a (by simp);unfold aJ at R0;have y1:wo.cell? ⟨bi,bW+1,none⟩=some (.int .i64 b):=hc 1 b rfl;have R1:=HT.o b (by simp);unfold aJ at R1;have Z:=γ (show gI (aK (f+1) env x)=tI ((a !=b))from by rw[HV.o];unfold kH;simp);clear hc HV HA HL HT Y;go_wp2;refine acv [0,1,2,3,4,5,6,7,8] ?_;simp only[aco];iterate 7 (apply aj rfl rfl;(intro W hW;have z0:=hW.cell id y0;have z1:=hW.cell id y1;go_simp;rfl);go_frame)
     apply ay rfl rfl;intro K hK;go_wp2_with fail;refine(wz _ _).mono ?_;rintro e w' ⟨rfl,rfl⟩;go_wp2;refine hK _ _ (fun _=>δ.drew) ?_;clear hK;apply aj rfl rfl
     ·intro W hW;go_simp;rfl
     go_frame;refine aA (fun _=>δ.drew) ?_;go_wp2;go_ret;exact⟨by rw[Z.o];first|rfl|(rw[<-IntWalk.i64_left];rfl),KF.o.trans δ.drew⟩
    ·have jX:N=2:=by have:=HA.o;unfold arity at this;simp at this;omega
     subst jX
     obtain⟨a,b,nX⟩: ∃a b,L=[a,b]:=by
      have h:=HL.o
      match L,h with|[a,b],_=>exact⟨a,b,rfl⟩
     subst nX;obtain⟨bi,bW,rfl,hc⟩:=Y.o.resolve_left (by simp);have y0:wo.cell? ⟨bi,bW,none⟩=some (.int .i64 a):=hc 0 a rfl;have R0:=HT.o a (by simp);unfold aJ at R0;have y1:wo.cell? ⟨bi,bW+1,none⟩=some (.int .i64 b):=hc 1 b rfl;have R1:=HT.o b (by simp);unfold aJ at R1;have Z:=γ (show gI (aK (f+1) env x)=wrap64 (a*b)from by rw[HV.o];unfold kH;simp);clear hc HV HA HL HT Y;go_wp2;refine acv [0,1,2,3,4,5,6,7] ?_;simp only[aco];iterate 8 (apply aj rfl rfl;(intro W hW;have z0:=hW.cell id y0;have z1:=hW.cell id y1;go_simp;rfl);go_frame)
     refine aA (fun _=>δ.drew) ?_;go_wp2;go_ret;exact⟨by rw[Z.o];first|rfl|(rw[<-IntWalk.i64_left];rfl),KF.o.trans δ.drew⟩
    ·have jX:N=2:=by have:=HA.o;unfold arity at this;simp at this;omega
     subst jX
     obtain⟨a,b,nX⟩: ∃a b,L=[a,b]:=by
      have h:=HL.o
      match L,h with|[a,b],_=>exact⟨a,b,rfl⟩
     subst nX;obtain⟨bi,bW,rfl,hc⟩:=Y.o.resolve_left (by simp);have y0:wo.cell? ⟨bi,bW,none⟩=some (.int .i64 a):=hc 0 a rfl;have R0:=HT.o a (by simp);unfold aJ at R0;have y1:wo.cell? ⟨bi,bW+1,none⟩=some (.int .i64 b):=hc 1 b rfl;have R1:=HT.o b (by simp);unfold aJ at R1;have Z:=γ (show gI (aK (f+1) env x)=tI (decide (0<wrap64 (a+b)))from by rw[HV.o];unfold kH;simp);clear hc HV HA HL HT Y;go_wp2;refine acv [0,1,2,3,4,5,6,7,8,9] ?_;simp only[aco];iterate 8 (apply aj rfl rfl;(intro W hW;have z0:=hW.cell id y0;have z1:=hW.cell id y1;go_simp;rfl);go_frame)
     apply ay rfl rfl;intro K hK;go_wp2_with fail;refine(wz _ _).mono ?_;rintro e w' ⟨rfl,rfl⟩;go_wp2;refine hK _ _ (fun _=>δ.drew) ?_;clear hK;apply aj rfl rfl
     ·intro W hW;go_simp;rfl
     go_frame;refine aA (fun _=>δ.drew) ?_;go_wp2;go_ret;exact⟨by rw[Z.o];first|rfl|(rw[<-IntWalk.i64_left];rfl),KF.o.trans δ.drew⟩
    ·have jX:N=3:=by have:=HA.o;unfold arity at this;simp at this;omega
     subst jX
     obtain⟨a,b,c,nX⟩: ∃a b c,L=[a,b,c]:=by
      have h:=HL.o
      match L,h with|[a,b,c],_=>exact⟨a,b,c,rfl⟩
     subst nX;obtain⟨bi,bW,rfl,hc⟩:=Y.o.resolve_left (by simp);have y0:wo.cell? ⟨bi,bW,none⟩=some (.int .i64 a):=hc 0 a rfl;have R0:=HT.o a (by simp);unfold aJ at R0;have y1:wo.cell? ⟨bi,bW+1,none⟩=some (.int .i64 b):=hc 1 b rfl;have R1:=HT.o b (by simp);unfold aJ at R1;have y2:wo.cell? ⟨bi,bW+2,none⟩=some (.int .i64 c):=hc 2 c rfl;have R2:=HT.o c (by simp);unfold aJ at R2;have Z:=γ (show gI (aK (f+1) env x)=(if a=1 then b else c)from by rw[HV.o];unfold kH;simp);clear hc HV HA HL HT Y;by_cases ha1:a=1
     ·have Z2:=γ (Z.o.trans (if_pos ha1))
      have haa:(a==1)=true:=beq_iff_eq.2 ha1;clear Z ha1;go_wp2;go_ret;exact⟨by rw[Z2.o];first|rfl|(rw[<-IntWalk.i64_left];rfl),KF.o⟩
     ·have Z2:=γ (Z.o.trans (if_neg ha1))
      have haa:(a==1)=false:=beq_eq_false_iff_ne.2 ha1;clear Z;go_wp2;go_ret;exact⟨by rw[Z2.o];first|rfl|(rw[<-IntWalk.i64_left];rfl),KF.o⟩
end
section
open Go Go.RowKit
theorem JG: ∀(N:Nat)(x:Ex)(a:Array Value)(w:World),SizeOf.sizeOf x<=N->aF w a x->Calls prog 211 #[.agg a] w (Gives w (.bool (ig x)))
 |0,x,_,_,h,_=>by cases x;simp at h
 |N+1,x,a,w,hN,h=>by
  obtain⟨p,cap,rfl,h0,h1,h2,h3,h4,h5⟩:=h.parts;have sub: ∀(i:Nat)(y:Ex),x.args[i]?=some y->SizeOf.sizeOf y<=N:=(by intro i y hy;obtain⟨op,n,args⟩:=x;have h1:=sizeOf_lt_of_mem (ς (show args[i]?=some y from hy));simp at hN;omega);have IH:=γ (fun y a w hy=>JG N y a w hy);have SB:=γ sub;have H5:=γ h5;have HX:=γ (Kv x);unfold maxLen at h4;clear h h5 sub hN;go_enter func211,ntmps211;go_wp2_with fail;obtain⟨W0,hW0⟩:=acu (w.alloc (.cells #[.int .u8 x.op,.int .i64 x.n,.slice p x.args.length cap] 40));have k0:ε η w W0:=(by rw[<-hW0];exact δ.alloc _);have d0:W0.cell? ⟨w.heap.size,0,none⟩=some (.int .u8 x.op):=(by rw[<-hW0];simp);have d2:W0.cell? ⟨w.heap.size,2,none⟩=some (.slice p x.args.length cap):=(by rw[<-hW0];simp);rw[hW0];have K0:=γ k0;clear hW0 k0;go_loopg [3] x.args.length (fun g vi wr=> ∃(k:Nat),k<=x.args.length/\vi= .int .i64 (k:Int)/\x.args.length-k<=g/\(x.args.take k).any ig=false/\ε η W0 wr)
  case atStart=>exact⟨0,by omega,rfl,by omega,by simp,ε.refl _ _⟩
  case round=>
   obtain⟨k,hkl,rfl,hg,hno,hkp⟩:=hrel;have e0:=hkp.cell (p:=⟨w.heap.size,0,none⟩) id d0;have e2:=hkp.cell (p:=⟨w.heap.size,2,none⟩) id d2;have HKP:=γ hkp;have hW:=(K0.o.trans hkp:ε η w wr);clear hkp;by_cases hlt:k<x.args.length
   ·obtain⟨y,hy⟩: ∃y,x.args[k]?=some y:=⟨_,ι hlt⟩
    obtain⟨b,off,p',cap',rfl,q0,q1,q2,hy2⟩:=H5.o k y hy;have r0:=hW.cell (p:=⟨b,off+k*3,none⟩) id q0;have r1:=hW.cell (p:=⟨b,off+k*3+1,none⟩) id q1;have r2:=hW.cell (p:=⟨b,off+k*3+2,none⟩) id q2;have G:=γ (θ hg (θ (aF.pure hW hy2) (θ (SB.o k y hy) (θ hy hno))));have KW:=γ hW;clear q0 q1 q2 hy hy2 hW hg H5 hno;go_wp2_with fail;have c:=IH.o y _ wr G.o.2.2.1 G.o.2.1;refine c.mono ?_;clear c;rintro e w2 ⟨rfl,k2⟩;have K2:=γ (θ (KW.o.trans k2) (HKP.o.trans k2));clear k2
    cases hA:ig y with
    |true=>have F:=γ (show ig x=true by rw[HX.o,Bool.or_eq_true];right;rw[any_eq_true];exact⟨y,ς G.o.2.2.2.1,hA⟩);clear hA;go_wp2;go_ret;exact⟨aP (by rw[F.o]),K2.o.1⟩
    |false=>
     have F:=γ (zq G.o.2.2.2.1 G.o.2.2.2.2 hA);clear hA;go_wp2;go_roundg (x.args.length-(k+1))
     case rel=>exact⟨k+1,by omega,by go_num,ξ _,F.o,K2.o.2⟩
     case measure=>have:=G.o.1;omega
   ·have F:=γ (show ig x=(x.op==4) by
     rw[χ (by omega)]at hno
     rw[HX.o,hno,Bool.or_false])
    have KW:=γ hW;clear hno hW hg;go_wp2;go_ret;exact⟨aP (by rw[F.o]),KW.o⟩
theorem ab6 (x:Ex)(a:Array Value)(w:World)(h:aF w a x):Calls prog 240 #[.agg a] w (Gives w (.int .i64 (ji 17 x:Int))):=by obtain⟨p,cap,rfl,h0,h1,h2,h3,h4,h5⟩:=h.parts;have H:=γ h;clear h h5;go_enter func240,ntmps240;go_wp2_with fail;have k1:ε η w (w.alloc (.cells #[.int .u8 x.op,.int .i64 x.n,.slice p x.args.length cap] 40)):=δ.alloc _;have c:=JD 17 x _ 17 _ rfl (ξ _) (aF.pure k1 H.o);refine c.mono ?_;clear c;rintro e w2 ⟨rfl,k2⟩;have hd:=xP 17 x;obtain⟨D,hD⟩:=acu (ji 17 x);rw[hD]at hd;rw[hD];have HK:=γ (k1.trans k2);have HD:=γ hD;clear hD k1 k2;go_wp2;go_ret;exact⟨Lh (by rw[HD.o]),HK.o⟩
theorem ab1 (x:Ex)(a:Array Value)(w:World)(h:aF w a x):Calls prog 210 #[.agg a] w (Gives w (.bool (bg 16 x))):=by
 have hE:=yF 16 x;obtain⟨p,cap,rfl,h0,h1,h2,h3,h4,h5⟩:=h.parts;have H:=γ h;have HE:=γ hE;clear h h5 hE;go_enter func210,ntmps210;go_wp2_with fail;have k1:ε η w (w.alloc (.cells #[.int .u8 x.op,.int .i64 x.n,.slice p x.args.length cap] 40)):=δ.alloc _;refine(ab6 x _ _ (aF.pure k1 H.o)).mono ?_;rintro e w2 ⟨rfl,k2⟩;have hd:=xP 17 x;obtain⟨D,hD⟩:=acu (ji 17 x);rw[hD]at hd;rw[hD];have HK:=γ (k1.trans k2);have d0:=k2.cell (p:=⟨w.heap.size,0,none⟩) (v:= .int .u8 x.op) id (by simp);have d1:=k2.cell (p:=⟨w.heap.size,1,none⟩) (v:= .int .i64 x.n) id (by simp);have d2:=k2.cell (p:=⟨w.heap.size,2,none⟩) (v:= .slice p x.args.length cap) id (by simp);have HD:=γ hD;clear hD k1 k2;by_cases c:D<=16
 ·have c':(D:Int)<=16:=by omega
  have F:=γ (show bg 16 x=gQ 17 x by rw[HE.o,HD.o,decide_eq_true c];rfl);go_wp2_with fail;have c:=Gj 17 x _ 17 _ rfl (ξ _) (aF.pure HK.o H.o);refine c.mono ?_;clear c;rintro e w3 ⟨rfl,k3⟩;have EO:=γ (HK.o.trans k3);clear k3;obtain⟨B,hB⟩:=acu (gQ 17 x);have FB:=γ (show bg 16 x=B by rw[F.o,hB]);rw[hB];clear hB;go_wp2;go_ret;exact⟨aP FB.o.symm,EO.o⟩
 ·have c': ¬(D:Int)<=16:=by omega
  have F:=γ (show bg 16 x=false by rw[HE.o,HD.o,decide_eq_false c];rfl);go_wp2;go_ret;exact⟨aP F.o.symm,HK.o⟩
def afX (f:Nat):Prop:= ∀(x:Ex)(a:Array Value)(w:World),bg f x=true->aF w a x->Calls prog 212 #[.agg a] w (Gives w (.int .u8 (aC f x)))
theorem Fe: ∀f,afX f
 |0=>fun x a w h=>absurd h (by cases x;simp[bg])
 |f+1=>fun x a w hmay h=>by
  rw[uV]at hmay;simp only[Φ,decide_eq_true_eq]at hmay;obtain⟨⟨⟨m1,_⟩,_⟩,m4⟩:=hmay;obtain⟨p,cap,rfl,h0,h1,h2,h3,h4,h5⟩:=h.parts;have IH:=γ (Fe f);have H5:=γ h5;have HM:=γ (all_eq_true.1 m4);have hop:=zo h0 m1;have hl:x.args.length<=3:=(by have:=yG x.op;omega);obtain⟨R,hR⟩:=acu (x.args.map (aC f));have HL:=γ (show R.length=x.args.length by rw[<-hR];simp)
  have HT:=γ (show∀t∈R,0<=t/\t<=2 by
   intro t ht;rw[<-hR]at ht;obtain⟨y,_,rfl⟩:=aaw.1 ht
   have:=uo f y;omega)
  have HX:=γ (show(∀t∈R,t≠0)->aC (f+1) x=cZ x.op (je R) R by
   intro hz;rw[<-hR]at hz⊢;exact adQ h0 m1 hz)
  have HZ:=γ (show 0∈R->aC (f+1) x=0 by intro hz;rw[<-hR]at hz;exact adR hz);have HA:=γ m1;have HR:=γ hR;unfold aJ at h2;unfold maxLen at h4;clear h h5 m1 m4 hR;go_enter func212,ntmps212;go_wp2_with fail;obtain⟨W0,hW0⟩:=acu (w.alloc (.cells #[.int .u8 x.op,.int .i64 x.n,.slice p x.args.length cap] 40));have k0:ε η w W0:=(by rw[<-hW0];exact δ.alloc _);have d0:W0.cell? ⟨w.heap.size,0,none⟩=some (.int .u8 x.op):=(by rw[<-hW0];simp);have d2:W0.cell? ⟨w.heap.size,2,none⟩=some (.slice p x.args.length cap):=(by rw[<-hW0];simp);rw[hW0];have K0:=γ k0;clear hW0 k0;go_loopg [3,4] x.args.length (fun g vs vi wr=> ∃k:Nat,k<=x.args.length/\vi= .int .i64 (k:Int)/\x.args.length-k<=g/\wr.ownsRow W0.heap.size 5 1 vs k (pY (R.take k))/\ε η W0 wr)
  case atStart=>exact⟨0,by omega,rfl,by omega,World.ownsRow_nil _ _ _ _,ε.refl _ _⟩
  case round=>
   obtain⟨k,hkl,rfl,hg,ho,hkp⟩:=hrel;have dd:=hkp.cell (p:=⟨w.heap.size,2,none⟩) id d2;obtain⟨a1,c1,rfl⟩:=au ho;by_cases hlt:k<x.args.length
   ·obtain⟨y,hy⟩: ∃y,x.args[k]?=some y:=⟨_,ι hlt⟩
    obtain⟨b,off,p',cap',rfl,q0,q1,q2,hy2⟩:=H5.o k y hy;have hW:=(K0.o.trans hkp:ε η w wr);have r0:=hW.cell (p:=⟨b,off+k*3,none⟩) id q0;have r1:=hW.cell (p:=⟨b,off+k*3+1,none⟩) id q1;have r2:=hW.cell (p:=⟨b,off+k*3+2,none⟩) id q2;have HY:=γ (θ (HM.o y (ς hy)) (aF.pure hW hy2));have HN:=γ (show R[k]?=some (aC f y) by rw[<-HR.o,aav,hy];rfl);have uD:=γ (θ hg (θ hkp ho));clear q0 q1 q2 hy hy2 hW hkp hg ho;go_wp2_with fail;have c:=IH.o y _ wr HY.o.1 HY.o.2;refine c.mono ?_;clear c;rintro e w2 ⟨rfl,k2⟩;obtain⟨T,hT⟩:=acu (aC f y);rw[hT]at HN;rw[hT];have hTr:0<=T/\T<=2:=HT.o T (ς HN.o);have o2:=k2.owns uD.o.2.2 (fun _ _ h=>h);obtain⟨i1,hi1,hz1,hsz1,CX⟩:=adN;obtain⟨g1,cp1,w3,s1,p1,e1⟩:=lK (x:= .int .u8 T) (bytes:=1) underlying220 hi1 hz1 hsz1 CX rfl rfl o2 (by omega) (by omega) (by have:=uD.o.2.1.size;have:=k2.size;omega) 220;have hown: ∀i,(Value.slice a1 k c1).ownBlock=some i->W0.heap.size<=i:=fun i hi=>(aY o2 hi).1;have k4:ε η W0 w3:=(uD.o.2.1.trans k2).new e1 (fun i hi e=>by have:=hown i e;omega);have G:=γ (θ p1 k4);clear o2 hi1 hz1 hsz1 CX p1 e1 hown k4 k2 hT;go_wp2_with (at_builtin;refine wpList_append_run rfl (.tmp 14) (.tmp 21) 220 rfl (.slice a1 k c1) (.slice (some ⟨w2.heap.size,0,none⟩) 1 1) _ rfl rfl s1 ?_);go_roundg (x.args.length-(k+1))
    case rel=>refine⟨k+1,by omega,by go_num,ξ _,?_,G.o.2⟩;have e:pY (R.take (k+1))=pY (R.take k)++[.int .u8 T]:=(by unfold pY;rw[ψ,HN.o];simp);rw[e];exact G.o.1
    case measure=>have:=uD.o.1;omega
   ·obtain rfl:k=x.args.length:=by omega
    rw[χ (by rw[HL.o];exact ξ _)]at ho;obtain⟨pa,n',pc,pe,_,_,_,hcell⟩:=Reads.aN ho
    injection pe with pe1 Em BZ
    subst pe1 BZ;have e0:=hkp.cell (p:=⟨w.heap.size,0,none⟩) id d0;obtain⟨o,hox⟩:=acu x.op;have KF:=γ (K0.o.trans hkp);clear ho hkp Em hg;rw[hox]at hop HX HA e0 h0 h1
    have Y:=γ (show R=[]\/ ∃bi bW,a1=some ⟨bi,bW,none⟩/\ ∀k t,R[k]?=some t->wr.cell? ⟨bi,bW+k,none⟩=some (.int .u8 t)from by
     rcases hcell with h|⟨bi,bW,rfl,hc⟩
     ·left;unfold pY at h;simpa using h
     ·exact .inr ⟨bi,bW,rfl,fun k t ht=>hc k _ (by unfold pY;rw[aav,ht];rfl)⟩)
    clear hcell d0 d2;obtain⟨N,hN⟩:=acu x.args.length;rw[hN]at HA HL dd hl h3;rw[hN];clear hN hkl hlt HR HM H5 IH;go_wp2;go_loopg [5,6] N (fun g vs vi W=> ∃k:Nat,k<=N/\vi= .int .i64 (k:Int)/\vs= .int .u8 (je (R.take k))/\N-k<=g/\W=wr/\ ∀t∈R.take k,t≠0)
    case atStart=>exact⟨0,by omega,rfl,by rw[take_zero];rfl,by omega,rfl,by simp⟩
    case round=>
     obtain⟨k,hkl,rfl,rfl,hg,rfl,hall⟩:=hrel;have hSr:=Pq (l:=R.take k) (fun t ht=>HT.o t (mem_of_mem_take ht));by_cases hlt:k<N
     ·obtain⟨t,ht⟩: ∃t,R[k]?=some t:=⟨_,ι (by rw[HL.o];exact hlt)⟩
      obtain⟨bi,bW,rfl,hc⟩:=Y.o.resolve_left (fun h=>by rw[h]at ht;cases ht);have y:=hc k t ht;have htr:=HT.o t (ς ht);have hsn:=Ed ht;obtain⟨S,hS⟩:=acu (je (R.take k));rw[hS]at hSr hsn;rw[hS];have HS:=γ (θ ht (θ hsn (θ hall hg)));have CC:=γ hc;clear ht hsn hall hg hS hc;by_cases t0:t=0
      ·subst t0
       have Z:=γ (HZ.o (ς HS.o.1));go_wp2;go_ret;exact⟨jK Z.o.symm,KF.o⟩
      ·have tb:(t==0)=false:=by simp[t0]
       have nx: ∀z∈R.take (k+1),z≠0:=by
        intro z hz;rw[ψ,HS.o.1]at hz
        rcases aax.1 hz with hz|hz
        ·exact HS.o.2.2.1 z hz
        ·rw[show z=t by simpa using hz];exact t0
       have NX:=γ nx;clear nx t0;by_cases k0:k=0
       ·have kb:((k:Int)==0)=true:=by simp[k0]
        have E:=γ (show je (R.take (k+1))=t by rw[HS.o.2.1,if_pos (.inl k0)]);clear k0;go_wp2;go_roundg (N-(k+1))
        case rel=>exact⟨k+1,by omega,by go_num,by rw[E.o],ξ _,rfl,NX.o⟩
        case measure=>have:=HS.o.2.2.2;omega
       ·have kb:((k:Int)==0)=false:=by simp[k0]
        by_cases st:S=t
        ·have sb:(S==t)=true:=by simp[st]
         have E:=γ (show je (R.take (k+1))=t by rw[HS.o.2.1,if_pos (.inr st)]);clear k0 st;go_wp2;go_roundg (N-(k+1))
         case rel=>exact⟨k+1,by omega,by go_num,by rw[E.o],ξ _,rfl,NX.o⟩
         case measure=>have:=HS.o.2.2.2;omega
        ·have sb:(S==t)=false:=by simp[st]
         have E:=γ (show je (R.take (k+1))=3 by rw[HS.o.2.1,if_neg (by rintro(h|h);exact k0 h;exact st h)]);clear k0 st;go_wp2;go_roundg (N-(k+1))
         case rel=>exact⟨k+1,by omega,by go_num,by rw[E.o],ξ _,rfl,NX.o⟩
         case measure=>have:=HS.o.2.2.2;omega
     ·obtain rfl:k=N:=by omega
      rw[χ (by rw[HL.o];exact ξ _)]at hall hSr;rw[χ (by rw[HL.o];exact ξ _)];have F:=γ (HX.o hall);obtain⟨S,hS⟩:=acu (je R);rw[hS]at hSr F;rw[hS];clear hS hall hg HX HZ;obtain rfl|rfl|rfl|rfl|rfl|rfl|rfl|rfl|rfl|rfl|rfl|rfl|rfl|rfl|rfl|rfl|rfl|rfl:o=1\/o=2\/o=3\/o=4\/o=5\/o=6\/o=7\/o=8\/o=9\/o=10\/o=11\/o=12\/o=13\/o=14\/o=15\/o=16\/o=17\/o=18:=by omega
      ·have Z:=γ (show aC (f+1) x=1 by rw[F.o];simp[cZ])
       go_wp2;go_ret;exact⟨jK Z.o.symm,KF.o⟩
      ·have Z:=γ (show aC (f+1) x=1 by rw[F.o];simp[cZ])
       go_wp2;go_ret;exact⟨jK Z.o.symm,KF.o⟩
      ·have Z:=γ (show aC (f+1) x=1 by rw[F.o];simp[cZ])
       go_wp2;go_ret;exact⟨jK Z.o.symm,KF.o⟩
      ·have Z:=γ (show aC (f+1) x=1 by rw[F.o];simp[cZ])
       go_wp2;go_ret;exact⟨jK Z.o.symm,KF.o⟩
      ·by_cases cS:S=1
       ·have Z:=γ (show aC (f+1) x=1 by rw[F.o];simp[cZ,cS])
        have bS:(S==1)=true:=(by simp[cS]);clear cS;go_wp2;go_ret;exact⟨jK Z.o.symm,KF.o⟩
       ·have Z:=γ (show aC (f+1) x=0 by rw[F.o];simp[cZ,cS])
        have bS:(S==1)=false:=(by simp[cS]);clear cS;go_wp2;go_ret;exact⟨jK Z.o.symm,KF.o⟩
      ·by_cases cS:S=2
       ·have Z:=γ (show aC (f+1) x=2 by rw[F.o];simp[cZ,cS])
        have bS:(S==2)=true:=(by simp[cS]);clear cS;go_wp2;go_ret;exact⟨jK Z.o.symm,KF.o⟩
       ·have Z:=γ (show aC (f+1) x=0 by rw[F.o];simp[cZ,cS])
        have bS:(S==2)=false:=(by simp[cS]);clear cS;go_wp2;go_ret;exact⟨jK Z.o.symm,KF.o⟩
      ·by_cases cS:S=1
       ·have Z:=γ (show aC (f+1) x=1 by rw[F.o];simp[cZ,cS])
        have bS:(S==1)=true:=(by simp[cS]);clear cS;go_wp2;go_ret;exact⟨jK Z.o.symm,KF.o⟩
       ·have Z:=γ (show aC (f+1) x=0 by rw[F.o];simp[cZ,cS])
        have bS:(S==1)=false:=(by simp[cS]);clear cS;go_wp2;go_ret;exact⟨jK Z.o.symm,KF.o⟩
      ·by_cases cS:S=1
       ·have Z:=γ (show aC (f+1) x=1 by rw[F.o];simp[cZ,cS])
        have bS:(S==1)=true:=(by simp[cS]);clear cS;go_wp2;go_ret;exact⟨jK Z.o.symm,KF.o⟩
       ·have Z:=γ (show aC (f+1) x=0 by rw[F.o];simp[cZ,cS])
        have bS:(S==1)=false:=(by simp[cS]);clear cS;go_wp2;go_ret;exact⟨jK Z.o.symm,KF.o⟩
      ·by_cases cS:S=1
       ·have Z:=γ (show aC (f+1) x=1 by rw[F.o];simp[cZ,cS])
        have bS:(S==1)=true:=(by simp[cS]);clear cS;go_wp2;go_ret;exact⟨jK Z.o.symm,KF.o⟩
       ·have Z:=γ (show aC (f+1) x=0 by rw[F.o];simp[cZ,cS])
        have bS:(S==1)=false:=(by simp[cS]);clear cS;go_wp2;go_ret;exact⟨jK Z.o.symm,KF.o⟩
      ·by_cases cS:S=1
       ·have Z:=γ (show aC (f+1) x=1 by rw[F.o];simp[cZ,cS])
        have bS:(S==1)=true:=(by simp[cS]);clear cS;go_wp2;go_ret;exact⟨jK Z.o.symm,KF.o⟩
       ·have Z:=γ (show aC (f+1) x=0 by rw[F.o];simp[cZ,cS])
        have bS:(S==1)=false:=(by simp[cS]);clear cS;go_wp2;go_ret;exact⟨jK Z.o.symm,KF.o⟩
      ·by_cases cS:S=1
       ·have Z:=γ (show aC (f+1) x=1 by rw[F.o];simp[cZ,cS])
        have bS:(S==1)=true:=(by simp[cS]);clear cS;go_wp2;go_ret;exact⟨jK Z.o.symm,KF.o⟩
       ·have Z:=γ (show aC (f+1) x=0 by rw[F.o];simp[cZ,cS])
        have bS:(S==1)=false:=(by simp[cS]);clear cS;go_wp2;go_ret;exact⟨jK Z.o.symm,KF.o⟩
      ·by_cases cS:S=1
       ·have Z:=γ (show aC (f+1) x=2 by rw[F.o];simp[cZ,cS])
        have bS:(S==1)=true:=(by simp[cS]);clear cS;go_wp2;go_ret;exact⟨jK Z.o.symm,KF.o⟩
       ·have Z:=γ (show aC (f+1) x=0 by rw[F.o];simp[cZ,cS])
        have bS:(S==1)=false:=(by simp[cS]);clear cS;go_wp2;go_ret;exact⟨jK Z.o.symm,KF.o⟩
      ·by_cases cS:S=1
       ·have Z:=γ (show aC (f+1) x=2 by rw[F.o];simp[cZ,cS])
        have bS:(S==1)=true:=(by simp[cS]);clear cS;go_wp2;go_ret;exact⟨jK Z.o.symm,KF.o⟩
       ·have Z:=γ (show aC (f+1) x=0 by rw[F.o];simp[cZ,cS])
        have bS:(S==1)=false:=(by simp[cS]);clear cS;go_wp2;go_ret;exact⟨jK Z.o.symm,KF.o⟩
      ·by_cases cS:S=3
       ·have Z:=γ (show aC (f+1) x=0 by rw[F.o];simp[cZ,cS])
        have bS:(S !=3)=false:=(by simp[cS]);clear cS;go_wp2;go_ret;exact⟨jK Z.o.symm,KF.o⟩
       ·have Z:=γ (show aC (f+1) x=2 by rw[F.o];simp[cZ,cS])
        have bS:(S !=3)=true:=(by simp[cS]);clear cS;go_wp2;go_ret;exact⟨jK Z.o.symm,KF.o⟩
      ·by_cases cS:S=3
       ·have Z:=γ (show aC (f+1) x=0 by rw[F.o];simp[cZ,cS])
        have bS:(S !=3)=false:=(by simp[cS]);clear cS;go_wp2;go_ret;exact⟨jK Z.o.symm,KF.o⟩
       ·have Z:=γ (show aC (f+1) x=2 by rw[F.o];simp[cZ,cS])
        have bS:(S !=3)=true:=(by simp[cS]);clear cS;go_wp2;go_ret;exact⟨jK Z.o.symm,KF.o⟩
      ·by_cases cS:S=2
       ·have Z:=γ (show aC (f+1) x=2 by rw[F.o];simp[cZ,cS])
        have bS:(S==2)=true:=(by simp[cS]);clear cS;go_wp2;go_ret;exact⟨jK Z.o.symm,KF.o⟩
       ·have Z:=γ (show aC (f+1) x=0 by rw[F.o];simp[cZ,cS])
        have bS:(S==2)=false:=(by simp[cS]);clear cS;go_wp2;go_ret;exact⟨jK Z.o.symm,KF.o⟩
      ·by_cases cS:S=2
       ·have Z:=γ (show aC (f+1) x=2 by rw[F.o];simp[cZ,cS])
        have bS:(S==2)=true:=(by simp[cS]);clear cS;go_wp2;go_ret;exact⟨jK Z.o.symm,KF.o⟩
       ·have Z:=γ (show aC (f+1) x=0 by rw[F.o];simp[cZ,cS])
        have bS:(S==2)=false:=(by simp[cS]);clear cS;go_wp2;go_ret;exact⟨jK Z.o.symm,KF.o⟩
      ·obtain rfl:k=3:=by have:=HA.o;simp[arity]at this;omega
       match R,HL.o,HT.o,F.o,Y.o with
       |[ta,tb,tc],_,HT,F,Y=>
        obtain⟨bi,bW,rfl,hc⟩:=Y.resolve_left (by simp);have y0:=hc 0 ta rfl;have y1:=hc 1 tb rfl;have y2:=hc 2 tc rfl;rw[Nat.add_zero]at y0;have hta:=HT ta (by simp);have htb:=HT tb (by simp);have htc:=HT tc (by simp);have Fx:=γ F;clear hc F HT Y;by_cases ca:ta=2
        ·have ba:(ta==2)=true:=by simp[ca]
         by_cases cb:tb=tc
         ·have bb:(tb==tc)=true:=by simp[cb]
          have Z:=γ (show aC (f+1) x=tb by rw[Fx.o];simp[cZ,ca,cb]);clear ca cb;go_wp2;refine acv [0,1,2,3,4,5,6,7,8,9,10,11,12] ?_;simp only[aco];iterate 13 (first|(apply aT rfl;go_frame)|(apply aj rfl rfl;(intro W hW;have z0:=hW.cell id y0;have z1:=hW.cell id y1;have z2:=hW.cell id y2;go_simp;rfl);go_frame))
          refine aA (fun _=>δ.drew) ?_;go_wp2;go_ret;exact⟨jK Z.o.symm,KF.o.drew⟩
         ·have bb:(tb==tc)=false:=by simp[cb]
          have Z:=γ (show aC (f+1) x=0 by rw[Fx.o];simp[cZ,ca,cb]);clear ca cb;go_wp2;refine acv [0,1,2,3,4,5,6,7,8,9,10,11,12] ?_;simp only[aco];iterate 13 (first|(apply aT rfl;go_frame)|(apply aj rfl rfl;(intro W hW;have z0:=hW.cell id y0;have z1:=hW.cell id y1;have z2:=hW.cell id y2;go_simp;rfl);go_frame))
          refine aA (fun _=>δ.drew) ?_;go_wp2;go_ret;exact⟨jK Z.o.symm,KF.o.drew⟩
        ·have ba:(ta==2)=false:=by simp[ca]
         have Z:=γ (show aC (f+1) x=0 by rw[Fx.o];simp[cZ,ca]);clear ca;go_wp2;refine acv [0,1,2,3,4,5,6,7,8,9,10,11,12] ?_;simp only[aco];iterate 13 (first|(apply aT rfl;go_frame)|(apply aj rfl rfl;(intro W hW;have z0:=hW.cell id y0;have z1:=hW.cell id y1;have z2:=hW.cell id y2;go_simp;rfl);go_frame))
         refine aA (fun _=>δ.drew) ?_;go_wp2;go_ret;exact⟨jK Z.o.symm,KF.o.drew⟩
theorem Dz {x:Ex}{acc:Bool}{r:Int×Int}{w w':World}{a b:Int}(h:dY x acc=r)(k:ε η w w')(ha:a=r.1)(hb:b=r.2):rO w (dY x acc) (.returned (.tuple #[.int .u8 a,.int .i64 b])) w':=by rw[h,ha,hb];exact⟨rfl,k⟩
theorem JC (x:Ex)(acc:Bool)(a:Array Value)(w:World)(h:aF w a x):Calls prog 174 #[.agg a,.bool acc] w (rO w (dY x acc)):=by
 obtain⟨p,cap,rfl,h0,h1,h2,h3,h4,h5⟩:=h.parts;have H:=γ h;have UW:=γ (show dY x acc=if bg 16 x=false then(0,2)else if acc=false/\ig x=true then(0,90)else if aC 16 x=0 then(0,91)else(aC 16 x,0)from rfl);clear h h5;go_enter func174,ntmps174;go_wp2_with fail;have k1:ε η w (w.alloc (.cells #[.int .u8 x.op,.int .i64 x.n,.slice p x.args.length cap] 40)):=δ.alloc _;refine(ab1 x _ _ (aF.pure k1 H.o)).mono ?_;rintro e w2 ⟨rfl,k2⟩;have d0:=k2.cell (p:=⟨w.heap.size,0,none⟩) (v:= .int .u8 x.op) id (by simp);have d1:=k2.cell (p:=⟨w.heap.size,1,none⟩) (v:= .int .i64 x.n) id (by simp);have d2:=k2.cell (p:=⟨w.heap.size,2,none⟩) (v:= .slice p x.args.length cap) id (by simp);have K2:=γ (k1.trans k2);clear k1 k2
 cases hm:bg 16 x with
 |false=>have F:=γ (show dY x acc=(0,2) by rw[UW.o,if_pos hm]);clear hm;go_wp2;go_ret2;exact Dz F.o K2.o rfl rfl
 |true=>
  have HM:=γ hm;clear hm
  cases acc with
  |true=>
   go_wp2_with fail;have c:=Fe 16 x _ w2 HM.o (aF.pure K2.o H.o);refine c.mono ?_;clear c;rintro e w3 ⟨rfl,k3⟩;have K3:=γ (K2.o.trans k3);clear k3;have ht:=uo 16 x;obtain⟨T,hT⟩:=acu (aC 16 x);rw[hT]at ht;rw[hT];by_cases t0:T=0
   ·have F:=γ (show dY x true=(0,91) by rw[UW.o,if_neg (by rw[HM.o];simp),if_neg (by simp),hT,if_pos t0])
    subst t0;clear hT ht;go_wp2;go_ret2;exact Dz F.o K3.o rfl rfl
   ·have F:=γ (show dY x true=(T,0) by rw[UW.o,if_neg (by rw[HM.o];simp),if_neg (by simp),hT,if_neg t0])
    have tb:(T==0)=false:=(by simp[t0]);have hr:0<=T/\T<=2:=(by omega);clear hT ht t0;go_wp2;go_ret2;exact Dz F.o K3.o rfl rfl
  |false=>
   go_wp2_with fail;have c:=JG _ x _ w2 (ξ _) (aF.pure K2.o H.o);refine c.mono ?_;clear c;rintro e w3 ⟨rfl,k3⟩;have d0:=k3.cell (p:=⟨w.heap.size,0,none⟩) id d0;have d1:=k3.cell (p:=⟨w.heap.size,1,none⟩) id d1;have d2:=k3.cell (p:=⟨w.heap.size,2,none⟩) id d2;have K3:=γ (K2.o.trans k3);clear k3
   cases hA:ig x with
   |true=>have F:=γ (show dY x false=(0,90) by rw[UW.o,if_neg (by rw[HM.o];simp),if_pos (by simp[hA])]);clear hA;go_wp2;go_ret2;exact Dz F.o K3.o rfl rfl
   |false=>
    have HA:=γ hA;clear hA;go_wp2_with fail;have c:=Fe 16 x _ w3 HM.o (aF.pure K3.o H.o);refine c.mono ?_;clear c;rintro e w4 ⟨rfl,k4⟩;have K4:=γ (K3.o.trans k4);clear k4;have ht:=uo 16 x;obtain⟨T,hT⟩:=acu (aC 16 x);rw[hT]at ht;rw[hT];by_cases t0:T=0
    ·have F:=γ (show dY x false=(0,91) by rw[UW.o,if_neg (by rw[HM.o];simp),if_neg (by rw[HA.o];simp),hT,if_pos t0])
     subst t0;clear hT ht;go_wp2;go_ret2;exact Dz F.o K4.o rfl rfl
    ·have F:=γ (show dY x false=(T,0) by rw[UW.o,if_neg (by rw[HM.o];simp),if_neg (by rw[HA.o];simp),hT,if_neg t0])
     have tb:(T==0)=false:=(by simp[t0]);have hr:0<=T/\T<=2:=(by omega);clear hT ht t0;go_wp2;go_ret2;exact Dz F.o K4.o rfl rfl
theorem TD (x:Ex)(acc:Bool):(0<=(dY x acc).1/\(dY x acc).1<=2)/\0<=(dY x acc).2/\(dY x acc).2<=91:=by
 have:=uo 16 x;unfold dY;split
 ·exact⟨⟨by decide,by decide⟩,by decide,by decide⟩
 ·split
  ·exact⟨⟨by decide,by decide⟩,by decide,by decide⟩
  ·split
   ·exact⟨⟨by decide,by decide⟩,by decide,by decide⟩
   ·dsimp only;omega
theorem tH (x:Ex)(acc:Bool)(ty:Int)(a:Array Value)(w:World)(h:aF w a x):Calls prog 139 #[.agg a,.bool acc,.int .u8 ty] w (Gives w (.bool (nP x acc ty))):=by
 obtain⟨p,cap,rfl,_,_,h2,h3,h4,h5⟩:=h.parts;have H:=γ h;have HI:=γ (show nP x acc ty=((dY x acc).2==0&&(dY x acc).1==ty)from rfl);have hr:=TD x acc;clear h h5;go_enter func139,ntmps139;go_wp2_with fail;have k1:ε η w (w.alloc (.cells #[.int .u8 x.op,.int .i64 x.n,.slice p x.args.length cap] 40)):=δ.alloc _;have c:=JC x acc _ _ (aF.pure k1 H.o);refine c.mono ?_;clear c;rintro e w2 ⟨rfl,k2⟩;have K2:=γ (k1.trans k2);clear k1 k2;obtain⟨r,hr'⟩:=acu (dY x acc);rw[hr']at hr;have HR:=γ hr';rw[hr'];clear hr';obtain⟨k,e⟩:=r;dsimp only at hr⊢;obtain⟨⟨r1,r2⟩,r3,r4⟩:=hr;by_cases he:e=0
 ·subst he
  have F:=γ (show nP x acc ty=(k==ty) by rw[HI.o,HR.o];rfl);go_wp2;go_ret;exact⟨aP F.o.symm,K2.o⟩
 ·have eb:(e==0)=false:=by simp[he]
  have F:=γ (show nP x acc ty=false by rw[HI.o,HR.o];simp[he]);clear he;go_wp2;go_ret;exact⟨aP F.o.symm,K2.o⟩
end
section
open Go Go.RowKit
attribute [local irreducible] dI
theorem UQ (x:Ex)(a:Array Value)(env:Env)(w:World)(h:aF w a x)(he:iK env):Calls prog 178 #[.agg a,fD env] w (U3 w x env):=by
 obtain⟨p,cap,rfl,o0,o1,hn,h3,h4,h5⟩:=h.parts;have H:=γ h;have HE:=γ he;clear h h5 he;obtain⟨W0,hW0⟩:=acu (((w.alloc (.cells #[.int .u8 x.op,.int .i64 x.n,.slice p x.args.length cap] 40)).alloc (.cells #[.int .i64 env.key,.int .i64 env.val,.int .i64 env.acc] 182)).alloc (.cells #[.int .u8 0,.int .i64 0,.bool false] 215));have hk0:ε η w W0:=(by rw[<-hW0];exact((δ.alloc _).alloc _).alloc _);have hbx:=AO w x p cap env;have kx:ε η ((w.alloc (.cells #[.int .u8 x.op,.int .i64 x.n,.slice p x.args.length cap] 40)).alloc (.cells #[.int .i64 env.key,.int .i64 env.val,.int .i64 env.acc] 182)) _:=δ.alloc (.cells #[.int .u8 0,.int .i64 0,.bool false] 215);have d0:W0.cell? ⟨w.heap.size,0,none⟩=some (.int .u8 x.op):=(by rw[<-hW0];exact kx.cell id hbx.d0);have d1:W0.cell? ⟨w.heap.size,1,none⟩=some (.int .i64 x.n):=(by rw[<-hW0];exact kx.cell id hbx.d1);have d2:W0.cell? ⟨w.heap.size,2,none⟩=some (.slice p x.args.length cap):=(by rw[<-hW0];exact kx.cell id hbx.d2);have e0:W0.cell? ⟨w.heap.size+1,0,none⟩=some (.int .i64 env.key):=(by rw[<-hW0];exact kx.cell id hbx.e0);have e1:W0.cell? ⟨w.heap.size+1,1,none⟩=some (.int .i64 env.val):=(by rw[<-hW0];exact kx.cell id hbx.e1);have e2:W0.cell? ⟨w.heap.size+1,2,none⟩=some (.int .i64 env.acc):=(by rw[<-hW0];exact kx.cell id hbx.e2);have hB:W0.heap[w.heap.size+1+1]?=some (.cells #[.int .u8 0,.int .i64 0,.bool false] 215 (0,0)):=(by rw[<-hW0];have:=heap_alloc_new ((w.alloc (.cells #[.int .u8 x.op,.int .i64 x.n,.slice p x.args.length cap] 40)).alloc (.cells #[.int .i64 env.key,.int .i64 env.val,.int .i64 env.acc] 182)) (.cells #[.int .u8 0,.int .i64 0,.bool false] 215);simpa[World.size_alloc]using this);have HK:=γ hk0;have HW0:=γ hW0;have HB:=γ hB;clear hk0 hW0 hB hbx kx;go_enter func178,ntmps178;go_wp2_with fail;rw[HW0.o];have c:=JC x true _ W0 (aF.pure HK.o H.o);rw[GV]at c;refine c.mono ?_;clear c;rintro e W1 ⟨rfl,k1⟩;have d0:=k1.cell (p:=⟨w.heap.size,0,none⟩) id d0;have d1:=k1.cell (p:=⟨w.heap.size,1,none⟩) id d1;have d2:=k1.cell (p:=⟨w.heap.size,2,none⟩) id d2;have e0:=k1.cell (p:=⟨w.heap.size+1,0,none⟩) id e0;have e1:=k1.cell (p:=⟨w.heap.size+1,1,none⟩) id e1;have e2:=k1.cell (p:=⟨w.heap.size+1,2,none⟩) id e2;have hB1:=k1.heap HB.o id;have ou:=γ (HK.o.trans k1);clear k1
 cases hok:Df x with
 |false=>obtain⟨n,hr,hn0⟩:=Qd hok;rw[hr];have hnB:(n !=0)=true:=(by simp[hn0]);have z0:W1.cell? ⟨w.heap.size+1+1,0,none⟩=some (.int .u8 0):=ζ hB1 rfl;have z1:W1.cell? ⟨w.heap.size+1+1,1,none⟩=some (.int .i64 0):=ζ hB1 rfl;have z2:W1.cell? ⟨w.heap.size+1+1,2,none⟩=some (.bool false):=ζ hB1 rfl;have f0:=free_at hB1 0;have f1:=free_at hB1 1;have f2:=free_at hB1 2;have F:U3 w x env (.returned (.tuple #[.agg #[.int .u8 0,.int .i64 0,.bool false],.int .i64 n])) (((W1.setCell ⟨w.heap.size+1+1,0,none⟩ (.int .u8 0)).setCell ⟨w.heap.size+1+1,1,none⟩ (.int .i64 0)).setCell ⟨w.heap.size+1+1,2,none⟩ (.bool false)):=(by refine⟨0,n,by unfold dF nZ;rw[hok];rfl,?_⟩;exact((ou.o.setCell (p:=⟨w.heap.size+1+1,0,none⟩) (.inr (by simp;omega)) _).setCell (p:=⟨w.heap.size+1+1,1,none⟩) (.inr (by simp;omega)) _).setCell (p:=⟨w.heap.size+1+1,2,none⟩) (.inr (by simp;omega)) _);have F':=γ F;clear F hok hr hn0 hB1;go_wp2;refine bodyPost_ret (v:= .tuple #[.agg #[.int .u8 0,.int .i64 0,.bool false],.int .i64 n]) (by simp[results,results178,go_sem,z0,z1,z2]) rfl F'.o
 |true=>
  obtain⟨hr,hm,ht⟩:=Fz hok;have hty:=zM HE.o 16 x _ H.o hm ht;rw[hr];have iM:=γ (θ hok (θ hm (θ ht hty)));have HB1:=γ hB1;clear hok hr hm ht hty hB1;go_wp2_with fail;have c:=Uh 16 x _ env W1 (aF.pure ou.o H.o) HE.o iM.o.2.1 iM.o.2.2.1;refine c.mono ?_;clear c;rintro e W2 ⟨rfl,k2⟩;have hB2:=k2.heap HB1.o id;have z0:W2.cell? ⟨w.heap.size+1+1,0,none⟩=some (.int .u8 0):=ζ hB2 rfl;have z1:W2.cell? ⟨w.heap.size+1+1,1,none⟩=some (.int .i64 0):=ζ hB2 rfl;have z2:W2.cell? ⟨w.heap.size+1+1,2,none⟩=some (.bool false):=ζ hB2 rfl;have f0:=free_at hB2 0;have f1:=free_at hB2 1;have f2:=free_at hB2 2;have HK2:=γ (ou.o.trans k2);clear k2 hB2;have fin: ∀(n:Int)(b:Bool),(aK 16 env x).n=n->(aK 16 env x).b=b->U3 w x env (.returned (.tuple #[.agg #[.int .u8 (aC 16 x),.int .i64 n,.bool b],.int .i64 0])) (((W2.setCell ⟨w.heap.size+1+1,0,none⟩ (.int .u8 (aC 16 x))).setCell ⟨w.heap.size+1+1,1,none⟩ (.int .i64 n)).setCell ⟨w.heap.size+1+1,2,none⟩ (.bool b)):=(by intro n b hn hb;refine⟨aC 16 x,0,by unfold dF nZ;rw[iM.o.1,hn,hb];rfl,?_⟩;exact((HK2.o.setCell (p:=⟨w.heap.size+1+1,0,none⟩) (.inr (by simp;omega)) _).setCell (p:=⟨w.heap.size+1+1,1,none⟩) (.inr (by simp;omega)) _).setCell (p:=⟨w.heap.size+1+1,2,none⟩) (.inr (by simp;omega)) _);have hty:=iM.o.2.2.2.1
  rcases Kw (aK 16 env x)with⟨n,hv⟩|⟨b,hv⟩
  ·have F':=fin n false (by rw[hv];rfl) (by rw[hv];rfl)
   have e1:aC 16 x=1:=(by rw[<-hty,hv];rfl);rw[e1]at F'⊢;rw[show gI (aK 16 env x)=n by rw[hv];rfl];have F':=γ F';clear fin hv e1 hty;go_wp2;refine bodyPost_ret (v:= .tuple #[.agg #[.int .u8 1,.int .i64 n,.bool false],.int .i64 0]) (by simp[results,results178,go_sem,z0,z1,z2]) rfl F'.o
  ·have F':=fin 0 b (by rw[hv];rfl) (by rw[hv];rfl)
   have e1:aC 16 x=2:=(by rw[<-hty,hv];rfl);rw[e1]at F'⊢;rw[show gI (aK 16 env x)=tI b by rw[hv];rfl];have hb1:(tI b==1)=b:=(by cases b<;>rfl);have F':=γ F';clear fin hv e1 hty
   cases b with
   |true=>rw[show tI true=1 from rfl];go_wp2;refine bodyPost_ret (v:= .tuple #[.agg #[.int .u8 2,.int .i64 0,.bool true],.int .i64 0]) (by simp[results,results178,go_sem,z0,z1,z2]) rfl F'.o
   |false=>rw[show tI false=0 from rfl];go_wp2;refine bodyPost_ret (v:= .tuple #[.agg #[.int .u8 2,.int .i64 0,.bool false],.int .i64 0]) (by simp[results,results178,go_sem,z0,z1,z2]) rfl F'.o
theorem Ac (x:Ex)(a:Array Value)(env:Env)(w:World)(h:aF w a x)(he:iK env):Calls prog 146 #[.agg a,fD env] w (Gives w (.int .i64 (dF x env))):=by obtain⟨p,cap,rfl,o0,o1,hn,h3,h4,h5⟩:=h.parts;have H:=γ h;have HE:=γ he;clear h h5 he;go_enter func146,ntmps146;go_wp2_with fail;have k0:ε η w ((w.alloc (.cells #[.int .u8 x.op,.int .i64 x.n,.slice p x.args.length cap] 40)).alloc (.cells #[.int .i64 env.key,.int .i64 env.val,.int .i64 env.acc] 182)):=(δ.alloc _).alloc _;have c:=UQ x _ env _ (aF.pure k0 H.o) HE.o;refine c.mono ?_;clear c;rintro e W2 ⟨ty,er,rfl,k2⟩;have K:=γ (k0.trans k2);clear k0 k2;go_wp2;go_ret;exact⟨rfl,K.o.alloc _⟩
theorem YE (x:Ex)(a:Array Value)(env:Env)(w:World)(h:aF w a x)(he:iK env):Calls prog 147 #[.agg a,fD env] w (Gives w (.bool (nZ x env))):=by obtain⟨p,cap,rfl,o0,o1,hn,h3,h4,h5⟩:=h.parts;have H:=γ h;have HE:=γ he;clear h h5 he;go_enter func147,ntmps147;go_wp2_with fail;have k0:ε η w ((w.alloc (.cells #[.int .u8 x.op,.int .i64 x.n,.slice p x.args.length cap] 40)).alloc (.cells #[.int .i64 env.key,.int .i64 env.val,.int .i64 env.acc] 182)):=(δ.alloc _).alloc _;have c:=UQ x _ env _ (aF.pure k0 H.o) HE.o;refine c.mono ?_;clear c;rintro e W2 ⟨ty,er,rfl,k2⟩;have K:=γ (k0.trans k2);clear k0 k2;go_wp2;go_ret;exact⟨rfl,K.o.alloc _⟩
section
variable {P:Program}
theorem E8 {T E sz:Nat}(hT:P.underlying T=some (.slice E)){w:World}(hsz:(sizeOf E).run P w= .ok sz w){a:Option Addr}{n cap k:Nat}{cs:List Value}(h:Reads w sz (.slice a n cap) cs)(hk:k<=n):
 (Instr.slice T (.slice a n cap) none (some (.int .i64 (k:Int))) none).run P w= .ok (.slice a k cap) w/\Reads w sz (.slice a k cap) (cs.take (k*sz)):=by
 obtain⟨a',n',cap',e,h1,h2,h3,h4⟩:=h;cases e;have hkn:k*sz<=n*sz:=Nat.mul_le_mul_right _ hk;refine⟨?_,?_⟩
 ·have hb:(Instr.sliceBounds true n cap none (some (.int .i64 (k:Int))) none).run P w= .ok (0,k,cap) w:=by
   simp[Instr.sliceBounds,Instr.sliceBound,asIntOf];intro h;omega
  simp only[Instr.slice,Sem.run_bind,run_underlying hT,Result.andThen_ok,hb,hsz,Sem.run_pure]
  cases a with
  |none=>simp
  |some a=>simp[Addr.add]
 ·refine⟨a,k,cap,rfl,by omega,h2,by rw[υ];omega,?_⟩
  rcases h4 with rfl|⟨b,off,rfl,h4⟩
  ·left;simp
  ·right
   refine⟨b,off,rfl,fun i x hx=>h4 i x ?_⟩;rw[aaA]at hx;split at hx
   ·exact hx
   ·cases hx
theorem Fa {T E sz:Nat}(hT:P.underlying T=some (.slice E)){w:World}(hsz:(sizeOf E).run P w= .ok sz w){a:Option Addr}{n cap k:Nat}{cs:List Value}(h:Reads w sz (.slice a n cap) cs)(hk:k<=n):
 ∃v,(Instr.slice T (.slice a n cap) (some (.int .i64 (k:Int))) none none).run P w= .ok v w/\Reads w sz v (cs.drop (k*sz)):=by
 obtain⟨a',n',cap',e,h1,h2,h3,h4⟩:=h;cases e;have hkn:k*sz<=n*sz:=Nat.mul_le_mul_right _ hk;refine⟨.slice (if cap=k then a else a.map (·.add (k*sz))) (n-k) (cap-k),?_,?_⟩
 ·have hb:(Instr.sliceBounds true n cap (some (.int .i64 (k:Int))) none none).run P w= .ok (k,n,cap) w:=by
   simp[Instr.sliceBounds,Instr.sliceBound,asIntOf];intro h;omega
  simp only[Instr.slice,Sem.run_bind,run_underlying hT,Result.andThen_ok,hb,hsz,Sem.run_pure]
 ·refine⟨_,n-k,cap-k,rfl,by omega,by omega,by rw[length_drop,h3,Nat.sub_mul],?_⟩
  rcases h4 with rfl|⟨b,off,rfl,h4⟩
  ·left;simp
  ·by_cases hc:cap=k
   ·left
    exact drop_eq_nil_of_le (by rw[h3];exact Nat.mul_le_mul_right _ (by omega))
   ·right
    refine⟨b,off+k*sz,by rw[if_neg hc];simp only[Option.map_some];rw[Addr.add_lit],fun i x hx=>?_⟩;rw[Nat.add_assoc];rw[getElem?_drop]at hx;exact h4 (k*sz+i) x hx
theorem wp_append_run {w w':World}{o:Oper}{a:Act}{K:Act->World->Prop}{Q:Exit->Act->World->Prop}(s x:Operand)(t:TypeId)
 (ho:o.op= .call {callee:= .builtin .append,args:= #[s,x],argTypes:= #[t,t]}) (v u v':Value) (hs:a.eval s=v) (hx:a.eval x=u) (hr:(Builtin.append_ #[t,t] o.type #[v,u]).run P w= .ok v' w')
 (h:K (a.put o.dst v') w'):o.wp P a w K Q:=by
 unfold Oper.wp execOp;simp only[ho,resolve,invoke,builtin,Sem.run_bind,Sem.run_pure,Result.andThen_ok,map_toArray,Θ,Ξ,hs,hx,hr];exact h
end
theorem cu.nil (w:World):cu w [] []:=⟨rfl,fun i p h=>by cases h⟩
theorem cu.append {w:World}{cs ds:List Value}{T U:Tab}(h:cu w cs T)(k:cu w ds U):cu w (cs++ds) (T++U):=by
 refine⟨by rw[ν,ν,h.1,k.1,Nat.add_mul],fun i p hp=>?_⟩;rw[getElem?_append]at hp;split at hp
 ·rename_i hlt
  obtain⟨a,b,lv,c,d⟩:=h.2 i p hp;have hl:=h.1;exact⟨by rw[Ω (by omega)];exact a,by rw[Ω (by omega)];exact b,lv,by rw[Ω (by omega)];exact c,d⟩
 ·rename_i hge
  obtain⟨a,b,lv,c,d⟩:=k.2 (i-T.length) p hp;have hl:=h.1;have e0:i*3-cs.length=(i-T.length)*3:=(by omega);have e1:i*3+1-cs.length=(i-T.length)*3+1:=(by omega);have e2:i*3+2-cs.length=(i-T.length)*3+2:=(by omega);exact⟨by rw[Ψ (by omega),e0];exact a,by rw[Ψ (by omega),e1];exact b,lv,by rw[Ψ (by omega),e2];exact c,d⟩
theorem cu.take {w:World}{cs:List Value}{T:Tab}(h:cu w cs T)(k:Nat):cu w (cs.take (k*3)) (T.take k):=by
 refine⟨by rw[υ,υ,h.1];omega,fun i p hp=>?_⟩;rw[aaA]at hp;split at hp
 ·obtain⟨a,b,lv,c,d⟩:=h.2 i p hp
  exact⟨by rw[aaA,if_pos (by omega)];exact a,by rw[aaA,if_pos (by omega)];exact b,lv,by rw[aaA,if_pos (by omega)];exact c,d⟩
 ·cases hp
theorem cu.drop {w:World}{cs:List Value}{T:Tab}(h:cu w cs T)(k:Nat):cu w (cs.drop (k*3)) (T.drop k):=by
 refine⟨by rw[length_drop,length_drop,h.1,Nat.sub_mul],fun i p hp=>?_⟩;rw[getElem?_drop]at hp;obtain⟨a,b,lv,c,d⟩:=h.2 (k+i) p hp;refine⟨?_,?_,lv,?_,d⟩
 ·rw[getElem?_drop,<-a];congr 1;omega
 ·rw[getElem?_drop,<-b];congr 1;omega
 ·rw[getElem?_drop,<-c];congr 1;omega
theorem cu.one {w:World}{k acc:Int}{lv:Value}{l:List Int}(h:Reads w 1 lv (ints l)):cu w [.int .i64 k,.int .i64 acc,lv] [(k,(acc,l))]:=by
 refine⟨rfl,fun i p hp=>?_⟩
 match i,hp with
 |0,hp=>cases hp;exact⟨rfl,rfl,lv,rfl,h⟩
theorem cu.cells {w:World}{cs:List Value}{T:Tab}(h:cu w cs T): ∀x∈cs,x.oneCell'=true:=by
 intro x hx;obtain⟨j,hj,rfl⟩:=mem_iff_getElem.1 hx;have hl:=h.1;obtain⟨p,hp⟩: ∃p,T[j/3]?=some p:=⟨_,ι (by omega)⟩;obtain⟨a,b,lv,c,d⟩:=h.2 (j/3) p hp;have hm:j%3=0\/j%3=1\/j%3=2:=(by omega);have e:cs[j]?=some cs[j]:=ι hj
 rcases hm with hm|hm|hm
 ·rw[show j/3*3=j by omega,e]at a;injection a with a;rw[a];rfl
 ·rw[show j/3*3+1=j by omega,e]at b;injection b with b;rw[b];rfl
 ·rw[show j/3*3+2=j by omega,e]at c;injection c with c;rw[c]
  obtain⟨q,m,cap,rfl,_⟩:=d;rfl
theorem Tryz.info122: ∃i z,Tryz.prog.info? 122=some i/\i.zero=some z/\i.size=3/\i.bytes=40/\z.cells.size=3:=by have h:(prog.info? 122).map (fun i=>(i.zero,i.size,i.bytes))=some (some (.agg #[.int .i64 0,.int .i64 0,.slice none 0 0]),3,40):=(by kernel_rfl);obtain⟨i,h1,h2,h3,h4⟩:=info_parts h;exact⟨i,_,h1,h2,h3,h4,rfl⟩
theorem xC (w:World):(sizeOf 122).run prog w= .ok 3 w:=by kernel_rfl
theorem qj {w:World}{base n:Nat}{v u:Value}{cs ds:List Value}(hown:w.ownsRow base 122 3 v n cs)(hr:Reads w 3 u ds)(h1: ∀x∈ds,x.oneCell'=true)(hb:base<=w.heap.size)(hlen:cs.length+ds.length<=1000000):
 ∃v' n' w',(Builtin.append_ #[101,101] 101 #[v,u]).run prog w= .ok v' w'/\w'.ownsRow base 122 3 v' n' (cs++ds)/\n'*3=cs.length+ds.length/\w.grownBy w' v.ownBlock:=by
 obtain⟨i,z,hi,hz,hs,hby,hzs⟩:=Tryz.info122;have hn:=hown.1;obtain⟨v',n',w',g1,g2,g3,g4,g5⟩:=aZ (P:=prog) base 101 101 122 i z 3 40 underlying101 hi hz hs hby hzs (by omega) hown hr h1 (by omega) (by unfold maxLen;omega) hb;exact⟨v',n',w',g1,g2,by omega,g4⟩
theorem BH {k:Int}{c:Cell}: ∀{T:Tab},dO T->iq k c T=T.take (aV k T)++[(k,c)]++T.drop (if(bZ T k).isSome then aV k T+1 else aV k T)
 |[],_=>rfl
 |q::T,h=>by
  obtain⟨h1,h2⟩:=pairwise_cons.1 h;have ih:=BH (k:=k) (c:=c) h2;unfold iq aV bZ;rw[find?_cons];by_cases hl:bH q.1 k=true
  ·have hne:(k==q.1)=false:=by
    simp;intro e;subst e;rw[bM]at hl;cases hl
   rw[if_pos hl,if_pos hl,hne,ih];unfold bZ;split<;>simp
  ·rw[if_neg hl,if_neg hl]
   by_cases he:q.1=k
   ·subst he;simp
   ·have hkq:bH k q.1=true:=(jO (fun e=>he e.symm)).resolve_right hl
    have e1:(k==q.1)=false:=(by simp;exact fun e=>he e.symm);rw[if_neg he,e1];have:T.find? (fun p=>k==p.1)=none:=(by rw[find?_eq_none];intro x hx e;have:=iY hkq (h1 x hx);simp at e;rw[e,bM]at this;cases this);rw[this];simp
end
