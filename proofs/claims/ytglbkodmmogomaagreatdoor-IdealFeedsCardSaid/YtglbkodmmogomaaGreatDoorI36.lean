/- The document's expressions: what one comes to. -/
import Derived.Test.YtglbkodmmogomaaGreatDoorI35
import Derived.Test.YtglbkodmmogomaaGreatDoorI22
set_option linter.unusedVariables false
set_option linter.unusedSimpArgs false
set_option maxHeartbeats 16000000
set_option maxRecDepth 100000
namespace Go.Proofs.YtglbkodmmogomaaGreatDoor
open Go Go.RowKit
attribute [local irreducible] cZ
def tI (b:Bool):Int:=if b then 1 else 0
def fO:EV->Int| .num n=>n| .jm b=>tI b
def jR (op n:Int)(env:Env)(a b c:Int):Int:=
 if op=1 then n else if op=2 then env.key else if op=3 then env.val else if op=4 then env.acc
 else if op=5 then wrap64 (-a)else if op=6 then wrap64 (1-a)
 else if op=7 then wrap64 (a+b)else if op=8 then wrap64 (a-b)else if op=9 then wrap64 (a*b)
 else if op=10 then(if b=0 then 0 else wrap64 (a.tdiv b))else if op=11 then(if b=0 then 0 else a.tmod b)
 else if op=12 then tI (decide (a<b))else if op=13 then tI (decide (a<=b))else if op=14 then tI (a==b)else if op=15 then tI (a !=b)
 else if op=16 then wrap64 (a*b)else if op=17 then tI (decide (0<wrap64 (a+b)))
 else if a=1 then b else c
theorem acW {w:World}{env:Env}(he:iq env){f:Nat}{x:Ex}{v:Array Value}(h:aC w v x)(hm:aY (f+1) x=true)(ht:aB (f+1) x≠0):
 fO (aK (f+1) env x)=jR x.op x.n env ((x.args.map fun y=>fO (aK f env y)).getD 0 0) ((x.args.map fun y=>fO (aK f env y)).getD 1 0) ((x.args.map fun y=>fO (aK f env y)).getD 2 0):=by
 rcases EX hm ht with⟨_,hop⟩|⟨y1,ha,m1,hh⟩|⟨y1,y2,ha,m1,m2,hh⟩|⟨y1,y2,y3,ha,m1,m2,m3,hop,t1,t2,t3⟩
 ·obtain⟨op,n,args⟩:=x
  simp only[Ex.op]at hop
  rcases hop with rfl|rfl|rfl|rfl<;>rfl
 ·have s1:=h.uX he (i:=0) (by rw[ha];rfl) m1 (by omega)
  obtain⟨op,n,args⟩:=x;simp only[Ex.op,Ex.args]at hh ha;subst ha
  rcases hh with⟨rfl,t1,_⟩|⟨rfl,t1,_⟩
  ·obtain⟨u,hu⟩:=EV.AP (s1.1.trans t1)
   show fO (.num (wrap64 (-(aK f env y1).n)))=wrap64 (-(fO (aK f env y1)));rw[hu];rfl
  ·obtain⟨u,hu⟩:=EV.DW (s1.1.trans t1)
   show fO (.jm (!(aK f env y1).b))=wrap64 (1-(fO (aK f env y1)));rw[hu];cases u<;>simp[fO,EV.b,tI,wrap64]
 ·have s1:=h.uX he (i:=0) (by rw[ha];rfl) m1 (by omega)
  have s2:=h.uX he (i:=1) (by rw[ha];rfl) m2 (by omega);obtain⟨op,n,args⟩:=x;simp only[Ex.op,Ex.args]at hh ha;subst ha
  rcases hh with⟨hop,t1,t2,_⟩|⟨hop,t1,t2,_⟩|⟨hop,t1,t2,_⟩
  ·obtain⟨u,hu⟩:=EV.AP (s1.1.trans t1)
   obtain⟨v,hv⟩:=EV.AP (s2.1.trans t2);have e2:aK (f+1) env (.mk op n [y1,y2])=fA op (.num u) (.num v):=by
    rw[<-hu,<-hv]
    rcases hop with rfl|rfl|rfl|rfl|rfl<;>rfl
   rw[e2];show _=jR op n env (fO (aK f env y1)) (fO (aK f env y2)) 0;rw[hu,hv]
   rcases hop with rfl|rfl|rfl|rfl|rfl
   ·rfl
   ·rfl
   ·rfl
   ·by_cases h0:v=0
    ·subst h0;rfl
    ·have:fA 10 (.num u) (.num v)= .num (wrap64 (u.tdiv v)):=by unfold fA;simp[EV.n,h0]
     rw[this];unfold jR;simp[fO,h0]
   ·by_cases h0:v=0
    ·subst h0;rfl
    ·have:fA 11 (.num u) (.num v)= .num (u.tmod v):=by unfold fA;simp[EV.n,h0]
     rw[this];unfold jR;simp[fO,h0]
  ·obtain⟨u,hu⟩:=EV.AP (s1.1.trans t1)
   obtain⟨v,hv⟩:=EV.AP (s2.1.trans t2);have e2:aK (f+1) env (.mk op n [y1,y2])=fA op (.num u) (.num v):=by
    rw[<-hu,<-hv]
    rcases hop with rfl|rfl|rfl|rfl<;>rfl
   rw[e2];show _=jR op n env (fO (aK f env y1)) (fO (aK f env y2)) 0;rw[hu,hv]
   rcases hop with rfl|rfl|rfl|rfl<;>rfl
  ·obtain⟨u,hu⟩:=EV.DW (s1.1.trans t1)
   obtain⟨v,hv⟩:=EV.DW (s2.1.trans t2);have e2:aK (f+1) env (.mk op n [y1,y2])=fA op (.jm u) (.jm v):=by
    rw[<-hu,<-hv]
    rcases hop with rfl|rfl|rfl|rfl<;>rfl
   rw[e2];show _=jR op n env (fO (aK f env y1)) (fO (aK f env y2)) 0;rw[hu,hv]
   rcases hop with rfl|rfl|rfl|rfl<;>cases u<;>cases v<;>first|rfl|(simp[jR,fA,fO,EV.b,EV.n,tI,wrap64];done)
 ·have s1:=h.uX he (i:=0) (by rw[ha];rfl) m1 (by omega)
  obtain⟨u,hu⟩:=EV.DW (s1.1.trans t1);obtain⟨op,n,args⟩:=x;simp only[Ex.op,Ex.args]at hop ha;subst ha hop;show fO (if(aK f env y1).b then aK f env y2 else aK f env y3)=(if fO (aK f env y1)=1 then fO (aK f env y2)else fO (aK f env y3));rw[hu];cases u<;>rfl
theorem vO (b:Bool)(w:World):Calls Tryz.prog 243 #[.bool b] w (Is w (.int .i64 (tI b))):=by
 cases b with
 |true=>go_enter Tryz.func243,Tryz.ntmps243;go_wp2_with fail;go_ret;exact⟨rfl,rfl⟩
 |false=>go_enter Tryz.func243,Tryz.ntmps243;go_wp2_with fail;go_ret;exact⟨rfl,rfl⟩
theorem ri {a b:Int}(h:a=b):Ending.returned (.int .i64 a)= .returned (.int .i64 b):=by rw[h]
theorem ac9 {v:EV}(h:aH v.n):aH (fO v):=by
 cases v with
 |num n=>exact h
 |jm b=>cases b<;>exact .small (by decide) (by decide)
def afo (f:Nat):Prop:= ∀(x:Ex)(a:Array Value)(env:Env)(w:World),aC w a x->iq env->aY f x=true->aB f x≠0->Calls Tryz.prog 215 #[.agg a,eU env] w (Gives w (.int .i64 (fO (aK f env x))))
theorem Tq: ∀f,afo f
 |0=>fun x a env w h he hm ht=>absurd hm (by cases x;simp[aY])
 |f+1=>fun x a env w h he hm ht=>by
  have HV:=γ (acW he h hm ht);obtain⟨hop1,hop2⟩:=yS (by obtain⟨_,_,_,h0,_⟩:=h.parts;exact h0) (show arity x.op=x.args.length by obtain⟨op,n,args⟩:=x;exact(tY hm).1);have hAR:arity x.op=x.args.length:=(by obtain⟨op,n,args⟩:=x;exact(tY hm).1);have hl:x.args.length<=3:=by have:=xX x.op;omega
  have HS:=γ (show∀y∈x.args,aY f y=true/\aB f y≠0/\aH (aK f env y).n from fun y hy=>by
   obtain⟨i,hi⟩:=List.mem_iff_getElem?.1 hy;have h1:aY f y=true:=(by obtain⟨op,n,args⟩:=x;exact(tY hm).2.2.2 y hy);have h2:aB f y≠0:=by obtain⟨op,n,args⟩:=x;exact(JF ht).1 y hy
   exact⟨h1,h2,(h.uX he hi h1 h2).2⟩)
  obtain⟨p,cap,rfl,h0,h1,h2,h3,h4,h5⟩:=h.parts;have IH:=γ (Tq f);have H5:=γ h5;obtain⟨L,hL⟩: ∃L,(x.args.map fun y=>fO (aK f env y))=L:=⟨_,rfl⟩;rw[hL]at HV;have HL:=γ (show L.length=x.args.length by rw[<-hL];simp)
  have HT:=γ (show∀t∈L,aH t by
   intro t ht;rw[<-hL]at ht;obtain⟨y,hy,rfl⟩:=abK.1 ht
   exact ac9 (HS.o y hy).2.2)
  have HA:=γ hAR;have HR:=γ hL;have HE:=γ he;obtain⟨⟨k1,k2⟩,⟨v1,v2⟩,⟨c1,c2⟩⟩:=(id he:iq env);unfold aH at h2;unfold maxLen at h4;clear h h5 hAR hL he hm ht;unfold eU;go_enter Tryz.func215,Tryz.ntmps215;go_wp2_with fail;obtain⟨W0,hW0⟩:=acf ((w.alloc (.cells #[.int .u8 x.op,.int .i64 x.n,.slice p x.args.length cap] 40)).alloc (.cells #[.int .i64 env.key,.int .i64 env.val,.int .i64 env.acc] 182));have k0:ε η w W0:=(by rw[<-hW0];exact(δ.alloc _).alloc _);have dB:W0.heap[w.heap.size]?=some (.cells #[.int .u8 x.op,.int .i64 x.n,.slice p x.args.length cap] 40 (0,0)):=(by rw[<-hW0];exact((ε.refl η _).alloc _).heap (heap_alloc_new w _) id);have eB:W0.heap[w.heap.size+1]?=some (.cells #[.int .i64 env.key,.int .i64 env.val,.int .i64 env.acc] 182 (0,0)):=(by rw[<-hW0];have:=heap_alloc_new (w.alloc (.cells #[.int .u8 x.op,.int .i64 x.n,.slice p x.args.length cap] 40)) (.cells #[.int .i64 env.key,.int .i64 env.val,.int .i64 env.acc] 182);rwa[World.size_alloc]at this);have hs0:w.heap.size+1<W0.heap.size:=(κ.1 eB).1;rw[hW0];have K0:=γ (θ k0 (θ dB eB));clear hW0 k0 dB eB;go_loopg [5,6] x.args.length (fun g vs vi wr=> ∃k:Nat,k<=x.args.length/\vi= .int .i64 (k:Int)/\x.args.length-k<=g/\wr.ownsRow W0.heap.size 2 1 vs k (ints (L.take k))/\ε η W0 wr)
  case atStart=>exact⟨0,by omega,rfl,by omega,World.ownsRow_nil _ _ _ _,ε.refl _ _⟩
  case round=>
   obtain⟨k,hkl,rfl,hg,ho,hkp⟩:=hrel;obtain⟨wo,rfl⟩: ∃wo:World,wo=wr:=⟨_,rfl⟩;have oD:=hkp.heap K0.o.2.1 id;have oE:=hkp.heap K0.o.2.2 id;have dd:wo.cell? ⟨w.heap.size,2,none⟩=some (.slice p x.args.length cap):=ζ oD rfl;obtain⟨a1,c1,rfl⟩:=au ho;have hsw:w.heap.size+1<wo.heap.size:=Pe hs0 hkp.size;have hsx:w.heap.size<wo.heap.size:=(by omega);by_cases hlt:k<x.args.length
   ·obtain⟨y,hy⟩: ∃y,x.args[k]?=some y:=⟨_,ι hlt⟩
    obtain⟨b,off,p',cap',rfl,q0,q1,q2,hy2⟩:=H5.o k y hy;have hW:=(K0.o.1.trans hkp:ε η w wo);have hbl:b<w.heap.size:=block_lt_of_cell q0;have hB1:w.heap.size<W0.heap.size:=(by omega);have hB3:b<W0.heap.size:=(by omega);have r0:=hW.cell (p:=⟨b,off+k*3,none⟩) id q0;have r1:=hW.cell (p:=⟨b,off+k*3+1,none⟩) id q1;have r2:=hW.cell (p:=⟨b,off+k*3+2,none⟩) id q2;have e0:wo.cell? ⟨w.heap.size+1,0,none⟩=some (.int .i64 env.key):=ζ oE rfl;have e1:wo.cell? ⟨w.heap.size+1,1,none⟩=some (.int .i64 env.val):=ζ oE rfl;have e2:wo.cell? ⟨w.heap.size+1,2,none⟩=some (.int .i64 env.acc):=ζ oE rfl;have kd:ε η wo wo.drew:=δ.drew;have cc:=IH.o y _ env wo.drew (aC.pure (hW.trans kd) hy2) HE.o (HS.o y (ς hy)).1 (HS.o y (ς hy)).2.1;have HN:=γ (show L[k]?=some (fO (aK f env y)) by rw[<-HR.o,abJ,hy];rfl);have hno: ∀q,q<W0.heap.size-> ¬(Value.slice a1 k c1).ownBlock=some q:=fun q hq e=>(by have:=(ho.lt _ e).1;omega);have Y:=γ (θ dd (θ r0 (θ r1 (θ r2 (θ e0 (θ e1 e2))))));have ug:=γ (θ hg (θ hkp ho));clear q0 q1 q2 hy hy2 hW hkp hg ho oD oE r0 r1 r2 e0 e1 e2 kd;unfold eU at cc;go_wp2_with fail;refine ak [0,1,2,3,4,5,6,7,8,9,10] (fun W=>ε (fun q=>(Value.slice a1 k c1).ownBlock=some q) wo W) (by kernel_rfl) (by kernel_rfl) rfl δ.drew ?_;simp only[abU];iterate 7 (apply aj rfl rfl;(intro W hW;have o0:=hW.cell (p:=⟨w.heap.size,2,none⟩) (hno _ hB1) Y.o.1;have o1:=hW.cell (p:=⟨b,off+k*3,none⟩) (hno _ hB3) Y.o.2.1;have o2:=hW.cell (p:=⟨b,off+k*3+1,none⟩) (hno _ hB3) Y.o.2.2.1;have o3:=hW.cell (p:=⟨b,off+k*3+2,none⟩) (hno _ hB3) Y.o.2.2.2.1;have o4:=hW.cell (p:=⟨w.heap.size+1,0,none⟩) (hno _ hs0) Y.o.2.2.2.2.1;have o5:=hW.cell (p:=⟨w.heap.size+1,1,none⟩) (hno _ hs0) Y.o.2.2.2.2.2.1;have o6:=hW.cell (p:=⟨w.heap.size+1,2,none⟩) (hno _ hs0) Y.o.2.2.2.2.2.2;go_simp;rfl);go_frame)
    apply aA rfl rfl;intro K hK;go_wp2_with fail;(with_reducible refine cc.mono ?_);clear cc;rintro e w5 ⟨rfl,k5⟩;obtain⟨T,hT⟩: ∃T,fO (aK f env y)=T:=⟨_,rfl⟩;rw[hT]at HN;rw[hT];clear hT;go_wp2_with fail;have oQ:=k5.aZ;refine hK _ _ (fun _=>oQ.pure) ?_;clear hK;have o5:=oQ.owns ug.o.2.2 (fun _ _ h=>h);obtain⟨i1,hi1,hz1,hsz1,Ci⟩:=info_parts Tryz.info2;obtain⟨g1,cp1,w6,s1,p1,e1⟩:=kQ (x:= .int .i64 T) (bytes:=8) Tryz.underlying97 hi1 hz1 hsz1 Ci rfl rfl o5 (by omega) (by omega) (by have:=ug.o.2.1.size;have:=oQ.size;omega) 97;have hown: ∀i,(Value.slice a1 k c1).ownBlock=some i->W0.heap.size<=i:=fun i hi=>(aU o5 hi).1;have k4:ε η W0 w6:=(ug.o.2.1.trans oQ).new e1 (fun i hi e=>by have:=hown i e;omega);have S1:=γ s1;have G:=γ (θ p1 (θ k4 (θ oQ e1)));clear o5 hi1 hz1 hsz1 Ci p1 e1 hown k4 k5 oQ s1;apply aA rfl rfl;intro K2 hK2;go_wp2_with fail;refine hK2 _ _ (fun _=>(G.o.2.2.1.alloc _).pure) ?_;clear hK2;apply aA rfl rfl;intro K3 hK3;refine rM (.tmp 14) (.tmp 22) 97 rfl _ _ _ rfl rfl S1.o ?_;refine hK3 _ _ (fun _=>G.o.2.2.1.pure.trans G.o.2.2.2) ?_;clear hK3;apply aj rfl rfl
    ·intro W hW;go_simp;rfl
    go_frame;refine aG (fun _=>G.o.2.2.1.pure.trans G.o.2.2.2) ?_;go_wp2_with fail;go_roundg (x.args.length-(k+1))
    case rel=>refine⟨k+1,by omega,by go_num,ξ _,?_,G.o.2.1⟩;have e:ints (L.take (k+1))=ints (L.take k)++[.int .i64 T]:=(by unfold ints;rw[ψ,HN.o];simp);rw[e];exact G.o.1
    case measure=>have:=ug.o.1;omega
   ·obtain rfl:k=x.args.length:=by omega
    rw[χ (by rw[HL.o];exact ξ _)]at ho;obtain⟨pa,n',pc,pe,_,_,_,hcell⟩:=Reads.aN ho
    injection pe with pe1 DU BJ
    subst pe1 BJ;have e0:=ζ oD (j:=0) (v:= .int .u8 x.op) rfl;have e1:=ζ oD (j:=1) (v:= .int .i64 x.n) rfl;have g0:wo.cell? ⟨w.heap.size+1,0,none⟩=some (.int .i64 env.key):=ζ oE rfl;have g1:wo.cell? ⟨w.heap.size+1,1,none⟩=some (.int .i64 env.val):=ζ oE rfl;have g2:wo.cell? ⟨w.heap.size+1,2,none⟩=some (.int .i64 env.acc):=ζ oE rfl;obtain⟨o,hox⟩: ∃o,x.op=o:=⟨_,rfl⟩;have KF:=γ (K0.o.1.trans hkp)
    have Y:=γ (show L=[]\/ ∃bi bV,a1=some ⟨bi,bV,none⟩/\ ∀k t,L[k]?=some t->wo.cell? ⟨bi,bV+k,none⟩=some (.int .i64 t)from by
     rcases hcell with h|⟨bi,bV,rfl,hc⟩
     ·left;unfold ints at h;simpa using h
     ·exact .inr ⟨bi,bV,rfl,fun k t ht=>hc k _ (by unfold ints;rw[abJ,ht];rfl)⟩)
    clear ho hkp DU hg oD oE hcell;rw[hox]at hop1 hop2 HA e0 h0 h1 HV;clear hox;obtain⟨N,hN⟩: ∃N,x.args.length=N:=⟨_,rfl⟩;rw[hN]at HA HL dd hl h3;rw[hN];clear hN hkl hlt HR H5 IH HS;obtain rfl|rfl|rfl|rfl|rfl|rfl|rfl|rfl|rfl|rfl|rfl|rfl|rfl|rfl|rfl|rfl|rfl|rfl:o=1\/o=2\/o=3\/o=4\/o=5\/o=6\/o=7\/o=8\/o=9\/o=10\/o=11\/o=12\/o=13\/o=14\/o=15\/o=16\/o=17\/o=18:=by omega
    ·have jJ:N=0:=by have:=HA.o;unfold arity at this;simp at this;omega
     subst jJ;have Z:=γ (show fO (aK (f+1) env x)=x.n from by rw[HV.o];unfold jR;simp);go_wp2_with fail;go_ret;exact⟨by rw[Z.o];first|rfl|(rw[<-IntWalk.i64_left];rfl),KF.o⟩
    ·have jJ:N=0:=by have:=HA.o;unfold arity at this;simp at this;omega
     subst jJ;have Z:=γ (show fO (aK (f+1) env x)=env.key from by rw[HV.o];unfold jR;simp);go_wp2_with fail;go_ret;exact⟨by rw[Z.o];first|rfl|(rw[<-IntWalk.i64_left];rfl),KF.o⟩
    ·have jJ:N=0:=by have:=HA.o;unfold arity at this;simp at this;omega
     subst jJ;have Z:=γ (show fO (aK (f+1) env x)=env.val from by rw[HV.o];unfold jR;simp);go_wp2_with fail;go_ret;exact⟨by rw[Z.o];first|rfl|(rw[<-IntWalk.i64_left];rfl),KF.o⟩
    ·have jJ:N=0:=by have:=HA.o;unfold arity at this;simp at this;omega
     subst jJ;have Z:=γ (show fO (aK (f+1) env x)=env.acc from by rw[HV.o];unfold jR;simp);go_wp2_with fail;go_ret;exact⟨by rw[Z.o];first|rfl|(rw[<-IntWalk.i64_left];rfl),KF.o⟩
    ·have jJ:N=1:=by have:=HA.o;unfold arity at this;simp at this;omega
     subst jJ
     obtain⟨a,nJ⟩: ∃a,L=[a]:=by
      have h:=HL.o
      match L,h with|[a],_=>exact⟨a,rfl⟩
     subst nJ;obtain⟨bi,bV,rfl,hc⟩:=Y.o.resolve_left (by simp);have y0:wo.cell? ⟨bi,bV,none⟩=some (.int .i64 a):=hc 0 a rfl;have R0:=HT.o a (by simp);unfold aH at R0;have Z:=γ (show fO (aK (f+1) env x)=wrap64 (-a)from by rw[HV.o];unfold jR;simp);clear hc HV HA HL HT Y;go_wp2_with fail;go_ret;exact⟨by rw[Z.o];first|rfl|(rw[<-IntWalk.i64_left];rfl),KF.o⟩
    ·have jJ:N=1:=by have:=HA.o;unfold arity at this;simp at this;omega
     subst jJ
     obtain⟨a,nJ⟩: ∃a,L=[a]:=by
      have h:=HL.o
      match L,h with|[a],_=>exact⟨a,rfl⟩
     subst nJ;obtain⟨bi,bV,rfl,hc⟩:=Y.o.resolve_left (by simp);have y0:wo.cell? ⟨bi,bV,none⟩=some (.int .i64 a):=hc 0 a rfl;have R0:=HT.o a (by simp);unfold aH at R0;have Z:=γ (show fO (aK (f+1) env x)=wrap64 (1-a)from by rw[HV.o];unfold jR;simp);clear hc HV HA HL HT Y;go_wp2_with fail;go_ret;exact⟨by rw[Z.o];first|rfl|(rw[<-IntWalk.i64_left];rfl),KF.o⟩
    ·have jJ:N=2:=by have:=HA.o;unfold arity at this;simp at this;omega
     subst jJ
     obtain⟨a,b,nJ⟩: ∃a b,L=[a,b]:=by
      have h:=HL.o
      match L,h with|[a,b],_=>exact⟨a,b,rfl⟩
     subst nJ;obtain⟨bi,bV,rfl,hc⟩:=Y.o.resolve_left (by simp);have y0:wo.cell? ⟨bi,bV,none⟩=some (.int .i64 a):=hc 0 a rfl;have R0:=HT.o a (by simp);unfold aH at R0;have y1:wo.cell? ⟨bi,bV+1,none⟩=some (.int .i64 b):=hc 1 b rfl;have R1:=HT.o b (by simp);unfold aH at R1;have Z:=γ (show fO (aK (f+1) env x)=wrap64 (a+b)from by rw[HV.o];unfold jR;simp);clear hc HV HA HL HT Y;go_wp2_with fail;refine ak [0,1,2,3,4,5,6,7] (fun W=>ε η wo W) (by kernel_rfl) (by kernel_rfl) rfl δ.drew ?_;simp only[abU];iterate 8 (apply aj rfl rfl;(intro W hW;have z0:=hW.cell id y0;have z1:=hW.cell id y1;go_simp;rfl);go_frame)
     refine aG (fun _=>δ.drew) ?_;go_wp2_with fail;go_ret;exact⟨by rw[Z.o];first|rfl|(rw[<-IntWalk.i64_left];rfl),KF.o.trans δ.drew⟩
    ·have jJ:N=2:=by have:=HA.o;unfold arity at this;simp at this;omega
     subst jJ
     obtain⟨a,b,nJ⟩: ∃a b,L=[a,b]:=by
      have h:=HL.o
      match L,h with|[a,b],_=>exact⟨a,b,rfl⟩
     subst nJ;obtain⟨bi,bV,rfl,hc⟩:=Y.o.resolve_left (by simp);have y0:wo.cell? ⟨bi,bV,none⟩=some (.int .i64 a):=hc 0 a rfl;have R0:=HT.o a (by simp);unfold aH at R0;have y1:wo.cell? ⟨bi,bV+1,none⟩=some (.int .i64 b):=hc 1 b rfl;have R1:=HT.o b (by simp);unfold aH at R1;have Z:=γ (show fO (aK (f+1) env x)=wrap64 (a-b)from by rw[HV.o];unfold jR;simp);clear hc HV HA HL HT Y;go_wp2_with fail;refine ak [0,1,2,3,4,5,6,7] (fun W=>ε η wo W) (by kernel_rfl) (by kernel_rfl) rfl δ.drew ?_;simp only[abU];iterate 8 (apply aj rfl rfl;(intro W hW;have z0:=hW.cell id y0;have z1:=hW.cell id y1;go_simp;rfl);go_frame)
     refine aG (fun _=>δ.drew) ?_;go_wp2_with fail;go_ret;exact⟨by rw[Z.o];first|rfl|(rw[<-IntWalk.i64_left];rfl),KF.o.trans δ.drew⟩
    ·have jJ:N=2:=by have:=HA.o;unfold arity at this;simp at this;omega
     subst jJ
     obtain⟨a,b,nJ⟩: ∃a b,L=[a,b]:=by
      have h:=HL.o
      match L,h with|[a,b],_=>exact⟨a,b,rfl⟩
     subst nJ;obtain⟨bi,bV,rfl,hc⟩:=Y.o.resolve_left (by simp);have y0:wo.cell? ⟨bi,bV,none⟩=some (.int .i64 a):=hc 0 a rfl;have R0:=HT.o a (by simp);unfold aH at R0;have y1:wo.cell? ⟨bi,bV+1,none⟩=some (.int .i64 b):=hc 1 b rfl;have R1:=HT.o b (by simp);unfold aH at R1;have Z:=γ (show fO (aK (f+1) env x)=wrap64 (a*b)from by rw[HV.o];unfold jR;simp);clear hc HV HA HL HT Y;go_wp2_with fail;refine ak [0,1,2,3,4,5,6,7] (fun W=>ε η wo W) (by kernel_rfl) (by kernel_rfl) rfl δ.drew ?_;simp only[abU];iterate 8 (apply aj rfl rfl;(intro W hW;have z0:=hW.cell id y0;have z1:=hW.cell id y1;go_simp;rfl);go_frame)
     refine aG (fun _=>δ.drew) ?_;go_wp2_with fail;go_ret;exact⟨by rw[Z.o];first|rfl|(rw[<-IntWalk.i64_left];rfl),KF.o.trans δ.drew⟩
    ·have jJ:N=2:=by have:=HA.o;unfold arity at this;simp at this;omega
     subst jJ
     obtain⟨a,b,nJ⟩: ∃a b,L=[a,b]:=by
      have h:=HL.o
      match L,h with|[a,b],_=>exact⟨a,b,rfl⟩
     subst nJ;obtain⟨bi,bV,rfl,hc⟩:=Y.o.resolve_left (by simp);have y0:wo.cell? ⟨bi,bV,none⟩=some (.int .i64 a):=hc 0 a rfl;have R0:=HT.o a (by simp);unfold aH at R0;have y1:wo.cell? ⟨bi,bV+1,none⟩=some (.int .i64 b):=hc 1 b rfl;have R1:=HT.o b (by simp);unfold aH at R1;have Z:=γ (show fO (aK (f+1) env x)=(if b=0 then 0 else wrap64 (a.tdiv b))from by rw[HV.o];unfold jR;simp);clear hc HV HA HL HT Y;by_cases hb0:b=0
     ·have Z2:=γ (Z.o.trans (if_pos hb0))
      subst hb0;clear Z;go_wp2_with fail;go_ret;exact⟨by rw[Z2.o];first|rfl|(rw[<-IntWalk.i64_left];rfl),KF.o⟩
     ·have Z2:=γ (Z.o.trans (if_neg hb0))
      have hbb:(b==0)=false:=beq_eq_false_iff_ne.2 hb0;clear Z;go_wp2_with fail;refine ak [0,1,2,3,4,5,6,7] (fun W=>ε η wo W) (by kernel_rfl) (by kernel_rfl) rfl δ.drew ?_;simp only[abU];iterate 8 (apply aj rfl rfl;(intro W hW;have z0:=hW.cell id y0;have z1:=hW.cell id y1;go_simp;rfl);go_frame)
      refine aG (fun _=>δ.drew) ?_;go_wp2_with fail;go_ret;exact⟨by rw[Z2.o];first|rfl|(rw[<-IntWalk.i64_left];rfl),KF.o.trans δ.drew⟩
    ·have jJ:N=2:=by have:=HA.o;unfold arity at this;simp at this;omega
     subst jJ
     obtain⟨a,b,nJ⟩: ∃a b,L=[a,b]:=by
      have h:=HL.o
      match L,h with|[a,b],_=>exact⟨a,b,rfl⟩
     subst nJ;obtain⟨bi,bV,rfl,hc⟩:=Y.o.resolve_left (by simp);have y0:wo.cell? ⟨bi,bV,none⟩=some (.int .i64 a):=hc 0 a rfl;have R0:=HT.o a (by simp);unfold aH at R0;have y1:wo.cell? ⟨bi,bV+1,none⟩=some (.int .i64 b):=hc 1 b rfl;have R1:=HT.o b (by simp);unfold aH at R1;have Z:=γ (show fO (aK (f+1) env x)=(if b=0 then 0 else a.tmod b)from by rw[HV.o];unfold jR;simp);clear hc HV HA HL HT Y;by_cases hb0:b=0
     ·have Z2:=γ (Z.o.trans (if_pos hb0))
      subst hb0;clear Z;go_wp2_with fail;go_ret;exact⟨by rw[Z2.o];first|rfl|(rw[<-IntWalk.i64_left];rfl),KF.o⟩
     ·have Z2:=γ (Z.o.trans (if_neg hb0))
      have hbb:(b==0)=false:=beq_eq_false_iff_ne.2 hb0;clear Z;go_wp2_with fail;refine ak [0,1,2,3,4,5,6,7] (fun W=>ε η wo W) (by kernel_rfl) (by kernel_rfl) rfl δ.drew ?_;simp only[abU];iterate 8 (apply aj rfl rfl;(intro W hW;have z0:=hW.cell id y0;have z1:=hW.cell id y1;go_simp;rfl);go_frame)
      refine aG (fun _=>δ.drew) ?_;go_wp2_with fail;go_ret;exact⟨by rw[Z2.o];first|rfl|(rw[<-IntWalk.i64_left];rfl),KF.o.trans δ.drew⟩
    ·have jJ:N=2:=by have:=HA.o;unfold arity at this;simp at this;omega
     subst jJ
     obtain⟨a,b,nJ⟩: ∃a b,L=[a,b]:=by
      have h:=HL.o
      match L,h with|[a,b],_=>exact⟨a,b,rfl⟩
     subst nJ;obtain⟨bi,bV,rfl,hc⟩:=Y.o.resolve_left (by simp);have y0:wo.cell? ⟨bi,bV,none⟩=some (.int .i64 a):=hc 0 a rfl;have R0:=HT.o a (by simp);unfold aH at R0;have y1:wo.cell? ⟨bi,bV+1,none⟩=some (.int .i64 b):=hc 1 b rfl;have R1:=HT.o b (by simp);unfold aH at R1;have Z:=γ (show fO (aK (f+1) env x)=tI (decide (a<b))from by rw[HV.o];unfold jR;simp);clear hc HV HA HL HT Y;go_wp2_with fail;refine ak [0,1,2,3,4,5,6,7,8] (fun W=>ε η wo W) (by kernel_rfl) (by kernel_rfl) rfl δ.drew ?_;simp only[abU];iterate 7 (apply aj rfl rfl;(intro W hW;have z0:=hW.cell id y0;have z1:=hW.cell id y1;go_simp;rfl);go_frame)
     apply aA rfl rfl;intro K hK;go_wp2_with fail;(with_reducible refine(vO _ _).mono ?_);rintro e w' ⟨rfl,rfl⟩;go_wp2_with fail;refine hK _ _ (fun _=>δ.drew) ?_;clear hK;apply aj rfl rfl
     ·intro W hW;go_simp;rfl
     go_frame;refine aG (fun _=>δ.drew) ?_;go_wp2_with fail;go_ret;exact⟨by rw[Z.o];first|rfl|(rw[<-IntWalk.i64_left];rfl),KF.o.trans δ.drew⟩
    ·have jJ:N=2:=by have:=HA.o;unfold arity at this;simp at this;omega
     subst jJ
     obtain⟨a,b,nJ⟩: ∃a b,L=[a,b]:=by
      have h:=HL.o
      match L,h with|[a,b],_=>exact⟨a,b,rfl⟩
     subst nJ;obtain⟨bi,bV,rfl,hc⟩:=Y.o.resolve_left (by simp);have y0:wo.cell? ⟨bi,bV,none⟩=some (.int .i64 a):=hc 0 a rfl;have R0:=HT.o a (by simp);unfold aH at R0;have y1:wo.cell? ⟨bi,bV+1,none⟩=some (.int .i64 b):=hc 1 b rfl;have R1:=HT.o b (by simp);unfold aH at R1;have Z:=γ (show fO (aK (f+1) env x)=tI (decide (a<=b))from by rw[HV.o];unfold jR;simp);clear hc HV HA HL HT Y;go_wp2_with fail;refine ak [0,1,2,3,4,5,6,7,8] (fun W=>ε η wo W) (by kernel_rfl) (by kernel_rfl) rfl δ.drew ?_;simp only[abU];iterate 7 (apply aj rfl rfl;(intro W hW;have z0:=hW.cell id y0;have z1:=hW.cell id y1;go_simp;rfl);go_frame)
     apply aA rfl rfl;intro K hK;go_wp2_with fail;(with_reducible refine(vO _ _).mono ?_);rintro e w' ⟨rfl,rfl⟩;go_wp2_with fail;refine hK _ _ (fun _=>δ.drew) ?_;clear hK;apply aj rfl rfl
     ·intro W hW;go_simp;rfl
     go_frame;refine aG (fun _=>δ.drew) ?_;go_wp2_with fail;go_ret;exact⟨by rw[Z.o];first|rfl|(rw[<-IntWalk.i64_left];rfl),KF.o.trans δ.drew⟩
    ·have jJ:N=2:=by have:=HA.o;unfold arity at this;simp at this;omega
     subst jJ
     obtain⟨a,b,nJ⟩: ∃a b,L=[a,b]:=by
      have h:=HL.o
      match L,h with|[a,b],_=>exact⟨a,b,rfl⟩
     subst nJ;obtain⟨bi,bV,rfl,hc⟩:=Y.o.resolve_left (by simp);have y0:wo.cell? ⟨bi,bV,none⟩=some (.int .i64 a):=hc 0 a rfl;have R0:=HT.o a (by simp);unfold aH at R0;have y1:wo.cell? ⟨bi,bV+1,none⟩=some (.int .i64 b):=hc 1 b rfl;have R1:=HT.o b (by simp);unfold aH at R1;have Z:=γ (show fO (aK (f+1) env x)=tI ((a==b))from by rw[HV.o];unfold jR;simp);clear hc HV HA HL HT Y;go_wp2_with fail;refine ak [0,1,2,3,4,5,6,7,8] (fun W=>ε η wo W) (by kernel_rfl) (by kernel_rfl) rfl δ.drew ?_;simp only[abU];iterate 7 (apply aj rfl rfl;(intro W hW;have z0:=hW.cell id y0;have z1:=hW.cell id y1;go_simp;rfl);go_frame)
     apply aA rfl rfl;intro K hK;go_wp2_with fail;(with_reducible refine(vO _ _).mono ?_);rintro e w' ⟨rfl,rfl⟩;go_wp2_with fail;refine hK _ _ (fun _=>δ.drew) ?_;clear hK;apply aj rfl rfl
     ·intro W hW;go_simp;rfl
     go_frame;refine aG (fun _=>δ.drew) ?_;go_wp2_with fail;go_ret;exact⟨by rw[Z.o];first|rfl|(rw[<-IntWalk.i64_left];rfl),KF.o.trans δ.drew⟩
    ·have jJ:N=2:=by have:=HA.o;unfold arity at this;simp at this;omega
     subst jJ
     obtain⟨a,b,nJ⟩: ∃a b,L=[a,b]:=by
      have h:=HL.o
      match L,h with|[a,b],_=>exact⟨a,b,rfl⟩
     subst nJ;obtain⟨bi,bV,rfl,hc⟩:=Y.o.resolve_left (by simp);have y0:wo.cell? ⟨bi,bV,none⟩=some (.int .i64 a):=hc 0 a rfl;have R0:=HT.o a (by simp);unfold aH at R0;have y1:wo.cell? ⟨bi,bV+1,none⟩=some (.int .i64 b):=hc 1 b rfl;have R1:=HT.o b (by simp);unfold aH at R1;have Z:=γ (show fO (aK (f+1) env x)=tI ((a !=b))from by rw[HV.o];unfold jR;simp);clear hc HV HA HL HT Y;go_wp2_with fail;refine ak [0,1,2,3,4,5,6,7,8] (fun W=>ε η wo W) (by kernel_rfl) (by kernel_rfl) rfl δ.drew ?_;simp only[abU];iterate 7 (apply aj rfl rfl;(intro W hW;have z0:=hW.cell id y0;have z1:=hW.cell id y1;go_simp;rfl);go_frame)
     apply aA rfl rfl;intro K hK;go_wp2_with fail;(with_reducible refine(vO _ _).mono ?_);rintro e w' ⟨rfl,rfl⟩;go_wp2_with fail;refine hK _ _ (fun _=>δ.drew) ?_;clear hK;apply aj rfl rfl
     ·intro W hW;go_simp;rfl
     go_frame;refine aG (fun _=>δ.drew) ?_;go_wp2_with fail;go_ret;exact⟨by rw[Z.o];first|rfl|(rw[<-IntWalk.i64_left];rfl),KF.o.trans δ.drew⟩
    ·have jJ:N=2:=by have:=HA.o;unfold arity at this;simp at this;omega
     subst jJ
     obtain⟨a,b,nJ⟩: ∃a b,L=[a,b]:=by
      have h:=HL.o
      match L,h with|[a,b],_=>exact⟨a,b,rfl⟩
     subst nJ;obtain⟨bi,bV,rfl,hc⟩:=Y.o.resolve_left (by simp);have y0:wo.cell? ⟨bi,bV,none⟩=some (.int .i64 a):=hc 0 a rfl;have R0:=HT.o a (by simp);unfold aH at R0;have y1:wo.cell? ⟨bi,bV+1,none⟩=some (.int .i64 b):=hc 1 b rfl;have R1:=HT.o b (by simp);unfold aH at R1;have Z:=γ (show fO (aK (f+1) env x)=wrap64 (a*b)from by rw[HV.o];unfold jR;simp);clear hc HV HA HL HT Y;go_wp2_with fail;refine ak [0,1,2,3,4,5,6,7] (fun W=>ε η wo W) (by kernel_rfl) (by kernel_rfl) rfl δ.drew ?_;simp only[abU];iterate 8 (apply aj rfl rfl;(intro W hW;have z0:=hW.cell id y0;have z1:=hW.cell id y1;go_simp;rfl);go_frame)
     refine aG (fun _=>δ.drew) ?_;go_wp2_with fail;go_ret;exact⟨by rw[Z.o];first|rfl|(rw[<-IntWalk.i64_left];rfl),KF.o.trans δ.drew⟩
    ·have jJ:N=2:=by have:=HA.o;unfold arity at this;simp at this;omega
     subst jJ
     obtain⟨a,b,nJ⟩: ∃a b,L=[a,b]:=by
      have h:=HL.o
      match L,h with|[a,b],_=>exact⟨a,b,rfl⟩
     subst nJ;obtain⟨bi,bV,rfl,hc⟩:=Y.o.resolve_left (by simp);have y0:wo.cell? ⟨bi,bV,none⟩=some (.int .i64 a):=hc 0 a rfl;have R0:=HT.o a (by simp);unfold aH at R0;have y1:wo.cell? ⟨bi,bV+1,none⟩=some (.int .i64 b):=hc 1 b rfl;have R1:=HT.o b (by simp);unfold aH at R1;have Z:=γ (show fO (aK (f+1) env x)=tI (decide (0<wrap64 (a+b)))from by rw[HV.o];unfold jR;simp);clear hc HV HA HL HT Y;go_wp2_with fail;refine ak [0,1,2,3,4,5,6,7,8,9] (fun W=>ε η wo W) (by kernel_rfl) (by kernel_rfl) rfl δ.drew ?_;simp only[abU];iterate 8 (apply aj rfl rfl;(intro W hW;have z0:=hW.cell id y0;have z1:=hW.cell id y1;go_simp;rfl);go_frame)
     apply aA rfl rfl;intro K hK;go_wp2_with fail;(with_reducible refine(vO _ _).mono ?_);rintro e w' ⟨rfl,rfl⟩;go_wp2_with fail;refine hK _ _ (fun _=>δ.drew) ?_;clear hK;apply aj rfl rfl
     ·intro W hW;go_simp;rfl
     go_frame;refine aG (fun _=>δ.drew) ?_;go_wp2_with fail;go_ret;exact⟨by rw[Z.o];first|rfl|(rw[<-IntWalk.i64_left];rfl),KF.o.trans δ.drew⟩
    ·have jJ:N=3:=by have:=HA.o;unfold arity at this;simp at this;omega
     subst jJ
     obtain⟨a,b,c,nJ⟩: ∃a b c,L=[a,b,c]:=by
      have h:=HL.o
      match L,h with|[a,b,c],_=>exact⟨a,b,c,rfl⟩
     subst nJ;obtain⟨bi,bV,rfl,hc⟩:=Y.o.resolve_left (by simp);have y0:wo.cell? ⟨bi,bV,none⟩=some (.int .i64 a):=hc 0 a rfl;have R0:=HT.o a (by simp);unfold aH at R0;have y1:wo.cell? ⟨bi,bV+1,none⟩=some (.int .i64 b):=hc 1 b rfl;have R1:=HT.o b (by simp);unfold aH at R1;have y2:wo.cell? ⟨bi,bV+2,none⟩=some (.int .i64 c):=hc 2 c rfl;have R2:=HT.o c (by simp);unfold aH at R2;have Z:=γ (show fO (aK (f+1) env x)=(if a=1 then b else c)from by rw[HV.o];unfold jR;simp);clear hc HV HA HL HT Y;by_cases ha1:a=1
     ·have Z2:=γ (Z.o.trans (if_pos ha1))
      have haa:(a==1)=true:=beq_iff_eq.2 ha1;clear Z ha1;go_wp2_with fail;go_ret;exact⟨by rw[Z2.o];first|rfl|(rw[<-IntWalk.i64_left];rfl),KF.o⟩
     ·have Z2:=γ (Z.o.trans (if_neg ha1))
      have haa:(a==1)=false:=beq_eq_false_iff_ne.2 ha1;clear Z;go_wp2_with fail;go_ret;exact⟨by rw[Z2.o];first|rfl|(rw[<-IntWalk.i64_left];rfl),KF.o⟩
