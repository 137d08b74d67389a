/- The document's jobs: whether one may be. -/
import Derived.Test.YtglbkodmmogomaaGreatDoorI48
set_option linter.unusedVariables false
set_option linter.unusedSimpArgs false
set_option maxHeartbeats 8000000
set_option maxRecDepth 100000
namespace Go.Proofs.YtglbkodmmogomaaGreatDoor
open Go Go.RowKit
attribute [local irreducible] cZ
def jS (l:List JN)(k:Nat):Nat:=((l.take k).map fun d=>jF d.x 1001).sum
theorem AO {l:List JN}{k:Nat}{d:JN}(h:l[k]?=some d):jS l (k+1)=jS l k+jF d.x 1001:=by unfold jS;rw[ψ,h];simp
theorem DV (l:List JN): ∀k,jS l k<=1001*k
 |0=>by simp[jS]
 |k+1=>by
  have ih:=DV l k
  cases h:l[k]? with
  |none=>unfold jS at ih⊢;rw[ψ,h];simp at ih⊢;omega
  |some d=>rw[AO h];have:=(BK d.x 1001 (by omega)).2;omega
theorem J5 (j:Jb):eF j=(decide (j.par<1)||decide (4<j.par)||decide (j.nodes.length<2)||decide (12<j.nodes.length)||decide (1000<jS j.nodes j.nodes.length)):=by have h:(1000<1001-iT (j.nodes.map (·.x)) 1001)↔1000<jS j.nodes j.nodes.length:=(by rw[Ry];unfold jS;rw[List.take_length,List.map_map];rfl);unfold eF;rw[decide_eq_decide.2 h]
theorem Uw {nodes:List JN}{k m:Nat}{d e:JN}(he:nodes[m]?=some e)(hm:m<k)(h:e.uid=d.uid):jD nodes k d=true:=by unfold jD;refine decide_eq_true (abK.2 ⟨e,?_,h⟩);exact ς (i:=m) (by rw[abO,if_pos hm];exact he)
theorem Wv {nodes:List JN}{k:Nat}{d:JN}(h: ∀m e,m<k->nodes[m]?=some e->e.uid≠d.uid):jD nodes k d=false:=by
 unfold jD;refine decide_eq_false fun hm=>?_;obtain⟨e,he,hu⟩:=abK.1 hm;obtain⟨m,hm⟩:=List.getElem?_of_mem he;rw[abO]at hm;split at hm
 ·rename_i hmk
  exact h m e hmk hm hu
 ·cases hm
theorem aak (j:Jb)(a:Array Value)(w:World)(h:lK w a j)(hN:j.nodes.length<=1000)(hU: ∀d∈j.nodes,d.uid.size<=1000):Calls Tryz.prog 45 #[.agg a] w (ou w (gU j)):=by
 have hJ:=h;obtain⟨v,rfl,hn,hp⟩:=h;obtain⟨na,cap,rfl,h1,h2,h3⟩:=hn.at;unfold maxLen at h2;have H3:=γ (θ h3 hJ);have HU:=γ hU;clear h3 hn hJ hU;obtain⟨hp1,hp2⟩:=hp;have HD:=γ (J5 j);have hHead: ∀(w':World),eF j=true->ε η w w'->ou w (gU j) (.returned (.tuple #[.int .i64 0,.int .i64 2])) w':=fun w' hb hk=>⟨by rw[BO hb],hk⟩;have HH:=γ hHead;clear hHead;go_enter Tryz.func45,Tryz.ntmps45;go_wp2_with fail;obtain⟨W0,hW0⟩:=acf ((w.alloc (.cells #[.int .i64 j.par,.slice na j.nodes.length cap] 24)));have k0:ε η w W0:=(by rw[<-hW0];exact δ.alloc _);have d0:W0.cell? ⟨w.heap.size,0,none⟩=some (.int .i64 j.par):=(by rw[<-hW0];simp);have d1:W0.cell? ⟨w.heap.size,1,none⟩=some (.slice na j.nodes.length cap):=(by rw[<-hW0];simp);rw[hW0];have K0:=γ k0;clear hW0 k0;have DD:=γ (θ d0 d1);clear d0 d1;obtain⟨N,hNe⟩: ∃N,j.nodes.length=N:=⟨_,rfl⟩;have HN:=γ hNe;rw[hNe]at hN h1;rw[hNe];clear hNe;go_loopg [5,6] N (fun g vs vi wr=> ∃(k:Nat),k<=N/\vi= .int .i64 (k:Int)/\vs= .int .i64 (jS j.nodes k:Int)/\N-k<=g/\ε η W0 wr)
 case atStart=>exact⟨0,by omega,rfl,rfl,by omega,ε.refl _ _⟩
 case round=>
  obtain⟨k,hkl,rfl,rfl,hg,hkp⟩:=hrel;have e1:wr.cell? ⟨w.heap.size,1,none⟩=some (.slice na N cap):=(by rw[<-HN.o];exact hkp.cell id DD.o.2);have e0:=hkp.cell (p:=⟨w.heap.size,0,none⟩) id DD.o.1;have hps:=DV j.nodes k;have KR:=γ (θ (K0.o.trans hkp) hkp);clear hkp;by_cases hlt:k<N
  ·obtain⟨d,hd⟩: ∃d,j.nodes[k]?=some d:=⟨_,ι (by rw[HN.o];exact hlt)⟩
   obtain⟨b,off,pi,ci,p,cap',rfl,hc,hj⟩:=H3.o.1 k d hd;obtain⟨c0,c1,c2,c3,c4,c5,c6⟩:=hc.kept KR.o.1 id;have hS:=AO hd;have hle:=BK d.x 1001 (by omega);have hxa:aC w #[.int .u8 d.x.op,.int .i64 d.x.n,.slice p d.x.args.length cap'] d.x:=by
    obtain⟨_,_,_,_,e,hx,_⟩:=hj
    injection e with e
    simp only[List.cons.injEq,and_true,true_and]at e;obtain⟨_,e1,e2,e3⟩:=e;first|exact hx|(rw[e1];exact hx)|simp_all
   have G:=γ (θ hg (θ (aC.pure KR.o.1 hxa) hS));obtain⟨S,vU⟩: ∃S,jS j.nodes k=S:=⟨_,rfl⟩;obtain⟨P,hPe⟩: ∃P,jF d.x 1001=P:=⟨_,rfl⟩;rw[vU]at hps G;rw[hPe]at hle G;rw[vU];have HP:=γ hPe;clear hg hxa hj hc hd hS vU hPe c0 c1 c2 c6;go_wp2_with fail;have c:=FM _ d.x _ 1001 wr (ξ _) (by omega) (by omega) G.o.2.1;rw[HP.o,show((1001:Nat):Int)=1001 from rfl]at c;(with_reducible refine c.mono ?_);clear c;rintro e w2 ⟨rfl,k2⟩;have K2:=γ (KR.o.2.trans k2);clear k2;go_wp2_with fail;go_roundg (N-(k+1))
   case rel=>exact⟨k+1,by omega,by go_num,by rw[G.o.2.2];go_num,ξ _,K2.o⟩
   case measure=>have:=G.o.1;omega
  ·obtain rfl:k=N:=by omega
   obtain⟨S,vU⟩: ∃S,jS j.nodes k=S:=⟨_,rfl⟩;rw[vU]at hps;rw[vU];have HB:=γ (show eF j=(decide (j.par<1)||decide (4<j.par)||decide (k<2)||decide (12<k)||decide (1000<S)) by rw[HD.o,HN.o,vU]);clear vU hg;by_cases c1:j.par<1
   ·have F:=γ (HH.o wr (by rw[HB.o,decide_eq_true c1];rfl) KR.o.1)
    go_wp2_with fail;go_ret2;exact F.o
   by_cases c2:4<j.par
   ·have F:=γ (HH.o wr (by rw[HB.o,decide_eq_true c2];simp) KR.o.1)
    go_wp2_with fail;go_ret2;exact F.o
   by_cases c3:k<2
   ·have F:=γ (HH.o wr (by rw[HB.o,decide_eq_true c3];simp) KR.o.1)
    have c3':(k:Int)<2:=(by omega);go_wp2_with fail;go_ret2;exact F.o
   by_cases c4:12<k
   ·have F:=γ (HH.o wr (by rw[HB.o,decide_eq_true c4];simp) KR.o.1)
    have c4':(12:Int)<(k:Int):=(by omega);go_wp2_with fail;go_ret2;exact F.o
   by_cases c5:1000<S
   ·have F:=γ (HH.o wr (by rw[HB.o,decide_eq_true c5];simp) KR.o.1)
    have c5':(1000:Int)<(S:Int):=(by omega);go_wp2_with fail;go_ret2;exact F.o
   have HO:=γ (show eF j=false by rw[HB.o,decide_eq_false c1,decide_eq_false c2,decide_eq_false c3,decide_eq_false c4,decide_eq_false c5];rfl);have c3': ¬(k:Int)<2:=(by omega);have c4': ¬(12:Int)<(k:Int):=(by omega);have c5': ¬(1000:Int)<(S:Int):=(by omega);go_wp2_with fail;clear e0 e1 c5' hps c5 c1 c2 HB HH HD;generalize wr=WA at*;have hk12:k<=12:=(by omega);obtain⟨N,hNk⟩: ∃N,k=N:=⟨_,rfl⟩;subst hNk;go_loopg [7] k (fun g vi wr=> ∃(i:Nat),i<=k/\vi= .int .i64 (i:Int)/\k-i<=g/\ε η W0 wr/\ ∀m,m<i->kY j.nodes m=0)
   case atStart=>exact⟨0,by omega,rfl,by omega,KR.o.2,fun m hm=>by omega⟩
   case round=>
    obtain⟨i,hil,rfl,hg,hkp,hbad⟩:=hrel;have e1:wr.cell? ⟨w.heap.size,1,none⟩=some (.slice na k cap):=(by rw[<-HN.o];exact hkp.cell id DD.o.2);have KS:=γ (θ (K0.o.trans hkp) hkp);clear hkp;by_cases hlt2:i<k
    ·obtain⟨d,hd⟩: ∃d,j.nodes[i]?=some d:=⟨_,ι (by rw[HN.o];exact hlt2)⟩
     obtain⟨b,off,pi,ci,p,cap',hna,hc,hj⟩:=H3.o.1 i d hd;subst hna;obtain⟨c0,c1,c2,c3,c4,c5,c6⟩:=hc.kept KS.o.1 id;have G:=γ (θ hg (θ hbad (θ hd (θ (hj.pure KS.o.1) (HU.o d (ς hd))))));have C0:=γ hc.c0;clear hg hbad hd hj hc;go_wp2_with fail;have c:=XZ d _ i wr G.o.2.2.2.1 G.o.2.2.2.2;(with_reducible refine c.mono ?_);clear c;rintro e w2 ⟨rfl,k2⟩;have K2:=γ (θ (KS.o.1.trans k2) (KS.o.2.trans k2));clear k2
     cases hm:aX i d with
     |false=>have F:=γ (fun w' hk=>show ou w (gU j) (.returned (.tuple #[.int .i64 (i:Int),.int .i64 120])) w' from⟨by rw[zU HO.o (by rw[HN.o];exact hlt2) G.o.2.1 (QF G.o.2.2.1 hm) (by decide)],hk⟩);clear hm;go_wp2_with fail;go_ret2;exact F.o _ K2.o.1
     |true=>
      have HM:=γ hm;clear hm;go_wp2_with fail;clear e1 c0 c1 c2 c3 c4 c5 c6;go_loopg [8] i (fun g vi wr=> ∃(m:Nat),m<=i/\vi= .int .i64 (m:Int)/\i-m<=g/\ε η W0 wr/\ ∀q e,q<m->j.nodes[q]?=some e->e.uid≠d.uid)
      case atStart=>exact⟨0,by omega,rfl,by omega,K2.o.2,fun q e hq=>by omega⟩
      case round=>
       obtain⟨m,hml,rfl,hgm,hkp,hne⟩:=hrel;have e1:wr.cell? ⟨w.heap.size,1,none⟩=some (.slice (some ⟨b,off,none⟩) k cap):=(by rw[<-HN.o];exact hkp.cell id DD.o.2);have KT:=γ (θ (K0.o.trans hkp) hkp);clear hkp;by_cases hmt:m<i
       ·obtain⟨u,hu⟩: ∃u,j.nodes[m]?=some u:=⟨_,ι (by rw[HN.o];omega)⟩
        obtain⟨b',off',pi',ci',p',cap2,hna,hc,hj⟩:=H3.o.1 m u hu
        injection hna with hna
        injection hna with hn1 hn2
        subst hn1 hn2;have y0:=KT.o.1.cell (p:=⟨b,off+i*7,none⟩) id C0.o;have y1:=KT.o.1.cell (p:=⟨b,off+m*7,none⟩) id hc.c0;have hmk:m<k:=(by omega);have G2:=γ (θ hgm (θ hne hu));clear hgm hne hu hc hj;by_cases ce:u.uid=d.uid
        ·have be:(u.uid.toList==d.uid.toList)=true:=by rw[str_eq];exact decide_eq_true ce
         have F:=γ (fun w' hk=>show ou w (gU j) (.returned (.tuple #[.int .i64 (i:Int),.int .i64 121])) w' from⟨by rw[zU HO.o (by rw[HN.o];exact hlt2) G.o.2.1 (QE G.o.2.2.1 HM.o (Uw G2.o.2.2 hmt ce)) (by decide)],hk⟩);clear ce;go_wp2_with fail;refine ak [0,1,2,3,4,5,6,7,8,9,10,11,12] (fun W=>ε η wr W) (by kernel_rfl) (by kernel_rfl) rfl δ.drew ?_;simp only[abU];iterate 13 (apply aj rfl rfl;(intro W hW;have z1:=hW.cell id e1;have t0:=hW.cell id y0;have t1:=hW.cell id y1;go_simp;rfl);go_frame)
         refine aG (fun _=>δ.drew) ?_;go_wp2_with fail;go_ret2;exact F.o _ (KT.o.1.trans δ.drew)
        ·have be:(u.uid.toList==d.uid.toList)=false:=by rw[str_eq];exact decide_eq_false ce
         have F:=γ (show∀q e,q<m+1->j.nodes[q]?=some e->e.uid≠d.uid from fun q e hq he=>by
          by_cases h:q<m
          ·exact G2.o.2.1 q e h he
          ·have e1:q=m:=by omega
           subst e1;rw[G2.o.2.2]at he
           injection he with he
           rw[<-he];exact ce)
         clear ce;go_wp2_with fail;refine ak [0,1,2,3,4,5,6,7,8,9,10,11,12] (fun W=>ε η wr W) (by kernel_rfl) (by kernel_rfl) rfl δ.drew ?_;simp only[abU];iterate 13 (apply aj rfl rfl;(intro W hW;have z1:=hW.cell id e1;have t0:=hW.cell id y0;have t1:=hW.cell id y1;go_simp;rfl);go_frame)
         refine aG (fun _=>δ.drew) ?_;go_wp2_with fail;go_roundg (i-(m+1))
         case rel=>exact⟨m+1,by omega,by go_num,ξ _,KT.o.2.trans δ.drew,F.o⟩
         case measure=>have:=G2.o.1;omega
       ·obtain rfl:m=i:=by omega
        have F:=γ (show∀q,q<m+1->kY j.nodes q=0 from fun q hq=>by
         by_cases h:q<m
         ·exact G.o.2.1 q h
         ·have:q=m:=by omega
          subst this
          exact(sD G.o.2.2.1).2 ⟨HM.o,Wv hne⟩)
        clear hne hgm;go_wp2_with fail;go_roundg (k-(m+1))
        case rel=>exact⟨m+1,by omega,by go_num,ξ _,KT.o.2,F.o⟩
        case measure=>have:=G.o.1;omega
    ·obtain rfl:i=k:=by omega
     have ZN:=γ hbad;clear hbad hg e1 KR;go_wp2_with fail;generalize wr=WB at*;have WBS:=γ KS.o.2.size;go_loopg [9,10,11] i (fun g vf vo vi w2=> ∃(k:Nat),k<=i/\vi= .int .i64 (k:Int)/\i-k<=g/\vf= .int .i64 (((j.nodes.take k).countP fun d=>d.kind==4:Nat):Int)/\w2.ownsRow WB.heap.size 3 1 vo k (ints (bJ (j.nodes.take k)))/\ε η WB w2/\(∀x∈bJ (j.nodes.take k),0<=x/\x<=64)/\ ∀m e,m<k->j.nodes[m]?=some e->aS j.nodes m e=false)
     case atStart=>exact⟨0,by omega,rfl,by omega,rfl,World.ownsRow_nil _ _ _ _,ε.refl _ _,fun x hx=>by simp[bJ]at hx,fun m e hm=>by omega⟩
     case round=>
      obtain⟨k,hkl,rfl,hg,rfl,hown,hkp,hwb,hsh⟩:=hrel;have e1:wr.cell? ⟨w.heap.size,1,none⟩=some (.slice na i cap):=(by rw[<-HN.o];exact(KS.o.2.trans hkp).cell id DD.o.2);have e0:=(KS.o.2.trans hkp).cell (p:=⟨w.heap.size,0,none⟩) id DD.o.1;obtain⟨DY,DX,rfl⟩:=au hown;have KV:=γ (KS.o.1.trans hkp);by_cases hlt3:k<i
      ·obtain⟨d,hd⟩: ∃d,j.nodes[k]?=some d:=⟨_,ι (by rw[HN.o];exact hlt3)⟩
       obtain⟨b,off,pi,ci,p,cap',hna,hc,hj⟩:=H3.o.1 k d hd;subst hna;obtain⟨c0,c1,c2,c3,c4,c5,c6⟩:=hc.kept KV.o id;obtain⟨ab3,hlow⟩:=O9 ((sD hd).1 (ZN.o k hlt3)).1;have hin:Reads w 1 (.slice pi d.ins.length ci) (ints d.ins):=by
        obtain⟨_,_,_,_,e,_,hx,_⟩:=hj
        injection e with e
        simp only[List.cons.injEq,and_true,true_and]at e;obtain⟨e1,e2⟩:=e;rw[e1];exact hx
       have hkind:0<=d.kind/\d.kind<=255:=(by obtain⟨_,_,_,_,e,_,_,_,h4,h5,_⟩:=hj;exact⟨h4,h5⟩);obtain⟨ia,il,ic,ie,i1,i2,_,Jt⟩:=hin.pure KV.o
       injection ie with YP YO YN
       subst YP YO YN;unfold maxLen at i2
       have I3:=γ (show∀(m:Nat)(x:Int),d.ins[m]?=some x-> ∃b off,pi=some ⟨b,off,none⟩/\wr.cell? ⟨b,off+m,none⟩=some (.int .i64 x) by
        intro m x hx;have hne:ints d.ins≠[]:=fun e=>(by unfold ints at e;rw[List.map_eq_nil_iff]at e;rw[e]at hx;cases hx);obtain⟨b,off,e,hc⟩:=Jt.resolve_left hne
        exact⟨b,off,e,hc m _ (by unfold ints;rw[abJ,hx];rfl)⟩)
       obtain⟨W,hWe⟩: ∃W,bJ (j.nodes.take k)=W:=⟨_,rfl⟩;have hwl:W.length=k:=(by rw[<-hWe,pz,υ,HN.o];omega);rw[hWe]at hown hwb;have hfl:(j.nodes.take k).countP (fun d=>d.kind==4)<=k:=ω List.countP_le_length (by rw[υ];omega);obtain⟨fl,hfd⟩: ∃fl,(j.nodes.take k).countP (fun d=>d.kind==4)=fl:=⟨_,rfl⟩;rw[hfd]at hfl;have aaX:=Gz hd;have aaM:=Iy hd;have aaN:=Et hd;rw[hfd]at aaX;rw[hWe]at aaM aaN;rw[hfd];obtain⟨pa,n',pc,pe,q1,q2,_,hcell⟩:=Reads.aN hown
       injection pe with pe1 DU BJ
       subst pe1 DU BJ;unfold maxLen at q2
       have RV:=γ (show∀(m:Nat)(x:Int),W[m]?=some x-> ∃b off,DY=some ⟨b,off,none⟩/\wr.cell? ⟨b,off+m,none⟩=some (.int .i64 x) by
        intro m x hx;have hne:ints W≠[]:=fun e=>(by unfold ints at e;rw[List.map_eq_nil_iff]at e;rw[e]at hx;cases hx);obtain⟨b,off,e,hc⟩:=hcell.resolve_left hne
        exact⟨b,off,e,hc m _ (by unfold ints;rw[abJ,hx];rfl)⟩)
       have G:=γ (θ hg (θ hown (θ hkp (θ hd (θ hsh (θ hlow hwb))))));have HW:=γ (θ hwl (θ aaX (θ aaM aaN)));have E0:=γ (θ (KS.o.2.cell (p:=⟨w.heap.size,0,none⟩) id DD.o.1) (KS.o.2.cell (p:=⟨w.heap.size,1,none⟩) id DD.o.2));clear hg hown hkp hd hsh hlow hwb hc hj hin Jt hWe hwl hfd aaX aaM aaN hcell;obtain⟨kd,hkd⟩: ∃kd,d.kind=kd:=⟨_,rfl⟩;rw[hkd]at c1 hkind;have QY:=γ hkd;clear hkd;obtain⟨nI,hnI⟩: ∃nI,d.ins.length=nI:=⟨_,rfl⟩;rw[hnI]at c2 ab3 i1;have HNI:=γ hnI;clear hnI;go_wp2_with fail;go_loopg [13,14] nI (fun g vs vi w2=> ∃(m:Nat),m<=nI/\vi= .int .i64 (m:Int)/\vs= .int .i64 (iG W d.ins m)/\nI-m<=g/\w2=wr)
       case atStart=>exact⟨0,by omega,rfl,by simp[iG],by omega,rfl⟩
       case round=>
        obtain⟨m,hml,rfl,rfl,hgm,rfl⟩:=hrel;have hSb:=wI (ins:=d.ins) G.o.2.2.2.2.2.2 m;by_cases hmt:m<nI
        ·obtain⟨x,hx⟩: ∃x,d.ins[m]?=some x:=⟨_,ι (by rw[HNI.o];exact hmt)⟩
         have hxl:=G.o.2.2.2.2.2.1 x (ς hx);obtain⟨xn,rfl⟩: ∃xn:Nat,x=(xn:Int):=⟨x.toNat,by omega⟩;have hxk:xn<W.length:=(by rw[HW.o.1];omega);obtain⟨v,hv⟩: ∃v,W[xn]?=some v:=⟨_,ι hxk⟩;obtain⟨bi,oi,rfl,y⟩:=I3.o m _ hx;obtain⟨bw,ow,rfl,z⟩:=RV.o xn v hv;have hvb:=G.o.2.2.2.2.2.2 v (ς hv);have hxk':xn<k:=by omega
         have SS:=γ (show iG W d.ins (m+1)=iG W d.ins m+v by
          rw[Bq hx,σ,Int.toNat_natCast,hv];first|done|rfl)
         have HGM:=γ hgm;obtain⟨S,vU⟩: ∃S,iG W d.ins m=S:=⟨_,rfl⟩;rw[vU]at hSb SS;rw[vU];clear hx hv hgm vU hxl hxk;go_wp2_with fail;go_roundg (nI-(m+1))
         case rel=>exact⟨m+1,by omega,by go_num,by rw[SS.o],ξ _,rfl⟩
         case measure=>have:=HGM.o;omega
        ·obtain rfl:m=nI:=by omega
         obtain⟨S,vU⟩: ∃S,iG W d.ins m=S:=⟨_,rfl⟩;rw[vU]at hSb;rw[vU];have hwo:=Iz W d;rw[HNI.o,vU,QY.o]at hwo;have hws:=HW.o.2.2.1;have hwg:=HW.o.2.2.2;have hfs:=HW.o.2.1;rw[QY.o]at hfs;have hkd:=QY.o
         have CS:=γ (show aS j.nodes k d=false-> ∀x∈bJ (j.nodes.take (k+1)),0<=x/\x<=64 from fun hg x hx=>by
          rw[hws]at hx
          rcases abL.1 hx with hx|hx
          ·exact G.o.2.2.2.2.2.2 x hx
          ·rw[abQ.1 hx]
           have h1: ¬(64<(bJ j.nodes).getD k 0):=fun h=>(by have h2:=(nT (nodes:=j.nodes) (k:=k) (d:=d) rfl rfl rfl).2 (.inr (.inr (.inr (.inr (.inr h)))));rw[hg]at h2;cases h2);rw[hwg]at h1;refine⟨?_,by omega⟩;rw[hwo];split
           ·omega
           ·split<;>omega)
         clear hgm vU;by_cases k1:kd=1
         ·rw[if_pos k1]at hwo
          rw[if_neg (by omega),Nat.add_zero]at hfs;have b1:(kd==1)=true:=(by simp[k1]);have b2:(kd !=1)=false:=(by simp[k1]);have b4:(kd==4)=false:=(by simp[k1]);have b9:(kd==9)=false:=(by simp[k1]);have b8:(kd !=9)=true:=(by simp[k1]);have nP:=γ k1;clear k1;obtain⟨ti,hi3,hz3,hs3,hb3⟩:=rD;obtain⟨g',cap2,w',p1,p2,p3⟩:=kQ (x:= .int .i64 (1)) (bytes:=8) Tryz.underlying37 hi3 hz3 hs3 hb3 rfl rfl G.o.2.1 (by omega) (by omega) G.o.2.2.1.size 37;have kN:ε η WB w':=G.o.2.2.1.new p3 (fun i hi hs=>by have h1:=(aU G.o.2.1 hs).1;omega);have hrow:w'.ownsRow WB.heap.size 3 1 (.slice (some ⟨g',0,none⟩) (k+1) cap2) (k+1) (ints (bJ (j.nodes.take (k+1)))):=(by rw[hws,hwo];unfold ints at p2⊢;rw[abM];exact p2);have e0':=kN.cell id E0.o.1;have e1':w'.cell? ⟨w.heap.size,1,none⟩=some (.slice (some ⟨b,off,none⟩) i cap):=(by rw[<-HN.o];exact kN.cell id E0.o.2);have cr:=wX j _ k w' (H3.o.2.pure (KS.o.1.trans kN)) (by rw[HN.o];omega);rw[HN.o]at cr;obtain⟨many,fJ⟩: ∃many,fF j.nodes k=many:=⟨_,rfl⟩;rw[fJ]at cr;have hsh:=nT (d:=d) fJ hfs hwg;rw[HN.o,hkd,hwo]at hsh;have hml:many<=12:=(by rw[<-fJ];have:=List.countP_le_length (p:=fun d:JN=>d.ins.contains (k:Int)) (l:=j.nodes);rw[HN.o]at this;unfold fF;omega);have P1:=γ p1;have R:=γ (θ hrow (θ kN hsh));clear p1 p2 p3 hi3 hz3 hs3 hb3 kN hrow fJ hsh;go_wp2_with (at_builtin;refine wpList_append_run rfl (.tmp 132) (.tmp 134) 37 rfl (.slice DY k DX) (.slice (some ⟨wr.heap.size,0,none⟩) 1 1) _ rfl rfl P1.o ?_);(with_reducible refine cr.mono ?_);clear cr;rintro e W5 ⟨v5,rfl,BZ,k5⟩;obtain⟨ra,rc,rfl⟩:=au BZ;have FB:=γ (show∀x:Int,x=(k:Int)->aS j.nodes k d=true->ou w (gU j) (.returned (.tuple #[.int .i64 x,.int .i64 122])) W5 from fun x hx h=>⟨by rw[qp HO.o (by rw[HN.o];exact ZN.o) G.o.2.2.2.1 G.o.2.2.2.2.1 h,hx],KS.o.1.trans (R.o.2.1.trans k5)⟩)
          have GOOD:=γ (show aS j.nodes k d=false-> ∃(k':Nat),k'<=i/\Value.int .i64 ((k+1:Nat):Int)= .int .i64 (k':Int)/\i-k'<=i-(k+1)/\Value.int .i64 ((fl:Nat):Int)= .int .i64 (((j.nodes.take k').countP fun d=>d.kind==4:Nat):Int)/\W5.ownsRow WB.heap.size 3 1 (.slice (some ⟨g',0,none⟩) (k+1) cap2) k' (ints (bJ (j.nodes.take k')))/\ε η WB W5/\(∀x∈bJ (j.nodes.take k'),0<=x/\x<=64)/\ ∀m e,m<k'->j.nodes[m]?=some e->aS j.nodes m e=false from fun hg=>by
           refine⟨k+1,by omega,rfl,ξ _,?_,k5.owns R.o.1 (fun _ _ h=>h),R.o.2.1.trans k5,CS.o hg,fun m e hm he=>?_⟩
           ·rw[show((j.nodes.take (k+1)).countP (fun d=>d.kind==4))=fl from hfs]
           ·by_cases h:m<k
            ·exact G.o.2.2.2.2.1 m e h he
            ·have e1:m=k:=by omega
             subst e1;have e2:=G.o.2.2.2.1;rw[he]at e2
             injection e2 with e2
             rw[e2];exact hg)
          have SH:=γ R.o.2.2;clear BZ k5 e0 e1 e0' e1' c0 c1 c2 c3 c4 c5 c6 hws hwg hfs hwo;by_cases hk0:k=0
          ·have kb:((k:Int)==0)=true:=by simp[hk0]
           have kl:((k:Int)==(i:Int)-1)=false:=(by have:(k:Int)≠(i:Int)-1:=(by omega);simpa using this);have QZ:=γ hk0;clear hk0;go_wp2_with fail;all_goals have hk0:=QZ.o
           all_goals have k1:=nP.o
           all_goals first
            |(go_ret2
              refine FB.o _ (by omega) (SH.o.2 ?_)
              (try simp only[beq_iff_eq,beq_eq_false_iff_ne,bne_iff_ne,bne_eq_false_iff_eq,ne_eq,decide_eq_true_eq,decide_eq_false_iff_not,Bool.not_eq_true,Bool.not_eq_false,not_true_eq_false,not_false_eq_true]at*)
              omega)
            |(have hgood:aS j.nodes k d=false:=by
               cases hsb:aS j.nodes k d with
               |false=>rfl
               |true=>
                have h3:=SH.o.1 hsb;exfalso;clear hsb
                (try simp only[beq_iff_eq,beq_eq_false_iff_ne,bne_iff_ne,bne_eq_false_iff_eq,ne_eq,decide_eq_true_eq,decide_eq_false_iff_not,Bool.not_eq_true,Bool.not_eq_false,not_true_eq_false,not_false_eq_true]at*)
                omega
              go_roundg (i-(k+1))
              case rel=>
               obtain⟨k',q1,q2,q3,q4⟩:=GOOD.o hgood
               have e':k'=k+1:=by injection q2 with _ q2;omega
               subst e';exact⟨k+1,by omega,by go_num,ξ _,by first|exact q4.1|(rw[<-q4.1];go_num),q4.2⟩
              case measure=>have:=G.o.1;omega)
          ·have kb:((k:Int)==0)=false:=by simp[hk0]
           have QZ:=γ hk0;clear hk0;go_wp2_with fail;go_ret2;exact FB.o _ rfl (SH.o.2 (.inl ⟨fun _=>QZ.o,fun _=>nP.o⟩))
         ·rw[if_neg k1]at hwo
          have b1:(kd==1)=false:=(by simp[k1]);by_cases k4:kd=4
          ·subst k4
           rw[if_pos rfl,Int.mul_comm]at hwo;rw[if_pos rfl]at hfs;obtain⟨ti,hi3,hz3,hs3,hb3⟩:=rD;obtain⟨g',cap2,w',p1,p2,p3⟩:=kQ (x:= .int .i64 (4*S)) (bytes:=8) Tryz.underlying37 hi3 hz3 hs3 hb3 rfl rfl G.o.2.1 (by omega) (by omega) G.o.2.2.1.size 37;have kN:ε η WB w':=G.o.2.2.1.new p3 (fun i hi hs=>by have h1:=(aU G.o.2.1 hs).1;omega);have hrow:w'.ownsRow WB.heap.size 3 1 (.slice (some ⟨g',0,none⟩) (k+1) cap2) (k+1) (ints (bJ (j.nodes.take (k+1)))):=(by rw[hws,hwo];unfold ints at p2⊢;rw[abM];exact p2);have e0':=kN.cell id E0.o.1;have e1':w'.cell? ⟨w.heap.size,1,none⟩=some (.slice (some ⟨b,off,none⟩) i cap):=(by rw[<-HN.o];exact kN.cell id E0.o.2);have cr:=wX j _ k w' (H3.o.2.pure (KS.o.1.trans kN)) (by rw[HN.o];omega);rw[HN.o]at cr;obtain⟨many,fJ⟩: ∃many,fF j.nodes k=many:=⟨_,rfl⟩;rw[fJ]at cr;have hsh:=nT (d:=d) fJ hfs hwg;rw[HN.o,hkd,hwo]at hsh;have hml:many<=12:=(by rw[<-fJ];have:=List.countP_le_length (p:=fun d:JN=>d.ins.contains (k:Int)) (l:=j.nodes);rw[HN.o]at this;unfold fF;omega);have P1:=γ p1;have R:=γ (θ hrow (θ kN hsh));clear p1 p2 p3 hi3 hz3 hs3 hb3 kN hrow fJ hsh;go_wp2_with (at_builtin;refine wpList_append_run rfl (.tmp 132) (.tmp 134) 37 rfl (.slice DY k DX) (.slice (some ⟨wr.heap.size,0,none⟩) 1 1) _ rfl rfl P1.o ?_);(with_reducible refine cr.mono ?_);clear cr;rintro e W5 ⟨v5,rfl,BZ,k5⟩;obtain⟨ra,rc,rfl⟩:=au BZ;have FB:=γ (show∀x:Int,x=(k:Int)->aS j.nodes k d=true->ou w (gU j) (.returned (.tuple #[.int .i64 x,.int .i64 122])) W5 from fun x hx h=>⟨by rw[qp HO.o (by rw[HN.o];exact ZN.o) G.o.2.2.2.1 G.o.2.2.2.2.1 h,hx],KS.o.1.trans (R.o.2.1.trans k5)⟩)
           have GOOD:=γ (show aS j.nodes k d=false-> ∃(k':Nat),k'<=i/\Value.int .i64 ((k+1:Nat):Int)= .int .i64 (k':Int)/\i-k'<=i-(k+1)/\Value.int .i64 ((fl+1:Nat):Int)= .int .i64 (((j.nodes.take k').countP fun d=>d.kind==4:Nat):Int)/\W5.ownsRow WB.heap.size 3 1 (.slice (some ⟨g',0,none⟩) (k+1) cap2) k' (ints (bJ (j.nodes.take k')))/\ε η WB W5/\(∀x∈bJ (j.nodes.take k'),0<=x/\x<=64)/\ ∀m e,m<k'->j.nodes[m]?=some e->aS j.nodes m e=false from fun hg=>by
            refine⟨k+1,by omega,rfl,ξ _,?_,k5.owns R.o.1 (fun _ _ h=>h),R.o.2.1.trans k5,CS.o hg,fun m e hm he=>?_⟩
            ·rw[show((j.nodes.take (k+1)).countP (fun d=>d.kind==4))=fl+1 from hfs]
            ·by_cases h:m<k
             ·exact G.o.2.2.2.2.1 m e h he
             ·have e1:m=k:=by omega
              subst e1;have e2:=G.o.2.2.2.1;rw[he]at e2
              injection e2 with e2
              rw[e2];exact hg)
           have SH:=γ R.o.2.2;clear BZ k5 e0 e1 e0' e1' c0 c1 c2 c3 c4 c5 c6 hws hwg hfs hwo;go_wp2_with fail;all_goals first
            |(go_ret2
              refine FB.o _ (by omega) (SH.o.2 ?_)
              (try simp only[beq_iff_eq,beq_eq_false_iff_ne,bne_iff_ne,bne_eq_false_iff_eq,ne_eq,decide_eq_true_eq,decide_eq_false_iff_not,Bool.not_eq_true,Bool.not_eq_false,not_true_eq_false,not_false_eq_true]at*)
              omega)
            |(have hgood:aS j.nodes k d=false:=by
               cases hsb:aS j.nodes k d with
               |false=>rfl
               |true=>
                have h3:=SH.o.1 hsb;exfalso;clear hsb
                (try simp only[beq_iff_eq,beq_eq_false_iff_ne,bne_iff_ne,bne_eq_false_iff_eq,ne_eq,decide_eq_true_eq,decide_eq_false_iff_not,Bool.not_eq_true,Bool.not_eq_false,not_true_eq_false,not_false_eq_true]at*)
                omega
              go_roundg (i-(k+1))
              case rel=>
               obtain⟨k',q1,q2,q3,q4⟩:=GOOD.o hgood
               have e':k'=k+1:=by injection q2 with _ q2;omega
               subst e';exact⟨k+1,by omega,by go_num,ξ _,by first|exact q4.1|(rw[<-q4.1];go_num),q4.2⟩
              case measure=>have:=G.o.1;omega)
          ·rw[if_neg k4,Int.mul_one]at hwo
           rw[if_neg k4,Nat.add_zero]at hfs;have b4:(kd==4)=false:=(by simp[k4]);obtain⟨ti,hi3,hz3,hs3,hb3⟩:=rD;obtain⟨g',cap2,w',p1,p2,p3⟩:=kQ (x:= .int .i64 (S)) (bytes:=8) Tryz.underlying37 hi3 hz3 hs3 hb3 rfl rfl G.o.2.1 (by omega) (by omega) G.o.2.2.1.size 37;have kN:ε η WB w':=G.o.2.2.1.new p3 (fun i hi hs=>by have h1:=(aU G.o.2.1 hs).1;omega);have hrow:w'.ownsRow WB.heap.size 3 1 (.slice (some ⟨g',0,none⟩) (k+1) cap2) (k+1) (ints (bJ (j.nodes.take (k+1)))):=(by rw[hws,hwo];unfold ints at p2⊢;rw[abM];exact p2);have e0':=kN.cell id E0.o.1;have e1':w'.cell? ⟨w.heap.size,1,none⟩=some (.slice (some ⟨b,off,none⟩) i cap):=(by rw[<-HN.o];exact kN.cell id E0.o.2);have cr:=wX j _ k w' (H3.o.2.pure (KS.o.1.trans kN)) (by rw[HN.o];omega);rw[HN.o]at cr;obtain⟨many,fJ⟩: ∃many,fF j.nodes k=many:=⟨_,rfl⟩;rw[fJ]at cr;have hsh:=nT (d:=d) fJ hfs hwg;rw[HN.o,hkd,hwo]at hsh;have hml:many<=12:=(by rw[<-fJ];have:=List.countP_le_length (p:=fun d:JN=>d.ins.contains (k:Int)) (l:=j.nodes);rw[HN.o]at this;unfold fF;omega);have P1:=γ p1;have R:=γ (θ hrow (θ kN hsh));clear p1 p2 p3 hi3 hz3 hs3 hb3 kN hrow fJ hsh;go_wp2_with (at_builtin;refine wpList_append_run rfl (.tmp 132) (.tmp 134) 37 rfl (.slice DY k DX) (.slice (some ⟨wr.heap.size,0,none⟩) 1 1) _ rfl rfl P1.o ?_);(with_reducible refine cr.mono ?_);clear cr;rintro e W5 ⟨v5,rfl,BZ,k5⟩;obtain⟨ra,rc,rfl⟩:=au BZ;have FB:=γ (show∀x:Int,x=(k:Int)->aS j.nodes k d=true->ou w (gU j) (.returned (.tuple #[.int .i64 x,.int .i64 122])) W5 from fun x hx h=>⟨by rw[qp HO.o (by rw[HN.o];exact ZN.o) G.o.2.2.2.1 G.o.2.2.2.2.1 h,hx],KS.o.1.trans (R.o.2.1.trans k5)⟩)
           have GOOD:=γ (show aS j.nodes k d=false-> ∃(k':Nat),k'<=i/\Value.int .i64 ((k+1:Nat):Int)= .int .i64 (k':Int)/\i-k'<=i-(k+1)/\Value.int .i64 ((fl:Nat):Int)= .int .i64 (((j.nodes.take k').countP fun d=>d.kind==4:Nat):Int)/\W5.ownsRow WB.heap.size 3 1 (.slice (some ⟨g',0,none⟩) (k+1) cap2) k' (ints (bJ (j.nodes.take k')))/\ε η WB W5/\(∀x∈bJ (j.nodes.take k'),0<=x/\x<=64)/\ ∀m e,m<k'->j.nodes[m]?=some e->aS j.nodes m e=false from fun hg=>by
            refine⟨k+1,by omega,rfl,ξ _,?_,k5.owns R.o.1 (fun _ _ h=>h),R.o.2.1.trans k5,CS.o hg,fun m e hm he=>?_⟩
            ·rw[show((j.nodes.take (k+1)).countP (fun d=>d.kind==4))=fl from hfs]
            ·by_cases h:m<k
             ·exact G.o.2.2.2.2.1 m e h he
             ·have e1:m=k:=by omega
              subst e1;have e2:=G.o.2.2.2.1;rw[he]at e2
              injection e2 with e2
              rw[e2];exact hg)
           have SH:=γ R.o.2.2;clear BZ k5 e0 e1 e0' e1' c0 c1 c2 c3 c4 c5 c6 hws hwg hfs hwo;go_wp2_with fail;all_goals first
            |(go_ret2
              refine FB.o _ (by omega) (SH.o.2 ?_)
              (try simp only[beq_iff_eq,beq_eq_false_iff_ne,bne_iff_ne,bne_eq_false_iff_eq,ne_eq,decide_eq_true_eq,decide_eq_false_iff_not,Bool.not_eq_true,Bool.not_eq_false,not_true_eq_false,not_false_eq_true]at*)
              omega)
            |(have hgood:aS j.nodes k d=false:=by
               cases hsb:aS j.nodes k d with
               |false=>rfl
               |true=>
                have h3:=SH.o.1 hsb;exfalso;clear hsb
                (try simp only[beq_iff_eq,beq_eq_false_iff_ne,bne_iff_ne,bne_eq_false_iff_eq,ne_eq,decide_eq_true_eq,decide_eq_false_iff_not,Bool.not_eq_true,Bool.not_eq_false,not_true_eq_false,not_false_eq_true]at*)
                omega
              go_roundg (i-(k+1))
              case rel=>
               obtain⟨k',q1,q2,q3,q4⟩:=GOOD.o hgood
               have e':k'=k+1:=by injection q2 with _ q2;omega
               subst e';exact⟨k+1,by omega,by go_num,ξ _,by first|exact q4.1|(rw[<-q4.1];go_num),q4.2⟩
              case measure=>have:=G.o.1;omega)
      ·obtain rfl:k=i:=by omega
       have F:=γ (show∀w',ε η w w'->ou w (gU j) (.returned (.tuple #[.int .i64 0,.int .i64 0])) w' from fun w' hk=>⟨by rw[Ib HO.o (by rw[HN.o];exact ZN.o) (by rw[HN.o];exact hsh)],hk⟩);clear hsh hown hkp hwb hg;go_wp2_with fail;go_ret2;exact F.o _ KV.o
