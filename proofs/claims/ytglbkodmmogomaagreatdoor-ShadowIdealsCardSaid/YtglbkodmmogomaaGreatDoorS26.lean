/- The document's jobs: whether one may be. -/
import Derived.Test.YtglbkodmmogomaaGreatDoorS25
import Derived.Test.YtglbkodmmogomaaGreatDoorS24
set_option linter.unusedVariables false
set_option linter.unusedSimpArgs false
set_option maxHeartbeats 8000000
set_option maxRecDepth 100000
namespace Go.Proofs.YtglbkodmmogomaaGreatDoor
open List Go.Proofs.Tryz
section
open Go Go.RowKit
attribute [local irreducible] dI
def kJ (l:List JN)(k:Nat):Nat:=((l.take k).map fun d=>jT d.x 1001).sum
theorem Bd {l:List JN}{k:Nat}{d:JN}(h:l[k]?=some d):kJ l (k+1)=kJ l k+jT d.x 1001:=by unfold kJ;rw[ψ,h];simp
theorem En (l:List JN): ∀k,kJ l k<=1001*k
 |0=>by simp[kJ]
 |k+1=>by
  have ih:=En l k
  cases h:l[k]? with
  |none=>unfold kJ at ih⊢;rw[ψ,h];simp at ih⊢;omega
  |some d=>rw[Bd h];have:=(Cb d.x 1001 (by omega)).2;omega
theorem La (j:Jb):fE j=(decide (j.par<1)||decide (4<j.par)||decide (j.nodes.length<2)||decide (12<j.nodes.length)||decide (1000<kJ j.nodes j.nodes.length)):=by have h:(1000<1001-jl (j.nodes.map (·.x)) 1001)↔1000<kJ j.nodes j.nodes.length:=(by rw[Td];unfold kJ;rw[take_length,map_map];rfl);unfold fE;rw[decide_eq_decide.2 h]
theorem U5 {nodes:List JN}{k m:Nat}{d e:JN}(he:nodes[m]?=some e)(hm:m<k)(h:e.uid=d.uid):jR nodes k d=true:=by unfold jR;refine decide_eq_true (aaw.2 ⟨e,?_,h⟩);exact ς (i:=m) (by rw[aaA,if_pos hm];exact he)
theorem Xn {nodes:List JN}{k:Nat}{d:JN}(h: ∀m e,m<k->nodes[m]?=some e->e.uid≠d.uid):jR nodes k d=false:=by
 unfold jR;refine decide_eq_false fun hm=>?_;obtain⟨e,he,hu⟩:=aaw.1 hm;obtain⟨m,hm⟩:=getElem?_of_mem he;rw[aaA]at hm;split at hm
 ·rename_i hmk
  exact h m e hmk hm hu
 ·cases hm
theorem aaS (j:Jb)(a:Array Value)(w:World)(h:oh w a j)(hN:j.nodes.length<=1000)(hU: ∀d∈j.nodes,d.uid.size<=1000):Calls prog 45 #[.agg a] w (oQ w (iw j)):=by
 have hJ:=h;obtain⟨v,rfl,hn,hp⟩:=h;obtain⟨na,cap,rfl,h1,h2,h3⟩:=hn.at;unfold maxLen at h2;have H3:=γ (θ h3 hJ);have HU:=γ hU;clear h3 hn hJ hU;obtain⟨hp1,hp2⟩:=hp;have HD:=γ (La j);have hHead: ∀(w':World),fE j=true->ε η w w'->oQ w (iw j) (.returned (.tuple #[.int .i64 0,.int .i64 2])) w':=fun w' hb hk=>⟨by rw[Cj hb],hk⟩;have HH:=γ hHead;clear hHead;go_enter func45,ntmps45;go_wp2_with fail;obtain⟨W0,hW0⟩:=acu ((w.alloc (.cells #[.int .i64 j.par,.slice na j.nodes.length cap] 24)));have k0:ε η w W0:=(by rw[<-hW0];exact δ.alloc _);have d0:W0.cell? ⟨w.heap.size,0,none⟩=some (.int .i64 j.par):=(by rw[<-hW0];simp);have d1:W0.cell? ⟨w.heap.size,1,none⟩=some (.slice na j.nodes.length cap):=(by rw[<-hW0];simp);rw[hW0];have K0:=γ k0;clear hW0 k0;have DD:=γ (θ d0 d1);clear d0 d1;obtain⟨N,hNe⟩:=acu j.nodes.length;have HN:=γ hNe;rw[hNe]at hN h1;rw[hNe];clear hNe;go_loopg [5,6] N (fun g vs vi wr=> ∃(k:Nat),k<=N/\vi= .int .i64 (k:Int)/\vs= .int .i64 (kJ j.nodes k:Int)/\N-k<=g/\ε η W0 wr)
 case atStart=>exact⟨0,by omega,rfl,rfl,by omega,ε.refl _ _⟩
 case round=>
  obtain⟨k,hkl,rfl,rfl,hg,hkp⟩:=hrel;have e1:wr.cell? ⟨w.heap.size,1,none⟩=some (.slice na N cap):=(by rw[<-HN.o];exact hkp.cell id DD.o.2);have e0:=hkp.cell (p:=⟨w.heap.size,0,none⟩) id DD.o.1;have hps:=En j.nodes k;have KR:=γ (θ (K0.o.trans hkp) hkp);clear hkp;by_cases hlt:k<N
  ·obtain⟨d,hd⟩: ∃d,j.nodes[k]?=some d:=⟨_,ι (by rw[HN.o];exact hlt)⟩
   obtain⟨b,off,pi,ci,p,cap',rfl,hc,hj⟩:=H3.o.1 k d hd;obtain⟨c0,c1,c2,c3,c4,c5,c6⟩:=hc.kept KR.o.1 id;have hS:=Bd hd;have hle:=Cb d.x 1001 (by omega);have hxa:aF w #[.int .u8 d.x.op,.int .i64 d.x.n,.slice p d.x.args.length cap'] d.x:=by
    obtain⟨_,_,_,_,e,hx,_⟩:=hj
    injection e with e
    simp only[List.cons.injEq,and_true,true_and]at e;obtain⟨_,e1,e2,e3⟩:=e;first|exact hx|(rw[e1];exact hx)|simp_all
   have G:=γ (θ hg (θ (aF.pure KR.o.1 hxa) hS));obtain⟨S,wI⟩:=acu (kJ j.nodes k);obtain⟨P,hPe⟩:=acu (jT d.x 1001);rw[wI]at hps G;rw[hPe]at hle G;rw[wI];have HP:=γ hPe;clear hg hxa hj hc hd hS wI hPe c0 c1 c2 c6;go_wp2_with fail;have c:=Gl _ d.x _ 1001 wr (ξ _) (by omega) (by omega) G.o.2.1;rw[HP.o,show((1001:Nat):Int)=1001 from rfl]at c;refine c.mono ?_;clear c;rintro e w2 ⟨rfl,k2⟩;have K2:=γ (KR.o.2.trans k2);clear k2;go_wp2;go_roundg (N-(k+1))
   case rel=>exact⟨k+1,by omega,by go_num,by rw[G.o.2.2];go_num,ξ _,K2.o⟩
   case measure=>have:=G.o.1;omega
  ·obtain rfl:k=N:=by omega
   obtain⟨S,wI⟩:=acu (kJ j.nodes k);rw[wI]at hps;rw[wI];have HB:=γ (show fE j=(decide (j.par<1)||decide (4<j.par)||decide (k<2)||decide (12<k)||decide (1000<S)) by rw[HD.o,HN.o,wI]);clear wI hg;by_cases c1:j.par<1
   ·have F:=γ (HH.o wr (by rw[HB.o,decide_eq_true c1];rfl) KR.o.1)
    go_wp2;go_ret2;exact F.o
   by_cases c2:4<j.par
   ·have F:=γ (HH.o wr (by rw[HB.o,decide_eq_true c2];simp) KR.o.1)
    go_wp2;go_ret2;exact F.o
   by_cases c3:k<2
   ·have F:=γ (HH.o wr (by rw[HB.o,decide_eq_true c3];simp) KR.o.1)
    have c3':(k:Int)<2:=(by omega);go_wp2;go_ret2;exact F.o
   by_cases c4:12<k
   ·have F:=γ (HH.o wr (by rw[HB.o,decide_eq_true c4];simp) KR.o.1)
    have c4':(12:Int)<(k:Int):=(by omega);go_wp2;go_ret2;exact F.o
   by_cases c5:1000<S
   ·have F:=γ (HH.o wr (by rw[HB.o,decide_eq_true c5];simp) KR.o.1)
    have c5':(1000:Int)<(S:Int):=(by omega);go_wp2;go_ret2;exact F.o
   have HO:=γ (show fE j=false by rw[HB.o,decide_eq_false c1,decide_eq_false c2,decide_eq_false c3,decide_eq_false c4,decide_eq_false c5];rfl);have c3': ¬(k:Int)<2:=(by omega);have c4': ¬(12:Int)<(k:Int):=(by omega);have c5': ¬(1000:Int)<(S:Int):=(by omega);go_wp2_with fail;clear e0 e1 c5' hps c5 c1 c2 HB HH HD;generalize wr=WA at*;have hk12:k<=12:=(by omega);obtain⟨N,hNk⟩:=acu k;subst hNk;go_loopg [7] k (fun g vi wr=> ∃(i:Nat),i<=k/\vi= .int .i64 (i:Int)/\k-i<=g/\ε η W0 wr/\ ∀m,m<i->lW j.nodes m=0)
   case atStart=>exact⟨0,by omega,rfl,by omega,KR.o.2,fun m hm=>by omega⟩
   case round=>
    obtain⟨i,hil,rfl,hg,hkp,hbad⟩:=hrel;have e1:wr.cell? ⟨w.heap.size,1,none⟩=some (.slice na k cap):=(by rw[<-HN.o];exact hkp.cell id DD.o.2);have KS:=γ (θ (K0.o.trans hkp) hkp);clear hkp;by_cases hlt2:i<k
    ·obtain⟨d,hd⟩: ∃d,j.nodes[i]?=some d:=⟨_,ι (by rw[HN.o];exact hlt2)⟩
     obtain⟨b,off,pi,ci,p,cap',hna,hc,hj⟩:=H3.o.1 i d hd;subst hna;obtain⟨c0,c1,c2,c3,c4,c5,c6⟩:=hc.kept KS.o.1 id;have G:=γ (θ hg (θ hbad (θ hd (θ (hj.pure KS.o.1) (HU.o d (ς hd))))));have C0:=γ hc.c0;clear hg hbad hd hj hc;go_wp2_with fail;have c:=Yv d _ i wr G.o.2.2.2.1 G.o.2.2.2.2;refine c.mono ?_;clear c;rintro e w2 ⟨rfl,k2⟩;have K2:=γ (θ (KS.o.1.trans k2) (KS.o.2.trans k2));clear k2
     cases hm:bf i d with
     |false=>have F:=γ (fun w' hk=>show oQ w (iw j) (.returned (.tuple #[.int .i64 (i:Int),.int .i64 120])) w' from⟨by rw[Ah HO.o (by rw[HN.o];exact hlt2) G.o.2.1 (Rw G.o.2.2.1 hm) (by decide)],hk⟩);clear hm;go_wp2;go_ret2;exact F.o _ K2.o.1
     |true=>
      have HM:=γ hm;clear hm;go_wp2_with fail;clear e1 c0 c1 c2 c3 c4 c5 c6;go_loopg [8] i (fun g vi wr=> ∃(m:Nat),m<=i/\vi= .int .i64 (m:Int)/\i-m<=g/\ε η W0 wr/\ ∀q e,q<m->j.nodes[q]?=some e->e.uid≠d.uid)
      case atStart=>exact⟨0,by omega,rfl,by omega,K2.o.2,fun q e hq=>by omega⟩
      case round=>
       obtain⟨m,hml,rfl,hgm,hkp,hne⟩:=hrel;have e1:wr.cell? ⟨w.heap.size,1,none⟩=some (.slice (some ⟨b,off,none⟩) k cap):=(by rw[<-HN.o];exact hkp.cell id DD.o.2);have KT:=γ (θ (K0.o.trans hkp) hkp);clear hkp;by_cases hmt:m<i
       ·obtain⟨u,hu⟩: ∃u,j.nodes[m]?=some u:=⟨_,ι (by rw[HN.o];omega)⟩
        obtain⟨b',off',pi',ci',p',cap2,hna,hc,hj⟩:=H3.o.1 m u hu
        injection hna with hna
        injection hna with hn1 hn2
        subst hn1 hn2;have y0:=KT.o.1.cell (p:=⟨b,off+i*7,none⟩) id C0.o;have y1:=KT.o.1.cell (p:=⟨b,off+m*7,none⟩) id hc.c0;have hmk:m<k:=(by omega);have G2:=γ (θ hgm (θ hne hu));clear hgm hne hu hc hj;by_cases ce:u.uid=d.uid
        ·have be:(u.uid.toList==d.uid.toList)=true:=by rw[str_eq];exact decide_eq_true ce
         have F:=γ (fun w' hk=>show oQ w (iw j) (.returned (.tuple #[.int .i64 (i:Int),.int .i64 121])) w' from⟨by rw[Ah HO.o (by rw[HN.o];exact hlt2) G.o.2.1 (Ru G.o.2.2.1 HM.o (U5 G2.o.2.2 hmt ce)) (by decide)],hk⟩);clear ce;go_wp2;refine acv [0,1,2,3,4,5,6,7,8,9,10,11,12] ?_;simp only[aco];iterate 13 (apply aj rfl rfl;(intro W hW;have z1:=hW.cell id e1;have t0:=hW.cell id y0;have t1:=hW.cell id y1;go_simp;rfl);go_frame)
         refine aA (fun _=>δ.drew) ?_;go_wp2;go_ret2;exact F.o _ (KT.o.1.trans δ.drew)
        ·have be:(u.uid.toList==d.uid.toList)=false:=by rw[str_eq];exact decide_eq_false ce
         have F:=γ (show∀q e,q<m+1->j.nodes[q]?=some e->e.uid≠d.uid from fun q e hq he=>by
          by_cases h:q<m
          ·exact G2.o.2.1 q e h he
          ·have e1:q=m:=by omega
           subst e1;rw[G2.o.2.2]at he
           injection he with he
           rw[<-he];exact ce)
         clear ce;go_wp2;refine acv [0,1,2,3,4,5,6,7,8,9,10,11,12] ?_;simp only[aco];iterate 13 (apply aj rfl rfl;(intro W hW;have z1:=hW.cell id e1;have t0:=hW.cell id y0;have t1:=hW.cell id y1;go_simp;rfl);go_frame)
         refine aA (fun _=>δ.drew) ?_;go_wp2;go_roundg (i-(m+1))
         case rel=>exact⟨m+1,by omega,by go_num,ξ _,KT.o.2.trans δ.drew,F.o⟩
         case measure=>have:=G2.o.1;omega
       ·obtain rfl:m=i:=by omega
        have F:=γ (show∀q,q<m+1->lW j.nodes q=0 from fun q hq=>by
         by_cases h:q<m
         ·exact G.o.2.1 q h
         ·have:q=m:=by omega
          subst this
          exact(sQ G.o.2.2.1).2 ⟨HM.o,Xn hne⟩)
        clear hne hgm;go_wp2;go_roundg (k-(m+1))
        case rel=>exact⟨m+1,by omega,by go_num,ξ _,KT.o.2,F.o⟩
        case measure=>have:=G.o.1;omega
    ·obtain rfl:i=k:=by omega
     have HBd:=γ hbad;clear hbad hg e1 KR;go_wp2_with fail;generalize wr=WB at*;have WBS:=γ KS.o.2.size;go_loopg [9,10,11] i (fun g vf vo vi w2=> ∃(k:Nat),k<=i/\vi= .int .i64 (k:Int)/\i-k<=g/\vf= .int .i64 (((j.nodes.take k).countP fun d=>d.kind==4:Nat):Int)/\w2.ownsRow WB.heap.size 3 1 vo k (ints (bK (j.nodes.take k)))/\ε η WB w2/\(∀x∈bK (j.nodes.take k),0<=x/\x<=64)/\ ∀m e,m<k->j.nodes[m]?=some e->aS j.nodes m e=false)
     case atStart=>exact⟨0,by omega,rfl,by omega,rfl,World.ownsRow_nil _ _ _ _,ε.refl _ _,fun x hx=>by simp[bK]at hx,fun m e hm=>by omega⟩
     case round=>
      obtain⟨k,hkl,rfl,hg,rfl,hown,hkp,hwb,hsh⟩:=hrel;have e1:wr.cell? ⟨w.heap.size,1,none⟩=some (.slice na i cap):=(by rw[<-HN.o];exact(KS.o.2.trans hkp).cell id DD.o.2);have e0:=(KS.o.2.trans hkp).cell (p:=⟨w.heap.size,0,none⟩) id DD.o.1;obtain⟨Ur,YP,rfl⟩:=au hown;have KV:=γ (KS.o.1.trans hkp);by_cases hlt3:k<i
      ·obtain⟨d,hd⟩: ∃d,j.nodes[k]?=some d:=⟨_,ι (by rw[HN.o];exact hlt3)⟩
       obtain⟨b,off,pi,ci,p,cap',hna,hc,hj⟩:=H3.o.1 k d hd;subst hna;obtain⟨c0,c1,c2,c3,c4,c5,c6⟩:=hc.kept KV.o id;obtain⟨acN,hlow⟩:=PY ((sQ hd).1 (HBd.o k hlt3)).1;have hin:Reads w 1 (.slice pi d.ins.length ci) (ints d.ins):=by
        obtain⟨_,_,_,_,e,_,hx,_⟩:=hj
        injection e with e
        simp only[List.cons.injEq,and_true,true_and]at e;obtain⟨e1,e2⟩:=e;rw[e1];exact hx
       have hkind:0<=d.kind/\d.kind<=255:=(by obtain⟨_,_,_,_,e,_,_,_,h4,h5,_⟩:=hj;exact⟨h4,h5⟩);obtain⟨ia,il,ic,ie,i1,i2,_,JX⟩:=hin.pure KV.o
       injection ie with Zm Zl Zk
       subst Zm Zl Zk;unfold maxLen at i2
       have I3:=γ (show∀(m:Nat)(x:Int),d.ins[m]?=some x-> ∃b off,pi=some ⟨b,off,none⟩/\wr.cell? ⟨b,off+m,none⟩=some (.int .i64 x) by
        intro m x hx;have hne:ints d.ins≠[]:=fun e=>(by unfold ints at e;rw[map_eq_nil_iff]at e;rw[e]at hx;cases hx);obtain⟨b,off,e,hc⟩:=JX.resolve_left hne
        exact⟨b,off,e,hc m _ (by unfold ints;rw[aav,hx];rfl)⟩)
       obtain⟨W,hWe⟩:=acu (bK (j.nodes.take k));have hwl:W.length=k:=(by rw[<-hWe,pX,υ,HN.o];omega);rw[hWe]at hown hwb;have hfl:(j.nodes.take k).countP (fun d=>d.kind==4)<=k:=ω countP_le_length (by rw[υ];omega);obtain⟨fl,hfd⟩:=acu ((j.nodes.take k).countP (fun d=>d.kind==4));rw[hfd]at hfl;have abA:=H8 hd;have abp:=Jj hd;have abq:=EU hd;rw[hfd]at abA;rw[hWe]at abp abq;rw[hfd];obtain⟨pa,n',pc,pe,q1,q2,_,hcell⟩:=Reads.aN hown
       injection pe with pe1 Em BZ
       subst pe1 Em BZ;unfold maxLen at q2
       have RV:=γ (show∀(m:Nat)(x:Int),W[m]?=some x-> ∃b off,Ur=some ⟨b,off,none⟩/\wr.cell? ⟨b,off+m,none⟩=some (.int .i64 x) by
        intro m x hx;have hne:ints W≠[]:=fun e=>(by unfold ints at e;rw[map_eq_nil_iff]at e;rw[e]at hx;cases hx);obtain⟨b,off,e,hc⟩:=hcell.resolve_left hne
        exact⟨b,off,e,hc m _ (by unfold ints;rw[aav,hx];rfl)⟩)
       have G:=γ (θ hg (θ hown (θ hkp (θ hd (θ hsh (θ hlow hwb))))));have HW:=γ (θ hwl (θ abA (θ abp abq)));have E0:=γ (θ (KS.o.2.cell (p:=⟨w.heap.size,0,none⟩) id DD.o.1) (KS.o.2.cell (p:=⟨w.heap.size,1,none⟩) id DD.o.2));clear hg hown hkp hd hsh hlow hwb hc hj hin JX hWe hwl hfd abA abp abq hcell;obtain⟨kd,hkd⟩:=acu d.kind;rw[hkd]at c1 hkind;have RY:=γ hkd;clear hkd;obtain⟨nI,hnI⟩:=acu d.ins.length;rw[hnI]at c2 acN i1;have HNI:=γ hnI;clear hnI;go_wp2;go_loopg [13,14] nI (fun g vs vi w2=> ∃(m:Nat),m<=nI/\vi= .int .i64 (m:Int)/\vs= .int .i64 (iU W d.ins m)/\nI-m<=g/\w2=wr)
       case atStart=>exact⟨0,by omega,rfl,by simp[iU],by omega,rfl⟩
       case round=>
        obtain⟨m,hml,rfl,rfl,hgm,rfl⟩:=hrel;have hSb:=xk (ins:=d.ins) G.o.2.2.2.2.2.2 m;by_cases hmt:m<nI
        ·obtain⟨x,hx⟩: ∃x,d.ins[m]?=some x:=⟨_,ι (by rw[HNI.o];exact hmt)⟩
         have hxl:=G.o.2.2.2.2.2.1 x (ς hx);obtain⟨xn,rfl⟩: ∃xn:Nat,x=(xn:Int):=⟨x.toNat,by omega⟩;have hxk:xn<W.length:=(by rw[HW.o.1];omega);obtain⟨v,hv⟩: ∃v,W[xn]?=some v:=⟨_,ι hxk⟩;obtain⟨bi,oi,rfl,y⟩:=I3.o m _ hx;obtain⟨bw,ow,rfl,z⟩:=RV.o xn v hv;have hvb:=G.o.2.2.2.2.2.2 v (ς hv);have hxk':xn<k:=by omega
         have SS:=γ (show iU W d.ins (m+1)=iU W d.ins m+v by
          rw[BJ hx,σ,Int.toNat_natCast,hv];first|done|rfl)
         have HGM:=γ hgm;obtain⟨S,wI⟩:=acu (iU W d.ins m);rw[wI]at hSb SS;rw[wI];clear hx hv hgm wI hxl hxk;go_wp2;go_roundg (nI-(m+1))
         case rel=>exact⟨m+1,by omega,by go_num,by rw[SS.o],ξ _,rfl⟩
         case measure=>have:=HGM.o;omega
        ·obtain rfl:m=nI:=by omega
         obtain⟨S,wI⟩:=acu (iU W d.ins m);rw[wI]at hSb;rw[wI];have hwo:=Jk W d;rw[HNI.o,wI,RY.o]at hwo;have hws:=HW.o.2.2.1;have hwg:=HW.o.2.2.2;have hfs:=HW.o.2.1;rw[RY.o]at hfs;have hkd:=RY.o
         have Dp:=γ (show aS j.nodes k d=false-> ∀x∈bK (j.nodes.take (k+1)),0<=x/\x<=64 from fun hg x hx=>by
          rw[hws]at hx
          rcases aax.1 hx with hx|hx
          ·exact G.o.2.2.2.2.2.2 x hx
          ·rw[ach.1 hx]
           have h1: ¬(64<(bK j.nodes).getD k 0):=fun h=>(by have h2:=(oH (nodes:=j.nodes) (k:=k) (d:=d) rfl rfl rfl).2 (.inr (.inr (.inr (.inr (.inr h)))));rw[hg]at h2;cases h2);rw[hwg]at h1;refine⟨?_,by omega⟩;rw[hwo];split
           ·omega
           ·split<;>omega)
         clear hgm wI;by_cases k1:kd=1
         ·rw[if_pos k1]at hwo
          rw[if_neg (by omega),Nat.add_zero]at hfs;have b1:(kd==1)=true:=(by simp[k1]);have b2:(kd !=1)=false:=(by simp[k1]);have b4:(kd==4)=false:=(by simp[k1]);have b9:(kd==9)=false:=(by simp[k1]);have b8:(kd !=9)=true:=(by simp[k1]);have ou:=γ k1;clear k1;obtain⟨ti,hi3,hz3,hs3,hb3⟩:=rU;obtain⟨g',cap2,w',p1,p2,p3⟩:=lK (x:= .int .i64 (1)) (bytes:=8) underlying37 hi3 hz3 hs3 hb3 rfl rfl G.o.2.1 (by omega) (by omega) G.o.2.2.1.size 37;have kN:ε η WB w':=G.o.2.2.1.new p3 (fun i hi hs=>by have h1:=(aY G.o.2.1 hs).1;omega);have hrow:w'.ownsRow WB.heap.size 3 1 (.slice (some ⟨g',0,none⟩) (k+1) cap2) (k+1) (ints (bK (j.nodes.take (k+1)))):=(by rw[hws,hwo];unfold ints at p2⊢;rw[aay];exact p2);have e0':=kN.cell id E0.o.1;have e1':w'.cell? ⟨w.heap.size,1,none⟩=some (.slice (some ⟨b,off,none⟩) i cap):=(by rw[<-HN.o];exact kN.cell id E0.o.2);have cr:=xM j _ k w' (H3.o.2.pure (KS.o.1.trans kN)) (by rw[HN.o];omega);rw[HN.o]at cr;obtain⟨many,gu⟩:=acu (fV j.nodes k);rw[gu]at cr;have hsh:=oH (d:=d) gu hfs hwg;rw[HN.o,hkd,hwo]at hsh;have hml:many<=12:=(by rw[<-gu];have:=countP_le_length (p:=fun d:JN=>d.ins.contains (k:Int)) (l:=j.nodes);rw[HN.o]at this;unfold fV;omega);have P1:=γ p1;have R:=γ (θ hrow (θ kN hsh));clear p1 p2 p3 hi3 hz3 hs3 hb3 kN hrow gu hsh;go_wp2_with (at_builtin;refine wpList_append_run rfl (.tmp 132) (.tmp 134) 37 rfl (.slice Ur k YP) (.slice (some ⟨wr.heap.size,0,none⟩) 1 1) _ rfl rfl P1.o ?_);refine cr.mono ?_;clear cr;rintro e W5 ⟨v5,rfl,JY,k5⟩;obtain⟨ra,rc,rfl⟩:=au JY;have FB:=γ (show∀x:Int,x=(k:Int)->aS j.nodes k d=true->oQ w (iw j) (.returned (.tuple #[.int .i64 x,.int .i64 122])) W5 from fun x hx h=>⟨by rw[qN HO.o (by rw[HN.o];exact HBd.o) G.o.2.2.2.1 G.o.2.2.2.2.1 h,hx],KS.o.1.trans (R.o.2.1.trans k5)⟩)
          have GOOD:=γ (show aS j.nodes k d=false-> ∃(k':Nat),k'<=i/\Value.int .i64 ((k+1:Nat):Int)= .int .i64 (k':Int)/\i-k'<=i-(k+1)/\Value.int .i64 ((fl:Nat):Int)= .int .i64 (((j.nodes.take k').countP fun d=>d.kind==4:Nat):Int)/\W5.ownsRow WB.heap.size 3 1 (.slice (some ⟨g',0,none⟩) (k+1) cap2) k' (ints (bK (j.nodes.take k')))/\ε η WB W5/\(∀x∈bK (j.nodes.take k'),0<=x/\x<=64)/\ ∀m e,m<k'->j.nodes[m]?=some e->aS j.nodes m e=false from fun hg=>by
           refine⟨k+1,by omega,rfl,ξ _,?_,k5.owns R.o.1 (fun _ _ h=>h),R.o.2.1.trans k5,Dp.o hg,fun m e hm he=>?_⟩
           ·rw[show((j.nodes.take (k+1)).countP (fun d=>d.kind==4))=fl from hfs]
           ·by_cases h:m<k
            ·exact G.o.2.2.2.2.1 m e h he
            ·have e1:m=k:=by omega
             subst e1;have e2:=G.o.2.2.2.1;rw[he]at e2
             injection e2 with e2
             rw[e2];exact hg)
          have SH:=γ R.o.2.2;clear JY k5 e0 e1 e0' e1' c0 c1 c2 c3 c4 c5 c6 hws hwg hfs hwo;by_cases hk0:k=0
          ·have kb:((k:Int)==0)=true:=by simp[hk0]
           have kl:((k:Int)==(i:Int)-1)=false:=(by have:(k:Int)≠(i:Int)-1:=(by omega);simpa using this);have RZ:=γ hk0;clear hk0;go_wp2_with fail;all_goals have hk0:=RZ.o
           all_goals have k1:=ou.o
           all_goals first
            |(go_ret2
              refine FB.o _ (by omega) (SH.o.2 ?_)
              (try simp only[beq_iff_eq,beq_eq_false_iff_ne,bne_iff_ne,bne_eq_false_iff_eq,ne_eq,decide_eq_true_eq,decide_eq_false_iff_not,Bool.not_eq_true,Bool.not_eq_false,not_true_eq_false,not_false_eq_true]at*)
              omega)
            |(have hgood:aS j.nodes k d=false:=by
               cases hsb:aS j.nodes k d with
               |false=>rfl
               |true=>
                have h3:=SH.o.1 hsb;exfalso;clear hsb
                (try simp only[beq_iff_eq,beq_eq_false_iff_ne,bne_iff_ne,bne_eq_false_iff_eq,ne_eq,decide_eq_true_eq,decide_eq_false_iff_not,Bool.not_eq_true,Bool.not_eq_false,not_true_eq_false,not_false_eq_true]at*)
                omega
              go_roundg (i-(k+1))
              case rel=>
               obtain⟨k',q1,q2,q3,q4⟩:=GOOD.o hgood
               have e':k'=k+1:=by injection q2 with _ q2;omega
               subst e';exact⟨k+1,by omega,by go_num,ξ _,by first|exact q4.1|(rw[<-q4.1];go_num),q4.2⟩
              case measure=>have:=G.o.1;omega)
          ·have kb:((k:Int)==0)=false:=by simp[hk0]
           have RZ:=γ hk0;clear hk0;go_wp2;go_ret2;exact FB.o _ rfl (SH.o.2 (.inl ⟨fun _=>RZ.o,fun _=>ou.o⟩))
         ·rw[if_neg k1]at hwo
          have b1:(kd==1)=false:=(by simp[k1]);by_cases k4:kd=4
          ·subst k4
           rw[if_pos rfl,Int.mul_comm]at hwo;rw[if_pos rfl]at hfs;obtain⟨ti,hi3,hz3,hs3,hb3⟩:=rU;obtain⟨g',cap2,w',p1,p2,p3⟩:=lK (x:= .int .i64 (4*S)) (bytes:=8) underlying37 hi3 hz3 hs3 hb3 rfl rfl G.o.2.1 (by omega) (by omega) G.o.2.2.1.size 37;have kN:ε η WB w':=G.o.2.2.1.new p3 (fun i hi hs=>by have h1:=(aY G.o.2.1 hs).1;omega);have hrow:w'.ownsRow WB.heap.size 3 1 (.slice (some ⟨g',0,none⟩) (k+1) cap2) (k+1) (ints (bK (j.nodes.take (k+1)))):=(by rw[hws,hwo];unfold ints at p2⊢;rw[aay];exact p2);have e0':=kN.cell id E0.o.1;have e1':w'.cell? ⟨w.heap.size,1,none⟩=some (.slice (some ⟨b,off,none⟩) i cap):=(by rw[<-HN.o];exact kN.cell id E0.o.2);have cr:=xM j _ k w' (H3.o.2.pure (KS.o.1.trans kN)) (by rw[HN.o];omega);rw[HN.o]at cr;obtain⟨many,gu⟩:=acu (fV j.nodes k);rw[gu]at cr;have hsh:=oH (d:=d) gu hfs hwg;rw[HN.o,hkd,hwo]at hsh;have hml:many<=12:=(by rw[<-gu];have:=countP_le_length (p:=fun d:JN=>d.ins.contains (k:Int)) (l:=j.nodes);rw[HN.o]at this;unfold fV;omega);have P1:=γ p1;have R:=γ (θ hrow (θ kN hsh));clear p1 p2 p3 hi3 hz3 hs3 hb3 kN hrow gu hsh;go_wp2_with (at_builtin;refine wpList_append_run rfl (.tmp 132) (.tmp 134) 37 rfl (.slice Ur k YP) (.slice (some ⟨wr.heap.size,0,none⟩) 1 1) _ rfl rfl P1.o ?_);refine cr.mono ?_;clear cr;rintro e W5 ⟨v5,rfl,JY,k5⟩;obtain⟨ra,rc,rfl⟩:=au JY;have FB:=γ (show∀x:Int,x=(k:Int)->aS j.nodes k d=true->oQ w (iw j) (.returned (.tuple #[.int .i64 x,.int .i64 122])) W5 from fun x hx h=>⟨by rw[qN HO.o (by rw[HN.o];exact HBd.o) G.o.2.2.2.1 G.o.2.2.2.2.1 h,hx],KS.o.1.trans (R.o.2.1.trans k5)⟩)
           have GOOD:=γ (show aS j.nodes k d=false-> ∃(k':Nat),k'<=i/\Value.int .i64 ((k+1:Nat):Int)= .int .i64 (k':Int)/\i-k'<=i-(k+1)/\Value.int .i64 ((fl+1:Nat):Int)= .int .i64 (((j.nodes.take k').countP fun d=>d.kind==4:Nat):Int)/\W5.ownsRow WB.heap.size 3 1 (.slice (some ⟨g',0,none⟩) (k+1) cap2) k' (ints (bK (j.nodes.take k')))/\ε η WB W5/\(∀x∈bK (j.nodes.take k'),0<=x/\x<=64)/\ ∀m e,m<k'->j.nodes[m]?=some e->aS j.nodes m e=false from fun hg=>by
            refine⟨k+1,by omega,rfl,ξ _,?_,k5.owns R.o.1 (fun _ _ h=>h),R.o.2.1.trans k5,Dp.o hg,fun m e hm he=>?_⟩
            ·rw[show((j.nodes.take (k+1)).countP (fun d=>d.kind==4))=fl+1 from hfs]
            ·by_cases h:m<k
             ·exact G.o.2.2.2.2.1 m e h he
             ·have e1:m=k:=by omega
              subst e1;have e2:=G.o.2.2.2.1;rw[he]at e2
              injection e2 with e2
              rw[e2];exact hg)
           have SH:=γ R.o.2.2;clear JY k5 e0 e1 e0' e1' c0 c1 c2 c3 c4 c5 c6 hws hwg hfs hwo;go_wp2_with fail;all_goals first
            |(go_ret2
              refine FB.o _ (by omega) (SH.o.2 ?_)
              (try simp only[beq_iff_eq,beq_eq_false_iff_ne,bne_iff_ne,bne_eq_false_iff_eq,ne_eq,decide_eq_true_eq,decide_eq_false_iff_not,Bool.not_eq_true,Bool.not_eq_false,not_true_eq_false,not_false_eq_true]at*)
              omega)
            |(have hgood:aS j.nodes k d=false:=by
               cases hsb:aS j.nodes k d with
               |false=>rfl
               |true=>
                have h3:=SH.o.1 hsb;exfalso;clear hsb
                (try simp only[beq_iff_eq,beq_eq_false_iff_ne,bne_iff_ne,bne_eq_false_iff_eq,ne_eq,decide_eq_true_eq,decide_eq_false_iff_not,Bool.not_eq_true,Bool.not_eq_false,not_true_eq_false,not_false_eq_true]at*)
                omega
              go_roundg (i-(k+1))
              case rel=>
               obtain⟨k',q1,q2,q3,q4⟩:=GOOD.o hgood
               have e':k'=k+1:=by injection q2 with _ q2;omega
               subst e';exact⟨k+1,by omega,by go_num,ξ _,by first|exact q4.1|(rw[<-q4.1];go_num),q4.2⟩
              case measure=>have:=G.o.1;omega)
          ·rw[if_neg k4,Int.mul_one]at hwo
           rw[if_neg k4,Nat.add_zero]at hfs;have b4:(kd==4)=false:=(by simp[k4]);obtain⟨ti,hi3,hz3,hs3,hb3⟩:=rU;obtain⟨g',cap2,w',p1,p2,p3⟩:=lK (x:= .int .i64 (S)) (bytes:=8) underlying37 hi3 hz3 hs3 hb3 rfl rfl G.o.2.1 (by omega) (by omega) G.o.2.2.1.size 37;have kN:ε η WB w':=G.o.2.2.1.new p3 (fun i hi hs=>by have h1:=(aY G.o.2.1 hs).1;omega);have hrow:w'.ownsRow WB.heap.size 3 1 (.slice (some ⟨g',0,none⟩) (k+1) cap2) (k+1) (ints (bK (j.nodes.take (k+1)))):=(by rw[hws,hwo];unfold ints at p2⊢;rw[aay];exact p2);have e0':=kN.cell id E0.o.1;have e1':w'.cell? ⟨w.heap.size,1,none⟩=some (.slice (some ⟨b,off,none⟩) i cap):=(by rw[<-HN.o];exact kN.cell id E0.o.2);have cr:=xM j _ k w' (H3.o.2.pure (KS.o.1.trans kN)) (by rw[HN.o];omega);rw[HN.o]at cr;obtain⟨many,gu⟩:=acu (fV j.nodes k);rw[gu]at cr;have hsh:=oH (d:=d) gu hfs hwg;rw[HN.o,hkd,hwo]at hsh;have hml:many<=12:=(by rw[<-gu];have:=countP_le_length (p:=fun d:JN=>d.ins.contains (k:Int)) (l:=j.nodes);rw[HN.o]at this;unfold fV;omega);have P1:=γ p1;have R:=γ (θ hrow (θ kN hsh));clear p1 p2 p3 hi3 hz3 hs3 hb3 kN hrow gu hsh;go_wp2_with (at_builtin;refine wpList_append_run rfl (.tmp 132) (.tmp 134) 37 rfl (.slice Ur k YP) (.slice (some ⟨wr.heap.size,0,none⟩) 1 1) _ rfl rfl P1.o ?_);refine cr.mono ?_;clear cr;rintro e W5 ⟨v5,rfl,JY,k5⟩;obtain⟨ra,rc,rfl⟩:=au JY;have FB:=γ (show∀x:Int,x=(k:Int)->aS j.nodes k d=true->oQ w (iw j) (.returned (.tuple #[.int .i64 x,.int .i64 122])) W5 from fun x hx h=>⟨by rw[qN HO.o (by rw[HN.o];exact HBd.o) G.o.2.2.2.1 G.o.2.2.2.2.1 h,hx],KS.o.1.trans (R.o.2.1.trans k5)⟩)
           have GOOD:=γ (show aS j.nodes k d=false-> ∃(k':Nat),k'<=i/\Value.int .i64 ((k+1:Nat):Int)= .int .i64 (k':Int)/\i-k'<=i-(k+1)/\Value.int .i64 ((fl:Nat):Int)= .int .i64 (((j.nodes.take k').countP fun d=>d.kind==4:Nat):Int)/\W5.ownsRow WB.heap.size 3 1 (.slice (some ⟨g',0,none⟩) (k+1) cap2) k' (ints (bK (j.nodes.take k')))/\ε η WB W5/\(∀x∈bK (j.nodes.take k'),0<=x/\x<=64)/\ ∀m e,m<k'->j.nodes[m]?=some e->aS j.nodes m e=false from fun hg=>by
            refine⟨k+1,by omega,rfl,ξ _,?_,k5.owns R.o.1 (fun _ _ h=>h),R.o.2.1.trans k5,Dp.o hg,fun m e hm he=>?_⟩
            ·rw[show((j.nodes.take (k+1)).countP (fun d=>d.kind==4))=fl from hfs]
            ·by_cases h:m<k
             ·exact G.o.2.2.2.2.1 m e h he
             ·have e1:m=k:=by omega
              subst e1;have e2:=G.o.2.2.2.1;rw[he]at e2
              injection e2 with e2
              rw[e2];exact hg)
           have SH:=γ R.o.2.2;clear JY k5 e0 e1 e0' e1' c0 c1 c2 c3 c4 c5 c6 hws hwg hfs hwo;go_wp2_with fail;all_goals first
            |(go_ret2
              refine FB.o _ (by omega) (SH.o.2 ?_)
              (try simp only[beq_iff_eq,beq_eq_false_iff_ne,bne_iff_ne,bne_eq_false_iff_eq,ne_eq,decide_eq_true_eq,decide_eq_false_iff_not,Bool.not_eq_true,Bool.not_eq_false,not_true_eq_false,not_false_eq_true]at*)
              omega)
            |(have hgood:aS j.nodes k d=false:=by
               cases hsb:aS j.nodes k d with
               |false=>rfl
               |true=>
                have h3:=SH.o.1 hsb;exfalso;clear hsb
                (try simp only[beq_iff_eq,beq_eq_false_iff_ne,bne_iff_ne,bne_eq_false_iff_eq,ne_eq,decide_eq_true_eq,decide_eq_false_iff_not,Bool.not_eq_true,Bool.not_eq_false,not_true_eq_false,not_false_eq_true]at*)
                omega
              go_roundg (i-(k+1))
              case rel=>
               obtain⟨k',q1,q2,q3,q4⟩:=GOOD.o hgood
               have e':k'=k+1:=by injection q2 with _ q2;omega
               subst e';exact⟨k+1,by omega,by go_num,ξ _,by first|exact q4.1|(rw[<-q4.1];go_num),q4.2⟩
              case measure=>have:=G.o.1;omega)
      ·obtain rfl:k=i:=by omega
       have F:=γ (show∀w',ε η w w'->oQ w (iw j) (.returned (.tuple #[.int .i64 0,.int .i64 0])) w' from fun w' hk=>⟨by rw[IX HO.o (by rw[HN.o];exact HBd.o) (by rw[HN.o];exact hsh)],hk⟩);clear hsh hown hkp hwb hg;go_wp2;go_ret2;exact F.o _ KV.o
end
section
open Go Go.RowKit
attribute [local irreducible] dI iO H2.eX
def Du (j:Jb):Prop:=j.nodes.length<=40/\ ∀d∈j.nodes,d.uid.size<=1000
def agC (w:World)(j:Jb)(e:Ending)(w':World):Prop:= ∃b:Bool,e= .returned (.bool b)/\ε η w w'/\(b=false->Du j)
def agD (w:World)(j:Jb)(n r:Nat)(e:Ending)(w':World):Prop:= ∃b:Bool,e= .returned (.bool b)/\ε η w w'/\(b=false->Du j/\n<=40/\r<=60)
theorem QH (j:Jb)(a:Array Value)(w:World)(h:oh w a j):Calls prog 38 #[.agg a] w (agC w j):=by
 obtain⟨v,rfl,hn,hp⟩:=h;obtain⟨na,cap,rfl,h1,h2,h3⟩:=hn.at;unfold maxLen at h2;have kA:ε η w (w.alloc (.cells #[.int .i64 j.par,.slice na j.nodes.length cap] 24)):=δ.alloc _;have b1:(w.alloc (.cells #[.int .i64 j.par,.slice na j.nodes.length cap] 24)).cell? ⟨w.heap.size,1,none⟩=some (.slice na j.nodes.length cap):=(by simp);have H3:=γ h3;have KA:=γ kA;clear h3 hn hp kA;by_cases hl:40<j.nodes.length
 ·go_enter func38,ntmps38
  go_wp2;go_ret;exact⟨true,rfl,KA.o,fun h=>by cases h⟩
 ·go_enter func38,ntmps38
  go_wp2_with fail;obtain⟨W0,hW0⟩:=acu (w.alloc (.cells #[.int .i64 j.par,.slice na j.nodes.length cap] 24));rw[hW0]at KA b1⊢;have B1:=γ b1;clear hW0 b1;go_loopg [3,13] j.nodes.length (fun g vn vi wr=> ∃(k:Nat)(n:Int),k<=j.nodes.length/\vi= .int .i64 (k:Int)/\vn= .int .i64 n/\j.nodes.length-k<=g/\0<=n/\n<=3000/\ε η w wr/\ ∀(m:Nat)(d:JN),m<k->j.nodes[m]?=some d->d.uid.size<=1000)
  case atStart=>exact⟨0,0,by omega,rfl,rfl,by omega,by omega,by omega,KA.o,fun m d hm=>by omega⟩
  case round=>
   obtain⟨k,n,hkl,rfl,rfl,hg,hn1,hn2,hkp,hus⟩:=hrel;have US:=γ hus;clear hus;by_cases hlt:k<j.nodes.length
   ·obtain⟨d,hd⟩: ∃d,j.nodes[k]?=some d:=⟨_,ι hlt⟩
    obtain⟨b,off,pi,ci,p,cap',rfl,hc,hj⟩:=H3.o k d hd;obtain⟨c0,c1,c2,c3,c4,c5,c6⟩:=hc.kept hkp id;have kA:ε η wr (wr.alloc (.cells (bQ d pi ci p cap') 42)):=δ.alloc _;have hx:aF (wr.alloc (.cells (bQ d pi ci p cap') 42)) #[.int .u8 d.x.op,.int .i64 d.x.n,.slice p d.x.args.length cap'] d.x:=(by have hx0:aF w #[.int .u8 d.x.op,.int .i64 d.x.n,.slice p d.x.args.length cap'] d.x:=(by obtain⟨_,_,_,_,e,hx,_⟩:=hj;simp only[Array.mk.injEq,List.cons.injEq,Value.slice.injEq,and_true,true_and]at e;obtain⟨-,e1,e2⟩:=e;rw[e1,e2];exact hx);exact aF.pure (hkp.trans kA) hx0);have cz:=size_any (SizeOf.sizeOf d.x) d.x _ _ (ξ _) hx;have nB:(wr.alloc (.cells (bQ d pi ci p cap') 42)).heap[wr.heap.size]?=some (.cells (bQ d pi ci p cap') 42 (0,0)):=heap_alloc_new _ _;have HC:=γ (θ hg (θ hkp (θ kA (θ nB hj))));have HD:=γ hd;clear hg hkp kA nB hj hc hx hd;go_wp2_with fail;refine cz.mono ?_;clear cz;rintro e w2 ⟨z,rfl,hz1,hz2,k2⟩;have zH:=k2.heap HC.o.2.2.2.1 id;have z0:w2.cell? ⟨wr.heap.size,0,none⟩=some (.string d.uid):=ζ zH rfl;have z2:w2.cell? ⟨wr.heap.size,2,none⟩=some (.slice pi d.ins.length ci):=ζ zH rfl;have K2:=γ (HC.o.2.1.trans (HC.o.2.2.1.trans k2));have hu:d.uid.size<=2^63-1:=(by have:=HC.o.2.2.2.2;obtain⟨_,_,_,_,_,_,_,_,_,_,_,h⟩:=this;unfold maxLen at h;exact h);clear k2 zH;by_cases q1:40<d.ins.length
    ·go_wp2
     go_ret;exact⟨true,rfl,K2.o,fun h=>by cases h⟩
    ·by_cases q2:1000<d.uid.size
     ·go_wp2
      go_ret;exact⟨true,rfl,K2.o,fun h=>by cases h⟩
     ·by_cases q3:3000<n+z
      ·go_wp2
       go_ret;exact⟨true,rfl,K2.o,fun h=>by cases h⟩
      ·go_wp2
       go_roundg (j.nodes.length-(k+1))
       case rel=>exact⟨k+1,n+z,by omega,by go_num,rfl,ξ _,by omega,by omega,K2.o,fun m e hm he=>by
        by_cases hmk:m<k
        ·exact US.o m e hmk he
        ·obtain rfl:m=k:=by omega
         rw[HD.o]at he;injection he with he;subst he;omega⟩
       case measure=>have:=HC.o.1;omega
   ·have HK:=γ hkp
    clear hkp;go_wp2;go_ret
    exact⟨false,rfl,HK.o,fun _=>⟨by omega,fun d hd=>by
     obtain⟨m,hm⟩:=mem_iff_getElem?.1 hd
     exact US.o m d (by have:=(μ.1 hm).1;omega) hm⟩⟩
theorem Hl (j:Jb)(a:Array Value)(sv:Value)(l:List St)(rv:Value)(R:List Rec)(w:World)(h:oh w a j)(hs:Reads w 2 sv (wS l))(hsz: ∀s∈l,s.1.size<=maxLen/\s.2.size<=maxLen)(hr:Reads w 3 rv (recs R)):
 Calls prog 8 #[.agg a,sv,rv] w (agD w j l.length R.length):=by
 have hJ:=h;obtain⟨v,rfl,hn,hp⟩:=h;obtain⟨na,cap,rfl,h1,h2,h3⟩:=hn.at;obtain⟨sa,scap,rfl,s1,s2,s3⟩:=hs.yY;obtain⟨ra,tV,rfl,r1,r2,r3⟩:=hr.recAt;unfold maxLen at h2 s2 r2;have kA:ε η w (w.alloc (.cells #[.int .i64 j.par,.slice na j.nodes.length cap] 24)):=δ.alloc _;have tA:(w.alloc (.cells #[.int .i64 j.par,.slice na j.nodes.length cap] 24)).heap[w.heap.size]?=some (.cells #[.int .i64 j.par,.slice na j.nodes.length cap] 24 (0,0)):=heap_alloc_new _ _;have H3:=γ (θ hJ (θ s3 hsz));have KA:=γ (θ kA tA);clear h3 hn hp kA hJ s3 hsz hs hr r3 tA;go_enter func8,ntmps8;go_wp2_with fail;obtain⟨W0,hW0⟩:=acu (w.alloc (.cells #[.int .i64 j.par,.slice na j.nodes.length cap] 24));rw[hW0]at KA⊢;clear hW0;go_loopg [11] l.length (fun g vi wr=> ∃k:Nat,k<=l.length/\vi= .int .i64 (k:Int)/\l.length-k<=g/\ε η W0 wr)
 case atStart=>exact⟨0,by omega,rfl,by omega,ε.refl _ _⟩
 case round=>
  obtain⟨k,hkl,rfl,hg,hkp⟩:=hrel;by_cases hlt:k<l.length
  ·obtain⟨s,hs⟩: ∃s,l[k]?=some s:=⟨_,ι hlt⟩
   obtain⟨bs,aep,rfl,hcs⟩:=H3.o.2.1.resolve_left (fun h=>by rw[h]at hlt;simp at hlt);have kw:=KA.o.1.trans hkp;have y0:=kw.cell id (hcs k s hs).1;have y1:=kw.cell id (hcs k s hs).2;obtain⟨hz0,hz1⟩:=H3.o.2.2 s (ς hs);unfold maxLen at hz0 hz1;have G:=γ (θ hg (θ hkp (θ kw (hkp.alloc (.cells #[.string s.1,.string s.2] 35)))));clear hg hkp kw hcs hs;by_cases q1:20000<s.2.size
   ·go_wp2
    go_ret;exact⟨true,rfl,KA.o.1.trans G.o.2.2.2,fun h=>by cases h⟩
   ·by_cases q2:1000<s.1.size
    ·go_wp2
     go_ret;exact⟨true,rfl,KA.o.1.trans G.o.2.2.2,fun h=>by cases h⟩
    ·go_wp2
     go_roundg (l.length-(k+1))
     case rel=>exact⟨k+1,by omega,by go_num,ξ _,G.o.2.2.2⟩
     case measure=>have:=G.o.1;omega
  ·have tw:=hkp.heap KA.o.2 id
   have x0:=ζ tw (j:=0) rfl;have x1:=ζ tw (j:=1) rfl;have hB:w.heap.size<wr.heap.size:=(κ.1 tw).1;have ch:=QH j _ wr (H3.o.1.pure (KA.o.1.trans hkp));have G:=γ (KA.o.1.trans hkp);clear hkp tw hg;go_wp2_with fail;refine ch.mono ?_;clear ch;rintro e w2 ⟨b,rfl,k2,hjs⟩;have JS:=γ hjs;clear hjs;have F:=γ (G.o.trans k2);clear k2;by_cases q0:b=true
   ·subst q0
    go_wp2;go_ret;exact⟨true,rfl,F.o,fun h=>by cases h⟩
   ·have q0':b=false:=by simpa using q0
    subst q0';clear q0;by_cases q1:40<l.length
    ·go_wp2
     go_ret;exact⟨true,rfl,F.o,fun h=>by cases h⟩
    ·go_wp2
     go_ret;refine⟨_,rfl,F.o,fun h=>⟨by simpa using JS.o,by omega,?_⟩⟩;simp only[Bool.or_eq_false_iff,decide_eq_false_iff_not]at h;omega
end
section
open Go Go.RowKit
attribute [local irreducible] dI H2.eX
def kT (w:World)(v:Value)(j:Jb)(l:List St)(e:Ending)(w':World):Prop:=
 match fG j l with
 | .ok Ts=> ∃b tv pm m,e= .returned (.tuple #[.pointer (some ⟨b,0,none⟩),.int .i64 0])/\w'.heap[b]?=some (.cells #[.int .i64 j.par,v,tv] 90 (0,0))/\w.heap.size<=b/\w'.ownsRow (b+1) 46 1 tv Ts.length (rp pm Ts)/\(∀q,tv.ownBlock=some q->q<m)/\b<m/\m<=w'.heap.size/\jQ w' (up m) Ts pm/\ε η w w'
 | .error er=>e= .returned (.tuple #[.pointer none,.int .i64 er])/\er≠0/\ε η w w'
theorem kT.bad {w w':World}{v:Value}{j:Jb}{l:List St}{er:Int}(h:fG j l= .error er)(hne:er≠0)(hk:ε η w w'):kT w v j l (.returned (.tuple #[.pointer none,.int .i64 er])) w':=by unfold kT;rw[h];exact⟨rfl,hne,hk⟩
theorem getD_some {Ts:Tabs}{i:Nat}(h:i<Ts.length):Ts[i]?=some (Ts.getD i none):=by rw[σ,ι h];rfl
theorem BR (j:Jb)(v:Value)(sv:Value)(l:List St)(w:World)(h:oh w #[.int .i64 j.par,v] j)(hs:Reads w 2 sv (wS l))(hsz: ∀s∈l,s.1.size<=maxLen/\s.2.size<=maxLen)(hsm:Du j):
 Calls prog 25 #[.agg #[.int .i64 j.par,v],sv] w (kT w v j l):=by
 have hJ:=h;obtain⟨v0,hv0,hn,hp⟩:=h
 injection hv0 with hv0
 injection hv0 with _ hv0
 injection hv0 with hv0 _
 subst hv0;obtain⟨na,cap,rfl,h1,h2,h3⟩:=hn.at;obtain⟨sa,scap,rfl,s1,s2,s3⟩:=hs.yY;unfold maxLen at h2 s2;have hn40:=hsm.1;obtain⟨WB,QM⟩:=acu (w.alloc (.cells #[.int .i64 j.par,.slice na j.nodes.length cap] 24));have kA:ε η w WB:=(by rw[<-QM];exact δ.alloc _);have bB:WB.heap[w.heap.size]?=some (.cells #[.int .i64 j.par,.slice na j.nodes.length cap] 24 (0,0)):=(by rw[<-QM];exact heap_alloc_new _ _);have cm:=aaS j _ WB (hJ.pure kA) (by have:=hsm.1;omega) hsm.2;have H3:=γ (θ h3 (θ hJ (θ s3 (θ hsz hn))));have KA:=γ (θ kA bB);have HW:=γ QM;have b0:WB.cell? ⟨w.heap.size,0,none⟩=some (.int .i64 j.par):=ζ bB rfl;have b1:WB.cell? ⟨w.heap.size,1,none⟩=some (.slice na j.nodes.length cap):=ζ bB rfl;clear kA bB h3 hn hJ s3 hsz hs hsm hp QM;have HM:=γ (Ak j);obtain⟨r1,hr1⟩:=acu ((iw j).1);obtain⟨r2,hr2⟩:=acu ((iw j).2);unfold oQ at cm;rw[hr1,hr2]at cm;rw[hr2]at HM;clear hr1 hr2;go_enter func25,ntmps25;go_wp2_with fail;rw[HW.o];clear HW;by_cases hz:r2=0
 ·have iM:=γ (show iD j=true by rw[HM.o];exact decide_eq_true hz)
  clear b0 b1;go_wp2_with fail;refine cm.mono ?_;clear cm;rintro e W0 ⟨rfl,k2⟩;have B0:=k2.heap KA.o.2 id;have x0:W0.cell? ⟨w.heap.size,0,none⟩=some (.int .i64 j.par):=ζ B0 rfl;have x1:W0.cell? ⟨w.heap.size,1,none⟩=some (.slice na j.nodes.length cap):=ζ B0 rfl;have K0:=γ (θ (KA.o.1.trans k2) B0);clear k2 B0;go_wp2_with fail;obtain⟨D,hD⟩:=acu W0.heap.size;obtain⟨W1,hW1⟩:=acu (W0.alloc (.cells #[.int .i64 j.par,.slice na j.nodes.length cap,.slice none 0 0] 90));have JV:ε η W0 W1:=(by rw[<-hW1];exact δ.alloc _);have dB:W1.heap[D]?=some (.cells #[.int .i64 j.par,.slice na j.nodes.length cap,.slice none 0 0] 90 (0,0)):=(by rw[<-hW1,<-hD];exact heap_alloc_new _ _);have hbd:w.heap.size<D:=(by rw[<-hD];exact(κ.1 K0.o.2).1);have hs1:W1.heap.size=D+1:=(by rw[<-hW1,<-hD];simp);rw[hW1,hD];have K1:=γ (θ (K0.o.1.trans JV) (θ (JV.heap K0.o.2 id) (θ dB (θ hbd hs1))));clear hW1 hD JV dB x0 x1 K0 KA hs1 hbd;go_loopg [9] j.nodes.length (fun g vi wr=> ∃(k:Nat)(tv:Value),k<=j.nodes.length/\vi= .int .i64 (k:Int)/\j.nodes.length-k<=g/\wr.heap[D]?=some (.cells #[.int .i64 j.par,.slice na j.nodes.length cap,tv] 90 (0,0))/\wr.ownsRow (D+1) 46 1 tv k (replicate k (.pointer none))/\ε (one D) W1 wr)
  case atStart=>exact⟨0,_,by omega,rfl,by omega,K1.o.2.2.1,World.ownsRow_nil _ _ _ _,ε.refl _ _⟩
  case round=>
   obtain⟨k,tv,hkn,rfl,hg,hob,hown,hkp⟩:=hrel;obtain⟨ta,tc,rfl⟩:=au hown;have hBD: ¬one D w.heap.size:=fun e=>(by have h0:=K1.o.2.2.2.1;unfold one at e;omega);have x1:wr.cell? ⟨w.heap.size,1,none⟩=some (.slice na j.nodes.length cap):=ζ (hkp.heap K1.o.2.1 hBD) rfl;have xlt:w.heap.size<wr.heap.size:=block_lt_of_cell x1;by_cases hlt:k<j.nodes.length
   ·have hno: ¬(Value.slice ta k tc).ownBlock=some D:=fun e=>by have:=(hown.lt _ e).1;omega
    have d2:wr.cell? ⟨D,2,none⟩=some (.slice ta k tc):=ζ hob rfl;have dlt:D<wr.heap.size:=block_lt_of_cell d2;obtain⟨g5,c5,w5,p1,p2,p3⟩:=aaY hown (by have:=hkp.size;have:=K1.o.2.2.2.2;omega) (by omega);have zf:=p3.heap hob hno;have e2:w5.cell? ⟨D,2,none⟩=some (.slice ta k tc):=ζ zf rfl;have ef:=free_at zf 2;have hst:=aU zf 2 (.slice (some ⟨g5,0,none⟩) (k+1) c5);have hnew:(w5.setCell ⟨D,2,none⟩ (.slice (some ⟨g5,0,none⟩) (k+1) c5)).ownsRow (D+1) 46 1 (.slice (some ⟨g5,0,none⟩) (k+1) c5) (k+1) (replicate (k+1) (.pointer none)):=by rw[replicate_succ'];exact((ε.refl (one D) w5).setCell (p:=⟨D,2,none⟩) (.inl rfl) _).owns p2 (fun q hq e=>by have:=(p2.lt _ hq).1;unfold one at e;omega)
    have F:=γ (θ (show(w5.setCell ⟨D,2,none⟩ (.slice (some ⟨g5,0,none⟩) (k+1) c5)).heap[D]?=some (.cells #[.int .i64 j.par,.slice na j.nodes.length cap,.slice (some ⟨g5,0,none⟩) (k+1) c5] 90 (0,0))from by simpa using hst)
     (θ hnew ((hkp.new p3 (fun i hi hs=>by have:=(hown.lt _ hs).1;have:=K1.o.2.2.2.2;omega)).setCell (p:=⟨D,2,none⟩) (.inl rfl) (.slice (some ⟨g5,0,none⟩) (k+1) c5))))
    have P1:=γ p1;have G:=γ hg;clear hob hown hkp hg hno p1 p2 p3 zf hst hnew;go_wp2_with (at_builtin;refine wpList_append_run rfl (.tmp 36) (.tmp 37) 88 rfl (.slice ta k tc) (.slice (some ⟨wr.heap.size,0,none⟩) 1 1) _ rfl rfl P1.o ?_);go_roundg (j.nodes.length-(k+1))
    case rel=>exact⟨k+1,_,by omega,by go_num,ξ _,F.o⟩
    case measure=>have:=G.o;omega
   ·obtain rfl:k=j.nodes.length:=by omega
    have EN:=γ (θ hob (θ (show wr.ownsRow (D+1) 46 1 (.slice ta j.nodes.length tc) (eG j.nodes).length (rp (fun _=>0) (eG j.nodes))from by
     unfold eG
     rw[adz,length_replicate];exact hown) hkp))
    obtain⟨W2,hW2⟩: ∃W2:World,W2=wr:=⟨_,rfl⟩;rw[<-hW2]at EN x1 xlt⊢;have X1:=γ x1;clear hob hown hkp hg hlt hW2;go_wp2_with fail;clear x1;have hTB: ∀q,(Value.slice ta j.nodes.length tc).ownBlock=some q->D+1<=q/\q<W2.heap.size:=fun q hq=>EN.o.2.1.lt q hq;have zQ:=γ hTB;clear hTB;go_loopg [10] l.length (fun g vi wr=> ∃(k:Nat)(Ts:Tabs)(pm:Nat->Nat),k<=l.length/\vi= .int .i64 (k:Int)/\l.length-k<=g/\jA j.nodes l (eG j.nodes)=jA j.nodes (l.drop k) Ts/\Ts.length=j.nodes.length/\wr.ownsRow (D+1) 46 1 (.slice ta j.nodes.length tc) Ts.length (rp pm Ts)/\jQ wr (up W2.heap.size) Ts pm/\ε (fun q=>(Value.slice ta j.nodes.length tc).ownBlock=some q) W2 wr)
    case atStart=>exact⟨0,eG j.nodes,fun _=>0,by omega,rfl,by omega,rfl,by simp[eG],EN.o.2.1,jQ.none _ _ _ _,ε.refl _ _⟩
    case round=>
     obtain⟨k,Ts,pm,hkl,rfl,hg,hld,htl,hown,htb,hkp⟩:=hrel;have Qx: ¬(Value.slice ta j.nodes.length tc).ownBlock=some w.heap.size:=fun e=>(by have:=zQ.o _ e;have:=K1.o.2.2.2.1;omega);have V9: ¬(Value.slice ta j.nodes.length tc).ownBlock=some D:=fun e=>(by have:=zQ.o _ e;omega);have hB2:=EN.o.2.2.heap K1.o.2.1 (fun e=>by have h0:=K1.o.2.2.2.1;unfold one at e;omega);have oB:=hkp.heap hB2 Qx;have oD:=hkp.heap EN.o.1 V9;have kw:ε η w wr:=(K1.o.1.new EN.o.2.2 (fun i hi e=>by have h0:=K1.o.2.2.2.1;unfold one at e;omega)).new hkp (fun i hi e=>by have:=zQ.o _ e;have:=K1.o.2.2.2.1;omega);have hmw:=hkp.size;have x0:wr.cell? ⟨w.heap.size,0,none⟩=some (.int .i64 j.par):=ζ oB rfl;have x1:wr.cell? ⟨w.heap.size,1,none⟩=some (.slice na j.nodes.length cap):=ζ oB rfl;have xlt:w.heap.size<wr.heap.size:=block_lt_of_cell x1;have d2:wr.cell? ⟨D,2,none⟩=some (.slice ta j.nodes.length tc):=ζ oD rfl;have dlt:D<wr.heap.size:=block_lt_of_cell d2;by_cases hlt:k<l.length
     ·obtain⟨s,hs⟩: ∃s,l[k]?=some s:=⟨_,ι hlt⟩
      obtain⟨bs,aep,rfl,hcs⟩:=H3.o.2.2.1.resolve_left (fun h=>by rw[h]at hlt;simp at hlt);have y0:=kw.cell id (hcs k s hs).1;have y1:=kw.cell id (hcs k s hs).2;have kd:ε η wr wr.drew:=δ.drew;have cc:=YA j _ s.1 wr.drew (H3.o.2.1.pure (kw.trans kd));have hdr:=FU hs;rw[hdr]at hld;have Qq:=H3.o.2.2.2.1 s (ς hs);have G:=γ (θ hg (θ hld (θ htl (θ hown (θ htb (θ hkp (θ kw (θ oB (θ oD Qq)))))))));have Y:=γ (θ x0 (θ x1 y0));clear hg hld htl hown htb hkp kw oB oD Qq hdr hcs hs kd hB2 Qx;go_wp2;refine acv [0,1,2,3,4,5,6,7] ?_;simp only[aco];iterate 6 (apply aj rfl rfl;(intro W hW;have q0:=hW.cell id Y.o.1;have q1:=hW.cell id Y.o.2.1;have q2:=hW.cell id Y.o.2.2;go_simp;rfl);go_frame)
      apply ay rfl rfl;intro K hK;go_wp2_with fail;refine cc.mono ?_;clear cc;rintro e W3 ⟨rfl,k3⟩;have dN:=k3.aW;go_wp2;refine hK _ _ (fun _=>dN) ?_;clear hK;apply aj rfl rfl
      ·intro W hW;go_simp;rfl
      go_frame;refine aA (fun _=>dN) ?_;have x1:=dN.cell (p:=⟨w.heap.size,1,none⟩) id x1;have d2:=dN.cell (p:=⟨D,2,none⟩) id d2;have y1:=dN.cell id y1;have KW:=γ (θ dN (θ (G.o.2.2.2.2.2.2.1.trans dN) (dN.owns G.o.2.2.2.1 (fun _ _ h=>h))));clear k3 dN x0 y0
      rcases vV j.nodes s.1 with⟨hf,-⟩|⟨i,d,hf,hd,-,hna,-⟩
      ·have F:=γ (kT.bad (v:= .slice na j.nodes.length cap) (w:=w) (w':=W3) (lD iM.o (by rw[G.o.2.1];exact sH (.inl (by rw[hf];decide)))) (by decide) KW.o.2.1)
       rw[hf];clear hf;go_wp2;go_ret2;exact F.o
      ·have hil:i<j.nodes.length:=(μ.1 hd).1
       have hti:=getD_some (Ts:=Ts) (i:=i) (by rw[G.o.2.2.1];exact hil);obtain⟨gb,rfl,-,ht1,ht2,-,z0,z0f⟩:=DF KW.o.2.2 hti;obtain⟨b,off,pi,ci,p,cap',rfl,hc,hj⟩:=H3.o.1 i d hd;obtain⟨c0,c1,c2,c3,c4,c5,c6⟩:=hc.kept KW.o.2.1 id;have cs:=wU d.kind W3;have hNA:=γ hna;have HF:=γ (θ hf hd);have Bz:=γ hj;rw[hf];unfold maxLen at ht2;clear hf hd hna hj hc hti
       cases hst:stateful d.kind with
       |false=>rw[hst]at cs;have F:=γ (kT.bad (v:= .slice (some ⟨b,off,none⟩) j.nodes.length cap) (w:=w) (w':=W3) (lD iM.o (by rw[G.o.2.1];exact sH (.inr (.inl (by rw[hNA.o];exact hst))))) (by decide) KW.o.2.1);clear hst;go_wp2_with (go_at_call 61;refine cs.mono ?_;rintro e w' ⟨rfl,rfl⟩);go_ret2;exact F.o
       |true=>
        rw[hst]at cs;have HST:=γ hst;clear hst
        cases hno:Ts.getD i none with
        |some T0=>rw[hno]at z0;have F:=γ (kT.bad (v:= .slice (some ⟨b,off,none⟩) j.nodes.length cap) (w:=w) (w':=W3) (lD iM.o (by rw[G.o.2.1];exact sH (.inr (.inr (by rw[HF.o.1,Int.toNat_natCast,hno];rfl))))) (by decide) KW.o.2.1);simp only[Option.map_some]at z0;clear hno;go_wp2_with (go_at_call 61;refine cs.mono ?_;rintro e w' ⟨rfl,rfl⟩);go_ret2;exact F.o
        |none=>
         rw[hno]at z0;simp only[Option.map_none]at z0;have HNO:=γ hno;have ct:=Vt s.2 G.o.2.2.2.2.2.2.2.2.2.2 W3;unfold gK at ct;have hlt2:=Gy (l:=l.drop (k+1)) HF.o.1 HF.o.2 HST.o HNO.o;clear hno
         cases ht:nR s.2.data.toList with
         |err f=>rw[ht]at ct hlt2;have RU:=γ hlt2;clear hlt2 ht;go_wp2_with (go_at_call 61;refine cs.mono ?_;rintro e w' ⟨rfl,rfl⟩);refine ct.mono ?_;clear ct;rintro e W4 ⟨rfl,hf0,k4⟩;have F:=γ (kT.bad (v:= .slice (some ⟨b,off,none⟩) j.nodes.length cap) (w:=w) (w':=W4) (lD iM.o (by rw[G.o.2.1];exact RU.o)) hf0 (KW.o.2.1.trans k4));have hf1:(f !=0)=true:=bne_iff_ne.2 hf0;clear k4 hf0;go_wp2;go_ret2;exact F.o
         |ok T rest=>
          rw[ht]at ct hlt2;have RU:=γ hlt2;clear hlt2 ht;go_wp2_with (go_at_call 61;refine cs.mono ?_;rintro e w' ⟨rfl,rfl⟩);refine ct.mono ?_;clear ct cs;rintro e W4 ⟨tb,rfl,tA,k4,tI⟩;have CG:=KW.o.2.1.trans k4;have x1:=k4.cell (p:=⟨w.heap.size,1,none⟩) id x1;have d2:=k4.cell (p:=⟨D,2,none⟩) id d2;have c0:=k4.cell id c0;have c1:=k4.cell id c1;have c2:=k4.cell id c2;have c3:=k4.cell id c3;have c4:=k4.cell id c4;have c5:=k4.cell id c5;have c6:=k4.cell id c6;have cf:=Yz d _ tb T W4 (Bz.o.pure CG) tA;have T4:=γ (θ tI (θ k4 CG));clear tA tI k4 CG z0 z0f y1
          cases hfit:fP d.kind d.n T with
          |false=>rw[hfit]at cf;have F:=γ (fun w' hk=>kT.bad (v:= .slice (some ⟨b,off,none⟩) j.nodes.length cap) (w:=w) (w':=w') (lD iM.o (by rw[G.o.2.1,RU.o];show(if fP d.kind d.n T=true then _ else _)=_;rw[if_neg (by rw[hfit];simp)])) (show(181:Int)≠0 by decide) hk);clear hfit;go_wp2_with fail;refine cf.mono ?_;clear cf;rintro e W5 ⟨rfl,k5⟩;go_wp2;go_ret2;exact F.o _ (T4.o.2.2.trans k5)
          |true=>
           rw[hfit]at cf;have RX:=γ (show jA j.nodes l (eG j.nodes)=jA j.nodes (l.drop (k+1)) (Ts.set i (some T)) by rw[G.o.2.1,RU.o];show(if fP d.kind d.n T=true then _ else _)=_;rw[if_pos hfit]);clear hfit;go_wp2_with fail;refine cf.mono ?_;clear cf;rintro e W5 ⟨rfl,k5⟩;have kr5:=KW.o.1.trans (T4.o.2.1.trans k5);have Ce:=kr5.owns G.o.2.2.2.1 (fun _ _ h=>h);have abt:=getD_some (Ts:=Ts) (i:=i) (by rw[G.o.2.2.1];exact hil);rw[HNO.o]at abt;obtain⟨gb',e5,-,-,-,-,z5,z5f⟩:=DF Ce abt
           injection e5 with e5
           injection e5 with e5
           subst e5;have d2:=k5.cell (p:=⟨D,2,none⟩) id d2;have hst5:=(show W5.ownsRow (D+1) 46 1 (.slice (some ⟨gb,0,none⟩) j.nodes.length tc) j.nodes.length (rp pm Ts)from by have:=Ce;rwa[G.o.2.2.1]at this).stored i (.pointer (some ⟨tb,0,none⟩));rw[<-Yt pm Ts i tb T]at hst5;have kS:ε (fun q=>(Value.slice (some ⟨gb,0,none⟩) j.nodes.length tc).ownBlock=some q) W5 (W5.setCell ⟨gb,i,none⟩ (.pointer (some ⟨tb,0,none⟩))):=ε.setCell (p:=⟨gb,i,none⟩) (ε.refl (fun q=>(Value.slice (some ⟨gb,0,none⟩) j.nodes.length tc).ownBlock=some q) _) (.inl rfl) _;have hnq: ∀q,(Value.slice (some ⟨gb,0,none⟩) j.nodes.length tc).ownBlock=some q-> ¬up W2.heap.size q:=fun q hq hu=>by have:=(zQ.o q hq).2;unfold up at hu;omega
           have tb5:=(((G.o.2.2.2.2.1.pure kr5).set (i:=i) (b:=tb) ((T4.o.1.mono (fun q hq=>by have:=KW.o.1.size;unfold up;omega)).kept k5 (fun _ h=>h.elim)) (fun m U hU=>by
            have h1:=G.o.2.2.2.2.1.lt m U hU;have h2:W3.heap.size<=tb:=T4.o.1.dot;have:=KW.o.1.size
            omega)).kept kS hnq)
           have Z:=γ (θ (show(W5.setCell ⟨gb,i,none⟩ (.pointer (some ⟨tb,0,none⟩))).ownsRow (D+1) 46 1 (.slice (some ⟨gb,0,none⟩) j.nodes.length tc) (Ts.set i (some T)).length (rp (fun q=>if q=i then tb else pm q) (Ts.set i (some T)))from by rw[length_set,G.o.2.2.1];exact hst5.1) (θ tb5 ((G.o.2.2.2.2.2.1.trans kr5.pure).trans kS)));clear Ce abt hst5 kS hnq tb5 kr5 k5 x1 c0 c1 c2 c3 c4 c5 c6
           replace z5:W5.cell? ⟨gb,i,none⟩=some (.pointer none):=z5
           go_wp2;go_roundg (l.length-(k+1))
           case rel=>exact⟨k+1,_,_,by omega,by go_num,ξ _,RX.o,by rw[length_set];exact G.o.2.2.1,Z.o⟩
           case measure=>have:=G.o.1;omega
     ·obtain rfl:k=l.length:=by omega
      rw[drop_of_length_le (ξ _)]at hld;have RX:=γ (P6 iM.o (show jA j.nodes l (eG j.nodes)= .ok Ts by rw[hld];rfl));have HT:=γ (θ htl (θ hown (θ htb hkp)));clear hld htl hown htb hkp hg hlt oB oD hB2 kw Qx V9 x0;go_wp2_with fail;clear x1 d2;have Qx: ¬(Value.slice ta j.nodes.length tc).ownBlock=some w.heap.size:=fun e=>(by have:=zQ.o _ e;have:=K1.o.2.2.2.1;omega);have V9: ¬(Value.slice ta j.nodes.length tc).ownBlock=some D:=fun e=>(by have:=zQ.o _ e;omega);go_loopg [14] j.nodes.length (fun g vi wq=> ∃(k:Nat)(pm:Nat->Nat),k<=j.nodes.length/\vi= .int .i64 (k:Int)/\j.nodes.length-k<=g/\wq.ownsRow (D+1) 46 1 (.slice ta j.nodes.length tc) (iJ j.nodes Ts k).length (rp pm (iJ j.nodes Ts k))/\jQ wq (up W2.heap.size) (iJ j.nodes Ts k) pm/\ε (fun q=>(Value.slice ta j.nodes.length tc).ownBlock=some q) W2 wq)
      case atStart=>exact⟨0,pm,by omega,rfl,by omega,by rw[xw];exact HT.o.2.1,by rw[xw];exact HT.o.2.2.1,HT.o.2.2.2⟩
      case round=>
       obtain⟨k,BU,hkn,rfl,hg,hown,htb,hkp⟩:=hrel;obtain⟨wq,rfl⟩: ∃wq:World,wq=wr:=⟨_,rfl⟩;have hB2:=EN.o.2.2.heap K1.o.2.1 (fun e=>by have h0:=K1.o.2.2.2.1;unfold one at e;omega);have oB:=hkp.heap hB2 Qx;have oD:=hkp.heap EN.o.1 V9;have kw:ε η w wq:=(K1.o.1.new EN.o.2.2 (fun i hi e=>by have h0:=K1.o.2.2.2.1;unfold one at e;omega)).new hkp (fun i hi e=>by have:=zQ.o _ e;have:=K1.o.2.2.2.1;omega);have hmw:=hkp.size;have x1:wq.cell? ⟨w.heap.size,1,none⟩=some (.slice na j.nodes.length cap):=ζ oB rfl;have xlt:w.heap.size<wq.heap.size:=block_lt_of_cell x1;have d2:wq.cell? ⟨D,2,none⟩=some (.slice ta j.nodes.length tc):=ζ oD rfl;have dlt:D<wq.heap.size:=block_lt_of_cell d2;have hfl:=lQ HT.o.1 hkn;by_cases hlt:k<j.nodes.length
       ·obtain⟨d,hd⟩: ∃d,j.nodes[k]?=some d:=⟨_,ι hlt⟩
        have htk:=getD_some (Ts:=iJ j.nodes Ts k) (i:=k) (by rw[hfl];exact hlt);rw[AA HT.o.1 hkn]at htk;obtain⟨gb,rfl,-,ht1,ht2,-,z0,z0f⟩:=DF hown htk;obtain⟨b,off,pi,ci,p,cap',rfl,hc,hj⟩:=H3.o.1 k d hd;obtain⟨c0,c1,c2,c3,c4,c5,c6⟩:=hc.kept kw id;have cs:=wU d.kind wq;unfold maxLen at ht2;have G:=γ (θ hg (θ hown (θ htb (θ hkp hd))));clear hg hown htb hkp hd hj hc kw oB oD hB2 htk hfl
        cases hno:Ts.getD k none with
        |some T0=>
         rw[hno]at z0;simp only[Option.map_some]at z0;have F:=γ (Az HT.o.1 G.o.2.2.2.2 (.inl (by rw[hno];rfl)));clear hno cs;go_wp2;go_roundg (j.nodes.length-(k+1))
         case rel=>exact⟨k+1,BU,by omega,by go_num,ξ _,by rw[F.o];exact G.o.2.1,by rw[F.o];exact G.o.2.2.1,G.o.2.2.2.1⟩
         case measure=>have:=G.o.1;omega
        |none=>
         rw[hno]at z0;simp only[Option.map_none]at z0;have HN:=γ hno;clear hno
         cases hst:stateful d.kind with
         |false=>
          rw[hst]at cs;have F:=γ (Az HT.o.1 G.o.2.2.2.2 (.inr hst));clear hst;go_wp2_with (go_at_call 61;refine cs.mono ?_;rintro e w' ⟨rfl,rfl⟩);go_roundg (j.nodes.length-(k+1))
          case rel=>exact⟨k+1,BU,by omega,by go_num,ξ _,by rw[F.o];exact G.o.2.1,by rw[F.o];exact G.o.2.2.1,G.o.2.2.2.1⟩
          case measure=>have:=G.o.1;omega
         |true=>
          rw[hst]at cs;have F:=γ (Ko HT.o.1 G.o.2.2.2.2 HN.o hst);clear hst;have kA:ε η wq (wq.alloc (.cells #[.slice none 0 0] 103)):=δ.alloc _;have aa2:=kA.owns G.o.2.1 (fun _ _ h=>h);have tiA:=getD_some (Ts:=iJ j.nodes Ts k) (i:=k) (by rw[lQ HT.o.1 hkn];exact hlt);rw[AA HT.o.1 hkn,HN.o]at tiA;obtain⟨gb',eA,-,-,-,-,zA,zAf⟩:=DF aa2 tiA
          injection eA with eA
          injection eA with eA
          subst eA;have abu:=(show(wq.alloc (.cells #[.slice none 0 0] 103)).ownsRow (D+1) 46 1 (.slice (some ⟨gb,0,none⟩) j.nodes.length tc) j.nodes.length (rp BU (iJ j.nodes Ts k))from by have:=aa2;rwa[lQ HT.o.1 hkn]at this).stored k (.pointer (some ⟨wq.heap.size,0,none⟩));rw[<-Yt BU (iJ j.nodes Ts k) k wq.heap.size []]at abu;have kS:ε (fun q=>(Value.slice (some ⟨gb,0,none⟩) j.nodes.length tc).ownBlock=some q) (wq.alloc (.cells #[.slice none 0 0] 103)) ((wq.alloc (.cells #[.slice none 0 0] 103)).setCell ⟨gb,k,none⟩ (.pointer (some ⟨wq.heap.size,0,none⟩))):=ε.setCell (p:=⟨gb,k,none⟩) (ε.refl (fun q=>(Value.slice (some ⟨gb,0,none⟩) j.nodes.length tc).ownBlock=some q) _) (.inl rfl) _;have hnq: ∀q,(Value.slice (some ⟨gb,0,none⟩) j.nodes.length tc).ownBlock=some q-> ¬up W2.heap.size q:=fun q hq hu=>by have:=(zQ.o q hq).2;unfold up at hu;omega
          have tbA:=(((G.o.2.2.1.pure kA).set (i:=k) (b:=wq.heap.size) (bP.new wq hmw) (fun m U hU=>by
           have h1:=G.o.2.2.1.lt m U hU
           omega)).kept kS hnq)
          have Z:=γ (θ (show((wq.alloc (.cells #[.slice none 0 0] 103)).setCell ⟨gb,k,none⟩ (.pointer (some ⟨wq.heap.size,0,none⟩))).ownsRow (D+1) 46 1 (.slice (some ⟨gb,0,none⟩) j.nodes.length tc) (iJ j.nodes Ts (k+1)).length (rp (fun q=>if q=k then wq.heap.size else BU q) (iJ j.nodes Ts (k+1)))from by rw[F.o,length_set,lQ HT.o.1 hkn];exact abu.1) (θ (show jQ ((wq.alloc (.cells #[.slice none 0 0] 103)).setCell ⟨gb,k,none⟩ (.pointer (some ⟨wq.heap.size,0,none⟩))) (up W2.heap.size) (iJ j.nodes Ts (k+1)) (fun q=>if q=k then wq.heap.size else BU q)from by rw[F.o];exact tbA) ((G.o.2.2.2.1.trans kA.pure).trans kS)));have hgl:gb<wq.heap.size:=block_lt_of_cell z0;rw[World.setCell_alloc_past _ gb k _ hgl]at Z;clear aa2 tiA abu kS hnq tbA
          replace zA:(wq.alloc (.cells #[.slice none 0 0] 103)).cell? ⟨gb,k,none⟩=some (.pointer none):=zA
          go_wp2_with (go_at_call 61;refine cs.mono ?_;rintro e w' ⟨rfl,rfl⟩);go_roundg (j.nodes.length-(k+1))
          case rel=>exact⟨k+1,_,by omega,by go_num,ξ _,Z.o⟩
          case measure=>have:=G.o.1;omega
       ·obtain rfl:k=j.nodes.length:=by omega
        rw[Kq HT.o.1]at hown htb;have F:acr (kT w (.slice na j.nodes.length cap) j l (.returned (.tuple #[.pointer (some ⟨D,0,none⟩),.int .i64 0])) wq):=(by show kT _ _ _ _ _ _;unfold kT;rw[RX.o];exact⟨D,_,BU,W2.heap.size,rfl,oD,by have:=K1.o.2.2.2.1;omega,hown,fun q hq=>(zQ.o q hq).2,by have:=(κ.1 EN.o.1).1;omega,hmw,htb,kw⟩);clear hown htb hkp hg oB oD hB2 kw;go_wp2;go_ret2;exact F.o
 ·have F:=γ (fun w' hk=>kT.bad (v:= .slice na j.nodes.length cap) (w:=w) (w':=w') (l:=l) (JO (show iD j=false by rw[HM.o];exact decide_eq_false hz)) (show(2:Int)≠0 by decide) hk)
  have hz1:(r2 !=0)=true:=bne_iff_ne.2 hz;clear hz;go_wp2_with fail;refine cm.mono ?_;clear cm;rintro e W0 ⟨rfl,k2⟩;have K:=γ (KA.o.1.trans k2);clear k2 b0 b1;go_wp2;go_ret2;exact F.o _ K.o
end
