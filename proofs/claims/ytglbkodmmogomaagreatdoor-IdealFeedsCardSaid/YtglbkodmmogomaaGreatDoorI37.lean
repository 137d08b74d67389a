/- The document's expressions: whether one reads the state, whether it may be, its type. -/
import Derived.Test.YtglbkodmmogomaaGreatDoorI35
set_option linter.unusedVariables false
set_option linter.unusedSimpArgs false
set_option maxHeartbeats 16000000
set_option maxRecDepth 100000
namespace Go.Proofs.YtglbkodmmogomaaGreatDoor
open Go Go.RowKit
theorem Jc: ∀(N:Nat)(x:Ex)(a:Array Value)(w:World),SizeOf.sizeOf x<=N->aC w a x->Calls Tryz.prog 211 #[.agg a] w (Gives w (.bool (gK x)))
 |0,x,_,_,h,_=>by cases x;simp at h
 |N+1,x,a,w,hN,h=>by
  obtain⟨p,cap,rfl,h0,h1,h2,h3,h4,h5⟩:=h.parts;have sub: ∀(i:Nat)(y:Ex),x.args[i]?=some y->SizeOf.sizeOf y<=N:=(by intro i y hy;obtain⟨op,n,args⟩:=x;have h1:=List.sizeOf_lt_of_mem (ς (show args[i]?=some y from hy));simp at hN;omega);have IH:=γ (fun y a w hy=>Jc N y a w hy);have SB:=γ sub;have H5:=γ h5;have HX:=γ (JH x);unfold maxLen at h4;clear h h5 sub hN;go_enter Tryz.func211,Tryz.ntmps211;go_wp2_with fail;obtain⟨W0,hW0⟩:=acf (w.alloc (.cells #[.int .u8 x.op,.int .i64 x.n,.slice p x.args.length cap] 40));have k0:ε η w W0:=(by rw[<-hW0];exact δ.alloc _);have d0:W0.cell? ⟨w.heap.size,0,none⟩=some (.int .u8 x.op):=(by rw[<-hW0];simp);have d2:W0.cell? ⟨w.heap.size,2,none⟩=some (.slice p x.args.length cap):=(by rw[<-hW0];simp);rw[hW0];have K0:=γ k0;clear hW0 k0;go_loopg [3] x.args.length (fun g vi wr=> ∃(k:Nat),k<=x.args.length/\vi= .int .i64 (k:Int)/\x.args.length-k<=g/\(x.args.take k).any gK=false/\ε η W0 wr)
  case atStart=>exact⟨0,by omega,rfl,by omega,by simp,ε.refl _ _⟩
  case round=>
   obtain⟨k,hkl,rfl,hg,hno,hkp⟩:=hrel;have e0:=hkp.cell (p:=⟨w.heap.size,0,none⟩) id d0;have e2:=hkp.cell (p:=⟨w.heap.size,2,none⟩) id d2;have ZM:=γ hkp;have hW:=(K0.o.trans hkp:ε η w wr);clear hkp;by_cases hlt:k<x.args.length
   ·obtain⟨y,hy⟩: ∃y,x.args[k]?=some y:=⟨_,ι hlt⟩
    obtain⟨b,off,p',cap',rfl,q0,q1,q2,hy2⟩:=H5.o k y hy;have r0:=hW.cell (p:=⟨b,off+k*3,none⟩) id q0;have r1:=hW.cell (p:=⟨b,off+k*3+1,none⟩) id q1;have r2:=hW.cell (p:=⟨b,off+k*3+2,none⟩) id q2;have G:=γ (θ hg (θ (aC.pure hW hy2) (θ (SB.o k y hy) (θ hy hno))));have KW:=γ hW;clear q0 q1 q2 hy hy2 hW hg H5 hno;go_wp2_with fail;have c:=IH.o y _ wr G.o.2.2.1 G.o.2.1;(with_reducible refine c.mono ?_);clear c;rintro e w2 ⟨rfl,k2⟩;have K2:=γ (θ (KW.o.trans k2) (ZM.o.trans k2));clear k2
    cases hA:gK y with
    |true=>have F:=γ (show gK x=true by rw[HX.o,Bool.or_eq_true];right;rw[List.any_eq_true];exact⟨y,ς G.o.2.2.2.1,hA⟩);clear hA;go_wp2_with fail;go_ret;exact⟨aP (by rw[F.o]),K2.o.1⟩
    |false=>
     have F:=γ (yT G.o.2.2.2.1 G.o.2.2.2.2 hA);clear hA;go_wp2_with fail;go_roundg (x.args.length-(k+1))
     case rel=>exact⟨k+1,by omega,by go_num,ξ _,F.o,K2.o.2⟩
     case measure=>have:=G.o.1;omega
   ·have F:=γ (show gK x=(x.op==4) by
     rw[χ (by omega)]at hno
     rw[HX.o,hno,Bool.or_false])
    have KW:=γ hW;clear hno hW hg;go_wp2_with fail;go_ret;exact⟨aP (by rw[F.o]),KW.o⟩
theorem abz (x:Ex)(a:Array Value)(w:World)(h:aC w a x):Calls Tryz.prog 240 #[.agg a] w (Gives w (.int .i64 (iP 17 x:Int))):=by obtain⟨p,cap,rfl,h0,h1,h2,h3,h4,h5⟩:=h.parts;have H:=γ h;clear h h5;go_enter Tryz.func240,Tryz.ntmps240;go_wp2_with fail;have k1:ε η w (w.alloc (.cells #[.int .u8 x.op,.int .i64 x.n,.slice p x.args.length cap] 40)):=δ.alloc _;have c:=I8 17 x _ 17 _ rfl (ξ _) (aC.pure k1 H.o);(with_reducible refine c.mono ?_);clear c;rintro e w2 ⟨rfl,k2⟩;have hd:=wZ 17 x;obtain⟨D,hD⟩: ∃D,iP 17 x=D:=⟨_,rfl⟩;rw[hD]at hd;rw[hD];have HK:=γ (k1.trans k2);have HD:=γ hD;clear hD k1 k2;go_wp2_with fail;go_ret;exact⟨Kq (by rw[HD.o]),HK.o⟩
theorem abu (x:Ex)(a:Array Value)(w:World)(h:aC w a x):Calls Tryz.prog 210 #[.agg a] w (Gives w (.bool (aY 16 x))):=by
 have hE:=xQ 16 x;obtain⟨p,cap,rfl,h0,h1,h2,h3,h4,h5⟩:=h.parts;have H:=γ h;have HE:=γ hE;clear h h5 hE;go_enter Tryz.func210,Tryz.ntmps210;go_wp2_with fail;have k1:ε η w (w.alloc (.cells #[.int .u8 x.op,.int .i64 x.n,.slice p x.args.length cap] 40)):=δ.alloc _;(with_reducible refine(abz x _ _ (aC.pure k1 H.o)).mono ?_);rintro e w2 ⟨rfl,k2⟩;have hd:=wZ 17 x;obtain⟨D,hD⟩: ∃D,iP 17 x=D:=⟨_,rfl⟩;rw[hD]at hd;rw[hD];have HK:=γ (k1.trans k2);have d0:=k2.cell (p:=⟨w.heap.size,0,none⟩) (v:= .int .u8 x.op) id (by simp);have d1:=k2.cell (p:=⟨w.heap.size,1,none⟩) (v:= .int .i64 x.n) id (by simp);have d2:=k2.cell (p:=⟨w.heap.size,2,none⟩) (v:= .slice p x.args.length cap) id (by simp);have HD:=γ hD;clear hD k1 k2;by_cases c:D<=16
 ·have c':(D:Int)<=16:=by omega
  have F:=γ (show aY 16 x=fZ 17 x by rw[HE.o,HD.o,decide_eq_true c];rfl);go_wp2_with fail;have c:=FK 17 x _ 17 _ rfl (ξ _) (aC.pure HK.o H.o);(with_reducible refine c.mono ?_);clear c;rintro e w3 ⟨rfl,k3⟩;have Em:=γ (HK.o.trans k3);clear k3;obtain⟨B,hB⟩: ∃B,fZ 17 x=B:=⟨_,rfl⟩;have FB:=γ (show aY 16 x=B by rw[F.o,hB]);rw[hB];clear hB;go_wp2_with fail;go_ret;exact⟨aP FB.o.symm,Em.o⟩
 ·have c': ¬(D:Int)<=16:=by omega
  have F:=γ (show aY 16 x=false by rw[HE.o,HD.o,decide_eq_false c];rfl);go_wp2_with fail;go_ret;exact⟨aP F.o.symm,HK.o⟩
def afn (f:Nat):Prop:= ∀(x:Ex)(a:Array Value)(w:World),aY f x=true->aC w a x->Calls Tryz.prog 212 #[.agg a] w (Gives w (.int .u8 (aB f x)))
theorem EG: ∀f,afn f
 |0=>fun x a w h=>absurd h (by cases x;simp[aY])
 |f+1=>fun x a w hmay h=>by
  rw[uK]at hmay;simp only[Φ,decide_eq_true_eq]at hmay;obtain⟨⟨⟨m1,_⟩,_⟩,m4⟩:=hmay;obtain⟨p,cap,rfl,h0,h1,h2,h3,h4,h5⟩:=h.parts;have IH:=γ (EG f);have H5:=γ h5;have HM:=γ (List.all_eq_true.1 m4);have hop:=yS h0 m1;have hl:x.args.length<=3:=(by have:=xX x.op;omega);obtain⟨R,hR⟩: ∃R,x.args.map (aB f)=R:=⟨_,rfl⟩;have HL:=γ (show R.length=x.args.length by rw[<-hR];simp)
  have HT:=γ (show∀t∈R,0<=t/\t<=2 by
   intro t ht;rw[<-hR]at ht;obtain⟨y,_,rfl⟩:=abK.1 ht
   have:=tX f y;omega)
  have HX:=γ (show(∀t∈R,t≠0)->aB (f+1) x=dh x.op (iL R) R by
   intro hz;rw[<-hR]at hz⊢;exact ac7 h0 m1 hz)
  have HZ:=γ (show 0∈R->aB (f+1) x=0 by intro hz;rw[<-hR]at hz;exact ac8 hz);have HA:=γ m1;have HR:=γ hR;unfold aH at h2;unfold maxLen at h4;clear h h5 m1 m4 hR;go_enter Tryz.func212,Tryz.ntmps212;go_wp2_with fail;obtain⟨W0,hW0⟩:=acf (w.alloc (.cells #[.int .u8 x.op,.int .i64 x.n,.slice p x.args.length cap] 40));have k0:ε η w W0:=(by rw[<-hW0];exact δ.alloc _);have d0:W0.cell? ⟨w.heap.size,0,none⟩=some (.int .u8 x.op):=(by rw[<-hW0];simp);have d2:W0.cell? ⟨w.heap.size,2,none⟩=some (.slice p x.args.length cap):=(by rw[<-hW0];simp);rw[hW0];have K0:=γ k0;clear hW0 k0;go_loopg [3,4] x.args.length (fun g vs vi wr=> ∃k:Nat,k<=x.args.length/\vi= .int .i64 (k:Int)/\x.args.length-k<=g/\wr.ownsRow W0.heap.size 5 1 vs k (pF (R.take k))/\ε η W0 wr)
  case atStart=>exact⟨0,by omega,rfl,by omega,World.ownsRow_nil _ _ _ _,ε.refl _ _⟩
  case round=>
   obtain⟨k,hkl,rfl,hg,ho,hkp⟩:=hrel;have dd:=hkp.cell (p:=⟨w.heap.size,2,none⟩) id d2;obtain⟨a1,c1,rfl⟩:=au ho;by_cases hlt:k<x.args.length
   ·obtain⟨y,hy⟩: ∃y,x.args[k]?=some y:=⟨_,ι hlt⟩
    obtain⟨b,off,p',cap',rfl,q0,q1,q2,hy2⟩:=H5.o k y hy;have hW:=(K0.o.trans hkp:ε η w wr);have r0:=hW.cell (p:=⟨b,off+k*3,none⟩) id q0;have r1:=hW.cell (p:=⟨b,off+k*3+1,none⟩) id q1;have r2:=hW.cell (p:=⟨b,off+k*3+2,none⟩) id q2;have HY:=γ (θ (HM.o y (ς hy)) (aC.pure hW hy2));have HN:=γ (show R[k]?=some (aB f y) by rw[<-HR.o,abJ,hy];rfl);have ug:=γ (θ hg (θ hkp ho));clear q0 q1 q2 hy hy2 hW hkp hg ho;go_wp2_with fail;have c:=IH.o y _ wr HY.o.1 HY.o.2;(with_reducible refine c.mono ?_);clear c;rintro e w2 ⟨rfl,k2⟩;obtain⟨T,hT⟩: ∃T,aB f y=T:=⟨_,rfl⟩;rw[hT]at HN;rw[hT];have hTr:0<=T/\T<=2:=HT.o T (ς HN.o);have o2:=k2.owns ug.o.2.2 (fun _ _ h=>h);obtain⟨i1,hi1,hz1,hsz1,Ci⟩:=ac4;obtain⟨g1,cp1,w3,s1,p1,e1⟩:=kQ (x:= .int .u8 T) (bytes:=1) Tryz.underlying220 hi1 hz1 hsz1 Ci rfl rfl o2 (by omega) (by omega) (by have:=ug.o.2.1.size;have:=k2.size;omega) 220;have hown: ∀i,(Value.slice a1 k c1).ownBlock=some i->W0.heap.size<=i:=fun i hi=>(aU o2 hi).1;have k4:ε η W0 w3:=(ug.o.2.1.trans k2).new e1 (fun i hi e=>by have:=hown i e;omega);have G:=γ (θ p1 k4);clear o2 hi1 hz1 hsz1 Ci p1 e1 hown k4 k2 hT;go_wp2_with (at_builtin;refine wpList_append_run rfl (.tmp 14) (.tmp 21) 220 rfl (.slice a1 k c1) (.slice (some ⟨w2.heap.size,0,none⟩) 1 1) _ rfl rfl s1 ?_);go_roundg (x.args.length-(k+1))
    case rel=>refine⟨k+1,by omega,by go_num,ξ _,?_,G.o.2⟩;have e:pF (R.take (k+1))=pF (R.take k)++[.int .u8 T]:=(by unfold pF;rw[ψ,HN.o];simp);rw[e];exact G.o.1
    case measure=>have:=ug.o.1;omega
   ·obtain rfl:k=x.args.length:=by omega
    rw[χ (by rw[HL.o];exact ξ _)]at ho;obtain⟨pa,n',pc,pe,_,_,_,hcell⟩:=Reads.aN ho
    injection pe with pe1 DU BJ
    subst pe1 BJ;have e0:=hkp.cell (p:=⟨w.heap.size,0,none⟩) id d0;obtain⟨o,hox⟩: ∃o,x.op=o:=⟨_,rfl⟩;have KF:=γ (K0.o.trans hkp);clear ho hkp DU hg;rw[hox]at hop HX HA e0 h0 h1
    have Y:=γ (show R=[]\/ ∃bi bV,a1=some ⟨bi,bV,none⟩/\ ∀k t,R[k]?=some t->wr.cell? ⟨bi,bV+k,none⟩=some (.int .u8 t)from by
     rcases hcell with h|⟨bi,bV,rfl,hc⟩
     ·left;unfold pF at h;simpa using h
     ·exact .inr ⟨bi,bV,rfl,fun k t ht=>hc k _ (by unfold pF;rw[abJ,ht];rfl)⟩)
    clear hcell d0 d2;obtain⟨N,hN⟩: ∃N,x.args.length=N:=⟨_,rfl⟩;rw[hN]at HA HL dd hl h3;rw[hN];clear hN hkl hlt HR HM H5 IH;go_wp2_with fail;go_loopg [5,6] N (fun g vs vi W=> ∃k:Nat,k<=N/\vi= .int .i64 (k:Int)/\vs= .int .u8 (iL (R.take k))/\N-k<=g/\W=wr/\ ∀t∈R.take k,t≠0)
    case atStart=>exact⟨0,by omega,rfl,by rw[List.take_zero];rfl,by omega,rfl,by simp⟩
    case round=>
     obtain⟨k,hkl,rfl,rfl,hg,rfl,hall⟩:=hrel;have hSr:=OJ (l:=R.take k) (fun t ht=>HT.o t (List.mem_of_mem_take ht));by_cases hlt:k<N
     ·obtain⟨t,ht⟩: ∃t,R[k]?=some t:=⟨_,ι (by rw[HL.o];exact hlt)⟩
      obtain⟨bi,bV,rfl,hc⟩:=Y.o.resolve_left (fun h=>by rw[h]at ht;cases ht);have y:=hc k t ht;have htr:=HT.o t (ς ht);have hsn:=DI ht;obtain⟨S,hS⟩: ∃S,iL (R.take k)=S:=⟨_,rfl⟩;rw[hS]at hSr hsn;rw[hS];have HS:=γ (θ ht (θ hsn (θ hall hg)));have CC:=γ hc;clear ht hsn hall hg hS hc;by_cases t0:t=0
      ·subst t0
       have Z:=γ (HZ.o (ς HS.o.1));go_wp2_with fail;go_ret;exact⟨jw Z.o.symm,KF.o⟩
      ·have tb:(t==0)=false:=by simp[t0]
       have nx: ∀z∈R.take (k+1),z≠0:=by
        intro z hz;rw[ψ,HS.o.1]at hz
        rcases abL.1 hz with hz|hz
        ·exact HS.o.2.2.1 z hz
        ·rw[show z=t by simpa using hz];exact t0
       have NX:=γ nx;clear nx t0;by_cases k0:k=0
       ·have kb:((k:Int)==0)=true:=by simp[k0]
        have E:=γ (show iL (R.take (k+1))=t by rw[HS.o.2.1,if_pos (.inl k0)]);clear k0;go_wp2_with fail;go_roundg (N-(k+1))
        case rel=>exact⟨k+1,by omega,by go_num,by rw[E.o],ξ _,rfl,NX.o⟩
        case measure=>have:=HS.o.2.2.2;omega
       ·have kb:((k:Int)==0)=false:=by simp[k0]
        by_cases st:S=t
        ·have sb:(S==t)=true:=by simp[st]
         have E:=γ (show iL (R.take (k+1))=t by rw[HS.o.2.1,if_pos (.inr st)]);clear k0 st;go_wp2_with fail;go_roundg (N-(k+1))
         case rel=>exact⟨k+1,by omega,by go_num,by rw[E.o],ξ _,rfl,NX.o⟩
         case measure=>have:=HS.o.2.2.2;omega
        ·have sb:(S==t)=false:=by simp[st]
         have E:=γ (show iL (R.take (k+1))=3 by rw[HS.o.2.1,if_neg (by rintro(h|h);exact k0 h;exact st h)]);clear k0 st;go_wp2_with fail;go_roundg (N-(k+1))
         case rel=>exact⟨k+1,by omega,by go_num,by rw[E.o],ξ _,rfl,NX.o⟩
         case measure=>have:=HS.o.2.2.2;omega
     ·obtain rfl:k=N:=by omega
      rw[χ (by rw[HL.o];exact ξ _)]at hall hSr;rw[χ (by rw[HL.o];exact ξ _)];have F:=γ (HX.o hall);obtain⟨S,hS⟩: ∃S,iL R=S:=⟨_,rfl⟩;rw[hS]at hSr F;rw[hS];clear hS hall hg HX HZ;obtain rfl|rfl|rfl|rfl|rfl|rfl|rfl|rfl|rfl|rfl|rfl|rfl|rfl|rfl|rfl|rfl|rfl|rfl:o=1\/o=2\/o=3\/o=4\/o=5\/o=6\/o=7\/o=8\/o=9\/o=10\/o=11\/o=12\/o=13\/o=14\/o=15\/o=16\/o=17\/o=18:=by omega
      ·have Z:=γ (show aB (f+1) x=1 by rw[F.o];simp[dh])
       go_wp2_with fail;go_ret;exact⟨jw Z.o.symm,KF.o⟩
      ·have Z:=γ (show aB (f+1) x=1 by rw[F.o];simp[dh])
       go_wp2_with fail;go_ret;exact⟨jw Z.o.symm,KF.o⟩
      ·have Z:=γ (show aB (f+1) x=1 by rw[F.o];simp[dh])
       go_wp2_with fail;go_ret;exact⟨jw Z.o.symm,KF.o⟩
      ·have Z:=γ (show aB (f+1) x=1 by rw[F.o];simp[dh])
       go_wp2_with fail;go_ret;exact⟨jw Z.o.symm,KF.o⟩
      ·by_cases cS:S=1
       ·have Z:=γ (show aB (f+1) x=1 by rw[F.o];simp[dh,cS])
        have bS:(S==1)=true:=(by simp[cS]);clear cS;go_wp2_with fail;go_ret;exact⟨jw Z.o.symm,KF.o⟩
       ·have Z:=γ (show aB (f+1) x=0 by rw[F.o];simp[dh,cS])
        have bS:(S==1)=false:=(by simp[cS]);clear cS;go_wp2_with fail;go_ret;exact⟨jw Z.o.symm,KF.o⟩
      ·by_cases cS:S=2
       ·have Z:=γ (show aB (f+1) x=2 by rw[F.o];simp[dh,cS])
        have bS:(S==2)=true:=(by simp[cS]);clear cS;go_wp2_with fail;go_ret;exact⟨jw Z.o.symm,KF.o⟩
       ·have Z:=γ (show aB (f+1) x=0 by rw[F.o];simp[dh,cS])
        have bS:(S==2)=false:=(by simp[cS]);clear cS;go_wp2_with fail;go_ret;exact⟨jw Z.o.symm,KF.o⟩
      ·by_cases cS:S=1
       ·have Z:=γ (show aB (f+1) x=1 by rw[F.o];simp[dh,cS])
        have bS:(S==1)=true:=(by simp[cS]);clear cS;go_wp2_with fail;go_ret;exact⟨jw Z.o.symm,KF.o⟩
       ·have Z:=γ (show aB (f+1) x=0 by rw[F.o];simp[dh,cS])
        have bS:(S==1)=false:=(by simp[cS]);clear cS;go_wp2_with fail;go_ret;exact⟨jw Z.o.symm,KF.o⟩
      ·by_cases cS:S=1
       ·have Z:=γ (show aB (f+1) x=1 by rw[F.o];simp[dh,cS])
        have bS:(S==1)=true:=(by simp[cS]);clear cS;go_wp2_with fail;go_ret;exact⟨jw Z.o.symm,KF.o⟩
       ·have Z:=γ (show aB (f+1) x=0 by rw[F.o];simp[dh,cS])
        have bS:(S==1)=false:=(by simp[cS]);clear cS;go_wp2_with fail;go_ret;exact⟨jw Z.o.symm,KF.o⟩
      ·by_cases cS:S=1
       ·have Z:=γ (show aB (f+1) x=1 by rw[F.o];simp[dh,cS])
        have bS:(S==1)=true:=(by simp[cS]);clear cS;go_wp2_with fail;go_ret;exact⟨jw Z.o.symm,KF.o⟩
       ·have Z:=γ (show aB (f+1) x=0 by rw[F.o];simp[dh,cS])
        have bS:(S==1)=false:=(by simp[cS]);clear cS;go_wp2_with fail;go_ret;exact⟨jw Z.o.symm,KF.o⟩
      ·by_cases cS:S=1
       ·have Z:=γ (show aB (f+1) x=1 by rw[F.o];simp[dh,cS])
        have bS:(S==1)=true:=(by simp[cS]);clear cS;go_wp2_with fail;go_ret;exact⟨jw Z.o.symm,KF.o⟩
       ·have Z:=γ (show aB (f+1) x=0 by rw[F.o];simp[dh,cS])
        have bS:(S==1)=false:=(by simp[cS]);clear cS;go_wp2_with fail;go_ret;exact⟨jw Z.o.symm,KF.o⟩
      ·by_cases cS:S=1
       ·have Z:=γ (show aB (f+1) x=1 by rw[F.o];simp[dh,cS])
        have bS:(S==1)=true:=(by simp[cS]);clear cS;go_wp2_with fail;go_ret;exact⟨jw Z.o.symm,KF.o⟩
       ·have Z:=γ (show aB (f+1) x=0 by rw[F.o];simp[dh,cS])
        have bS:(S==1)=false:=(by simp[cS]);clear cS;go_wp2_with fail;go_ret;exact⟨jw Z.o.symm,KF.o⟩
      ·by_cases cS:S=1
       ·have Z:=γ (show aB (f+1) x=2 by rw[F.o];simp[dh,cS])
        have bS:(S==1)=true:=(by simp[cS]);clear cS;go_wp2_with fail;go_ret;exact⟨jw Z.o.symm,KF.o⟩
       ·have Z:=γ (show aB (f+1) x=0 by rw[F.o];simp[dh,cS])
        have bS:(S==1)=false:=(by simp[cS]);clear cS;go_wp2_with fail;go_ret;exact⟨jw Z.o.symm,KF.o⟩
      ·by_cases cS:S=1
       ·have Z:=γ (show aB (f+1) x=2 by rw[F.o];simp[dh,cS])
        have bS:(S==1)=true:=(by simp[cS]);clear cS;go_wp2_with fail;go_ret;exact⟨jw Z.o.symm,KF.o⟩
       ·have Z:=γ (show aB (f+1) x=0 by rw[F.o];simp[dh,cS])
        have bS:(S==1)=false:=(by simp[cS]);clear cS;go_wp2_with fail;go_ret;exact⟨jw Z.o.symm,KF.o⟩
      ·by_cases cS:S=3
       ·have Z:=γ (show aB (f+1) x=0 by rw[F.o];simp[dh,cS])
        have bS:(S !=3)=false:=(by simp[cS]);clear cS;go_wp2_with fail;go_ret;exact⟨jw Z.o.symm,KF.o⟩
       ·have Z:=γ (show aB (f+1) x=2 by rw[F.o];simp[dh,cS])
        have bS:(S !=3)=true:=(by simp[cS]);clear cS;go_wp2_with fail;go_ret;exact⟨jw Z.o.symm,KF.o⟩
      ·by_cases cS:S=3
       ·have Z:=γ (show aB (f+1) x=0 by rw[F.o];simp[dh,cS])
        have bS:(S !=3)=false:=(by simp[cS]);clear cS;go_wp2_with fail;go_ret;exact⟨jw Z.o.symm,KF.o⟩
       ·have Z:=γ (show aB (f+1) x=2 by rw[F.o];simp[dh,cS])
        have bS:(S !=3)=true:=(by simp[cS]);clear cS;go_wp2_with fail;go_ret;exact⟨jw Z.o.symm,KF.o⟩
      ·by_cases cS:S=2
       ·have Z:=γ (show aB (f+1) x=2 by rw[F.o];simp[dh,cS])
        have bS:(S==2)=true:=(by simp[cS]);clear cS;go_wp2_with fail;go_ret;exact⟨jw Z.o.symm,KF.o⟩
       ·have Z:=γ (show aB (f+1) x=0 by rw[F.o];simp[dh,cS])
        have bS:(S==2)=false:=(by simp[cS]);clear cS;go_wp2_with fail;go_ret;exact⟨jw Z.o.symm,KF.o⟩
      ·by_cases cS:S=2
       ·have Z:=γ (show aB (f+1) x=2 by rw[F.o];simp[dh,cS])
        have bS:(S==2)=true:=(by simp[cS]);clear cS;go_wp2_with fail;go_ret;exact⟨jw Z.o.symm,KF.o⟩
       ·have Z:=γ (show aB (f+1) x=0 by rw[F.o];simp[dh,cS])
        have bS:(S==2)=false:=(by simp[cS]);clear cS;go_wp2_with fail;go_ret;exact⟨jw Z.o.symm,KF.o⟩
      ·obtain rfl:k=3:=by have:=HA.o;simp[arity]at this;omega
       match R,HL.o,HT.o,F.o,Y.o with
       |[ta,tb,tc],_,HT,F,Y=>
        obtain⟨bi,bV,rfl,hc⟩:=Y.resolve_left (by simp);have y0:=hc 0 ta rfl;have y1:=hc 1 tb rfl;have y2:=hc 2 tc rfl;rw[Nat.add_zero]at y0;have hta:=HT ta (by simp);have htb:=HT tb (by simp);have htc:=HT tc (by simp);have Fx:=γ F;clear hc F HT Y;by_cases ca:ta=2
        ·have ba:(ta==2)=true:=by simp[ca]
         by_cases cb:tb=tc
         ·have bb:(tb==tc)=true:=by simp[cb]
          have Z:=γ (show aB (f+1) x=tb by rw[Fx.o];simp[dh,ca,cb]);clear ca cb;go_wp2_with fail;refine ak [0,1,2,3,4,5,6,7,8,9,10,11,12] (fun W=>ε η wr W) (by kernel_rfl) (by kernel_rfl) rfl δ.drew ?_;simp only[abU];iterate 13 (first|(apply bf rfl;go_frame)|(apply aj rfl rfl;(intro W hW;have z0:=hW.cell id y0;have z1:=hW.cell id y1;have z2:=hW.cell id y2;go_simp;rfl);go_frame))
          refine aG (fun _=>δ.drew) ?_;go_wp2_with fail;go_ret;exact⟨jw Z.o.symm,KF.o.drew⟩
         ·have bb:(tb==tc)=false:=by simp[cb]
          have Z:=γ (show aB (f+1) x=0 by rw[Fx.o];simp[dh,ca,cb]);clear ca cb;go_wp2_with fail;refine ak [0,1,2,3,4,5,6,7,8,9,10,11,12] (fun W=>ε η wr W) (by kernel_rfl) (by kernel_rfl) rfl δ.drew ?_;simp only[abU];iterate 13 (first|(apply bf rfl;go_frame)|(apply aj rfl rfl;(intro W hW;have z0:=hW.cell id y0;have z1:=hW.cell id y1;have z2:=hW.cell id y2;go_simp;rfl);go_frame))
          refine aG (fun _=>δ.drew) ?_;go_wp2_with fail;go_ret;exact⟨jw Z.o.symm,KF.o.drew⟩
        ·have ba:(ta==2)=false:=by simp[ca]
         have Z:=γ (show aB (f+1) x=0 by rw[Fx.o];simp[dh,ca]);clear ca;go_wp2_with fail;refine ak [0,1,2,3,4,5,6,7,8,9,10,11,12] (fun W=>ε η wr W) (by kernel_rfl) (by kernel_rfl) rfl δ.drew ?_;simp only[abU];iterate 13 (first|(apply bf rfl;go_frame)|(apply aj rfl rfl;(intro W hW;have z0:=hW.cell id y0;have z1:=hW.cell id y1;have z2:=hW.cell id y2;go_simp;rfl);go_frame))
         refine aG (fun _=>δ.drew) ?_;go_wp2_with fail;go_ret;exact⟨jw Z.o.symm,KF.o.drew⟩
