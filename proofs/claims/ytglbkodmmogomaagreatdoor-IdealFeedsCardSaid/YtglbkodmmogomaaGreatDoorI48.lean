/- The document's jobs: whether a node may be. -/
import Derived.Test.YtglbkodmmogomaaGreatDoorI47
import Derived.Test.YtglbkodmmogomaaGreatDoorI38
set_option linter.unusedVariables false
set_option linter.unusedSimpArgs false
set_option maxHeartbeats 8000000
set_option maxRecDepth 100000
namespace Go.Proofs.YtglbkodmmogomaaGreatDoor
open Go Go.RowKit
theorem Sz (x:Ex):kU x (.mk 0 0 [])=kX x:=by
 rw[JG];unfold kX
 cases x with
 |mk o n l=>
  cases l with
  |nil=>simp[Ex.op,Ex.n,Ex.args,lQ]
  |cons y l=>simp[Ex.op,Ex.n,Ex.args]
theorem adV (at_:Nat)(d:JN):aX at_ d=fG (fB d.uid) d.kind d.ins.length (fE d.ins at_) (kX d.x) (fun acc ty=>mX d.x acc ty) d.n:=by unfold aX;rw[Yt]
theorem Dh {name:Bool}{k:Int}{ins:Nat}{good none:Bool}{ty:Bool->Int->Bool}{n:Int}(h:name=false\/good=false):fG name k ins good none ty n=false:=by
 unfold fG
 rcases h with h|h<;>simp[h]
theorem Gw {l:List Int}{at_ k:Nat}{x:Int}(hx:l[k]?=some x)(h:x<0\/(at_:Int)<=x):fE l at_=false:=by
 unfold fE
 have:l.all (fun k=>decide (0<=k)&&decide (k<(at_:Int)))=false:=List.all_eq_false.2 ⟨x,ς hx,by
  simp only[Φ,decide_eq_true_eq];omega⟩
 rw[this,Bool.and_false]
theorem Sr {l:List Int}{at_ k m:Nat}{x:Int}(hx:l[k]?=some x)(hy:l[m]?=some x)(h:m<k):fE l at_=false:=by unfold fE;have: ¬l.Nodup:=fun hn=>(by have h1:=μ.1 hx;have h2:=μ.1 hy;obtain⟨k1,e1⟩:=h1;obtain⟨m1,e2⟩:=h2;exact(List.pairwise_iff_getElem.1 hn) m k m1 k1 h (e2.trans e1.symm));rw[decide_eq_false this,Bool.false_and]
theorem Sm {l:List Int}{at_:Nat}(h1:l.Nodup)(h2: ∀x∈l,0<=x/\x<(at_:Int)):fE l at_=true:=by unfold fE;rw[decide_eq_true h1,Bool.true_and,List.all_eq_true];intro x hx;have:=h2 x hx;rw[decide_eq_true this.1,decide_eq_true this.2];rfl
theorem Ru {l:List Int}{k:Nat}{x:Int}(hx:l[k]?=some x)(h:(l.take k).Nodup)(hn: ∀m y,m<k->l[m]?=some y->y≠x):(l.take (k+1)).Nodup:=by
 rw[ψ,hx,Option.toList_some,List.nodup_append];refine⟨h,by simp,fun a ha b hb e=>?_⟩;obtain⟨m,hm⟩:=List.getElem?_of_mem ha;rw[abO]at hm;split at hm
 ·rename_i hmk
  exact hn m a hmk hm (by rw[e];simpa using hb)
 ·cases hm
theorem qF (n:Int):decide (n=0)=(n==0):=by rw[Bool.eq_iff_iff];simp
theorem Zm (w:World):aC w #[.int .u8 0,.int .i64 0,.slice none 0 0] (.mk 0 0 []):= .mk (by decide) (by decide) ⟨by decide,by decide⟩ (Reads.nil w 3) rfl (fun i x h=>by cases h)
theorem XZ (d:JN)(a:Array Value)(at_:Nat)(w:World)(h:nO w a d)(hu:d.uid.size<=1000):Calls Tryz.prog 94 #[.agg a,.int .i64 (at_:Int)] w (Gives w (.bool (aX at_ d))):=by
 obtain⟨pi,ci,p,cap,rfl,hx,hin,hi64,hk0,hk1,mV,hul⟩:=h;have H:=γ hx;have HD:=γ (adV at_ d);have hB0:(w.alloc (.cells (bG d pi ci p cap) 42)).heap[w.heap.size]?=some (.cells (bG d pi ci p cap) 42 (0,0)):=heap_alloc_new _ _;have k0:ε η w (w.alloc (.cells (bG d pi ci p cap) 42)):=δ.alloc _;have cn:=XY d.uid hu (w.alloc (.cells (bG d pi ci p cap) 42));have K0:=γ (θ k0 hB0);obtain⟨ia,il,ic,ie,i1,i2,_,Jt⟩:=hin
 injection ie with YP YO YN
 subst YP YO YN;unfold maxLen at i2
 have I3:=γ (show∀(m:Nat)(x:Int),d.ins[m]?=some x->aH x/\ ∃b off,pi=some ⟨b,off,none⟩/\w.cell? ⟨b,off+m,none⟩=some (.int .i64 x) by
  intro m x hx;have hne:ints d.ins≠[]:=fun e=>(by unfold ints at e;rw[List.map_eq_nil_iff]at e;rw[e]at hx;cases hx);obtain⟨b,off,e,hc⟩:=Jt.resolve_left hne
  exact⟨hi64 x (ς hx),b,off,e,hc m _ (by unfold ints;rw[abJ,hx];rfl)⟩)
 clear Jt hx hi64 hul hu k0 hB0;unfold aH at mV;go_enter Tryz.func94,Tryz.ntmps94;go_wp2_with fail;(with_reducible refine cn.mono ?_);clear cn;rintro e W1 ⟨rfl,k1⟩;have hB:=k1.heap K0.o.2 id;have x0:W1.cell? ⟨w.heap.size,0,none⟩=some (.string d.uid):=ζ (j:=0) hB rfl;have x1:W1.cell? ⟨w.heap.size,1,none⟩=some (.int .u8 d.kind):=ζ (j:=1) hB rfl;have x2:W1.cell? ⟨w.heap.size,2,none⟩=some (.slice pi d.ins.length ci):=ζ (j:=2) hB rfl;have x3:W1.cell? ⟨w.heap.size,3,none⟩=some (.int .u8 d.x.op):=ζ (j:=3) hB rfl;have x4:W1.cell? ⟨w.heap.size,4,none⟩=some (.int .i64 d.x.n):=ζ (j:=4) hB rfl;have x5:W1.cell? ⟨w.heap.size,5,none⟩=some (.slice p d.x.args.length cap):=ζ (j:=5) hB rfl;have x6:W1.cell? ⟨w.heap.size,6,none⟩=some (.int .i64 d.n):=ζ (j:=6) hB rfl;have K1:=γ (K0.o.1.trans k1);clear k1;obtain⟨nm,hnm⟩: ∃nm,fB d.uid=nm:=⟨_,rfl⟩;rw[hnm]at HD;rw[hnm];clear hnm
 cases nm with
 |false=>have F:=γ (show aX at_ d=false by rw[HD.o,Dh (.inl rfl)]);go_wp2_with fail;go_ret;exact⟨aP F.o.symm,K1.o⟩
 |true=>
  obtain⟨L,hL⟩: ∃L,d.ins.length=L:=⟨_,rfl⟩;have hB':=hB;rw[hL]at x2 i1;have HL:=γ hL;have HB:=γ hB';clear hL hB' hB;go_wp2_with fail;go_loopg [5] L (fun g vi W=> ∃k:Nat,k<=L/\vi= .int .i64 (k:Int)/\L-k<=g/\ε η W1 W/\(d.ins.take k).Nodup/\ ∀x∈d.ins.take k,0<=x/\x<(at_:Int))
  case atStart=>exact⟨0,by omega,rfl,by omega,ε.refl _ _,by simp,by simp⟩
  case round=>
   obtain⟨k,hkl,rfl,hg,hkp,hnd,hall⟩:=hrel;have x2:wr.cell? ⟨w.heap.size,2,none⟩=some (.slice pi L ci):=(by rw[<-HL.o];exact ζ (j:=2) (hkp.heap HB.o id) rfl);have KR:=γ (θ (K1.o.trans hkp) hkp);clear hkp;by_cases hlt:k<L
   ·obtain⟨x,hx⟩: ∃x,d.ins[k]?=some x:=⟨_,ι (by rw[HL.o];exact hlt)⟩
    obtain⟨hr,bi,oi,rfl,y0⟩:=I3.o k x hx;have y:=KR.o.1.cell (p:=⟨bi,oi+k,none⟩) id y0;have Y0:=γ y0;have G:=γ (θ hg (θ hnd (θ hall hx)));unfold aH at hr;clear hg hnd hall hx y0;by_cases c1:x<0
    ·have F:=γ (show aX at_ d=false by rw[HD.o,Dh (.inr (Gw G.o.2.2.2 (.inl c1)))])
     go_wp2_with fail;go_ret;exact⟨aP F.o.symm,KR.o.1⟩
    by_cases c2:(at_:Int)<=x
    ·have F:=γ (show aX at_ d=false by rw[HD.o,Dh (.inr (Gw G.o.2.2.2 (.inr c2)))])
     go_wp2_with fail;go_ret;exact⟨aP F.o.symm,KR.o.1⟩
    go_wp2_with fail;clear x2 y;generalize wr=WA at*;go_loopg [6] k (fun g vi W=> ∃m:Nat,m<=k/\vi= .int .i64 (m:Int)/\k-m<=g/\ε η W1 W/\ ∀j y,j<m->d.ins[j]?=some y->y≠x)
    case atStart=>exact⟨0,by omega,rfl,by omega,KR.o.2,fun j y hj=>by omega⟩
    case round=>
     obtain⟨m,hmk,rfl,hgm,hkp,hne⟩:=hrel;have x2:wr.cell? ⟨w.heap.size,2,none⟩=some (.slice (some ⟨bi,oi,none⟩) L ci):=(by rw[<-HL.o];exact ζ (j:=2) (hkp.heap HB.o id) rfl);have KS:=γ (θ (K1.o.trans hkp) hkp);have y:=KS.o.1.cell (p:=⟨bi,oi+k,none⟩) id Y0.o;clear hkp;by_cases hmt:m<k
     ·obtain⟨u,hu⟩: ∃u,d.ins[m]?=some u:=⟨_,ι (by rw[HL.o];omega)⟩
      obtain⟨hr2,bi',oi',e',z0⟩:=I3.o m u hu
      injection e' with e'
      injection e' with e1 e2
      subst e1 e2;have z:=KS.o.1.cell (p:=⟨bi,oi+m,none⟩) id z0;have G2:=γ (θ hgm (θ hne hu));have hmL:m<L:=(by omega);clear hgm hne hu z0 hr2;by_cases ce:x=u
      ·have be:(x==u)=true:=by simp[ce]
       have F:=γ (show aX at_ d=false by rw[HD.o,Dh (.inr (Sr G.o.2.2.2 (by rw[ce];exact G2.o.2.2) hmt))]);clear ce;go_wp2_with fail;refine ak [0,1,2,3,4,5,6,7,8,9,10] (fun W=>ε η wr W) (by kernel_rfl) (by kernel_rfl) rfl δ.drew ?_;simp only[abU];iterate 11 (apply aj rfl rfl;(intro W hW;have z2:=hW.cell id x2;have t0:=hW.cell id y;have t1:=hW.cell id z;go_simp;rfl);go_frame)
       refine aG (fun _=>δ.drew) ?_;go_wp2_with fail;go_ret;exact⟨aP F.o.symm,KS.o.1.trans δ.drew⟩
      ·have be:(x==u)=false:=by simp[ce]
       have F:=γ (show∀j y,j<m+1->d.ins[j]?=some y->y≠x from fun j y hj hy=>by
        by_cases h:j<m
        ·exact G2.o.2.1 j y h hy
        ·have e1:j=m:=by omega
         subst e1;rw[G2.o.2.2]at hy
         injection hy with hy
         rw[<-hy];exact fun e=>ce e.symm)
       clear ce;go_wp2_with fail;refine ak [0,1,2,3,4,5,6,7,8,9,10] (fun W=>ε η wr W) (by kernel_rfl) (by kernel_rfl) rfl δ.drew ?_;simp only[abU];iterate 11 (apply aj rfl rfl;(intro W hW;have z2:=hW.cell id x2;have t0:=hW.cell id y;have t1:=hW.cell id z;go_simp;rfl);go_frame)
       refine aG (fun _=>δ.drew) ?_;go_wp2_with fail;go_roundg (k-(m+1))
       case rel=>exact⟨m+1,by omega,by go_num,ξ _,KS.o.2.trans δ.drew,F.o⟩
       case measure=>have:=G2.o.1;omega
     ·obtain rfl:m=k:=by omega
      have N1:=γ (Ru G.o.2.2.2 G.o.2.1 hne)
      have N2:=γ (show∀z∈d.ins.take (m+1),0<=z/\z<(at_:Int) by
       intro z hz;rw[ψ,G.o.2.2.2]at hz
       rcases abL.1 hz with hz|hz
       ·exact G.o.2.2.1 z hz
       ·rw[show z=x by simpa using hz];omega)
      clear hne hgm;go_wp2_with fail;go_roundg (L-(m+1))
      case rel=>exact⟨m+1,by omega,by go_num,ξ _,KS.o.2,N1.o,N2.o⟩
      case measure=>have:=G.o.1;omega
   ·obtain rfl:k=L:=by omega
    rw[χ (by rw[HL.o];exact ξ _)]at hnd hall;obtain⟨n,hn⟩: ∃n,d.n=n:=⟨_,rfl⟩;obtain⟨kd,hkd⟩: ∃kd,d.kind=kd:=⟨_,rfl⟩;obtain⟨B,hBn⟩: ∃B,kX d.x=B:=⟨_,rfl⟩
    have HM:=γ (show aX at_ d=fG true kd k true B (fun acc ty=>mX d.x acc ty) n by
     rw[HD.o,Sm hnd hall,HL.o,hn,hkd,hBn])
    have hBr:=KR.o.2.heap HB.o id;have HN:=γ (θ hn (θ hkd (θ hBn hBr)));rw[hkd]at hk0 hk1;rw[hn]at mV;have hB:=hBr;dsimp only[bG]at hB;rw[HL.o,hn,hkd]at hB;have x1:wr.cell? ⟨w.heap.size,1,none⟩=some (.int .u8 kd):=ζ (j:=1) hB rfl;have x2:wr.cell? ⟨w.heap.size,2,none⟩=some (.slice pi k ci):=ζ (j:=2) hB rfl;have x3:wr.cell? ⟨w.heap.size,3,none⟩=some (.int .u8 d.x.op):=ζ (j:=3) hB rfl;have x4:wr.cell? ⟨w.heap.size,4,none⟩=some (.int .i64 d.x.n):=ζ (j:=4) hB rfl;have x5:wr.cell? ⟨w.heap.size,5,none⟩=some (.slice p d.x.args.length cap):=ζ (j:=5) hB rfl;have x6:wr.cell? ⟨w.heap.size,6,none⟩=some (.int .i64 n):=ζ (j:=6) hB rfl;clear hnd hall hg hn hkd hBr hB;go_wp2_with fail;have c:=IX _ d.x (.mk 0 0 []) _ _ wr (ξ _) (aC.pure KR.o.1 H.o) (Zm wr);(with_reducible refine c.mono ?_);clear c;rintro e W4 ⟨rfl,k4⟩;rw[Sz,HN.o.2.2.1];have hB:=k4.heap HN.o.2.2.2 id;dsimp only[bG]at hB;rw[HL.o,HN.o.1,HN.o.2.1]at hB;have x0:W4.cell? ⟨w.heap.size,0,none⟩=some (.string d.uid):=ζ (j:=0) hB rfl;have x1:W4.cell? ⟨w.heap.size,1,none⟩=some (.int .u8 kd):=ζ (j:=1) hB rfl;have x2:W4.cell? ⟨w.heap.size,2,none⟩=some (.slice pi k ci):=ζ (j:=2) hB rfl;have x3:W4.cell? ⟨w.heap.size,3,none⟩=some (.int .u8 d.x.op):=ζ (j:=3) hB rfl;have x4:W4.cell? ⟨w.heap.size,4,none⟩=some (.int .i64 d.x.n):=ζ (j:=4) hB rfl;have x5:W4.cell? ⟨w.heap.size,5,none⟩=some (.slice p d.x.args.length cap):=ζ (j:=5) hB rfl;have x6:W4.cell? ⟨w.heap.size,6,none⟩=some (.int .i64 n):=ζ (j:=6) hB rfl;have K4:=γ (KR.o.1.trans k4);clear k4;by_cases hk:1<=kd/\kd<=9
    ·obtain rfl|rfl|rfl|rfl|rfl|rfl|rfl|rfl|rfl:kd=1\/kd=2\/kd=3\/kd=4\/kd=5\/kd=6\/kd=7\/kd=8\/kd=9:=by omega
     ·by_cases cl:k=0
      ·have bl:((k:Int)==0)=true:=by simp[cl]
       cases B with
       |true=>have F:=γ (show aX at_ d=(n==0) by rw[HM.o];simp[fG,qF,cl]);clear cl;go_wp2_with fail;go_ret;exact⟨aP F.o.symm,K4.o⟩
       |false=>have F:=γ (show aX at_ d=false by rw[HM.o];simp[fG]);clear cl;go_wp2_with fail;go_ret;exact⟨aP F.o.symm,K4.o⟩
      ·have bl:((k:Int)==0)=false:=by
        have:(k:Int)≠0:=(by omega);simpa using this
       have F:=γ (show aX at_ d=false by rw[HM.o];simp[fG,cl]);clear cl;go_wp2_with fail;go_ret;exact⟨aP F.o.symm,K4.o⟩
     ·by_cases cl:k=1
      ·have bl:((k:Int)==1)=true:=by simp[cl]
       go_wp2_with fail;have c:=sQ d.x false 1 _ W4 (aC.pure K4.o H.o);(with_reducible refine c.mono ?_);clear c;rintro e W5 ⟨rfl,k5⟩;have hB:=k5.heap hB id;have x0:W5.cell? ⟨w.heap.size,0,none⟩=some (.string d.uid):=ζ (j:=0) hB rfl;have x1:W5.cell? ⟨w.heap.size,1,none⟩=some (.int .u8 2):=ζ (j:=1) hB rfl;have x2:W5.cell? ⟨w.heap.size,2,none⟩=some (.slice pi k ci):=ζ (j:=2) hB rfl;have x3:W5.cell? ⟨w.heap.size,3,none⟩=some (.int .u8 d.x.op):=ζ (j:=3) hB rfl;have x4:W5.cell? ⟨w.heap.size,4,none⟩=some (.int .i64 d.x.n):=ζ (j:=4) hB rfl;have x5:W5.cell? ⟨w.heap.size,5,none⟩=some (.slice p d.x.args.length cap):=ζ (j:=5) hB rfl;have x6:W5.cell? ⟨w.heap.size,6,none⟩=some (.int .i64 n):=ζ (j:=6) hB rfl;have K5:=γ (K4.o.trans k5);clear k5;obtain⟨B2,hB2⟩: ∃B2,mX d.x false 1=B2:=⟨_,rfl⟩;rw[hB2]
       cases B2 with
       |true=>have F:=γ (show aX at_ d=(n==0) by rw[HM.o];simp[fG,qF,cl,hB2]);clear cl hB2;go_wp2_with fail;go_ret;exact⟨aP F.o.symm,K5.o⟩
       |false=>have F:=γ (show aX at_ d=false by rw[HM.o];simp[fG,hB2]);clear cl hB2;go_wp2_with fail;go_ret;exact⟨aP F.o.symm,K5.o⟩
      ·have bl:((k:Int)==1)=false:=by
        have:(k:Int)≠1:=(by omega);simpa using this
       have F:=γ (show aX at_ d=false by rw[HM.o];simp[fG,cl]);clear cl;go_wp2_with fail;go_ret;exact⟨aP F.o.symm,K4.o⟩
     ·by_cases cl:k=1
      ·have bl:((k:Int)==1)=true:=by simp[cl]
       go_wp2_with fail;have c:=sQ d.x false 2 _ W4 (aC.pure K4.o H.o);(with_reducible refine c.mono ?_);clear c;rintro e W5 ⟨rfl,k5⟩;have hB:=k5.heap hB id;have x0:W5.cell? ⟨w.heap.size,0,none⟩=some (.string d.uid):=ζ (j:=0) hB rfl;have x1:W5.cell? ⟨w.heap.size,1,none⟩=some (.int .u8 3):=ζ (j:=1) hB rfl;have x2:W5.cell? ⟨w.heap.size,2,none⟩=some (.slice pi k ci):=ζ (j:=2) hB rfl;have x3:W5.cell? ⟨w.heap.size,3,none⟩=some (.int .u8 d.x.op):=ζ (j:=3) hB rfl;have x4:W5.cell? ⟨w.heap.size,4,none⟩=some (.int .i64 d.x.n):=ζ (j:=4) hB rfl;have x5:W5.cell? ⟨w.heap.size,5,none⟩=some (.slice p d.x.args.length cap):=ζ (j:=5) hB rfl;have x6:W5.cell? ⟨w.heap.size,6,none⟩=some (.int .i64 n):=ζ (j:=6) hB rfl;have K5:=γ (K4.o.trans k5);clear k5;obtain⟨B2,hB2⟩: ∃B2,mX d.x false 2=B2:=⟨_,rfl⟩;rw[hB2]
       cases B2 with
       |true=>have F:=γ (show aX at_ d=(n==0) by rw[HM.o];simp[fG,qF,cl,hB2]);clear cl hB2;go_wp2_with fail;go_ret;exact⟨aP F.o.symm,K5.o⟩
       |false=>have F:=γ (show aX at_ d=false by rw[HM.o];simp[fG,hB2]);clear cl hB2;go_wp2_with fail;go_ret;exact⟨aP F.o.symm,K5.o⟩
      ·have bl:((k:Int)==1)=false:=by
        have:(k:Int)≠1:=(by omega);simpa using this
       have F:=γ (show aX at_ d=false by rw[HM.o];simp[fG,cl]);clear cl;go_wp2_with fail;go_ret;exact⟨aP F.o.symm,K4.o⟩
     ·by_cases cl:k=1
      ·have bl:((k:Int)==1)=true:=by simp[cl]
       go_wp2_with fail;have c:=sQ d.x false 1 _ W4 (aC.pure K4.o H.o);(with_reducible refine c.mono ?_);clear c;rintro e W5 ⟨rfl,k5⟩;have hB:=k5.heap hB id;have x0:W5.cell? ⟨w.heap.size,0,none⟩=some (.string d.uid):=ζ (j:=0) hB rfl;have x1:W5.cell? ⟨w.heap.size,1,none⟩=some (.int .u8 4):=ζ (j:=1) hB rfl;have x2:W5.cell? ⟨w.heap.size,2,none⟩=some (.slice pi k ci):=ζ (j:=2) hB rfl;have x3:W5.cell? ⟨w.heap.size,3,none⟩=some (.int .u8 d.x.op):=ζ (j:=3) hB rfl;have x4:W5.cell? ⟨w.heap.size,4,none⟩=some (.int .i64 d.x.n):=ζ (j:=4) hB rfl;have x5:W5.cell? ⟨w.heap.size,5,none⟩=some (.slice p d.x.args.length cap):=ζ (j:=5) hB rfl;have x6:W5.cell? ⟨w.heap.size,6,none⟩=some (.int .i64 n):=ζ (j:=6) hB rfl;have K5:=γ (K4.o.trans k5);clear k5;obtain⟨B2,hB2⟩: ∃B2,mX d.x false 1=B2:=⟨_,rfl⟩;rw[hB2]
       cases B2 with
       |true=>have F:=γ (show aX at_ d=(n==0) by rw[HM.o];simp[fG,qF,cl,hB2]);clear cl hB2;go_wp2_with fail;go_ret;exact⟨aP F.o.symm,K5.o⟩
       |false=>have F:=γ (show aX at_ d=false by rw[HM.o];simp[fG,hB2]);clear cl hB2;go_wp2_with fail;go_ret;exact⟨aP F.o.symm,K5.o⟩
      ·have bl:((k:Int)==1)=false:=by
        have:(k:Int)≠1:=(by omega);simpa using this
       have F:=γ (show aX at_ d=false by rw[HM.o];simp[fG,cl]);clear cl;go_wp2_with fail;go_ret;exact⟨aP F.o.symm,K4.o⟩
     ·by_cases cl:k=1
      ·have bl:((k:Int)==1)=true:=by simp[cl]
       go_wp2_with fail;have c:=sQ d.x false 1 _ W4 (aC.pure K4.o H.o);(with_reducible refine c.mono ?_);clear c;rintro e W5 ⟨rfl,k5⟩;have hB:=k5.heap hB id;have x0:W5.cell? ⟨w.heap.size,0,none⟩=some (.string d.uid):=ζ (j:=0) hB rfl;have x1:W5.cell? ⟨w.heap.size,1,none⟩=some (.int .u8 5):=ζ (j:=1) hB rfl;have x2:W5.cell? ⟨w.heap.size,2,none⟩=some (.slice pi k ci):=ζ (j:=2) hB rfl;have x3:W5.cell? ⟨w.heap.size,3,none⟩=some (.int .u8 d.x.op):=ζ (j:=3) hB rfl;have x4:W5.cell? ⟨w.heap.size,4,none⟩=some (.int .i64 d.x.n):=ζ (j:=4) hB rfl;have x5:W5.cell? ⟨w.heap.size,5,none⟩=some (.slice p d.x.args.length cap):=ζ (j:=5) hB rfl;have x6:W5.cell? ⟨w.heap.size,6,none⟩=some (.int .i64 n):=ζ (j:=6) hB rfl;have K5:=γ (K4.o.trans k5);clear k5;obtain⟨B2,hB2⟩: ∃B2,mX d.x false 1=B2:=⟨_,rfl⟩;rw[hB2]
       cases B2 with
       |true=>have F:=γ (show aX at_ d=(n==0) by rw[HM.o];simp[fG,qF,cl,hB2]);clear cl hB2;go_wp2_with fail;go_ret;exact⟨aP F.o.symm,K5.o⟩
       |false=>have F:=γ (show aX at_ d=false by rw[HM.o];simp[fG,hB2]);clear cl hB2;go_wp2_with fail;go_ret;exact⟨aP F.o.symm,K5.o⟩
      ·have bl:((k:Int)==1)=false:=by
        have:(k:Int)≠1:=(by omega);simpa using this
       have F:=γ (show aX at_ d=false by rw[HM.o];simp[fG,cl]);clear cl;go_wp2_with fail;go_ret;exact⟨aP F.o.symm,K4.o⟩
     ·by_cases cl:k=1
      ·have bl:((k:Int)==1)=true:=by simp[cl]
       go_wp2_with fail;have c:=sQ d.x true 1 _ W4 (aC.pure K4.o H.o);(with_reducible refine c.mono ?_);clear c;rintro e W5 ⟨rfl,k5⟩;have hB:=k5.heap hB id;have x0:W5.cell? ⟨w.heap.size,0,none⟩=some (.string d.uid):=ζ (j:=0) hB rfl;have x1:W5.cell? ⟨w.heap.size,1,none⟩=some (.int .u8 6):=ζ (j:=1) hB rfl;have x2:W5.cell? ⟨w.heap.size,2,none⟩=some (.slice pi k ci):=ζ (j:=2) hB rfl;have x3:W5.cell? ⟨w.heap.size,3,none⟩=some (.int .u8 d.x.op):=ζ (j:=3) hB rfl;have x4:W5.cell? ⟨w.heap.size,4,none⟩=some (.int .i64 d.x.n):=ζ (j:=4) hB rfl;have x5:W5.cell? ⟨w.heap.size,5,none⟩=some (.slice p d.x.args.length cap):=ζ (j:=5) hB rfl;have x6:W5.cell? ⟨w.heap.size,6,none⟩=some (.int .i64 n):=ζ (j:=6) hB rfl;have K5:=γ (K4.o.trans k5);clear k5;obtain⟨B2,hB2⟩: ∃B2,mX d.x true 1=B2:=⟨_,rfl⟩;rw[hB2]
       cases B2 with
       |true=>have F:=γ (show aX at_ d=(n==0) by rw[HM.o];simp[fG,qF,cl,hB2]);clear cl hB2;go_wp2_with fail;go_ret;exact⟨aP F.o.symm,K5.o⟩
       |false=>have F:=γ (show aX at_ d=false by rw[HM.o];simp[fG,hB2]);clear cl hB2;go_wp2_with fail;go_ret;exact⟨aP F.o.symm,K5.o⟩
      ·have bl:((k:Int)==1)=false:=by
        have:(k:Int)≠1:=(by omega);simpa using this
       have F:=γ (show aX at_ d=false by rw[HM.o];simp[fG,cl]);clear cl;go_wp2_with fail;go_ret;exact⟨aP F.o.symm,K4.o⟩
     ·by_cases cl:k=1
      ·have bl:((k:Int)==1)=true:=by simp[cl]
       cases B with
       |true=>
        by_cases cn:1<=n
        ·have F:=γ (show aX at_ d=decide (n<=16) by rw[HM.o];simp[fG,cl,cn])
         clear cl;go_wp2_with fail;go_ret;exact⟨aP F.o.symm,K4.o⟩
        ·have F:=γ (show aX at_ d=false by rw[HM.o];simp[fG,cn])
         clear cl;go_wp2_with fail;go_ret;exact⟨aP F.o.symm,K4.o⟩
       |false=>have F:=γ (show aX at_ d=false by rw[HM.o];simp[fG]);clear cl;go_wp2_with fail;go_ret;exact⟨aP F.o.symm,K4.o⟩
      ·have bl:((k:Int)==1)=false:=by
        have:(k:Int)≠1:=(by omega);simpa using this
       have F:=γ (show aX at_ d=false by rw[HM.o];simp[fG,cl]);clear cl;go_wp2_with fail;go_ret;exact⟨aP F.o.symm,K4.o⟩
     ·by_cases cl:k=2
      ·have bl:((k:Int)==2)=true:=by simp[cl]
       cases B with
       |true=>have F:=γ (show aX at_ d=(n==0) by rw[HM.o];simp[fG,qF,cl]);clear cl;go_wp2_with fail;go_ret;exact⟨aP F.o.symm,K4.o⟩
       |false=>have F:=γ (show aX at_ d=false by rw[HM.o];simp[fG]);clear cl;go_wp2_with fail;go_ret;exact⟨aP F.o.symm,K4.o⟩
      ·have bl:((k:Int)==2)=false:=by
        have:(k:Int)≠2:=(by omega);simpa using this
       by_cases Ug:k=3
       ·have bl3:((k:Int)==3)=true:=by simp[Ug]
        cases B with
        |true=>have F:=γ (show aX at_ d=(n==0) by rw[HM.o];simp[fG,qF,Ug]);clear Ug;go_wp2_with fail;go_ret;exact⟨aP F.o.symm,K4.o⟩
        |false=>have F:=γ (show aX at_ d=false by rw[HM.o];simp[fG]);clear Ug;go_wp2_with fail;go_ret;exact⟨aP F.o.symm,K4.o⟩
       ·have bl3:((k:Int)==3)=false:=by
         have:(k:Int)≠3:=(by omega);simpa using this
        have F:=γ (show aX at_ d=false by rw[HM.o];simp[fG,cl,Ug]);clear cl Ug;go_wp2_with fail;go_ret;exact⟨aP F.o.symm,K4.o⟩
     ·by_cases cl:k=1
      ·have bl:((k:Int)==1)=true:=by simp[cl]
       cases B with
       |true=>have F:=γ (show aX at_ d=(n==0) by rw[HM.o];simp[fG,qF,cl]);clear cl;go_wp2_with fail;go_ret;exact⟨aP F.o.symm,K4.o⟩
       |false=>have F:=γ (show aX at_ d=false by rw[HM.o];simp[fG]);clear cl;go_wp2_with fail;go_ret;exact⟨aP F.o.symm,K4.o⟩
      ·have bl:((k:Int)==1)=false:=by
        have:(k:Int)≠1:=(by omega);simpa using this
       have F:=γ (show aX at_ d=false by rw[HM.o];simp[fG,cl]);clear cl;go_wp2_with fail;go_ret;exact⟨aP F.o.symm,K4.o⟩
    ·have F:=γ (show aX at_ d=false by
      rw[HM.o];unfold fG
      rw[if_neg (by simp),if_neg (by simp),if_neg (by omega),if_neg (by omega),if_neg (by omega),if_neg (by omega),if_neg (by omega),if_neg (by omega),if_neg (by omega)])
     have b1:(kd==1)=false:=(by simp;omega);have b2:(kd==2)=false:=(by simp;omega);have b3:(kd==3)=false:=(by simp;omega);have b4:(kd==4)=false:=(by simp;omega);have b5:(kd==5)=false:=(by simp;omega);have b6:(kd==6)=false:=(by simp;omega);have b7:(kd==7)=false:=(by simp;omega);have b8:(kd==8)=false:=(by simp;omega);have b9:(kd==9)=false:=(by simp;omega);clear hk;go_wp2_with fail;go_ret;exact⟨aP F.o.symm,K4.o⟩
