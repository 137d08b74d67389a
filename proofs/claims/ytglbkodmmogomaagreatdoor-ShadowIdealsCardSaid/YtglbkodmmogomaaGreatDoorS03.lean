/- slices.insertionSort over records: a stretch comes sorted, those of one place as they were. -/
import Derived.Test.YtglbkodmmogomaaGreatDoorS02
import Derived.Deep.DeepCutAuto
set_option linter.unusedVariables false
set_option linter.unusedSimpArgs false
set_option maxHeartbeats 1000000
set_option maxRecDepth 1000000
namespace Go.Proofs.YtglbkodmmogomaaGreatDoor
open List Go.Proofs.Tryz
open Go Go.RowKit
attribute [local irreducible] dI eX
theorem DV (x y:Rec)(w:World):Calls prog 117 #[.agg #[.int .i64 x.pos,.int .i64 x.key,.int .i64 x.val],.agg #[.int .i64 y.pos,.int .i64 y.key,.int .i64 y.val]] w (Gives w (.int .i64 (gX x.pos y.pos))):=by go_enter func117,ntmps117;go_wp2_with fail;refine(ac3 _ _ _).mono ?_;rintro e w' ⟨rfl,rfl⟩;go_wp2;go_ret;exact⟨rfl,(δ.alloc _).alloc _⟩
theorem sO (a b:Int):(gX a b<0)=(a<b):=by
 unfold gX;simp only[eq_iff_iff];split
 ·constructor<;>intro<;>omega
 ·split<;>constructor<;>intro<;>omega
def jJ (w:World)(b off:Nat)(P X S:List Rec)(e:Ending)(w':World):Prop:= ∃X',Same X X'/\Sorted X'/\Moves w b off (P++X'++S) e w'
theorem Ju {P A2 R:List Rec}{x y:Rec}{i j:Nat}(hi:P.length=i)(hj:i+1=j):(((P++y::x::(A2++R)).set j y).set i x)=P++x::y::(A2++R):=by subst hj;rw[show P++y::x::(A2++R)=(P++[y])++x::(A2++R) by simp,set_mid (by simpa using hi),show P++[y]++y::(A2++R)=P++y::y::(A2++R) by simp,set_mid hi]
theorem Bh (b off cap N a n:Nat)(P X S:List Rec)(w:World)(h:RW w b off (P++X++S))(hN:(P++X++S).length=N)(sK:N<1099511627776)(ha:P.length=a)(hn:(P++X).length=n):
 Calls prog 176 #[.slice (some ⟨b,off,none⟩) N cap,.int .i64 a,.int .i64 n,.func (.func 117) #[] #[]] w (jJ w b off P X S):=by
 have H:=γ h;have HN:=γ hN;have HA:=γ ha;have LN:(P++X++S).length=P.length+X.length+S.length:=(by simp;omega);have LM:(P++X).length=P.length+X.length:=(by simp);have b1:a<=n/\n<=N:=(by omega);have HX:=γ (show a+X.length=n by omega);clear h hN ha hn LN LM;have e1:IntKind.i64.wrap ((a:Int)+1)=((a+1:Nat):Int):=bI (n:=a+1) (by omega);go_enter func176,ntmps176;go_wp2;go_loopg [8] X.length (fun g i wr=> ∃(i':Nat)(A R:List Rec),i= .int .i64 (i':Int)/\R.length<=g/\(i'=a+A.length/\A≠[]\/A=[]/\R=[]/\i'=a+1)/\a+A.length+R.length=n/\Sorted A/\Same X (A++R)/\RW wr b off (P++A++R++S)/\ε (one b) w wr)
 case atStart=>
  cases X with
  |nil=>exact⟨a+1,[],[],by go_num,ξ _,.inr ⟨rfl,rfl,rfl⟩,by simpa using HX.o,Pairwise.nil,Same.refl _,by simpa using H.o,ε.refl _ _⟩
  |cons x R=>
   refine⟨a+1,[x],R,by go_num,?_,.inl ⟨rfl,by simp⟩,?_,by simp[Sorted],Same.refl _,by simpa using H.o,ε.refl _ _⟩
   ·simp
   ·have:=HX.o;simp only[φ,Γ]at this⊢;omega
 case round=>
  obtain⟨i',A,R,rfl,hg,hi,hn,hs,hsame,hr,hkp⟩:=hrel
  cases R with
  |nil=>
   have hlt: ¬(i':Int)<n:=by
    simp only[Γ]at hn
    rcases hi with⟨h1,_⟩|⟨h1,_,h2⟩
    ·omega
    ·rw[h1]at hn;simp only[Γ]at hn;omega
   have F:jJ w b off P X S (.returned (.tuple #[])) wr:=⟨A,by simpa using hsame,hs,rfl,by simpa using hr,hkp⟩;have FF:=γ F;clear F hg hi hn hs hsame hr hkp;go_wp2_with fail
   go_end0
   exact FF.o
  |cons x R=>
   obtain⟨rfl,hA⟩:i'=a+A.length/\A≠[]:=by
    rcases hi with h|⟨_,h,_⟩
    ·exact h
    ·cases h
   have hn':a+A.length<n:=(by simp only[φ]at hn;omega);have hlt:((a+A.length:Nat):Int)<n:=(by omega);obtain⟨i,hi'⟩:=acu (a+A.length);have HH:=γ (θ hg (θ hn (θ hs hsame)));have HR:=γ hr;clear hg hi hn hs hsame hr;rw[hi']at hn' hlt⊢;have HI:=γ hi';clear hi';go_wp2;go_loopg [9] A.length (fun g j wr=> ∃(A1 A2:List Rec),A=A1++A2/\j= .int .i64 ((a+A1.length:Nat):Int)/\A1.length=g/\(∀y∈A2,x.pos<y.pos)/\RW wr b off (P++A1++x::A2++R++S)/\ε (one b) w wr)
   case atStart=>exact⟨A,[],by simp,by rw[HI.o],rfl,by simp,by simpa using HR.o,hkp⟩
   case round=>
    clear HR hkp;obtain⟨A1,A2,rfl,rfl,hg,hgt,hr,hkp⟩:=hrel;have hxi:=HI.o;rw[ν]at hxi
    rcases eq_nil_or_concat A1 with rfl|⟨A1,y,rfl⟩
    ·
     have hn0: ¬a<a+([]:List Rec).length:=(by simp);obtain⟨j,hj⟩:=acu (a+([]:List Rec).length);rw[hj]at hn0⊢;have hn1:decide (a<j)=false:=decide_eq_false hn0;have hn2:decide ((a:Int)<(j:Int))=false:=decide_eq_false (by omega);have hi1:IntKind.i64.wrap ((i:Int)+1)=((i+1:Nat):Int):=bI (n:=i+1) (by omega);have F: ∃(i':Nat)(A R':List Rec),Value.int .i64 ((i+1:Nat):Int)= .int .i64 (i':Int)/\R'.length<=R.length/\(i'=a+A.length/\A≠[]\/A=[]/\R'=[]/\i'=a+1)/\a+A.length+R'.length=n/\Sorted A/\Same X (A++R')/\RW wr.drew b off (P++A++R'++S)/\ε (one b) w wr.drew:=by
      obtain⟨h1,h2,h3,h4⟩:=HH.o;refine⟨_,x::A2,R,rfl,ξ _,.inl ⟨?_,by simp⟩,?_,?_,?_,?_,hkp.drew⟩
      ·simp only[Γ,φ]at hxi⊢;omega
      ·simp only[ν,φ,Γ]at h2⊢;omega
      ·exact pairwise_cons.2 ⟨fun y hy=>Int.le_of_lt (hgt y hy),h3⟩
      ·refine h4.trans ?_
       have:=(Same.comm (A:=A2) (B:=[x]) (fun a ha b hb=>by have:=hgt a ha;simp at hb;subst hb;omega)).append (Same.refl R);simpa using this
      ·simpa using hr.pure δ.drew
     have FF:=γ F;clear F hr hg hgt hkp hxi hj;go_wp2;refine acv [0,1,2,3,4,5,6,7,8,9,10,11,12,13,14,15,16] ?_;simp only[aco];iterate 4 (apply aj rfl rfl;(intro W hW;go_simp;rfl);go_frame)
     skip
     iterate 12 (apply aT rfl;go_frame)
     apply aj rfl rfl
     ·intro W hW;go_simp;rfl
     go_frame;refine aA (fun _=>δ.drew) ?_;go_wp2;go_roundg R.length
     case rel=>exact FF.o
     case measure=>have:=HH.o;simp at this;omega
    ·
     obtain⟨q,hq⟩:=acu (a+A1.length);obtain⟨j,hj⟩:=acu (q+1);have hjj:a+(A1.concat y).length=j:=(by rw[concat_eq_append,ν];simp only[φ,Γ];omega);rw[hjj];rw[concat_eq_append]at hr;have hA1:=HA.o;have Hr:(P++A1).length=q:=(by rw[ν];omega);have hPj:(P++A1++[y]).length=j:=(by simp only[ν,φ,Γ]at Hr⊢;omega);have gx:(P++(A1++[y])++x::A2++R++S)[j]?=some x:=(by rw[show P++(A1++[y])++x::A2++R++S=(P++A1++[y])++x::(A2++R++S) by simp];exact lG hPj);have gy:(P++(A1++[y])++x::A2++R++S)[q]?=some y:=(by rw[show P++(A1++[y])++x::A2++R++S=(P++A1)++y::(x::A2++R++S) by simp];exact lG Hr);have hjN:j<(P++(A1++[y])++x::A2++R++S).length:=(μ.1 gx).1;have rJ:(P++(A1++[y])++x::A2++R++S).length=N:=(by have h1:=HN.o;have h2:=HX.o;have h3:=HH.o.2.1;simp only[concat_eq_append,ν,φ,Γ]at h1 h2 h3⊢;omega);have hjN':j<N:=(by omega);have hqN':q<N:=(by omega);obtain⟨x0,x1,x2⟩:=hr.recs _ _ gx;obtain⟨y0,y1,y2⟩:=hr.recs _ _ gy;obtain⟨fx0,fx1,fx2⟩:=hr.soft j (by omega);obtain⟨fy0,fy1,fy2⟩:=hr.soft q (by omega);have hn0:a<j:=(by omega);have hn1:decide (a<j)=true:=decide_eq_true hn0;have hn2:decide ((a:Int)<(j:Int))=true:=decide_eq_true (by omega);have e3:IntKind.i64.wrap ((j:Int)-1)=(q:Int):=(by rw[show(j:Int)-1=((q:Nat):Int) by omega];exact bI (by omega));have HJ:=γ (θ hq (θ hj (θ hg (θ hgt hkp))));have HPQ:=γ (θ Hr (θ hPj rJ));have HXI:=γ hxi;have HR:=γ hr;have ine:i<N:=(by omega);clear hq hj hg hgt hkp Hr hPj rJ hxi hr gx gy hjj hA1 hjN;go_wp2;refine acv [0,1,2,3,4,5,6,7,8,9,10,11,12,13,14,15,16] ?_;simp only[aco];iterate 14 (apply aj rfl rfl;(intro W hW;have c0:=hW.cell id x0;have c1:=hW.cell id x1;have c2:=hW.cell id x2;have d0:=hW.cell id y0;have d1:=hW.cell id y1;have d2:=hW.cell id y2;go_simp;rfl);go_frame)
     apply ay rfl rfl;intro K hK;go_wp2_with fail;refine(DV x y _).mono ?_;rintro e w3 ⟨rfl,k3⟩;have dN:ε η wr w3:=k3.aW;by_cases hxy:x.pos<y.pos
     ·have hc:gX x.pos y.pos<0:=by rw[sO];exact hxy
      go_wp2;refine hK _ _ (fun _=>dN) ?_;clear hK;iterate 2 (apply aj rfl rfl;(intro W hW;go_simp;rfl);go_frame)
      refine aA (fun _=>dN) ?_;have hr3:=HR.o.pure dN;have hstep:((P++(A1++[y])++x::A2++R++S).set j y).set q x=P++A1++x::(y::A2)++R++S:=(by rw[show P++(A1++[y])++x::A2++R++S=(P++A1)++y::x::(A2++(R++S)) by simp,Ju HPQ.o.1 HJ.o.2.1];simp);have hsw:=hr3.swap x y (i:=j) (j:=q) (by rw[HPQ.o.2.2];omega) (by rw[HPQ.o.2.2];omega);rw[hstep]at hsw;have F:=γ (θ (hsw.pure δ.drew) ((HJ.o.2.2.2.2.trans dN.pure).trans ((yL w3 b (off+j*3) (off+q*3) x y).drew)));have s0:=dN.cell id x0;have s1:=dN.cell id x1;have s2:=dN.cell id x2;have t0:=dN.cell id y0;have t1:=dN.cell id y1;have t2:=dN.cell id y2;obtain⟨gx0,gx1,gx2⟩:=hr3.soft j (by rw[HPQ.o.2.2];omega);obtain⟨gy0,gy1,gy2⟩:=hr3.soft q (by rw[HPQ.o.2.2];omega);clear x0 x1 x2 y0 y1 y2 fx0 fx1 fx2 fy0 fy1 fy2 hr3 hstep hsw k3;have hne:j≠q:=(by have:=HJ.o.2.1;omega);go_wp2_with fail;refine fJ [0,1,2,3,4,5,6,7,8,9,10,11,12,13,14,15,16,17] (fun W=>ε η w3 W) (by kernel_rfl) (by kernel_rfl) rfl δ.drew ?_;simp only[aco];iterate 15 (first|(apply dZ rfl rfl;(intro W;go_simp;rfl);go_frame)|(apply lJ rfl rfl rfl;(intro W hW;have c0:=hW.cell id s0;have c1:=hW.cell id s1;have c2:=hW.cell id s2;have d0:=hW.cell id t0;have d1:=hW.cell id t1;have d2:=hW.cell id t2;go_simp;rfl);go_frame))
      apply jH rfl rfl rfl;intro K hK;go_wp2_with fail;apply dZ rfl rfl
      ·intro W;go_simp;rfl
      go_frame;apply jH rfl rfl rfl;intro K2 hK2;go_wp2_with fail;apply nT;go_wp2;go_roundg A1.length
      case rel=>
       refine⟨A1,y::A2,by simp,?_,rfl,?_,F.o.1,F.o.2⟩
       ·have:=HJ.o.1;rw[this]
       ·intro z hz
        rcases aci.1 hz with rfl|hz
        ·exact hxy
        ·exact HJ.o.2.2.2.1 z hz
      case measure=>have:=HJ.o.2.2.1;rw[concat_eq_append,ν]at this;simp at this;omega
     ·have hc: ¬gX x.pos y.pos<0:=by rw[sO];exact hxy
      go_wp2;refine hK _ _ (fun _=>dN) ?_;clear hK;iterate 2 (apply aj rfl rfl;(intro W hW;go_simp;rfl);go_frame)
      refine aA (fun _=>dN) ?_;have hi1:IntKind.i64.wrap ((i:Int)+1)=((i+1:Nat):Int):=bI (n:=i+1) (by omega);have F: ∃(i':Nat)(A R':List Rec),Value.int .i64 ((i+1:Nat):Int)= .int .i64 (i':Int)/\R'.length<=R.length/\(i'=a+A.length/\A≠[]\/A=[]/\R'=[]/\i'=a+1)/\a+A.length+R'.length=n/\Sorted A/\Same X (A++R')/\RW w3 b off (P++A++R'++S)/\ε (one b) w w3:=by
       obtain⟨h1,h2,h3,h4⟩:=HH.o;have h5:=HXI.o;have h6:=HJ.o;rw[concat_eq_append]at h2 h3 h4 h5;refine⟨_,A1++[y]++x::A2,R,rfl,ξ _,.inl ⟨?_,by simp⟩,?_,?_,?_,?_,h6.2.2.2.2.trans dN.pure⟩
       ·simp only[ν,φ,Γ]at h5⊢;omega
       ·simp only[ν,φ,Γ]at h2⊢;omega
       ·refine Sorted.append h3.left (pairwise_cons.2 ⟨fun z hz=>Int.le_of_lt (h6.2.2.2.1 z hz),h3.right⟩) ?_
        intro u hu v hv;have h7:u.pos<=y.pos:=by
         rcases aax.1 hu with hu|hu
         ·exact h3.left.le u hu y (by simp)
         ·simp at hu;rw[hu];exact Int.le_refl _
        rcases aci.1 hv with rfl|hv
        ·omega
        ·have:=h6.2.2.2.1 v hv;omega
       ·refine h4.trans ?_
        have:=((Same.refl (A1++[y])).append (Same.comm (A:=A2) (B:=[x]) (fun u hu v hv=>by have:=h6.2.2.2.1 u hu;simp at hv;subst hv;omega))).append (Same.refl R);simpa using this
       ·simpa using HR.o.pure dN
      have FF:=γ F;clear F;go_wp2;go_roundg R.length
      case rel=>exact FF.o
      case measure=>have:=HH.o.1;simp at this;omega
theorem Ph {L:List Rec}{t:Nat}(h:t<L.length): ∃C1 y C2,L=C1++y::C2/\C1.length=t:=
 ⟨L.take t,L[t],L.drop (t+1),by rw[<-acn h,take_append_drop],by rw[υ];omega⟩
theorem adv {P A2 R:List Rec}{x y:Rec}{i j:Nat}(hi:P.length=i)(hj:i+1=j):(((P++x::y::(A2++R)).set i y).set j x)=P++y::x::(A2++R):=by subst hj;rw[set_mid hi,show P++y::y::(A2++R)=(P++[y])++y::(A2++R) by simp,set_mid (by simpa using hi)];simp
theorem adu (b off cap N a m n:Nat)(P B S:List Rec)(x:Rec)(w:World)(h:RW w b off (P++x::B++S))(hN:(P++x::B++S).length=N)(sK:N<1099511627776)
 (ha:P.length=a) (hm:a+1=m) (hn:m+B.length=n) (hB:Sorted B):
 Calls prog 177 #[.slice (some ⟨b,off,none⟩) N cap,.int .i64 a,.int .i64 m,.int .i64 n,.func (.func 117) #[] #[]] w (jJ w b off P (x::B) S):=by
 have H:=γ h;have HN:=γ hN;have HL:=γ (θ ha (θ hm (θ hn hB)));have LN:(P++x::B++S).length=P.length+1+B.length+S.length:=(by simp;omega);have b1:a<m/\m<=n/\n<=N:=(by omega);have e1:IntKind.i64.wrap ((m:Int)-a)=1:=(by rw[show(m:Int)-a=((1:Nat):Int) by omega];exact bI (by omega));have gx:(P++x::B++S)[a]?=some x:=(by rw[show P++x::B++S=P++x::(B++S) by simp];exact lG ha);have HG:=γ gx;clear h hN ha hm hn hB LN gx;go_enter func177,ntmps177;go_wp2;go_loopg [10,11] B.length (fun g i j wr=> ∃(B1 B2 B3:List Rec),i= .int .i64 ((m+B1.length:Nat):Int)/\j= .int .i64 ((m+B1.length+B2.length:Nat):Int)/\B2.length<=g/\B=B1++B2++B3/\(∀y∈B1,y.pos<x.pos)/\(∀y∈B3,x.pos<=y.pos)/\ε η w wr)
 case atStart=>exact⟨[],B,[],by simp,by rw[<-HL.o.2.2.1];simp,ξ _,by simp,by simp,by simp,ε.refl _ _⟩
 case round=>
  obtain⟨B1,B2,B3,rfl,rfl,hg,hB,h1,h3,hkp⟩:=hrel;obtain⟨i,hi⟩:=acu (m+B1.length);obtain⟨j,hj⟩:=acu (i+B2.length);rw[hi,hj];have hjn:j<=n:=(by have:=HL.o.2.2.1;rw[hB]at this;simp only[ν]at this;omega);have A:=γ (θ hi (θ hj (θ hg (θ hB (θ h1 (θ h3 hkp))))));clear hg hB h1 h3 hkp;by_cases hlt:i<j
  ·obtain⟨h,hh⟩:=acu ((i+j)/2)
   have hb:i<=h/\h<j:=(by omega);have e2:((i:Int)+(j:Int))/2=(h:Int):=(by omega);clear hi hj hh;obtain⟨C1,y,C2,hC,lC⟩: ∃C1 y C2,B2=C1++y::C2/\C1.length=h-i:=Ph (by have:=A.o.2.1;omega);have gy:(P++x::B++S)[h]?=some y:=(by rw[A.o.2.2.2.1,hC,show P++x::(B1++(C1++y::C2)++B3)++S=(P++x::(B1++C1))++y::(C2++B3++S) by simp];refine lG ?_;have h1:=HL.o;have h2:=A.o.1;simp only[ν,φ];omega);have hr:=H.o.pure A.o.2.2.2.2.2.2;obtain⟨x0,x1,x2⟩:=hr.recs _ _ HG.o;obtain⟨y0,y1,y2⟩:=hr.recs _ _ gy;have hC':=γ (θ hC lC);have hhN:h<N:=(by omega);have haN:a<N:=(by omega);clear hr gy hC lC;go_wp2;refine acv [0,1,2,3,4,5,6,7,8,9,10] ?_;simp only[aco];iterate 9 (apply aj rfl rfl;(intro W hW;have c0:=hW.cell id x0;have c1:=hW.cell id x1;have c2:=hW.cell id x2;have d0:=hW.cell id y0;have d1:=hW.cell id y1;have d2:=hW.cell id y2;go_simp;rfl);go_frame)
   apply ay rfl rfl;intro K hK;go_wp2_with fail;refine(DV y x _).mono ?_;rintro e w3 ⟨rfl,k3⟩;have dN:ε η wr w3:=k3.aW;by_cases hxy:y.pos<x.pos
   ·have hc:gX y.pos x.pos<0:=by rw[sO];exact hxy
    have e3:IntKind.i64.wrap ((h:Int)+1)=((h+1:Nat):Int):=bI (n:=h+1) (by omega);go_wp2;refine hK _ _ (fun _=>dN) ?_;clear hK;iterate 1 (apply aj rfl rfl;(intro W hW;go_simp;rfl);go_frame)
    refine aA (fun _=>dN) ?_;go_wp2;go_roundg C2.length
    case rel=>
     obtain⟨q1,q2,q3,q4,q5,q6,q7⟩:=A.o;obtain⟨u1,u2⟩:=hC'.o;rw[u1]at q2 q4;simp only[ν,φ]at q2;have hs:=HL.o.2.2.2;rw[q4]at hs;refine⟨B1++C1++[y],C2,B3,?_,?_,ξ _,?_,?_,q6,q7.trans dN.pure⟩
     ·congr 1;simp only[ν,φ,Γ];omega
     ·congr 1;simp only[ν,φ,Γ];omega
     ·rw[q4];simp
     ·intro z hz
      rcases aax.1 hz with hz|hz
      ·rcases aax.1 hz with hz|hz
       ·exact q5 z hz
       ·have:=hs.left.right.le z hz y (by simp);omega
      ·simp at hz;rw[hz];exact hxy
    case measure=>have u1:=hC'.o.1;have q3:=A.o.2.2.1;rw[u1]at q3;simp only[ν,φ]at q3;omega
   ·have hc: ¬gX y.pos x.pos<0:=by rw[sO];exact hxy
    go_wp2;refine hK _ _ (fun _=>dN) ?_;clear hK;iterate 1 (apply aj rfl rfl;(intro W hW;go_simp;rfl);go_frame)
    refine aA (fun _=>dN) ?_;go_wp2;go_roundg C1.length
    case rel=>
     obtain⟨q1,q2,q3,q4,q5,q6,q7⟩:=A.o;obtain⟨u1,u2⟩:=hC'.o;rw[u1]at q2 q4;have hs:=HL.o.2.2.2;rw[q4]at hs;refine⟨B1,C1,y::C2++B3,?_,?_,ξ _,?_,q5,?_,q7.trans dN.pure⟩
     ·rw[q1]
     ·congr 1;omega
     ·rw[q4];simp
     ·intro z hz
      rcases aax.1 hz with hz|hz
      ·rcases aci.1 hz with rfl|hz
       ·omega
       ·have:=(pairwise_cons.1 hs.left.right.right).1 z hz;omega
      ·exact q6 z hz
    case measure=>have u1:=hC'.o.1;have q3:=A.o.2.2.1;rw[u1]at q3;simp only[ν,φ]at q3;omega
  ·have hB2:B2=[]:=by
    have:=A.o.2.1;exact τ (by omega)
   subst hB2;have hiN:i<=N:=(by simp only[Γ]at hj;omega);have e3:IntKind.i64.wrap ((i:Int)-1)=((i-1:Nat):Int):=(by rw[show(i:Int)-1=((i-1:Nat):Int) by omega];exact bI (by omega));clear hi hj;go_wp2;go_loopg [13] B1.length (fun g k wr2=> ∃(D1 D2:List Rec),k= .int .i64 ((a+D1.length:Nat):Int)/\B1=D1++D2/\D2.length<=g/\RW wr2 b off (P++D1++x::D2++B3++S)/\ε (one b) w wr2)
   case atStart=>have q:=A.o;refine⟨[],B1,by simp,rfl,ξ _,?_,q.2.2.2.2.2.2.pure⟩;have:=H.o.pure q.2.2.2.2.2.2;rw[q.2.2.2.1]at this;simpa using this
   case round=>
    obtain⟨D1,D2,rfl,hD,hg2,hr,hkp⟩:=hrel;obtain⟨k,hk⟩:=acu (a+D1.length);rw[hk]
    cases D2 with
    |nil=>
     have hn0: ¬(k:Int)<((i-1:Nat):Int):=(by have h1:=A.o.1;have h2:=HL.o;rw[hD]at h1;simp only[ν,Γ]at h1;omega);have F:jJ w b off P (x::B) S (.returned (.tuple #[])) wr:=by
      obtain⟨q1,q2,q3,q4,q5,q6,q7⟩:=A.o;have hs:=HL.o.2.2.2;rw[append_nil]at hD;subst hD;rw[q4]at hs;refine⟨B1++x::B3,?_,?_,rfl,by simpa using hr,hkp⟩
      ·rw[q4]
       have:=(Same.comm (A:=[x]) (B:=B1) (fun u hu v hv=>by simp at hu;subst hu;have:=q5 v hv;omega)).append (Same.refl B3);simpa using this
      ·refine Sorted.append hs.left.left (pairwise_cons.2 ⟨fun z hz=>q6 z hz,hs.right⟩) ?_
       intro u hu v hv;have:=q5 u hu
       rcases aci.1 hv with rfl|hv
       ·omega
       ·have:=q6 v hv;omega
     have FF:=γ F;clear F hr hkp hD hk;go_wp2_with fail
     go_end0
     exact FF.o
    |cons y D2=>
     have hB1:m+D1.length+1+D2.length=i:=(by have h1:=A.o.1;rw[hD]at h1;simp only[ν,φ]at h1;omega);have hm2:=HL.o.2.1;obtain⟨k1,hk1⟩:=acu (k+1);have hn0:(k:Int)<((i-1:Nat):Int):=(by omega);have e4:IntKind.i64.wrap ((k:Int)+1)=(k1:Int):=(by rw[show(k:Int)+1=((k1:Nat):Int) by omega];exact bI (by omega));have hPk:(P++D1).length=k:=(by rw[ν,HL.o.1];exact hk);have gx:(P++D1++x::(y::D2)++B3++S)[k]?=some x:=(by rw[show P++D1++x::(y::D2)++B3++S=(P++D1)++x::(y::D2++B3++S) by simp];exact lG hPk);have gy:(P++D1++x::(y::D2)++B3++S)[k1]?=some y:=(by rw[show P++D1++x::(y::D2)++B3++S=(P++D1++[x])++y::(D2++B3++S) by simp];exact lG (by rw[ν,hPk];exact hk1));have rJ:(P++D1++x::(y::D2)++B3++S).length=N:=(by have h1:=HN.o;rw[A.o.2.2.2.1,hD]at h1;simp only[ν,φ,Γ]at h1⊢;omega);have hk1N:k1<N:=(by rw[<-rJ];exact(μ.1 gy).1);have hkN:k<N:=(by omega);obtain⟨x0,x1,x2⟩:=hr.recs _ _ gx;obtain⟨y0,y1,y2⟩:=hr.recs _ _ gy;obtain⟨fx0,fx1,fx2⟩:=hr.soft k (by omega);obtain⟨fy0,fy1,fy2⟩:=hr.soft k1 (by omega);have hstep:((P++D1++x::(y::D2)++B3++S).set k y).set k1 x=P++(D1++[y])++x::D2++B3++S:=(by rw[show P++D1++x::(y::D2)++B3++S=(P++D1)++x::y::(D2++(B3++S)) by simp,adv hPk hk1];simp);have hsw:=hr.swap x y (i:=k) (j:=k1) (by omega) (by omega);rw[hstep]at hsw;have F:=γ (θ (hsw.pure δ.drew) (hkp.trans ((yL wr b (off+k*3) (off+k1*3) x y).drew)));have HD:=γ hD;have HK:=γ (θ hk (θ hg2 hk1));have hne:k≠k1:=(by omega);clear hr hkp hD hPk gx gy rJ hstep hsw hk hB1 hm2 hk1 hg2;go_wp2_with fail;refine fJ [0,1,2,3,4,5,6,7,8,9,10,11,12,13,14,15,16,17] (fun W=>ε η wr W) (by kernel_rfl) (by kernel_rfl) rfl δ.drew ?_;simp only[aco];iterate 15 (first|(apply dZ rfl rfl;(intro W;go_simp;rfl);go_frame)|(apply lJ rfl rfl rfl;(intro W hW;have c0:=hW.cell id x0;have c1:=hW.cell id x1;have c2:=hW.cell id x2;have d0:=hW.cell id y0;have d1:=hW.cell id y1;have d2:=hW.cell id y2;go_simp;rfl);go_frame))
     apply jH rfl rfl rfl;intro K hK;go_wp2_with fail;apply dZ rfl rfl
     ·intro W;go_simp;rfl
     go_frame;apply jH rfl rfl rfl;intro K2 hK2;go_wp2_with fail;apply nT;go_wp2;go_roundg D2.length
     case rel=>refine⟨D1++[y],D2,?_,by rw[HD.o];simp,ξ _,F.o.1,F.o.2⟩;have h5:=HK.o.1;have h6:=HK.o.2.2;rw[ν];first|(congr 1;simp only[φ,Γ];omega)|(simp only[φ,Γ];go_num)
     case measure=>have:=HK.o.2.1;simp only[φ]at this;omega
theorem aaH (b off cap N a m n:Nat)(P B S:List Rec)(x:Rec)(w:World)(h:RW w b off (P++B++x::S))(hN:(P++B++x::S).length=N)(sK:N<1099511627776)
 (ha:P.length=a) (hm:a+B.length=m) (hn:m+1=n) (hB:Sorted B) (h2:2<=B.length):
 Calls prog 177 #[.slice (some ⟨b,off,none⟩) N cap,.int .i64 a,.int .i64 m,.int .i64 n,.func (.func 117) #[] #[]] w (jJ w b off P (B++[x]) S):=by
 have H:=γ h;have HN:=γ hN;have HL:=γ (θ ha (θ hm (θ hn hB)));have LN:(P++B++x::S).length=P.length+B.length+1+S.length:=(by simp;omega);have b1:a+2<=m/\m<n/\n<=N:=(by omega);obtain⟨u,hu⟩:=acu (m-a);have e1:IntKind.i64.wrap ((m:Int)-a)=(u:Int):=(by rw[show(m:Int)-a=((u:Nat):Int) by omega];exact bI (by omega));have hu1:((u:Int)==1)=false:=(by simp;omega);have e0:IntKind.i64.wrap ((n:Int)-m)=1:=(by rw[show(n:Int)-m=((1:Nat):Int) by omega];exact bI (by omega));have gx:(P++B++x::S)[m]?=some x:=lG (by rw[ν];omega);have HG:=γ gx;clear h hN ha hm hn hB LN gx hu h2;go_enter func177,ntmps177;go_wp2;go_loopg [14,15] B.length (fun g i j wr=> ∃(B1 B2 B3:List Rec),i= .int .i64 ((a+B1.length:Nat):Int)/\j= .int .i64 ((a+B1.length+B2.length:Nat):Int)/\B2.length<=g/\B=B1++B2++B3/\(∀y∈B1,y.pos<=x.pos)/\(∀y∈B3,x.pos<y.pos)/\ε η w wr)
 case atStart=>exact⟨[],B,[],by simp,by rw[<-HL.o.2.1];simp,ξ _,by simp,by simp,by simp,ε.refl _ _⟩
 case round=>
  obtain⟨B1,B2,B3,rfl,rfl,hg,hB,h1,h3,hkp⟩:=hrel;obtain⟨i,hi⟩:=acu (a+B1.length);obtain⟨j,hj⟩:=acu (i+B2.length);rw[hi,hj];have hjn:j<=m:=(by have:=HL.o.2.1;rw[hB]at this;simp only[ν]at this;omega);have A:=γ (θ hi (θ hj (θ hg (θ hB (θ h1 (θ h3 hkp))))));clear hg hB h1 h3 hkp;by_cases hlt:i<j
  ·obtain⟨h,hh⟩:=acu ((i+j)/2)
   have hb:i<=h/\h<j:=(by omega);have e2:((i:Int)+(j:Int))/2=(h:Int):=(by omega);clear hi hj hh;obtain⟨C1,y,C2,hC,lC⟩: ∃C1 y C2,B2=C1++y::C2/\C1.length=h-i:=Ph (by have:=A.o.2.1;omega);have gy:(P++B++x::S)[h]?=some y:=(by rw[A.o.2.2.2.1,hC,show P++(B1++(C1++y::C2)++B3)++x::S=(P++B1++C1)++y::(C2++B3++x::S) by simp];refine lG ?_;have h1:=HL.o;have h2:=A.o.1;simp only[ν];omega);have hr:=H.o.pure A.o.2.2.2.2.2.2;obtain⟨x0,x1,x2⟩:=hr.recs _ _ HG.o;obtain⟨y0,y1,y2⟩:=hr.recs _ _ gy;have hC':=γ (θ hC lC);have hhN:h<N:=(by omega);have hmN:m<N:=(by omega);clear hr gy hC lC;go_wp2;refine acv [0,1,2,3,4,5,6,7,8,9,10,11] ?_;simp only[aco];iterate 9 (apply aj rfl rfl;(intro W hW;have c0:=hW.cell id x0;have c1:=hW.cell id x1;have c2:=hW.cell id x2;have d0:=hW.cell id y0;have d1:=hW.cell id y1;have d2:=hW.cell id y2;go_simp;rfl);go_frame)
   apply ay rfl rfl;intro K hK;go_wp2_with fail;refine(DV x y _).mono ?_;rintro e w3 ⟨rfl,k3⟩;have dN:ε η wr w3:=k3.aW;by_cases hxy:x.pos<y.pos
   ·have hc:gX x.pos y.pos<0:=by rw[sO];exact hxy
    have hcn:(!decide (gX x.pos y.pos<0))=false:=(by rw[decide_eq_true hc];rfl);go_wp2;refine hK _ _ (fun _=>dN) ?_;clear hK;iterate 2 (apply aj rfl rfl;(intro W hW;go_simp;rfl);go_frame)
    refine aA (fun _=>dN) ?_;go_wp2;go_roundg C1.length
    case rel=>
     obtain⟨q1,q2,q3,q4,q5,q6,q7⟩:=A.o;obtain⟨u1,u2⟩:=hC'.o;rw[u1]at q2 q4;have hs:=HL.o.2.2.2;rw[q4]at hs;refine⟨B1,C1,y::C2++B3,?_,?_,ξ _,?_,q5,?_,q7.trans dN.pure⟩
     ·rw[q1]
     ·congr 1;omega
     ·rw[q4];simp
     ·intro z hz
      rcases aax.1 hz with hz|hz
      ·rcases aci.1 hz with rfl|hz
       ·omega
       ·have:=(pairwise_cons.1 hs.left.right.right).1 z hz;omega
      ·exact q6 z hz
    case measure=>have u1:=hC'.o.1;have q3:=A.o.2.2.1;rw[u1]at q3;simp only[ν,φ]at q3;omega
   ·have hc: ¬gX x.pos y.pos<0:=by rw[sO];exact hxy
    have hcn:(!decide (gX x.pos y.pos<0))=true:=(by rw[decide_eq_false hc];rfl);have e3:IntKind.i64.wrap ((h:Int)+1)=((h+1:Nat):Int):=bI (n:=h+1) (by omega);go_wp2;refine hK _ _ (fun _=>dN) ?_;clear hK;iterate 2 (apply aj rfl rfl;(intro W hW;go_simp;rfl);go_frame)
    refine aA (fun _=>dN) ?_;go_wp2;go_roundg C2.length
    case rel=>
     obtain⟨q1,q2,q3,q4,q5,q6,q7⟩:=A.o;obtain⟨u1,u2⟩:=hC'.o;rw[u1]at q2 q4;simp only[ν,φ]at q2;have hs:=HL.o.2.2.2;rw[q4]at hs;refine⟨B1++C1++[y],C2,B3,?_,?_,ξ _,?_,?_,q6,q7.trans dN.pure⟩
     ·congr 1;simp only[ν,φ,Γ];omega
     ·congr 1;simp only[ν,φ,Γ];omega
     ·rw[q4];simp
     ·intro z hz
      rcases aax.1 hz with hz|hz
      ·rcases aax.1 hz with hz|hz
       ·exact q5 z hz
       ·have:=hs.left.right.le z hz y (by simp);omega
      ·simp at hz;rw[hz];omega
    case measure=>have u1:=hC'.o.1;have q3:=A.o.2.2.1;rw[u1]at q3;simp only[ν,φ]at q3;omega
  ·have hB2:B2=[]:=by
    have:=A.o.2.1;exact τ (by omega)
   subst hB2;have hiN:i<=m:=(by simp only[Γ]at hj;omega);clear hi hj;go_wp2;go_loopg [17] B3.length (fun g k wr2=> ∃(D1 D2:List Rec),k= .int .i64 ((i+D1.length:Nat):Int)/\B3=D1++D2/\D1.length<=g/\RW wr2 b off (P++B1++D1++x::D2++S)/\ε (one b) w wr2)
   case atStart=>
    have q:=A.o;refine⟨B3,[],?_,by simp,ξ _,?_,q.2.2.2.2.2.2.pure⟩
    ·have h1:=q.2.2.2.1;have h2:=HL.o.2.1;rw[h1]at h2;simp only[ν,Γ]at h2
     have:=q.1
     congr 1;omega
    ·have:=H.o.pure q.2.2.2.2.2.2
     rw[q.2.2.2.1]at this;simpa using this
   case round=>
    obtain⟨D1,D2,rfl,hD,hg2,hr,hkp⟩:=hrel
    rcases eq_nil_or_concat D1 with rfl|⟨D1,y,rfl⟩
    ·obtain⟨k,hk⟩:=acu (i+([]:List Rec).length)
     rw[hk];have hn0: ¬(i:Int)<(k:Int):=(by simp only[Γ]at hk;omega);have F:jJ w b off P (B++[x]) S (.returned (.tuple #[])) wr:=by
      obtain⟨q1,q2,q3,q4,q5,q6,q7⟩:=A.o;have hs:=HL.o.2.2.2;rw[nil_append]at hD;subst hD;rw[q4]at hs;refine⟨B1++x::B3,?_,?_,rfl,by simpa using hr,hkp⟩
      ·rw[q4]
       have:=(Same.refl B1).append (Same.comm (A:=B3) (B:=[x]) (fun u hu v hv=>by simp at hv;subst hv;have:=q6 u hu;omega));simpa using this
      ·refine Sorted.append hs.left.left (pairwise_cons.2 ⟨fun z hz=>Int.le_of_lt (q6 z hz),hs.right⟩) ?_
       intro u hu v hv;have:=q5 u hu
       rcases aci.1 hv with rfl|hv
       ·omega
       ·have:=q6 v hv;omega
     have FF:=γ F;clear F hr hkp hD hk;go_wp2_with fail
     go_end0
     exact FF.o
    ·rw[concat_eq_append]at hr hD hg2
     have hB1:i+D1.length+1<=m:=(by have h1:=A.o.2.2.2.1;have h2:=HL.o.2.1;have h3:=A.o.1;rw[h1,hD]at h2;simp only[ν,φ,Γ]at h2;omega);obtain⟨q,hq⟩:=acu (i+D1.length);obtain⟨k,hk⟩:=acu (q+1);have hkk:i+(D1.concat y).length=k:=(by rw[concat_eq_append,ν];simp only[φ,Γ];omega);rw[hkk];have hn0:(i:Int)<(k:Int):=(by omega);have e4:IntKind.i64.wrap ((k:Int)-1)=(q:Int):=(by rw[show(k:Int)-1=((q:Nat):Int) by omega];exact bI (by omega));have Hr:(P++B1++D1).length=q:=(by rw[ν,ν,HL.o.1,A.o.1];exact hq);have gy:(P++B1++(D1++[y])++x::D2++S)[q]?=some y:=(by rw[show P++B1++(D1++[y])++x::D2++S=(P++B1++D1)++y::(x::D2++S) by simp];exact lG Hr);have gx:(P++B1++(D1++[y])++x::D2++S)[k]?=some x:=(by rw[show P++B1++(D1++[y])++x::D2++S=(P++B1++D1++[y])++x::(D2++S) by simp];exact lG (by rw[ν,Hr];exact hk));have rJ:(P++B1++(D1++[y])++x::D2++S).length=N:=(by have h1:=HN.o;rw[A.o.2.2.2.1,hD]at h1;simp only[ν,φ,Γ]at h1⊢;omega);have hkN:k<N:=(by omega);have hqN:q<N:=(by omega);obtain⟨x0,x1,x2⟩:=hr.recs _ _ gx;obtain⟨y0,y1,y2⟩:=hr.recs _ _ gy;obtain⟨fx0,fx1,fx2⟩:=hr.soft k (by omega);obtain⟨fy0,fy1,fy2⟩:=hr.soft q (by omega);have hstep:((P++B1++(D1++[y])++x::D2++S).set k y).set q x=P++B1++D1++x::(y::D2)++S:=(by rw[show P++B1++(D1++[y])++x::D2++S=(P++B1++D1)++y::x::(D2++S) by simp,Ju Hr hk];simp);have hsw:=hr.swap x y (i:=k) (j:=q) (by omega) (by omega);rw[hstep]at hsw;have F:=γ (θ (hsw.pure δ.drew) (hkp.trans ((yL wr b (off+k*3) (off+q*3) x y).drew)));have HD:=γ hD;have HK:=γ (θ hq hg2);have hne:k≠q:=(by omega);clear hr hkp hD Hr gx gy rJ hstep hsw hk hB1 hq hg2 hkk;go_wp2_with fail;refine fJ [0,1,2,3,4,5,6,7,8,9,10,11,12,13,14,15,16,17] (fun W=>ε η wr W) (by kernel_rfl) (by kernel_rfl) rfl δ.drew ?_;simp only[aco];iterate 15 (first|(apply dZ rfl rfl;(intro W;go_simp;rfl);go_frame)|(apply lJ rfl rfl rfl;(intro W hW;have c0:=hW.cell id x0;have c1:=hW.cell id x1;have c2:=hW.cell id x2;have d0:=hW.cell id y0;have d1:=hW.cell id y1;have d2:=hW.cell id y2;go_simp;rfl);go_frame))
     apply jH rfl rfl rfl;intro K hK;go_wp2_with fail;apply dZ rfl rfl
     ·intro W;go_simp;rfl
     go_frame;apply jH rfl rfl rfl;intro K2 hK2;go_wp2_with fail;apply nT;go_wp2;go_roundg D1.length
     case rel=>refine⟨D1,y::D2,?_,by rw[HD.o];simp,ξ _,F.o.1,F.o.2⟩;rw[HK.o.1]
     case measure=>have:=HK.o.2;simp only[ν,φ,Γ]at this;omega
theorem Sorted.get {L:List Rec}(h:Sorted L){i j:Nat}{u v:Rec}(hu:L[i]?=some u)(hv:L[j]?=some v)(hij:i<=j):u.pos<=v.pos:=by
 obtain⟨h1,rfl⟩:=μ.1 hu;obtain⟨h2,rfl⟩:=μ.1 hv
 rcases Nat.lt_or_eq_of_le hij with hlt|rfl
 ·exact pairwise_iff_getElem.1 h i j h1 h2 hlt
 ·exact Int.le_refl _
def Found (A B:List Rec)(a m p lo hi:Nat)(gt:Bool):Prop:= ∀c,lo<=c->c<hi-> ∀u v,A[c-a]?=some u->B[p-c-m]?=some v->decide (v.pos<u.pos)=gt
def Bnd (a m n mid s0 r0:Nat):Prop:=mid=(a+n)/2/\a<m/\m<n/\(mid<m/\s0+n=mid+m/\r0=mid\/m<=mid/\s0=a/\r0=m)
theorem Yc {A B:List Rec}{a m n mid s0 r0 s:Nat}(hA:Sorted A)(hB:Sorted B)(hm:a+A.length=m)(hn:m+B.length=n)(hb:Bnd a m n mid s0 r0)(h0:s0<=s)(h1:s<=r0)
 (f1:Found A B a m (mid+m-1) s0 s false) (f2:Found A B a m (mid+m-1) s r0 true):
 ∃A1 A2 B1 B2,A=A1++A2/\B=B1++B2/\a+A1.length=s/\m+B1.length+s=mid+m/\(∀u∈A1,∀v∈B2,u.pos<=v.pos)/\(∀u∈A2,∀v∈B1,v.pos<u.pos):=by
 obtain⟨b1,b2,b3,b4⟩:=hb;refine⟨A.take (s-a),A.drop (s-a),B.take (mid-s),B.drop (mid-s),(take_append_drop _ _).symm,(take_append_drop _ _).symm,?_,?_,?_,?_⟩
 ·rw[υ];omega
 ·rw[υ];omega
 ·intro u hu v hv
  obtain⟨i,hi⟩:=getElem?_of_mem hu;obtain⟨j,hj⟩:=getElem?_of_mem hv;rw[aaA]at hi;rw[getElem?_drop]at hj;split at hi
  ·rename_i hlt
   have h2:=(μ.1 hj).1;have h3:=(μ.1 hi).1;obtain⟨x,hx⟩: ∃x,A[s-1-a]?=some x:=⟨_,ι (by omega)⟩;obtain⟨y,hy⟩: ∃y,B[mid-s]?=some y:=⟨_,ι (by omega)⟩;have h4:=hA.get hi hx (by omega);have h5:=hB.get hy hj (by omega);have h6:=f1 (s-1) (by omega) (by omega) x y hx (by rw[show mid+m-1-(s-1)-m=mid-s by omega];exact hy);have h7:=of_decide_eq_false h6;omega
  ·cases hi
 ·intro u hu v hv
  obtain⟨i,hi⟩:=getElem?_of_mem hu;obtain⟨j,hj⟩:=getElem?_of_mem hv;rw[getElem?_drop]at hi;rw[aaA]at hj;split at hj
  ·rename_i hlt
   have h2:=(μ.1 hj).1;have h3:=(μ.1 hi).1;obtain⟨x,hx⟩: ∃x,A[s-a]?=some x:=⟨_,ι (by omega)⟩;obtain⟨y,hy⟩: ∃y,B[mid-s-1]?=some y:=⟨_,ι (by omega)⟩;have h4:=hA.get hx hi (by omega);have h5:=hB.get hj hy (by omega);have h6:=f2 s (ξ _) (by omega) x y hx (by rw[show mid+m-1-s-m=mid-s-1 by omega];exact hy);have h7:=of_decide_eq_true h6;omega
  ·cases hj
theorem Found.left {A B:List Rec}{a m p lo c:Nat}(hA:Sorted A)(hB:Sorted B)(h1:a<=lo){u v:Rec}(hu:A[c-a]?=some u)(hv:B[p-c-m]?=some v)(hle:u.pos<=v.pos):Found A B a m p lo (c+1) false:=by intro d h2 h3 x y hx hy;have h4:=hA.get hx hu (by omega);have h5:=hB.get hv hy (by omega);exact decide_eq_false (by omega)
theorem Found.right {A B:List Rec}{a m p hi c:Nat}(hA:Sorted A)(hB:Sorted B)(h1:a<=c){u v:Rec}(hu:A[c-a]?=some u)(hv:B[p-c-m]?=some v)(hlt:v.pos<u.pos):Found A B a m p c hi true:=by intro d h2 h3 x y hx hy;have h4:=hA.get hu hx (by omega);have h5:=hB.get hy hv (by omega);exact decide_eq_true (by omega)
noncomputable def UF:Code->Option Nat
 | .region k _ _=>some k
 | .seq a _=>UF a
 |_=>none
noncomputable def pG (k:Nat):Code->Option Code
 | .seq a b=>if UF a=some k then some (.seq a b)else match pG k a with
   |some c=>some c
   |none=>pG k b
 | .loop c=>pG k c
 | .block _ c=>pG k c
 | .scope c=>pG k c
 | .cond _ a b=>match pG k a with
   |some c=>some c
   |none=>pG k b
 |_=>none
noncomputable def Jt:Code:=(f177.body.bind (pG 38)).getD .skip
noncomputable def Js:Code:=(f177.body.bind (pG 41)).getD .skip
noncomputable def Jr:Code:=(f177.body.bind (pG 43)).getD .skip
theorem zX (b off cap N fuel:Nat)
 (IH:acr (∀(a m n:Nat)(P A B S:List Rec)(w:World),A.length+B.length<=fuel->RW w b off (P++A++B++S)->(P++A++B++S).length=N->
 P.length=a->a+A.length=m->m+B.length=n->Sorted A->Sorted B->A≠[]->B≠[]->
 Calls prog 177 #[.slice (some ⟨b,off,none⟩) N cap,.int .i64 a,.int .i64 m,.int .i64 n,.func (.func 117) #[] #[]] w (jJ w b off P (A++B) S)))
 (a m n mid nn i e:Nat) (P A1 A2 B1 B2 S:List Rec) (w wr:World) {u5 u6 u7 u8 u9 u10 u11 u12 u13 u14 u15 u16 X6 u21 u22 u23 u25 u26 u27 u28 u29 u30 u31 u32 u33 u34 u35 u36 u37 u38 X5 u40 X4 u42 X0 u44 u45 u46 XZ u48 u49 XY u51 XW u53 XV u55 XU XT u58 u59 u60 u61 XR u63 u64 XQ u66 XP u68 u69 u70 XO u72 u73 XM u75 XL XK XJ XI XH XG XF XE XD XC XB XA Xz Xy Xx Xw Xv u93 Xu Xt Xr Xq Xp Xo OX OW OV OU OT u105 OQ OO OM OL OJ OI OH OG OE OD OC OB OA u119 Oz Oy Ox Ov u124 Ou Ot u127 Oq Oo Om u131 Ol Oj Oi Oh Og Oe u138 u139 Oc Ob Oa N9 N8 N7 NZ NY NW NV NU NS u152 NR u154 NQ NP NM NK NJ NI NH u162 NG u164 ND NC Nz Ny Nw Nv Nu Ns Nr Nq Np Nl Nk Nj Nh Nc Nb Na MZ MX MW MV MS MR MQ MO MN ML u193 u194 MK u196 MJ u198 MI MH u201 MG MF MB Me u206 Md u208 Mc u210 L9 L8 L6 LZ LY LX LW LU LQ:Value}
 (HN:acr ((P++(A1++A2)++(B1++B2)++S).length=N))
 (HL:acr (Sorted (A1++A2)/\Sorted (B1++B2)/\(A1++A2).length+(B1++B2).length<=fuel+1))
 (L:acr ((P.length=a/\a+A1.length=i/\i+A2.length=m/\m+B1.length=e/\e+B2.length=n/\mid+A2.length=e/\i+B1.length=mid/\a<mid/\mid<n)/\
   (∀u∈A1,∀v∈B2,u.pos<=v.pos)/\(∀u∈A2,∀v∈B1,v.pos<u.pos)))
 (X1:List Rec) (R2:acr (Same (A1++B1) X1/\Sorted X1/\RW wr b off (P++X1++A2++B2++S)/\ε (one b) w wr)):
 Code.wp prog Jr (bodyPost prog f177 (jJ w b off P (A1++A2++(B1++B2)) S)) ⟨toArray (.slice (some ⟨b,off,none⟩) N cap:: .int .i64 a:: .int .i64 m:: .int .i64 n:: .func (.func 117) #[] #[]::u5::u6::u7::u8::u9::u10::u11::u12::u13::u14::u15::u16::X6:: .int .i64 mid:: .int .i64 nn:: .int .i64 i::u21::u22::u23:: .int .i64 e::u25::u26::u27::u28::u29::u30::u31::u32::u33::u34::u35::u36::u37::u38::X5::u40::X4::u42::X0::u44::u45::u46::XZ::u48::u49::XY::u51::XW::u53::XV::u55::XU::XT::u58::u59::u60::u61::XR::u63::u64::XQ::u66::XP::u68::u69::u70::XO::u72::u73::XM::u75::XL::XK::XJ::XI::XH::XG::XF::XE::XD::XC::XB::XA::Xz::Xy::Xx::Xw::Xv::u93::Xu::Xt::Xr::Xq::Xp::Xo::OX::OW::OV::OU::OT::u105::OQ::OO::OM::OL::OJ::OI::OH::OG::OE::OD::OC::OB::OA::u119::Oz::Oy::Ox::Ov::u124::Ou::Ot::u127::Oq::Oo::Om::u131::Ol::Oj::Oi::Oh::Og::Oe::u138::u139::Oc::Ob::Oa::N9::N8::N7::NZ::NY::NW::NV::NU::NS::u152::NR::u154::NQ::NP::NM::NK::NJ::NI::NH::u162::NG::u164::ND::NC::Nz::Ny::Nw::Nv::Nu::Ns::Nr::Nq::Np::Nl::Nk::Nj::Nh::Nc::Nb::Na::MZ::MX::MW::MV::MS::MR::MQ::MO::MN::ML::u193::u194::MK::u196::MJ::u198::MI::MH::u201::MG::MF::MB::Me::u206::Md::u208::Mc::u210::L9::L8::L6::LZ::LY::LX::LW::LU::LQ::[]),[]⟩ wr:=by
 conv=>arg 2;whnf
 have fin: ∀X2,Same (A2++B2) X2->Sorted X2-> ∀w2,RW w2 b off (P++X1++X2++S)->ε (one b) w w2->jJ w b off P (A1++A2++(B1++B2)) S (.returned (.tuple #[])) w2:=by
  intro X2 h1 h2 w2 h3 h4;obtain⟨q1,q2,_,_⟩:=R2.o;obtain⟨_,p3,p4⟩:=L.o;have sA:=HL.o.1;have sB:=HL.o.2.1;refine⟨X1++X2,?_,Sorted.append q2 h2 ?_,rfl,by simpa using h3,h4⟩
  ·have e1:Same (A1++A2++(B1++B2)) ((A1++B1)++(A2++B2)):=by
    have:=((Same.refl A1).append (Same.comm (A:=A2) (B:=B1) (fun u hu v hv=>by have:=p4 u hu v hv;omega))).append (Same.refl B2);simpa using this
   exact e1.trans (q1.append h1)
  ·intro u hu v hv
   have hu':=q1.mem.2 hu;have hv':=h1.mem.2 hv
   rcases aax.1 hu' with hu'|hu'<;>rcases aax.1 hv' with hv'|hv'
   ·exact sA.le u hu' v hv'
   ·exact p3 u hu' v hv'
   ·have:=p4 v hv' u hu';omega
   ·exact sB.le u hu' v hv'
 have no: ¬(mid<e/\e<n)->jJ w b off P (A1++A2++(B1++B2)) S (.returned (.tuple #[])) wr:=by
  intro h2;have h1:=L.o.1;have h6:Sorted (A2++B2):=by
   by_cases h4:mid<e
   ·have h5:B2=[]:=τ (by omega)
    rw[h5];simpa using HL.o.1.right
   ·have h5:A2=[]:=τ (by omega)
    rw[h5];simpa using HL.o.2.1.right
  exact fin (A2++B2) (Same.refl _) h6 _ (by simpa using R2.o.2.2.1) R2.o.2.2.2
 have FIN:=γ fin;have NO:=γ no;clear fin no;by_cases g1:mid<e
 ·by_cases g2:e<n
  ·go_wp2_with fail
   refine(IH.o mid e n (P++X1) A2 B2 S _ ?_ (by simpa using R2.o.2.2.1) ?_ ?_ ?_ ?_ HL.o.1.right HL.o.2.1.right ?_ ?_).mono ?_
   ·have h1:=L.o.1;have h2:=HL.o.2.2;simp only[ν]at h2;omega
   ·have h1:=HN.o;have h2:=R2.o.1.length;simp only[ν]at h1 h2⊢;omega
   ·have h1:=L.o.1;have h2:=R2.o.1.length;simp only[ν]at h2⊢;omega
   ·exact L.o.1.2.2.2.2.2.1
   ·exact L.o.1.2.2.2.2.1
   ·intro h0;have h1:=L.o.1;rw[h0]at h1;simp only[Γ]at h1;omega
   ·intro h0;have h1:=L.o.1;rw[h0]at h1;simp only[Γ]at h1;omega
   ·rintro e2 w2 ⟨X2,hX1,hX2,rfl,hr2,hk2⟩
    have F:=γ (FIN.o X2 hX1 hX2 w2 hr2 (R2.o.2.2.2.trans hk2));clear hX1 hX2 hr2 hk2;go_wp2_with fail
    go_end0
    exact F.o
  ·go_wp2_with fail
   go_end0
   exact NO.o (fun h=>g2 h.2)
 ·go_wp2_with fail
  go_end0
  exact NO.o (fun h=>g1 h.1)
theorem zY (b off cap N fuel:Nat)
 (IH:acr (∀(a m n:Nat)(P A B S:List Rec)(w:World),A.length+B.length<=fuel->RW w b off (P++A++B++S)->(P++A++B++S).length=N->
 P.length=a->a+A.length=m->m+B.length=n->Sorted A->Sorted B->A≠[]->B≠[]->
 Calls prog 177 #[.slice (some ⟨b,off,none⟩) N cap,.int .i64 a,.int .i64 m,.int .i64 n,.func (.func 117) #[] #[]] w (jJ w b off P (A++B) S)))
 (a m n mid nn i e:Nat) (P A1 A2 B1 B2 S:List Rec) (w wr:World) {u5 u6 u7 u8 u9 u10 u11 u12 u13 u14 u15 u16 X6 u21 u22 u23 u25 u26 u27 u28 u29 u30 u31 u32 u33 u34 u35 u36 u37 u38 X5 u40 X4 u42 X0 u44 u45 u46 XZ u48 u49 XY u51 XW u53 XV u55 XU XT u58 u59 u60 u61 XR u63 u64 XQ u66 XP u68 u69 u70 XO u72 u73 XM u75 XL XK XJ XI XH XG XF XE XD XC XB XA Xz Xy Xx Xw Xv u93 Xu Xt Xr Xq Xp Xo OX OW OV OU OT u105 OQ OO OM OL OJ OI OH OG OE OD OC OB OA u119 Oz Oy Ox Ov u124 Ou Ot u127 Oq Oo Om u131 Ol Oj Oi Oh Og Oe u138 u139 Oc Ob Oa N9 N8 N7 NZ NY NW NV NU NS u152 NR u154 NQ NP NM NK NJ NI NH u162 NG u164 ND NC Nz Ny Nw Nv Nu Ns Nr Nq Np Nl Nk Nj Nh Nc Nb Na MZ MX MW MV MS MR MQ MO MN ML u193 u194 MK u196 MJ u198 MI MH u201 MG MF MB Me u206 Md u208 Mc u210 L9 L8 L6 LZ LY LX LW LU LQ:Value}
 (HN:acr ((P++(A1++A2)++(B1++B2)++S).length=N))
 (HL:acr (Sorted (A1++A2)/\Sorted (B1++B2)/\(A1++A2).length+(B1++B2).length<=fuel+1))
 (L:acr ((P.length=a/\a+A1.length=i/\i+A2.length=m/\m+B1.length=e/\e+B2.length=n/\mid+A2.length=e/\i+B1.length=mid/\a<mid/\mid<n)/\
   (∀u∈A1,∀v∈B2,u.pos<=v.pos)/\(∀u∈A2,∀v∈B1,v.pos<u.pos)))
 (R1:acr (RW wr b off (P++A1++B1++A2++B2++S)/\ε (one b) w wr)):
 Code.wp prog Js (bodyPost prog f177 (jJ w b off P (A1++A2++(B1++B2)) S)) ⟨toArray (.slice (some ⟨b,off,none⟩) N cap:: .int .i64 a:: .int .i64 m:: .int .i64 n:: .func (.func 117) #[] #[]::u5::u6::u7::u8::u9::u10::u11::u12::u13::u14::u15::u16::X6:: .int .i64 mid:: .int .i64 nn:: .int .i64 i::u21::u22::u23:: .int .i64 e::u25::u26::u27::u28::u29::u30::u31::u32::u33::u34::u35::u36::u37::u38::X5::u40::X4::u42::X0::u44::u45::u46::XZ::u48::u49::XY::u51::XW::u53::XV::u55::XU::XT::u58::u59::u60::u61::XR::u63::u64::XQ::u66::XP::u68::u69::u70::XO::u72::u73::XM::u75::XL::XK::XJ::XI::XH::XG::XF::XE::XD::XC::XB::XA::Xz::Xy::Xx::Xw::Xv::u93::Xu::Xt::Xr::Xq::Xp::Xo::OX::OW::OV::OU::OT::u105::OQ::OO::OM::OL::OJ::OI::OH::OG::OE::OD::OC::OB::OA::u119::Oz::Oy::Ox::Ov::u124::Ou::Ot::u127::Oq::Oo::Om::u131::Ol::Oj::Oi::Oh::Og::Oe::u138::u139::Oc::Ob::Oa::N9::N8::N7::NZ::NY::NW::NV::NU::NS::u152::NR::u154::NQ::NP::NM::NK::NJ::NI::NH::u162::NG::u164::ND::NC::Nz::Ny::Nw::Nv::Nu::Ns::Nr::Nq::Np::Nl::Nk::Nj::Nh::Nc::Nb::Na::MZ::MX::MW::MV::MS::MR::MQ::MO::MN::ML::u193::u194::MK::u196::MJ::u198::MI::MH::u201::MG::MF::MB::Me::u206::Md::u208::Mc::u210::L9::L8::L6::LZ::LY::LX::LW::LU::LQ::[]),[]⟩ wr:=by
 conv=>arg 2;whnf
 change Code.wp prog (Code.seq _ Jr) _ _ _;have no: ¬(a<i/\i<mid)->acr (Same (A1++B1) (A1++B1)/\Sorted (A1++B1)/\RW wr b off (P++(A1++B1)++A2++B2++S)/\ε (one b) w wr):=by
  intro h2;have h1:=L.o.1;refine⟨Same.refl _,?_,by simpa using R1.o.1,R1.o.2⟩;by_cases h4:a<i
  ·have h5:B1=[]:=τ (by omega)
   rw[h5];simpa using HL.o.1.left
  ·have h5:A1=[]:=τ (by omega)
   rw[h5];simpa using HL.o.2.1.left
 have NO:=γ no;clear no;by_cases g1:a<i
 ·by_cases g2:i<mid
  ·go_wp2_with fail
   refine(IH.o a i mid P A1 B1 (A2++B2++S) _ ?_ (by simpa using R1.o.1) ?_ ?_ ?_ ?_ HL.o.1.left HL.o.2.1.left ?_ ?_).mono ?_
   ·have h1:=L.o.1;have h2:=HL.o.2.2;simp only[ν]at h2;omega
   ·have:=HN.o;simp only[ν]at this⊢;omega
   ·exact L.o.1.1
   ·exact L.o.1.2.1
   ·exact L.o.1.2.2.2.2.2.2.1
   ·intro h0;have h1:=L.o.1;rw[h0]at h1;simp only[Γ]at h1;omega
   ·intro h0;have h1:=L.o.1;rw[h0]at h1;simp only[Γ]at h1;omega
   ·rintro e2 w2 ⟨X1,hX1,hX2,rfl,hr2,hk2⟩
    have F:acr (Same (A1++B1) X1/\Sorted X1/\RW w2 b off (P++X1++A2++B2++S)/\ε (one b) w w2):=⟨hX1,hX2,by simpa using hr2,R1.o.2.trans hk2⟩;clear hX1 hX2 hr2 hk2;go_wp2_with fail;exact zX b off cap N fuel IH a m n mid nn i e P A1 A2 B1 B2 S w w2 HN HL L X1 F
  ·go_wp2_with fail
   exact zX b off cap N fuel IH a m n mid nn i e P A1 A2 B1 B2 S w wr HN HL L _ (NO.o (fun h=>g2 h.2))
 ·go_wp2_with fail
  exact zX b off cap N fuel IH a m n mid nn i e P A1 A2 B1 B2 S w wr HN HL L _ (NO.o (fun h=>g1 h.1))
theorem Vg (b off cap N fuel:Nat)(sK:N<1099511627776)
 (IH:acr (∀(a m n:Nat)(P A B S:List Rec)(w:World),A.length+B.length<=fuel->RW w b off (P++A++B++S)->(P++A++B++S).length=N->
 P.length=a->a+A.length=m->m+B.length=n->Sorted A->Sorted B->A≠[]->B≠[]->
 Calls prog 177 #[.slice (some ⟨b,off,none⟩) N cap,.int .i64 a,.int .i64 m,.int .i64 n,.func (.func 117) #[] #[]] w (jJ w b off P (A++B) S)))
 (a m n mid nn i e:Nat) (P A1 A2 B1 B2 S:List Rec) (w wr:World) {u5 u6 u7 u8 u9 u10 u11 u12 u13 u14 u15 u16 X6 u21 u22 u23 u24 u25 u26 u27 u28 u29 u30 u31 u32 u33 u34 u35 u36 u37 u38 X5 u40 X4 u42 X0 u44 u45 u46 XZ u48 u49 XY u51 XW u53 XV u55 XU XT u58 u59 u60 u61 XR u63 u64 XQ u66 XP u68 u69 u70 XO u72 u73 XM u75 XL XK XJ XI XH XG XF XE XD XC XB XA Xz Xy Xx Xw Xv u93 Xu Xt Xr Xq Xp Xo OX OW OV OU OT u105 OQ OO OM OL OJ OI OH OG OE OD OC OB OA u119 Oz Oy Ox Ov u124 Ou Ot u127 Oq Oo Om u131 Ol Oj Oi Oh Og Oe u138 u139 Oc Ob Oa N9 N8 N7 NZ NY NW NV NU NS u152 NR u154 NQ NP NM NK NJ NI NH u162 NG u164 ND NC Nz Ny Nw Nv Nu Ns Nr Nq Np Nl Nk Nj Nh Nc Nb Na MZ MX MW MV MS MR MQ MO MN ML u193 u194 MK u196 MJ u198 MI MH u201 MG MF MB Me u206 Md u208 Mc u210 L9 L8 L6 LZ LY LX LW LU LQ:Value}
 (HN:acr ((P++(A1++A2)++(B1++B2)++S).length=N))
 (HL:acr (Sorted (A1++A2)/\Sorted (B1++B2)/\(A1++A2).length+(B1++B2).length<=fuel+1))
 (L:acr ((P.length=a/\a+A1.length=i/\i+A2.length=m/\m+B1.length=e/\e+B2.length=n/\mid+A2.length=e/\i+B1.length=mid/\a<mid/\mid<n)/\
   (∀u∈A1,∀v∈B2,u.pos<=v.pos)/\(∀u∈A2,∀v∈B1,v.pos<u.pos)))
 (hNn:acr (n<=N/\nn=i+e)) (R0:acr (RW wr b off (P++(A1++A2)++(B1++B2)++S)/\ε η w wr)):
 Code.wp prog Jt (bodyPost prog f177 (jJ w b off P (A1++A2++(B1++B2)) S)) ⟨toArray (.slice (some ⟨b,off,none⟩) N cap:: .int .i64 a:: .int .i64 m:: .int .i64 n:: .func (.func 117) #[] #[]::u5::u6::u7::u8::u9::u10::u11::u12::u13::u14::u15::u16::X6:: .int .i64 mid:: .int .i64 nn:: .int .i64 i::u21::u22::u23::u24::u25::u26::u27::u28::u29::u30::u31::u32::u33::u34::u35::u36::u37::u38::X5::u40::X4::u42::X0::u44::u45::u46::XZ::u48::u49::XY::u51::XW::u53::XV::u55::XU::XT::u58::u59::u60::u61::XR::u63::u64::XQ::u66::XP::u68::u69::u70::XO::u72::u73::XM::u75::XL::XK::XJ::XI::XH::XG::XF::XE::XD::XC::XB::XA::Xz::Xy::Xx::Xw::Xv::u93::Xu::Xt::Xr::Xq::Xp::Xo::OX::OW::OV::OU::OT::u105::OQ::OO::OM::OL::OJ::OI::OH::OG::OE::OD::OC::OB::OA::u119::Oz::Oy::Ox::Ov::u124::Ou::Ot::u127::Oq::Oo::Om::u131::Ol::Oj::Oi::Oh::Og::Oe::u138::u139::Oc::Ob::Oa::N9::N8::N7::NZ::NY::NW::NV::NU::NS::u152::NR::u154::NQ::NP::NM::NK::NJ::NI::NH::u162::NG::u164::ND::NC::Nz::Ny::Nw::Nv::Nu::Ns::Nr::Nq::Np::Nl::Nk::Nj::Nh::Nc::Nb::Na::MZ::MX::MW::MV::MS::MR::MQ::MO::MN::ML::u193::u194::MK::u196::MJ::u198::MI::MH::u201::MG::MF::MB::Me::u206::Md::u208::Mc::u210::L9::L8::L6::LZ::LY::LX::LW::LU::LQ::[]),[]⟩ wr:=by
 conv=>arg 2;whnf
 change Code.wp prog (Code.seq _ (Code.seq _ Js)) _ _ _;have e6:IntKind.i64.wrap ((nn:Int)-i)=(e:Int):=(by have h1:=L.o.1;have h2:=hNn.o;rw[show(nn:Int)-i=((e:Nat):Int) by omega];exact bI (by omega));have no: ¬(i<m/\m<e)->acr (RW wr b off (P++A1++B1++A2++B2++S)/\ε (one b) w wr):=by
  intro h2;have h1:=L.o.1;have h3:=R0.o.1;refine⟨?_,R0.o.2.pure⟩;by_cases h4:i<m
  ·have h5:B1=[]:=τ (by omega)
   rw[h5]at h3⊢;simpa using h3
  ·have h5:A2=[]:=τ (by omega)
   rw[h5]at h3⊢;simpa using h3
 have NO:=γ no;clear no;by_cases g1:i<m
 ·by_cases g2:m<e
  ·go_wp2_with fail
   refine(Vw b off cap N i m e (P++A1) A2 B1 (B2++S) _ (by simpa using R0.o.1) ?_ sK ?_ ?_ ?_ ?_ ?_).mono ?_
   ·have:=HN.o
    simp only[ν]at this⊢;omega
   ·have:=L.o.1;rw[ν];omega
   ·have:=L.o.1;rw[ν,ν];omega
   ·have:=L.o.1;rw[ν,ν,ν];omega
   ·intro h0;have h1:=L.o.1;rw[h0]at h1;simp only[Γ]at h1;omega
   ·intro h0;have h1:=L.o.1;rw[h0]at h1;simp only[Γ]at h1;omega
   ·rintro e2 w2 ⟨rfl,hr2,hk2⟩
    have F:acr (RW w2 b off (P++A1++B1++A2++B2++S)/\ε (one b) w w2):=⟨by simpa using hr2,R0.o.2.pure.trans hk2⟩;clear hr2 hk2;go_wp2_with fail;exact zY b off cap N fuel IH a m n mid nn i e P A1 A2 B1 B2 S w w2 HN HL L F
  ·go_wp2_with fail
   exact zY b off cap N fuel IH a m n mid nn i e P A1 A2 B1 B2 S w wr HN HL L (NO.o (fun h=>g2 h.2))
 ·go_wp2_with fail
  exact zY b off cap N fuel IH a m n mid nn i e P A1 A2 B1 B2 S w wr HN HL L (NO.o (fun h=>g1 h.1))
