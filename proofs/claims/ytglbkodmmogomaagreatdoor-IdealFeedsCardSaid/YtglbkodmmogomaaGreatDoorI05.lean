/- slices.insertionSort over records: a stretch comes sorted, those of one place as they were. -/
import Derived.Test.YtglbkodmmogomaaGreatDoorI04
set_option linter.unusedVariables false
set_option linter.unusedSimpArgs false
set_option maxHeartbeats 1000000
set_option maxRecDepth 100000
namespace Go.Proofs.YtglbkodmmogomaaGreatDoor
open Go Go.RowKit
attribute [local irreducible] cZ dX
theorem Dn (x y:Rec)(w:World):Calls Tryz.prog 117 #[.agg #[.int .i64 x.pos,.int .i64 x.key,.int .i64 x.val],.agg #[.int .i64 y.pos,.int .i64 y.key,.int .i64 y.val]] w (Gives w (.int .i64 (gG x.pos y.pos))):=by go_enter Tryz.func117,Tryz.ntmps117;go_wp2_with fail;refine(acp _ _ _).mono ?_;rintro e w' ⟨rfl,rfl⟩;go_wp2_with fail;go_ret;exact⟨rfl,(δ.alloc _).alloc _⟩
theorem su (a b:Int):(gG a b<0)=(a<b):=by
 unfold gG;simp only[eq_iff_iff];split
 ·constructor<;>intro<;>omega
 ·split<;>constructor<;>intro<;>omega
def jq (w:World)(b off:Nat)(P X S:List Rec)(e:Ending)(w':World):Prop:= ∃X',Same X X'/\Sorted X'/\Moves w b off (P++X'++S) e w'
theorem IL {P A2 R:List Rec}{x y:Rec}{i j:Nat}(hi:P.length=i)(hj:i+1=j):(((P++y::x::(A2++R)).set j y).set i x)=P++x::y::(A2++R):=by subst hj;rw[show P++y::x::(A2++R)=(P++[y])++x::(A2++R) by simp,set_mid (by simpa using hi),show P++[y]++y::(A2++R)=P++y::y::(A2++R) by simp,set_mid hi]
theorem AQ (b off cap N a n:Nat)(P X S:List Rec)(w:World)(h:RW w b off (P++X++S))(hN:(P++X++S).length=N)(rY:N<1099511627776)(ha:P.length=a)(hn:(P++X).length=n):
 Calls Tryz.prog 176 #[.slice (some ⟨b,off,none⟩) N cap,.int .i64 a,.int .i64 n,.func (.func 117) #[] #[]] w (jq w b off P X S):=by
 have H:=γ h;have HN:=γ hN;have HA:=γ ha;have LN:(P++X++S).length=P.length+X.length+S.length:=(by simp;omega);have LM:(P++X).length=P.length+X.length:=(by simp);have b1:a<=n/\n<=N:=(by omega);have HX:=γ (show a+X.length=n by omega);clear h hN ha hn LN LM;have e1:IntKind.i64.wrap ((a:Int)+1)=((a+1:Nat):Int):=bI (n:=a+1) (by omega);go_enter Tryz.func176,Tryz.ntmps176;go_wp2;go_loopg [8] X.length (fun g i wr=> ∃(i':Nat)(A R:List Rec),i= .int .i64 (i':Int)/\R.length<=g/\(i'=a+A.length/\A≠[]\/A=[]/\R=[]/\i'=a+1)/\a+A.length+R.length=n/\Sorted A/\Same X (A++R)/\RW wr b off (P++A++R++S)/\ε (one b) w wr)
 case atStart=>
  cases X with
  |nil=>exact⟨a+1,[],[],by go_num,ξ _,.inr ⟨rfl,rfl,rfl⟩,by simpa using HX.o,List.Pairwise.nil,Same.refl _,by simpa using H.o,ε.refl _ _⟩
  |cons x R=>
   refine⟨a+1,[x],R,by go_num,?_,.inl ⟨rfl,by simp⟩,?_,by simp[Sorted],Same.refl _,by simpa using H.o,ε.refl _ _⟩
   ·simp
   ·have:=HX.o;simp only[φ,Γ]at this⊢;omega
 case round=>
  obtain⟨i',A,R,rfl,hg,hi,hn,hs,hsame,hr,hkp⟩:=hrel
  cases R with
  |nil=>
   have hlt: ¬(i':Int)<n:=by
    simp only[Γ]at hn
    rcases hi with⟨h1,_⟩|⟨h1,_,h2⟩
    ·omega
    ·rw[h1]at hn;simp only[Γ]at hn;omega
   have F:jq w b off P X S (.returned (.tuple #[])) wr:=⟨A,by simpa using hsame,hs,rfl,by simpa using hr,hkp⟩;have FF:=γ F;clear F hg hi hn hs hsame hr hkp;go_wp2_with fail
   go_end0
   exact FF.o
  |cons x R=>
   obtain⟨rfl,hA⟩:i'=a+A.length/\A≠[]:=by
    rcases hi with h|⟨_,h,_⟩
    ·exact h
    ·cases h
   have hn':a+A.length<n:=(by simp only[φ]at hn;omega);have hlt:((a+A.length:Nat):Int)<n:=(by omega);obtain⟨i,hi'⟩: ∃i,a+A.length=i:=⟨_,rfl⟩;have HH:=γ (θ hg (θ hn (θ hs hsame)));have HR:=γ hr;clear hg hi hn hs hsame hr;rw[hi']at hn' hlt⊢;have HI:=γ hi';clear hi';go_wp2_with fail;go_loopg [9] A.length (fun g j wr=> ∃(A1 A2:List Rec),A=A1++A2/\j= .int .i64 ((a+A1.length:Nat):Int)/\A1.length=g/\(∀y∈A2,x.pos<y.pos)/\RW wr b off (P++A1++x::A2++R++S)/\ε (one b) w wr)
   case atStart=>exact⟨A,[],by simp,by rw[HI.o],rfl,by simp,by simpa using HR.o,hkp⟩
   case round=>
    clear HR hkp;obtain⟨A1,A2,rfl,rfl,hg,hgt,hr,hkp⟩:=hrel;have hxi:=HI.o;rw[ν]at hxi
    rcases List.eq_nil_or_concat A1 with rfl|⟨A1,y,rfl⟩
    ·
     have hn0: ¬a<a+([]:List Rec).length:=(by simp);obtain⟨j,hj⟩: ∃j,a+([]:List Rec).length=j:=⟨_,rfl⟩;rw[hj]at hn0⊢;have hn1:decide (a<j)=false:=decide_eq_false hn0;have hn2:decide ((a:Int)<(j:Int))=false:=decide_eq_false (by omega);have hi1:IntKind.i64.wrap ((i:Int)+1)=((i+1:Nat):Int):=bI (n:=i+1) (by omega);have F: ∃(i':Nat)(A R':List Rec),Value.int .i64 ((i+1:Nat):Int)= .int .i64 (i':Int)/\R'.length<=R.length/\(i'=a+A.length/\A≠[]\/A=[]/\R'=[]/\i'=a+1)/\a+A.length+R'.length=n/\Sorted A/\Same X (A++R')/\RW wr.drew b off (P++A++R'++S)/\ε (one b) w wr.drew:=by
      obtain⟨h1,h2,h3,h4⟩:=HH.o;refine⟨_,x::A2,R,rfl,ξ _,.inl ⟨?_,by simp⟩,?_,?_,?_,?_,hkp.drew⟩
      ·simp only[Γ,φ]at hxi⊢;omega
      ·simp only[ν,φ,Γ]at h2⊢;omega
      ·exact List.pairwise_cons.2 ⟨fun y hy=>Int.le_of_lt (hgt y hy),h3⟩
      ·refine h4.trans ?_
       have:=(Same.comm (A:=A2) (B:=[x]) (fun a ha b hb=>by have:=hgt a ha;simp at hb;subst hb;omega)).append (Same.refl R);simpa using this
      ·simpa using hr.pure δ.drew
     have FF:=γ F;clear F hr hg hgt hkp hxi hj;go_wp2_with fail;refine ak [0,1,2,3,4,5,6,7,8,9,10,11,12,13,14,15,16] (fun W=>ε η wr W) (by kernel_rfl) (by kernel_rfl) rfl δ.drew ?_;simp only[abU];iterate 4 (apply aj rfl rfl;(intro W hW;go_simp;rfl);go_frame)
     skip
     iterate 12 (apply bf rfl;go_frame)
     apply aj rfl rfl
     ·intro W hW;go_simp;rfl
     go_frame;refine aG (fun _=>δ.drew) ?_;go_wp2_with fail;go_roundg R.length
     case rel=>exact FF.o
     case measure=>have:=HH.o;simp at this;omega
    ·
     obtain⟨q,hq⟩: ∃q,a+A1.length=q:=⟨_,rfl⟩;obtain⟨j,hj⟩: ∃j,q+1=j:=⟨_,rfl⟩;have hjj:a+(A1.concat y).length=j:=(by rw[List.concat_eq_append,ν];simp only[φ,Γ];omega);rw[hjj];rw[List.concat_eq_append]at hr;have hA1:=HA.o;have Gu:(P++A1).length=q:=(by rw[ν];omega);have hPj:(P++A1++[y]).length=j:=(by simp only[ν,φ,Γ]at Gu⊢;omega);have gx:(P++(A1++[y])++x::A2++R++S)[j]?=some x:=(by rw[show P++(A1++[y])++x::A2++R++S=(P++A1++[y])++x::(A2++R++S) by simp];exact kK hPj);have gy:(P++(A1++[y])++x::A2++R++S)[q]?=some y:=(by rw[show P++(A1++[y])++x::A2++R++S=(P++A1)++y::(x::A2++R++S) by simp];exact kK Gu);have hjN:j<(P++(A1++[y])++x::A2++R++S).length:=(μ.1 gx).1;have qU:(P++(A1++[y])++x::A2++R++S).length=N:=(by have h1:=HN.o;have h2:=HX.o;have h3:=HH.o.2.1;simp only[List.concat_eq_append,ν,φ,Γ]at h1 h2 h3⊢;omega);have hjN':j<N:=(by omega);have hqN':q<N:=(by omega);obtain⟨x0,x1,x2⟩:=hr.recs _ _ gx;obtain⟨y0,y1,y2⟩:=hr.recs _ _ gy;obtain⟨fx0,fx1,fx2⟩:=hr.soft j (by omega);obtain⟨fy0,fy1,fy2⟩:=hr.soft q (by omega);have hn0:a<j:=(by omega);have hn1:decide (a<j)=true:=decide_eq_true hn0;have hn2:decide ((a:Int)<(j:Int))=true:=decide_eq_true (by omega);have e3:IntKind.i64.wrap ((j:Int)-1)=(q:Int):=(by rw[show(j:Int)-1=((q:Nat):Int) by omega];exact bI (by omega));have HJ:=γ (θ hq (θ hj (θ hg (θ hgt hkp))));have HPQ:=γ (θ Gu (θ hPj qU));have HXI:=γ hxi;have HR:=γ hr;have ine:i<N:=(by omega);clear hq hj hg hgt hkp Gu hPj qU hxi hr gx gy hjj hA1 hjN;go_wp2_with fail;refine ak [0,1,2,3,4,5,6,7,8,9,10,11,12,13,14,15,16] (fun W=>ε η wr W) (by kernel_rfl) (by kernel_rfl) rfl δ.drew ?_;simp only[abU];iterate 14 (apply aj rfl rfl;(intro W hW;have c0:=hW.cell id x0;have c1:=hW.cell id x1;have c2:=hW.cell id x2;have d0:=hW.cell id y0;have d1:=hW.cell id y1;have d2:=hW.cell id y2;go_simp;rfl);go_frame)
     apply aA rfl rfl;intro K hK;go_wp2_with fail;refine(Dn x y _).mono ?_;rintro e w3 ⟨rfl,k3⟩;have dI:ε η wr w3:=k3.aZ;by_cases hxy:x.pos<y.pos
     ·have hc:gG x.pos y.pos<0:=by rw[su];exact hxy
      go_wp2_with fail;refine hK _ _ (fun _=>dI) ?_;clear hK;iterate 2 (apply aj rfl rfl;(intro W hW;go_simp;rfl);go_frame)
      refine aG (fun _=>dI) ?_;have hr3:=HR.o.pure dI;have hstep:((P++(A1++[y])++x::A2++R++S).set j y).set q x=P++A1++x::(y::A2)++R++S:=(by rw[show P++(A1++[y])++x::A2++R++S=(P++A1)++y::x::(A2++(R++S)) by simp,IL HPQ.o.1 HJ.o.2.1];simp);have hsw:=hr3.swap x y (i:=j) (j:=q) (by rw[HPQ.o.2.2];omega) (by rw[HPQ.o.2.2];omega);rw[hstep]at hsw;have F:=γ (θ (hsw.pure δ.drew) ((HJ.o.2.2.2.2.trans dI.pure).trans ((yj w3 b (off+j*3) (off+q*3) x y).drew)));have s0:=dI.cell id x0;have s1:=dI.cell id x1;have s2:=dI.cell id x2;have t0:=dI.cell id y0;have t1:=dI.cell id y1;have t2:=dI.cell id y2;obtain⟨gx0,gx1,gx2⟩:=hr3.soft j (by rw[HPQ.o.2.2];omega);obtain⟨gy0,gy1,gy2⟩:=hr3.soft q (by rw[HPQ.o.2.2];omega);clear x0 x1 x2 y0 y1 y2 fx0 fx1 fx2 fy0 fy1 fy2 hr3 hstep hsw k3;have hne:j≠q:=(by have:=HJ.o.2.1;omega);go_wp2_with fail;refine fV [0,1,2,3,4,5,6,7,8,9,10,11,12,13,14,15,16,17] (fun W=>ε η w3 W) (by kernel_rfl) (by kernel_rfl) rfl δ.drew ?_;simp only[abU];iterate 15 (first|(apply eY rfl rfl;(intro W;go_simp;rfl);go_frame)|(apply mM rfl rfl rfl;(intro W hW;have c0:=hW.cell id s0;have c1:=hW.cell id s1;have c2:=hW.cell id s2;have d0:=hW.cell id t0;have d1:=hW.cell id t1;have d2:=hW.cell id t2;go_simp;rfl);go_frame))
      apply jM rfl rfl rfl;intro K hK;go_wp2_with fail;apply eY rfl rfl
      ·intro W;go_simp;rfl
      go_frame;apply jM rfl rfl rfl;intro K2 hK2;go_wp2_with fail;apply oK;go_wp2_with fail;go_roundg A1.length
      case rel=>
       refine⟨A1,y::A2,by simp,?_,rfl,?_,F.o.1,F.o.2⟩
       ·have:=HJ.o.1;rw[this]
       ·intro z hz
        rcases abR.1 hz with rfl|hz
        ·exact hxy
        ·exact HJ.o.2.2.2.1 z hz
      case measure=>have:=HJ.o.2.2.1;rw[List.concat_eq_append,ν]at this;simp at this;omega
     ·have hc: ¬gG x.pos y.pos<0:=by rw[su];exact hxy
      go_wp2_with fail;refine hK _ _ (fun _=>dI) ?_;clear hK;iterate 2 (apply aj rfl rfl;(intro W hW;go_simp;rfl);go_frame)
      refine aG (fun _=>dI) ?_;have hi1:IntKind.i64.wrap ((i:Int)+1)=((i+1:Nat):Int):=bI (n:=i+1) (by omega);have F: ∃(i':Nat)(A R':List Rec),Value.int .i64 ((i+1:Nat):Int)= .int .i64 (i':Int)/\R'.length<=R.length/\(i'=a+A.length/\A≠[]\/A=[]/\R'=[]/\i'=a+1)/\a+A.length+R'.length=n/\Sorted A/\Same X (A++R')/\RW w3 b off (P++A++R'++S)/\ε (one b) w w3:=by
       obtain⟨h1,h2,h3,h4⟩:=HH.o;have h5:=HXI.o;have h6:=HJ.o;rw[List.concat_eq_append]at h2 h3 h4 h5;refine⟨_,A1++[y]++x::A2,R,rfl,ξ _,.inl ⟨?_,by simp⟩,?_,?_,?_,?_,h6.2.2.2.2.trans dI.pure⟩
       ·simp only[ν,φ,Γ]at h5⊢;omega
       ·simp only[ν,φ,Γ]at h2⊢;omega
       ·refine Sorted.append h3.left (List.pairwise_cons.2 ⟨fun z hz=>Int.le_of_lt (h6.2.2.2.1 z hz),h3.right⟩) ?_
        intro u hu v hv;have h7:u.pos<=y.pos:=by
         rcases abL.1 hu with hu|hu
         ·exact h3.left.le u hu y (by simp)
         ·simp at hu;rw[hu];exact Int.le_refl _
        rcases abR.1 hv with rfl|hv
        ·omega
        ·have:=h6.2.2.2.1 v hv;omega
       ·refine h4.trans ?_
        have:=((Same.refl (A1++[y])).append (Same.comm (A:=A2) (B:=[x]) (fun u hu v hv=>by have:=h6.2.2.2.1 u hu;simp at hv;subst hv;omega))).append (Same.refl R);simpa using this
       ·simpa using HR.o.pure dI
      have FF:=γ F;clear F;go_wp2_with fail;go_roundg R.length
      case rel=>exact FF.o
      case measure=>have:=HH.o.1;simp at this;omega
theorem OE {L:List Rec}{t:Nat}(h:t<L.length): ∃C1 y C2,L=C1++y::C2/\C1.length=t:=
 ⟨L.take t,L[t],L.drop (t+1),by rw[<-abS h,List.take_append_drop],by rw[υ];omega⟩
theorem acO {P A2 R:List Rec}{x y:Rec}{i j:Nat}(hi:P.length=i)(hj:i+1=j):(((P++x::y::(A2++R)).set i y).set j x)=P++y::x::(A2++R):=by subst hj;rw[set_mid hi,show P++y::y::(A2++R)=(P++[y])++y::(A2++R) by simp,set_mid (by simpa using hi)];simp
theorem acN (b off cap N a m n:Nat)(P B S:List Rec)(x:Rec)(w:World)(h:RW w b off (P++x::B++S))(hN:(P++x::B++S).length=N)(rY:N<1099511627776)
 (ha:P.length=a) (hm:a+1=m) (hn:m+B.length=n) (hB:Sorted B):
 Calls Tryz.prog 177 #[.slice (some ⟨b,off,none⟩) N cap,.int .i64 a,.int .i64 m,.int .i64 n,.func (.func 117) #[] #[]] w (jq w b off P (x::B) S):=by
 have H:=γ h;have HN:=γ hN;have HL:=γ (θ ha (θ hm (θ hn hB)));have LN:(P++x::B++S).length=P.length+1+B.length+S.length:=(by simp;omega);have b1:a<m/\m<=n/\n<=N:=(by omega);have e1:IntKind.i64.wrap ((m:Int)-a)=1:=(by rw[show(m:Int)-a=((1:Nat):Int) by omega];exact bI (by omega));have gx:(P++x::B++S)[a]?=some x:=(by rw[show P++x::B++S=P++x::(B++S) by simp];exact kK ha);have HG:=γ gx;clear h hN ha hm hn hB LN gx;go_enter Tryz.func177,Tryz.ntmps177;go_wp2;go_loopg [10,11] B.length (fun g i j wr=> ∃(B1 B2 B3:List Rec),i= .int .i64 ((m+B1.length:Nat):Int)/\j= .int .i64 ((m+B1.length+B2.length:Nat):Int)/\B2.length<=g/\B=B1++B2++B3/\(∀y∈B1,y.pos<x.pos)/\(∀y∈B3,x.pos<=y.pos)/\ε η w wr)
 case atStart=>exact⟨[],B,[],by simp,by rw[<-HL.o.2.2.1];simp,ξ _,by simp,by simp,by simp,ε.refl _ _⟩
 case round=>
  obtain⟨B1,B2,B3,rfl,rfl,hg,hB,h1,h3,hkp⟩:=hrel;obtain⟨i,hi⟩: ∃i,m+B1.length=i:=⟨_,rfl⟩;obtain⟨j,hj⟩: ∃j,i+B2.length=j:=⟨_,rfl⟩;rw[hi,hj];have hjn:j<=n:=(by have:=HL.o.2.2.1;rw[hB]at this;simp only[ν]at this;omega);have A:=γ (θ hi (θ hj (θ hg (θ hB (θ h1 (θ h3 hkp))))));clear hg hB h1 h3 hkp;by_cases hlt:i<j
  ·obtain⟨h,hh⟩: ∃h,(i+j)/2=h:=⟨_,rfl⟩
   have hb:i<=h/\h<j:=(by omega);have e2:((i:Int)+(j:Int))/2=(h:Int):=(by omega);clear hi hj hh;obtain⟨C1,y,C2,hC,lC⟩: ∃C1 y C2,B2=C1++y::C2/\C1.length=h-i:=OE (by have:=A.o.2.1;omega);have gy:(P++x::B++S)[h]?=some y:=(by rw[A.o.2.2.2.1,hC,show P++x::(B1++(C1++y::C2)++B3)++S=(P++x::(B1++C1))++y::(C2++B3++S) by simp];refine kK ?_;have h1:=HL.o;have h2:=A.o.1;simp only[ν,φ];omega);have hr:=H.o.pure A.o.2.2.2.2.2.2;obtain⟨x0,x1,x2⟩:=hr.recs _ _ HG.o;obtain⟨y0,y1,y2⟩:=hr.recs _ _ gy;have hC':=γ (θ hC lC);have hhN:h<N:=(by omega);have haN:a<N:=(by omega);clear hr gy hC lC;go_wp2_with fail;refine ak [0,1,2,3,4,5,6,7,8,9,10] (fun W=>ε η wr W) (by kernel_rfl) (by kernel_rfl) rfl δ.drew ?_;simp only[abU];iterate 9 (apply aj rfl rfl;(intro W hW;have c0:=hW.cell id x0;have c1:=hW.cell id x1;have c2:=hW.cell id x2;have d0:=hW.cell id y0;have d1:=hW.cell id y1;have d2:=hW.cell id y2;go_simp;rfl);go_frame)
   apply aA rfl rfl;intro K hK;go_wp2_with fail;refine(Dn y x _).mono ?_;rintro e w3 ⟨rfl,k3⟩;have dI:ε η wr w3:=k3.aZ;by_cases hxy:y.pos<x.pos
   ·have hc:gG y.pos x.pos<0:=by rw[su];exact hxy
    have e3:IntKind.i64.wrap ((h:Int)+1)=((h+1:Nat):Int):=bI (n:=h+1) (by omega);go_wp2_with fail;refine hK _ _ (fun _=>dI) ?_;clear hK;iterate 1 (apply aj rfl rfl;(intro W hW;go_simp;rfl);go_frame)
    refine aG (fun _=>dI) ?_;go_wp2_with fail;go_roundg C2.length
    case rel=>
     obtain⟨q1,q2,q3,q4,q5,q6,q7⟩:=A.o;obtain⟨u1,u2⟩:=hC'.o;rw[u1]at q2 q4;simp only[ν,φ]at q2;have hs:=HL.o.2.2.2;rw[q4]at hs;refine⟨B1++C1++[y],C2,B3,?_,?_,ξ _,?_,?_,q6,q7.trans dI.pure⟩
     ·congr 1;simp only[ν,φ,Γ];omega
     ·congr 1;simp only[ν,φ,Γ];omega
     ·rw[q4];simp
     ·intro z hz
      rcases abL.1 hz with hz|hz
      ·rcases abL.1 hz with hz|hz
       ·exact q5 z hz
       ·have:=hs.left.right.le z hz y (by simp);omega
      ·simp at hz;rw[hz];exact hxy
    case measure=>have u1:=hC'.o.1;have q3:=A.o.2.2.1;rw[u1]at q3;simp only[ν,φ]at q3;omega
   ·have hc: ¬gG y.pos x.pos<0:=by rw[su];exact hxy
    go_wp2_with fail;refine hK _ _ (fun _=>dI) ?_;clear hK;iterate 1 (apply aj rfl rfl;(intro W hW;go_simp;rfl);go_frame)
    refine aG (fun _=>dI) ?_;go_wp2_with fail;go_roundg C1.length
    case rel=>
     obtain⟨q1,q2,q3,q4,q5,q6,q7⟩:=A.o;obtain⟨u1,u2⟩:=hC'.o;rw[u1]at q2 q4;have hs:=HL.o.2.2.2;rw[q4]at hs;refine⟨B1,C1,y::C2++B3,?_,?_,ξ _,?_,q5,?_,q7.trans dI.pure⟩
     ·rw[q1]
     ·congr 1;omega
     ·rw[q4];simp
     ·intro z hz
      rcases abL.1 hz with hz|hz
      ·rcases abR.1 hz with rfl|hz
       ·omega
       ·have:=(List.pairwise_cons.1 hs.left.right.right).1 z hz;omega
      ·exact q6 z hz
    case measure=>have u1:=hC'.o.1;have q3:=A.o.2.2.1;rw[u1]at q3;simp only[ν,φ]at q3;omega
  ·have hB2:B2=[]:=by
    have:=A.o.2.1;exact τ (by omega)
   subst hB2;have hiN:i<=N:=(by simp only[Γ]at hj;omega);have e3:IntKind.i64.wrap ((i:Int)-1)=((i-1:Nat):Int):=(by rw[show(i:Int)-1=((i-1:Nat):Int) by omega];exact bI (by omega));clear hi hj;go_wp2_with fail;go_loopg [13] B1.length (fun g k wr2=> ∃(D1 D2:List Rec),k= .int .i64 ((a+D1.length:Nat):Int)/\B1=D1++D2/\D2.length<=g/\RW wr2 b off (P++D1++x::D2++B3++S)/\ε (one b) w wr2)
   case atStart=>have q:=A.o;refine⟨[],B1,by simp,rfl,ξ _,?_,q.2.2.2.2.2.2.pure⟩;have:=H.o.pure q.2.2.2.2.2.2;rw[q.2.2.2.1]at this;simpa using this
   case round=>
    obtain⟨D1,D2,rfl,hD,hg2,hr,hkp⟩:=hrel;obtain⟨k,hk⟩: ∃k,a+D1.length=k:=⟨_,rfl⟩;rw[hk]
    cases D2 with
    |nil=>
     have hn0: ¬(k:Int)<((i-1:Nat):Int):=(by have h1:=A.o.1;have h2:=HL.o;rw[hD]at h1;simp only[ν,Γ]at h1;omega);have F:jq w b off P (x::B) S (.returned (.tuple #[])) wr:=by
      obtain⟨q1,q2,q3,q4,q5,q6,q7⟩:=A.o;have hs:=HL.o.2.2.2;rw[List.append_nil]at hD;subst hD;rw[q4]at hs;refine⟨B1++x::B3,?_,?_,rfl,by simpa using hr,hkp⟩
      ·rw[q4]
       have:=(Same.comm (A:=[x]) (B:=B1) (fun u hu v hv=>by simp at hu;subst hu;have:=q5 v hv;omega)).append (Same.refl B3);simpa using this
      ·refine Sorted.append hs.left.left (List.pairwise_cons.2 ⟨fun z hz=>q6 z hz,hs.right⟩) ?_
       intro u hu v hv;have:=q5 u hu
       rcases abR.1 hv with rfl|hv
       ·omega
       ·have:=q6 v hv;omega
     have FF:=γ F;clear F hr hkp hD hk;go_wp2_with fail
     go_end0
     exact FF.o
    |cons y D2=>
     have hB1:m+D1.length+1+D2.length=i:=(by have h1:=A.o.1;rw[hD]at h1;simp only[ν,φ]at h1;omega);have hm2:=HL.o.2.1;obtain⟨k1,hk1⟩: ∃k1,k+1=k1:=⟨_,rfl⟩;have hn0:(k:Int)<((i-1:Nat):Int):=(by omega);have e4:IntKind.i64.wrap ((k:Int)+1)=(k1:Int):=(by rw[show(k:Int)+1=((k1:Nat):Int) by omega];exact bI (by omega));have hPk:(P++D1).length=k:=(by rw[ν,HL.o.1];exact hk);have gx:(P++D1++x::(y::D2)++B3++S)[k]?=some x:=(by rw[show P++D1++x::(y::D2)++B3++S=(P++D1)++x::(y::D2++B3++S) by simp];exact kK hPk);have gy:(P++D1++x::(y::D2)++B3++S)[k1]?=some y:=(by rw[show P++D1++x::(y::D2)++B3++S=(P++D1++[x])++y::(D2++B3++S) by simp];exact kK (by rw[ν,hPk];exact hk1));have qU:(P++D1++x::(y::D2)++B3++S).length=N:=(by have h1:=HN.o;rw[A.o.2.2.2.1,hD]at h1;simp only[ν,φ,Γ]at h1⊢;omega);have hk1N:k1<N:=(by rw[<-qU];exact(μ.1 gy).1);have hkN:k<N:=(by omega);obtain⟨x0,x1,x2⟩:=hr.recs _ _ gx;obtain⟨y0,y1,y2⟩:=hr.recs _ _ gy;obtain⟨fx0,fx1,fx2⟩:=hr.soft k (by omega);obtain⟨fy0,fy1,fy2⟩:=hr.soft k1 (by omega);have hstep:((P++D1++x::(y::D2)++B3++S).set k y).set k1 x=P++(D1++[y])++x::D2++B3++S:=(by rw[show P++D1++x::(y::D2)++B3++S=(P++D1)++x::y::(D2++(B3++S)) by simp,acO hPk hk1];simp);have hsw:=hr.swap x y (i:=k) (j:=k1) (by omega) (by omega);rw[hstep]at hsw;have F:=γ (θ (hsw.pure δ.drew) (hkp.trans ((yj wr b (off+k*3) (off+k1*3) x y).drew)));have HD:=γ hD;have HK:=γ (θ hk (θ hg2 hk1));have hne:k≠k1:=(by omega);clear hr hkp hD hPk gx gy qU hstep hsw hk hB1 hm2 hk1 hg2;go_wp2_with fail;refine fV [0,1,2,3,4,5,6,7,8,9,10,11,12,13,14,15,16,17] (fun W=>ε η wr W) (by kernel_rfl) (by kernel_rfl) rfl δ.drew ?_;simp only[abU];iterate 15 (first|(apply eY rfl rfl;(intro W;go_simp;rfl);go_frame)|(apply mM rfl rfl rfl;(intro W hW;have c0:=hW.cell id x0;have c1:=hW.cell id x1;have c2:=hW.cell id x2;have d0:=hW.cell id y0;have d1:=hW.cell id y1;have d2:=hW.cell id y2;go_simp;rfl);go_frame))
     apply jM rfl rfl rfl;intro K hK;go_wp2_with fail;apply eY rfl rfl
     ·intro W;go_simp;rfl
     go_frame;apply jM rfl rfl rfl;intro K2 hK2;go_wp2_with fail;apply oK;go_wp2_with fail;go_roundg D2.length
     case rel=>refine⟨D1++[y],D2,?_,by rw[HD.o];simp,ξ _,F.o.1,F.o.2⟩;have h5:=HK.o.1;have h6:=HK.o.2.2;rw[ν];first|(congr 1;simp only[φ,Γ];omega)|(simp only[φ,Γ];go_num)
     case measure=>have:=HK.o.2.1;simp only[φ]at this;omega
theorem Z4 (b off cap N a m n:Nat)(P B S:List Rec)(x:Rec)(w:World)(h:RW w b off (P++B++x::S))(hN:(P++B++x::S).length=N)(rY:N<1099511627776)
 (ha:P.length=a) (hm:a+B.length=m) (hn:m+1=n) (hB:Sorted B) (h2:2<=B.length):
 Calls Tryz.prog 177 #[.slice (some ⟨b,off,none⟩) N cap,.int .i64 a,.int .i64 m,.int .i64 n,.func (.func 117) #[] #[]] w (jq w b off P (B++[x]) S):=by
 have H:=γ h;have HN:=γ hN;have HL:=γ (θ ha (θ hm (θ hn hB)));have LN:(P++B++x::S).length=P.length+B.length+1+S.length:=(by simp;omega);have b1:a+2<=m/\m<n/\n<=N:=(by omega);obtain⟨u,hu⟩: ∃u,m-a=u:=⟨_,rfl⟩;have e1:IntKind.i64.wrap ((m:Int)-a)=(u:Int):=(by rw[show(m:Int)-a=((u:Nat):Int) by omega];exact bI (by omega));have hu1:((u:Int)==1)=false:=(by simp;omega);have e0:IntKind.i64.wrap ((n:Int)-m)=1:=(by rw[show(n:Int)-m=((1:Nat):Int) by omega];exact bI (by omega));have gx:(P++B++x::S)[m]?=some x:=kK (by rw[ν];omega);have HG:=γ gx;clear h hN ha hm hn hB LN gx hu h2;go_enter Tryz.func177,Tryz.ntmps177;go_wp2;go_loopg [14,15] B.length (fun g i j wr=> ∃(B1 B2 B3:List Rec),i= .int .i64 ((a+B1.length:Nat):Int)/\j= .int .i64 ((a+B1.length+B2.length:Nat):Int)/\B2.length<=g/\B=B1++B2++B3/\(∀y∈B1,y.pos<=x.pos)/\(∀y∈B3,x.pos<y.pos)/\ε η w wr)
 case atStart=>exact⟨[],B,[],by simp,by rw[<-HL.o.2.1];simp,ξ _,by simp,by simp,by simp,ε.refl _ _⟩
 case round=>
  obtain⟨B1,B2,B3,rfl,rfl,hg,hB,h1,h3,hkp⟩:=hrel;obtain⟨i,hi⟩: ∃i,a+B1.length=i:=⟨_,rfl⟩;obtain⟨j,hj⟩: ∃j,i+B2.length=j:=⟨_,rfl⟩;rw[hi,hj];have hjn:j<=m:=(by have:=HL.o.2.1;rw[hB]at this;simp only[ν]at this;omega);have A:=γ (θ hi (θ hj (θ hg (θ hB (θ h1 (θ h3 hkp))))));clear hg hB h1 h3 hkp;by_cases hlt:i<j
  ·obtain⟨h,hh⟩: ∃h,(i+j)/2=h:=⟨_,rfl⟩
   have hb:i<=h/\h<j:=(by omega);have e2:((i:Int)+(j:Int))/2=(h:Int):=(by omega);clear hi hj hh;obtain⟨C1,y,C2,hC,lC⟩: ∃C1 y C2,B2=C1++y::C2/\C1.length=h-i:=OE (by have:=A.o.2.1;omega);have gy:(P++B++x::S)[h]?=some y:=(by rw[A.o.2.2.2.1,hC,show P++(B1++(C1++y::C2)++B3)++x::S=(P++B1++C1)++y::(C2++B3++x::S) by simp];refine kK ?_;have h1:=HL.o;have h2:=A.o.1;simp only[ν];omega);have hr:=H.o.pure A.o.2.2.2.2.2.2;obtain⟨x0,x1,x2⟩:=hr.recs _ _ HG.o;obtain⟨y0,y1,y2⟩:=hr.recs _ _ gy;have hC':=γ (θ hC lC);have hhN:h<N:=(by omega);have hmN:m<N:=(by omega);clear hr gy hC lC;go_wp2_with fail;refine ak [0,1,2,3,4,5,6,7,8,9,10,11] (fun W=>ε η wr W) (by kernel_rfl) (by kernel_rfl) rfl δ.drew ?_;simp only[abU];iterate 9 (apply aj rfl rfl;(intro W hW;have c0:=hW.cell id x0;have c1:=hW.cell id x1;have c2:=hW.cell id x2;have d0:=hW.cell id y0;have d1:=hW.cell id y1;have d2:=hW.cell id y2;go_simp;rfl);go_frame)
   apply aA rfl rfl;intro K hK;go_wp2_with fail;refine(Dn x y _).mono ?_;rintro e w3 ⟨rfl,k3⟩;have dI:ε η wr w3:=k3.aZ;by_cases hxy:x.pos<y.pos
   ·have hc:gG x.pos y.pos<0:=by rw[su];exact hxy
    have hcn:(!decide (gG x.pos y.pos<0))=false:=(by rw[decide_eq_true hc];rfl);go_wp2_with fail;refine hK _ _ (fun _=>dI) ?_;clear hK;iterate 2 (apply aj rfl rfl;(intro W hW;go_simp;rfl);go_frame)
    refine aG (fun _=>dI) ?_;go_wp2_with fail;go_roundg C1.length
    case rel=>
     obtain⟨q1,q2,q3,q4,q5,q6,q7⟩:=A.o;obtain⟨u1,u2⟩:=hC'.o;rw[u1]at q2 q4;have hs:=HL.o.2.2.2;rw[q4]at hs;refine⟨B1,C1,y::C2++B3,?_,?_,ξ _,?_,q5,?_,q7.trans dI.pure⟩
     ·rw[q1]
     ·congr 1;omega
     ·rw[q4];simp
     ·intro z hz
      rcases abL.1 hz with hz|hz
      ·rcases abR.1 hz with rfl|hz
       ·omega
       ·have:=(List.pairwise_cons.1 hs.left.right.right).1 z hz;omega
      ·exact q6 z hz
    case measure=>have u1:=hC'.o.1;have q3:=A.o.2.2.1;rw[u1]at q3;simp only[ν,φ]at q3;omega
   ·have hc: ¬gG x.pos y.pos<0:=by rw[su];exact hxy
    have hcn:(!decide (gG x.pos y.pos<0))=true:=(by rw[decide_eq_false hc];rfl);have e3:IntKind.i64.wrap ((h:Int)+1)=((h+1:Nat):Int):=bI (n:=h+1) (by omega);go_wp2_with fail;refine hK _ _ (fun _=>dI) ?_;clear hK;iterate 2 (apply aj rfl rfl;(intro W hW;go_simp;rfl);go_frame)
    refine aG (fun _=>dI) ?_;go_wp2_with fail;go_roundg C2.length
    case rel=>
     obtain⟨q1,q2,q3,q4,q5,q6,q7⟩:=A.o;obtain⟨u1,u2⟩:=hC'.o;rw[u1]at q2 q4;simp only[ν,φ]at q2;have hs:=HL.o.2.2.2;rw[q4]at hs;refine⟨B1++C1++[y],C2,B3,?_,?_,ξ _,?_,?_,q6,q7.trans dI.pure⟩
     ·congr 1;simp only[ν,φ,Γ];omega
     ·congr 1;simp only[ν,φ,Γ];omega
     ·rw[q4];simp
     ·intro z hz
      rcases abL.1 hz with hz|hz
      ·rcases abL.1 hz with hz|hz
       ·exact q5 z hz
       ·have:=hs.left.right.le z hz y (by simp);omega
      ·simp at hz;rw[hz];omega
    case measure=>have u1:=hC'.o.1;have q3:=A.o.2.2.1;rw[u1]at q3;simp only[ν,φ]at q3;omega
  ·have hB2:B2=[]:=by
    have:=A.o.2.1;exact τ (by omega)
   subst hB2;have hiN:i<=m:=(by simp only[Γ]at hj;omega);clear hi hj;go_wp2_with fail;go_loopg [17] B3.length (fun g k wr2=> ∃(D1 D2:List Rec),k= .int .i64 ((i+D1.length:Nat):Int)/\B3=D1++D2/\D1.length<=g/\RW wr2 b off (P++B1++D1++x::D2++S)/\ε (one b) w wr2)
   case atStart=>
    have q:=A.o;refine⟨B3,[],?_,by simp,ξ _,?_,q.2.2.2.2.2.2.pure⟩
    ·have h1:=q.2.2.2.1;have h2:=HL.o.2.1;rw[h1]at h2;simp only[ν,Γ]at h2
     have:=q.1
     congr 1;omega
    ·have:=H.o.pure q.2.2.2.2.2.2
     rw[q.2.2.2.1]at this;simpa using this
   case round=>
    obtain⟨D1,D2,rfl,hD,hg2,hr,hkp⟩:=hrel
    rcases List.eq_nil_or_concat D1 with rfl|⟨D1,y,rfl⟩
    ·obtain⟨k,hk⟩: ∃k,i+([]:List Rec).length=k:=⟨_,rfl⟩
     rw[hk];have hn0: ¬(i:Int)<(k:Int):=(by simp only[Γ]at hk;omega);have F:jq w b off P (B++[x]) S (.returned (.tuple #[])) wr:=by
      obtain⟨q1,q2,q3,q4,q5,q6,q7⟩:=A.o;have hs:=HL.o.2.2.2;rw[List.nil_append]at hD;subst hD;rw[q4]at hs;refine⟨B1++x::B3,?_,?_,rfl,by simpa using hr,hkp⟩
      ·rw[q4]
       have:=(Same.refl B1).append (Same.comm (A:=B3) (B:=[x]) (fun u hu v hv=>by simp at hv;subst hv;have:=q6 u hu;omega));simpa using this
      ·refine Sorted.append hs.left.left (List.pairwise_cons.2 ⟨fun z hz=>Int.le_of_lt (q6 z hz),hs.right⟩) ?_
       intro u hu v hv;have:=q5 u hu
       rcases abR.1 hv with rfl|hv
       ·omega
       ·have:=q6 v hv;omega
     have FF:=γ F;clear F hr hkp hD hk;go_wp2_with fail
     go_end0
     exact FF.o
    ·rw[List.concat_eq_append]at hr hD hg2
     have hB1:i+D1.length+1<=m:=(by have h1:=A.o.2.2.2.1;have h2:=HL.o.2.1;have h3:=A.o.1;rw[h1,hD]at h2;simp only[ν,φ,Γ]at h2;omega);obtain⟨q,hq⟩: ∃q,i+D1.length=q:=⟨_,rfl⟩;obtain⟨k,hk⟩: ∃k,q+1=k:=⟨_,rfl⟩;have hkk:i+(D1.concat y).length=k:=(by rw[List.concat_eq_append,ν];simp only[φ,Γ];omega);rw[hkk];have hn0:(i:Int)<(k:Int):=(by omega);have e4:IntKind.i64.wrap ((k:Int)-1)=(q:Int):=(by rw[show(k:Int)-1=((q:Nat):Int) by omega];exact bI (by omega));have Gu:(P++B1++D1).length=q:=(by rw[ν,ν,HL.o.1,A.o.1];exact hq);have gy:(P++B1++(D1++[y])++x::D2++S)[q]?=some y:=(by rw[show P++B1++(D1++[y])++x::D2++S=(P++B1++D1)++y::(x::D2++S) by simp];exact kK Gu);have gx:(P++B1++(D1++[y])++x::D2++S)[k]?=some x:=(by rw[show P++B1++(D1++[y])++x::D2++S=(P++B1++D1++[y])++x::(D2++S) by simp];exact kK (by rw[ν,Gu];exact hk));have qU:(P++B1++(D1++[y])++x::D2++S).length=N:=(by have h1:=HN.o;rw[A.o.2.2.2.1,hD]at h1;simp only[ν,φ,Γ]at h1⊢;omega);have hkN:k<N:=(by omega);have hqN:q<N:=(by omega);obtain⟨x0,x1,x2⟩:=hr.recs _ _ gx;obtain⟨y0,y1,y2⟩:=hr.recs _ _ gy;obtain⟨fx0,fx1,fx2⟩:=hr.soft k (by omega);obtain⟨fy0,fy1,fy2⟩:=hr.soft q (by omega);have hstep:((P++B1++(D1++[y])++x::D2++S).set k y).set q x=P++B1++D1++x::(y::D2)++S:=(by rw[show P++B1++(D1++[y])++x::D2++S=(P++B1++D1)++y::x::(D2++S) by simp,IL Gu hk];simp);have hsw:=hr.swap x y (i:=k) (j:=q) (by omega) (by omega);rw[hstep]at hsw;have F:=γ (θ (hsw.pure δ.drew) (hkp.trans ((yj wr b (off+k*3) (off+q*3) x y).drew)));have HD:=γ hD;have HK:=γ (θ hq hg2);have hne:k≠q:=(by omega);clear hr hkp hD Gu gx gy qU hstep hsw hk hB1 hq hg2 hkk;go_wp2_with fail;refine fV [0,1,2,3,4,5,6,7,8,9,10,11,12,13,14,15,16,17] (fun W=>ε η wr W) (by kernel_rfl) (by kernel_rfl) rfl δ.drew ?_;simp only[abU];iterate 15 (first|(apply eY rfl rfl;(intro W;go_simp;rfl);go_frame)|(apply mM rfl rfl rfl;(intro W hW;have c0:=hW.cell id x0;have c1:=hW.cell id x1;have c2:=hW.cell id x2;have d0:=hW.cell id y0;have d1:=hW.cell id y1;have d2:=hW.cell id y2;go_simp;rfl);go_frame))
     apply jM rfl rfl rfl;intro K hK;go_wp2_with fail;apply eY rfl rfl
     ·intro W;go_simp;rfl
     go_frame;apply jM rfl rfl rfl;intro K2 hK2;go_wp2_with fail;apply oK;go_wp2_with fail;go_roundg D1.length
     case rel=>refine⟨D1,y::D2,?_,by rw[HD.o];simp,ξ _,F.o.1,F.o.2⟩;rw[HK.o.1]
     case measure=>have:=HK.o.2;simp only[ν,φ,Γ]at this;omega
