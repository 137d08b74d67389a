/- slices.symMerge over records: two sorted runs that stand beside each other come sorted, those of one place as they were. -/
import Derived.Test.YtglbkodmmogomaaGreatDoorS03
import Derived.Lib.AppendZerosOnto
set_option linter.unusedVariables false
set_option linter.unusedSimpArgs false
set_option maxHeartbeats 1000000
set_option maxRecDepth 100000
namespace Go.Proofs.YtglbkodmmogomaaGreatDoor
open List Go.Proofs.Tryz
section
open Go Go.RowKit
attribute [local irreducible] dI eX
theorem Ub (b off cap N:Nat)(sK:N<1099511627776)(fuel:Nat): ∀(a m n:Nat)(P A B S:List Rec)(w:World),A.length+B.length<=fuel->RW w b off (P++A++B++S)->(P++A++B++S).length=N->
 P.length=a->a+A.length=m->m+B.length=n->Sorted A->Sorted B->A≠[]->B≠[]->
 Calls prog 177 #[.slice (some ⟨b,off,none⟩) N cap,.int .i64 a,.int .i64 m,.int .i64 n,.func (.func 117) #[] #[]] w (jJ w b off P (A++B) S):=by
 induction fuel with
 |zero=>intro a m n P A B S w hf _ _ _ _ _ _ _ hA _;have:=length_pos_iff.2 hA;omega
 |succ fuel ih=>
  intro a m n P A B S w hf h hN ha hm hn sA sB hA hB;have lA:=length_pos_iff.2 hA;have lB:=length_pos_iff.2 hB;by_cases h1:A.length=1
  ·match A,h1 with
   |[x],_=>have:=adu b off cap N a m n P B S x w (by simpa using h) (by simpa using hN) sK ha (by simpa using hm) hn sB;simpa using this
  by_cases h2:B.length=1
  ·match B,h2 with
   |[x],_=>have:=aaH b off cap N a m n P A S x w (by simpa using h) (by simpa using hN) sK ha hm (by simpa using hn) sA (by omega);simpa using this
  have LN:(P++A++B++S).length=P.length+A.length+B.length+S.length:=(by simp;omega);have H:=γ h;have IH:=γ ih;have HN:=γ hN;have HL:=γ (θ ha (θ hm (θ hn (θ sA (θ sB hf)))));have b1:a+2<=m/\m+2<=n/\n<=N:=(by omega);obtain⟨u,hu⟩:=acu (m-a);have e1:IntKind.i64.wrap ((m:Int)-a)=(u:Int):=(by rw[show(m:Int)-a=((u:Nat):Int) by omega];exact bI (by omega));have hu1:((u:Int)==1)=false:=(by simp;omega);obtain⟨v,hv⟩:=acu (n-m);have e0:IntKind.i64.wrap ((n:Int)-m)=(v:Int):=(by rw[show(n:Int)-m=((v:Nat):Int) by omega];exact bI (by omega));have hv1:((v:Int)==1)=false:=(by simp;omega);obtain⟨mid,hmid⟩: ∃mid,mid=(a+n)/2:=⟨_,rfl⟩;obtain⟨nn,hnn⟩:=acu (mid+m);have e2:((a:Int)+(n:Int))/2=(mid:Int):=(by omega);have e3:IntKind.i64.wrap ((mid:Int)+m)=(nn:Int):=(by rw[<-hnn];exact bI (by omega));have e4:IntKind.i64.wrap ((nn:Int)-1)=((nn-1:Nat):Int):=(by rw[show(nn:Int)-1=((nn-1:Nat):Int) by omega];exact bI (by omega));have bm:a<mid/\mid<n:=(by omega);have HM:=γ (θ hmid hnn);have e5:mid<m->IntKind.i64.wrap ((nn:Int)-n)=((nn-n:Nat):Int):=fun h=>(by rw[show(nn:Int)-n=((nn-n:Nat):Int) by omega];exact bI (by omega));have E5:=γ e5;clear h hN ha hm hn sA sB hA hB LN ih hf hu hv lA lB h1 h2 hmid hnn e5;go_enter func177,ntmps177;change Code.wp prog (Code.seq _ (Code.seq _ (Code.seq _ (Code.seq _ (Code.seq _ (Code.seq _ (Code.seq _ (Code.seq _ Jt)))))))) _ _ _
  go_upto_if 140 with fail
  go_cut [20,21] (fun s r wx=> ∃s0 r0:Nat,s= .int .i64 (s0:Int)/\r= .int .i64 (r0:Int)/\Bnd a m n mid s0 r0/\wx=w)
  case first=>
   have hm1:=HM.o;by_cases hlt:mid<m
   ·have e6:=E5.o hlt
    clear hm1;go_wp2_with fail
    go_meet
    have hm1:=HM.o;exact⟨nn-n,mid,rfl,rfl,⟨hm1.1,by omega,by omega,.inl ⟨hlt,by omega,rfl⟩⟩,rfl⟩
   ·clear hm1
    go_wp2_with fail
    go_meet
    have hm1:=HM.o;exact⟨a,m,rfl,rfl,⟨hm1.1,by omega,by omega,.inr ⟨by omega,rfl,rfl⟩⟩,rfl⟩
  case rest=>
   obtain⟨s0,r0,rfl,rfl,hb,hw⟩:=hcut;have hw2:=hw.symm;subst hw2;have aeN:s0<=r0/\a<=s0/\r0<=m/\r0+m<=nn/\nn<=s0+n/\r0<=mid:=(by obtain⟨b1,b2,b3,b4⟩:=hb;have hm1:=HM.o;omega);have HB:=γ hb;clear hb;go_wp2;go_loopg [20,21] (r0-s0) (fun g s r wr=> ∃i j:Nat,s= .int .i64 (i:Int)/\r= .int .i64 (j:Int)/\s0<=i/\i<=j/\j<=r0/\j-i<=g/\Found A B a m (nn-1) s0 i false/\Found A B a m (nn-1) j r0 true/\ε η w wr)
   case atStart=>exact⟨s0,r0,rfl,rfl,ξ _,aeN.1,ξ _,ξ _,fun c h1 h2=>by omega,fun c h1 h2=>by omega,ε.refl _ _⟩
   case round=>
    obtain⟨i,j,rfl,rfl,h1,h2,h3,hg,f1,f2,hkp⟩:=hrel;have FF:=γ (θ hg (θ f1 (θ f2 hkp)));clear hg f1 f2 hkp;by_cases hlt:i<j
    ·as_aux_lemma=>
     obtain⟨c,hc⟩:=acu ((i+j)/2);have hcb:i<=c/\c<j:=(by omega);have e6:((i:Int)+(j:Int))/2=(c:Int):=(by omega);obtain⟨pc,hpc⟩:=acu (nn-1-c);have hpb:m<=pc/\pc<n:=(by omega);have e7:IntKind.i64.wrap (((nn-1:Nat):Int)-c)=(pc:Int):=(by rw[show((nn-1:Nat):Int)-c=((pc:Nat):Int) by omega];exact bI (by omega));have hL:=HL.o;obtain⟨x,hx⟩: ∃x,A[c-a]?=some x:=⟨_,ι (by omega)⟩;obtain⟨y,hy⟩: ∃y,B[nn-1-c-m]?=some y:=⟨_,ι (by omega)⟩;have gx:(P++A++B++S)[c]?=some x:=(by rw[append_assoc,append_assoc,Ψ (by omega),Ω (by omega),hL.1];exact hx);have gy:(P++A++B++S)[pc]?=some y:=(by rw[append_assoc,Ψ (by rw[ν];omega),Ω (by rw[ν];omega),ν,hL.1,hL.2.1,<-hpc];exact hy);have hr:=H.o.pure FF.o.2.2.2;obtain⟨x0,x1,x2⟩:=hr.recs _ _ gx;obtain⟨y0,y1,y2⟩:=hr.recs _ _ gy;have hcN:c<N:=(by omega);have hpN:pc<N:=(by omega);have HXY:=γ (θ hx hy);clear hr gx gy hL hc hpc hx hy;go_wp2;refine acv [0,1,2,3,4,5,6,7,8,9,10,11,12,13] ?_;simp only[aco];iterate 11 (apply aj rfl rfl;(intro W hW;have c0:=hW.cell id x0;have c1:=hW.cell id x1;have c2:=hW.cell id x2;have d0:=hW.cell id y0;have d1:=hW.cell id y1;have d2:=hW.cell id y2;go_simp;rfl);go_frame)
     apply ay rfl rfl;intro K hK;go_wp2_with fail;refine(DV y x _).mono ?_;rintro e w3 ⟨rfl,k3⟩;have dN:ε η wr w3:=k3.aW;by_cases hxy:y.pos<x.pos
     ·have hc:gX y.pos x.pos<0:=by rw[sO];exact hxy
      have hcn:(!decide (gX y.pos x.pos<0))=false:=(by rw[decide_eq_true hc];rfl);go_wp2;refine hK _ _ (fun _=>dN) ?_;clear hK;iterate 2 (apply aj rfl rfl;(intro W hW;go_simp;rfl);go_frame)
      refine aA (fun _=>dN) ?_;go_wp2;go_roundg (c-i)
      case rel=>obtain⟨q1,q2,q3,q4⟩:=FF.o;refine⟨i,c,rfl,rfl,h1,hcb.1,by omega,ξ _,q2,?_,q4.trans dN.pure⟩;exact Found.right HL.o.2.2.2.1 HL.o.2.2.2.2.1 (by omega) HXY.o.1 HXY.o.2 hxy
      case measure=>have:=FF.o.1;omega
     ·have hc: ¬gX y.pos x.pos<0:=by rw[sO];exact hxy
      have hcn:(!decide (gX y.pos x.pos<0))=true:=(by rw[decide_eq_false hc];rfl);have e8:IntKind.i64.wrap ((c:Int)+1)=((c+1:Nat):Int):=bI (n:=c+1) (by omega);go_wp2;refine hK _ _ (fun _=>dN) ?_;clear hK;iterate 2 (apply aj rfl rfl;(intro W hW;go_simp;rfl);go_frame)
      refine aA (fun _=>dN) ?_;go_wp2;go_roundg (j-(c+1))
      case rel=>obtain⟨q1,q2,q3,q4⟩:=FF.o;refine⟨c+1,j,by first|rfl|go_num,rfl,by omega,by omega,h3,ξ _,?_,q3,q4.trans dN.pure⟩;exact Found.left HL.o.2.2.2.1 HL.o.2.2.2.2.1 aeN.2.1 HXY.o.1 HXY.o.2 (by omega)
      case measure=>have:=FF.o.1;omega
    ·have hij:i=j:=by omega
     subst hij;obtain⟨A1,A2,B1,B2,rfl,rfl,p1,p2,p3,p4⟩:=Yc HL.o.2.2.2.1 HL.o.2.2.2.2.1 HL.o.2.1 HL.o.2.2.1 HB.o h1 h3 (by rw[HM.o.2];exact FF.o.2.1) (by rw[HM.o.2];exact FF.o.2.2.1);obtain⟨e,he⟩:=acu (m+B1.length);have hm1:=HM.o;have e6:IntKind.i64.wrap ((nn:Int)-i)=(e:Int):=(by rw[show(nn:Int)-i=((e:Nat):Int) by omega];exact bI (by omega));have hL:=HL.o;simp only[ν]at hL;have lens:P.length=a/\a+A1.length=i/\i+A2.length=m/\m+B1.length=e/\e+B2.length=n/\mid+A2.length=e/\i+B1.length=mid:=(by omega);have hkp:=FF.o.2.2.2;have hr0:=H.o.pure hkp
     have L:=γ (show(P.length=a/\a+A1.length=i/\i+A2.length=m/\m+B1.length=e/\e+B2.length=n/\mid+A2.length=e/\i+B1.length=mid/\a<mid/\mid<n)/\
      (∀u∈A1,∀v∈B2,u.pos<=v.pos)/\(∀u∈A2,∀v∈B1,v.pos<u.pos)from⟨by omega,p3,p4⟩)
     have R0:=γ (θ hr0 hkp);have HL2:=γ (θ HL.o.2.2.2.1 (θ HL.o.2.2.2.2.1 HL.o.2.2.2.2.2));clear hm1 hL lens hkp hr0 p1 p2 p3 p4 he;go_wp2_with fail;exact Vg b off cap N fuel sK IH a m n mid nn i e P A1 A2 B1 B2 S w wr HN HL2 L (γ (by have h1:=L.o.1;have h2:=HM.o;omega)) R0
def Full (bs:Nat)(Bs:List (List Rec)):Prop:= ∀X∈Bs,X.length=bs/\Sorted X
theorem Full.snoc {bs:Nat}{Bs:List (List Rec)}{X:List Rec}(h:Full bs Bs)(h1:X.length=bs)(h2:Sorted X):Full bs (Bs++[X]):=by
 intro Y hY
 rcases aax.1 hY with hY|hY
 ·exact h Y hY
 ·simp at hY;subst hY;exact⟨h1,h2⟩
theorem sN (Bs:List (List Rec))(X:List Rec):(Bs++[X]).flatten=Bs.flatten++X:=by simp
def Chop (bs:Nat)(L:List Rec):Prop:= ∃Bs last,L=Bs.flatten++last/\Full bs Bs/\last.length<bs/\Sorted last
theorem Chop.done {bs:Nat}{L:List Rec}(h:Chop bs L)(hl:L.length<=bs):Sorted L:=by
 obtain⟨Bs,last,rfl,h1,h2,h3⟩:=h
 match Bs,h1 with
 |[],_=>simpa using h3
 |X::Bs,h1=>have hx:=h1 X (by simp);simp only[flatten_cons,ν]at hl;have e1:Bs.flatten=[]:=τ (by omega);have e2:last=[]:=τ (by omega);rw[flatten_cons,e1,e2];simpa using hx.2
theorem Vl (b off cap N:Nat)(sK:N<1099511627776)(L:List Rec)(w:World)(h:RW w b off L)(hN:L.length=N):
 Calls prog 145 #[.slice (some ⟨b,off,none⟩) N cap,.int .i64 N,.func (.func 117) #[] #[]] w (Moves w b off (aO L)):=by
 have H:=γ h;have HN:=γ hN;clear h hN;go_enter func145,ntmps145;go_wp2;go_loopg [7,8] N (fun g va vb wr=> ∃(a:Nat)(Bs:List (List Rec))(R:List Rec),va= .int .i64 (a:Int)/\vb= .int .i64 ((a+20:Nat):Int)/\R.length<=g/\Bs.flatten.length=a/\a+R.length=N/\Full 20 Bs/\Same L (Bs.flatten++R)/\RW wr b off (Bs.flatten++R)/\ε (one b) w wr)
 case atStart=>exact⟨0,[],L,rfl,by first|rfl|go_num,by rw[HN.o];exact ξ _,rfl,by rw[HN.o];omega,fun X hX=>by simp at hX,by simpa using Same.refl L,by simpa using H.o,ε.refl _ _⟩
 case round=>
  obtain⟨a,Bs,R,rfl,rfl,hg,ha,hR,hF,hsame,hr,hkp⟩:=hrel;by_cases hle:a+20<=N
  ·obtain⟨X,R',rfl,hX⟩: ∃X R',R=X++R'/\X.length=20:=⟨R.take 20,R.drop 20,(take_append_drop _ _).symm,by rw[υ];omega⟩
   obtain⟨e,he⟩:=acu (a+20);have h1:((e:Nat):Int)<=(N:Int):=(by omega);have e1:IntKind.i64.wrap ((e:Int)+20)=((e+20:Nat):Int):=bI (n:=e+20) (by omega);rw[he];have A:=γ (θ hg (θ ha (θ hR (θ hF (θ hsame (θ hkp (θ hX he)))))));have HR:=γ hr;clear hg ha hR hF hsame hr hkp hX hle he;go_wp2_with fail;refine(Bh b off cap N a e Bs.flatten X R' wr (by simpa using HR.o) ?_ sK A.o.2.1 ?_).mono ?_
   ·have:=A.o;simp only[ν]at this⊢;omega
   ·have:=A.o;rw[ν];omega
   ·rintro e2 w2 ⟨X',q1,q2,rfl,hr2,hk2⟩
    have F:=γ (θ q1 (θ q2 (θ hr2 (A.o.2.2.2.2.2.1.trans hk2))));clear q1 q2 hr2 hk2;go_wp2;go_roundg R'.length
    case rel=>
     obtain⟨p1,p2,p3,p4,p5,p6,p7,p8⟩:=A.o;obtain⟨q1,q2,q3,q4⟩:=F.o;have q5:=q1.length;simp only[ν]at p3;refine⟨e,Bs++[X'],R',rfl,by first|rfl|go_num,ξ _,?_,by omega,p4.snoc (by omega) q2,?_,by rw[sN];exact q3,q4⟩
     ·rw[sN,ν];omega
     ·rw[sN]
      refine p5.trans ?_;have:=((Same.refl Bs.flatten).append q1).append (Same.refl R');simpa using this
    case measure=>have:=A.o;simp only[ν]at this;omega
  ·have h1: ¬((a+20:Nat):Int)<=(N:Int):=by omega
   obtain⟨e,he⟩:=acu (a+20);rw[he]at h1⊢;have A:=γ (θ hg (θ ha (θ hR (θ hF (θ hsame (θ hkp he))))));have HR:=γ hr;clear hg ha hR hF hsame hr hkp hle he;go_wp2_with fail;refine(Bh b off cap N a N Bs.flatten R [] wr (by simpa using HR.o) ?_ sK A.o.2.1 ?_).mono ?_
   ·have:=A.o;simp only[ν,Γ];omega
   ·have:=A.o;rw[ν];omega
   ·rintro e2 w2 ⟨X',q1,q2,rfl,hr2,hk2⟩
    have F: ∃C,Chop 20 C/\Same L C/\RW w2 b off C/\ε (one b) w w2:=(by obtain⟨p1,p2,p3,p4,p5,p6,p8⟩:=A.o;have q5:=q1.length;exact⟨Bs.flatten++X',⟨Bs,X',rfl,p4,by omega,q2⟩,p5.trans ((Same.refl _).append q1),by simpa using hr2,p6.trans hk2⟩);have FF:=γ F;clear F q1 q2 hr2 hk2;go_wp2;go_loopg [6] N (fun g vs wr=> ∃(bs:Nat)(C:List Rec),vs= .int .i64 (bs:Int)/\N-bs<=g/\0<bs/\bs<2199023255552/\Chop bs C/\Same L C/\RW wr b off C/\ε (one b) w wr)
    case atStart=>obtain⟨C,q1,q2,q3,q4⟩:=FF.o;exact⟨20,C,by first|rfl|go_num,by omega,by omega,by omega,q1,q2,q3,q4⟩
    case round=>
     obtain⟨bs,C,rfl,hg2,hb0,hb1,hch,hsame,hr,hkp⟩:=hrel;by_cases hlt:bs<N
     ·obtain⟨t,ht⟩:=acu (2*bs)
      have e3:IntKind.i64.wrap (2*(bs:Int))=(t:Int):=(by rw[show 2*(bs:Int)=((t:Nat):Int) by omega];exact bI (by omega));have e4:IntKind.i64.wrap ((bs:Int)*2)=(t:Int):=(by rw[show(bs:Int)*2=((t:Nat):Int) by omega];exact bI (by omega));have HC:=γ (θ hch (θ hsame (θ hr hkp)));have HT:=γ (θ ht hg2);clear hch hsame hr hkp ht hg2 FF A HR H;go_wp2
      go_loopg [7,8] N (fun g va vb wr=> ∃(a:Nat)(Ds Bs:List (List Rec))(last:List Rec),va= .int .i64 (a:Int)/\vb= .int .i64 ((a+t:Nat):Int)/\N-a<=g/\Ds.flatten.length=a/\a+(Bs.flatten++last).length=N/\Full t Ds/\Full bs Bs/\last.length<bs/\Sorted last/\
       Same L (Ds.flatten++(Bs.flatten++last))/\RW wr b off (Ds.flatten++(Bs.flatten++last))/\ε (one b) w wr)
      case atStart=>obtain⟨⟨Bs,last,rfl,q1,q2,q3⟩,q4,q5,q6⟩:=HC.o;exact⟨0,[],Bs,last,rfl,by first|rfl|go_num|(congr 1;omega),by omega,rfl,by have:=q4.length;rw[HN.o]at this;omega,fun X hX=>by simp at hX,q1,q2,q3,by simpa using q4,by simpa using q5,q6⟩
      case round=>
       clear HC;obtain⟨a,Ds,Bs,last,rfl,rfl,hga,ha,hR,hD,hB,hl,hsl,hsame,hr,hkp⟩:=hrel;by_cases hle:a+t<=N
       ·obtain⟨X,Y,Bs,rfl⟩: ∃X Y U4,Bs=X::Y::U4:=by
         have ht:=HT.o.1;rw[ν]at hR
         match Bs,hB with
         |[],_=>simp only[flatten_nil,Γ]at hR;omega
         |[X],hB=>have:=(hB X (by simp)).1;simp only[flatten_cons,flatten_nil,append_nil]at hR;omega
         |X::Y::U4,_=>exact⟨X,Y,U4,rfl⟩
        obtain⟨lX,sX⟩:=hB X (by simp);obtain⟨lY,sY⟩:=hB Y (by simp);obtain⟨e,he⟩:=acu (a+t);obtain⟨m,hm⟩:=acu (a+bs);have h1:((e:Nat):Int)<=(N:Int):=(by omega);have e5:IntKind.i64.wrap ((a:Int)+bs)=(m:Int):=(by rw[<-hm];exact bI (by omega));have e6:IntKind.i64.wrap ((e:Int)+t)=((e+t:Nat):Int):=bI (n:=e+t) (by have:=HT.o.1;omega);rw[he];have A:=γ (θ hga (θ ha (θ hR (θ hD (θ hB (θ hl (θ hsl (θ hsame (θ hkp (θ lX (θ lY (θ sX (θ sY (θ he hm))))))))))))));have HR:=γ hr;clear hga ha hR hD hB hl hsl hsame hkp lX lY sX sY he hm hr hle;go_wp2_with fail;refine(Ub b off cap N sK (X.length+Y.length) a m e Ds.flatten X Y (Bs.flatten++last) wr (ξ _) (by simpa using HR.o) ?_ A.o.2.1 ?_ ?_ A.o.2.2.2.2.2.2.2.2.2.2.2.1 A.o.2.2.2.2.2.2.2.2.2.2.2.2.1 ?_ ?_).mono ?_
        ·have:=A.o.2.2.1;have h2:=A.o.2.1;simp only[ν,flatten_cons]at this h2⊢;omega
        ·have:=A.o;omega
        ·have:=A.o;have:=HT.o.1;omega
        ·intro h0;have:=A.o.2.2.2.2.2.2.2.2.2.1;rw[h0]at this;simp only[Γ]at this;omega
        ·intro h0;have:=A.o.2.2.2.2.2.2.2.2.2.2.1;rw[h0]at this;simp only[Γ]at this;omega
        ·rintro e2 w2 ⟨Z,q1,q2,rfl,hr2,hk2⟩
         have F:=γ (θ q1 (θ q2 (θ hr2 (A.o.2.2.2.2.2.2.2.2.1.trans hk2))));clear q1 q2 hr2 hk2;go_wp2;go_roundg (N-e)
         case rel=>
          obtain⟨p1,p2,p3,p4,p5,p6,p7,p8,p9,p10,p11,p12,p13,p14,p15⟩:=A.o;obtain⟨q1,q2,q3,q4⟩:=F.o;have q5:=q1.length;have q6:=HT.o.1;simp only[ν,flatten_cons]at p3 q5;refine⟨e,Ds++[Z],Bs,last,rfl,by first|rfl|go_num,ξ _,?_,?_,p4.snoc (by omega) q2,fun W hW=>p5 W (by simp[hW]),p6,p7,?_,by rw[sN];simpa using q3,q4⟩
          ·rw[sN,ν];omega
          ·rw[ν];omega
          ·rw[sN]
           refine p8.trans ?_;have:=((Same.refl Ds.flatten).append q1).append (Same.refl (Bs.flatten++last));simpa using this
         case measure=>have h3:=A.o;have h4:=HT.o.1;omega
       ·obtain⟨e,he⟩:=acu (a+t)
        obtain⟨m,hm⟩:=acu (a+bs);have h1: ¬((e:Nat):Int)<=(N:Int):=(by omega);have e5:IntKind.i64.wrap ((a:Int)+bs)=(m:Int):=(by rw[<-hm];exact bI (by omega));rw[he];have ht:=HT.o.1;by_cases hmN:m<N
        ·obtain⟨X,rfl,lX,sX⟩: ∃X,Bs=[X]/\X.length=bs/\Sorted X:=by
          rw[ν]at hR
          match Bs,hB with
          |[],_=>simp only[flatten_nil,Γ]at hR;omega
          |[X],hB=>exact⟨X,rfl,hB X (by simp)⟩
          |X::Y::U4,hB=>have h2:=(hB X (by simp)).1;have h3:=(hB Y (by simp)).1;simp only[flatten_cons,ν]at hR;omega
         have lL:0<last.length:=(by simp only[ν,flatten_cons,flatten_nil,Γ]at hR;omega);have A:=γ (θ ha (θ hR (θ hD (θ hl (θ hsl (θ hsame (θ hkp (θ lX (θ sX (θ lL (θ hm ht)))))))))));have HR:=γ hr;clear hga ha hR hD hB hl hsl hsame hkp lX sX he hm hr hle lL ht;go_wp2_with fail;refine(Ub b off cap N sK (X.length+last.length) a m N Ds.flatten X last [] wr (ξ _) (by simpa using HR.o) ?_ A.o.1 ?_ ?_ A.o.2.2.2.2.2.2.2.2.1 A.o.2.2.2.2.1 ?_ ?_).mono ?_
         ·have:=A.o.2.1;have h2:=A.o.1;simp only[ν,flatten_cons,flatten_nil,Γ]at this h2⊢;omega
         ·have:=A.o;omega
         ·have:=A.o;simp only[ν,flatten_cons,flatten_nil,Γ]at this;omega
         ·intro h0;have:=A.o.2.2.2.2.2.2.2.1;rw[h0]at this;simp only[Γ]at this;omega
         ·intro h0;have:=A.o.2.2.2.2.2.2.2.2.2.1;rw[h0]at this;simp only[Γ]at this;omega
         ·rintro e2 w2 ⟨Z,q1,q2,rfl,hr2,hk2⟩
          have F: ∃C,Chop t C/\Same L C/\RW w2 b off C/\ε (one b) w w2:=(by obtain⟨p1,p2,p3,p4,p5,p6,p7,p8,p9,p10,p11,p12⟩:=A.o;have q5:=q1.length;rw[ν]at q5;refine⟨Ds.flatten++Z,⟨Ds,Z,rfl,p3,by omega,q2⟩,p6.trans ?_,by simpa using hr2,p7.trans hk2⟩;have:=(Same.refl Ds.flatten).append q1;simpa using this);have FF:=γ F;clear F q1 q2 hr2 hk2;go_wp2;go_roundg (N-t)
          case rel=>obtain⟨C,q1,q2,q3,q4⟩:=FF.o;have:=HT.o.1;exact⟨t,C,rfl,ξ _,by omega,by omega,q1,q2,q3,q4⟩
          case measure=>have:=HT.o;omega
        ·have F: ∃C,Chop t C/\Same L C/\RW wr b off C/\ε (one b) w wr:=by
          refine⟨_,⟨Ds,Bs.flatten++last,rfl,hD,by rw[ν]at hR⊢;omega,?_⟩,hsame,hr,hkp⟩;rw[ν]at hR
          match Bs,hB with
          |[],_=>simpa using hsl
          |X::U4,hB=>have h2:=hB X (by simp);simp only[flatten_cons,ν]at hR;have e7:U4.flatten=[]:=τ (by omega);have e8:last=[]:=τ (by omega);rw[flatten_cons,e7,e8];simpa using h2.2
         have FF:=γ F;have h2: ¬(m:Int)<(N:Int):=(by omega);clear F hga ha hR hD hB hl hsl hsame hkp he hm hr hle ht;go_wp2;go_roundg (N-t)
         case rel=>obtain⟨C,q1,q2,q3,q4⟩:=FF.o;have:=HT.o.1;exact⟨t,C,rfl,ξ _,by omega,by omega,q1,q2,q3,q4⟩
         case measure=>have:=HT.o;omega
     ·have F:Moves w b off (aO L) (.returned (.tuple #[])) wr:=by
       have h2:=hsame.length;rw[HN.o]at h2;have h3:=Bc (hch.done (by omega)) hsame;exact⟨rfl,by rw[<-h3];exact hr,hkp⟩
      have FF2:=γ F;clear F hch hsame hr hkp hg2;go_wp2_with fail
      go_end0
      exact FF2.o
end
section
open Go Go.RowKit Go.Lib
attribute [local irreducible] dI eX
theorem Tryz.info68: ∃i z,Tryz.prog.info? 68=some i/\i.zero=some z/\i.size=3/\i.bytes=24/\z.cells.size=3:=by have h:(prog.info? 68).map (fun i=>(i.zero,i.size,i.bytes))=some (some (.agg #[.int .i64 0,.int .i64 0,.int .i64 0]),3,24):=(by kernel_rfl);obtain⟨i,hi,h⟩:=acg.1 h;simp only[Prod.mk.injEq]at h;exact⟨i,_,hi,h.1,h.2.1,h.2.2,by rfl⟩
theorem abG (n:Nat)(hn:n<=1099511627776)(w:World):Calls prog 144 #[.slice none 0 0,.int .i64 n] w fun e w'=> ∃v',e= .returned v'/\w'.ownsRow w.heap.size 68 3 v' 0 []/\ε η w w':=by
 by_cases h0:n=0
 ·subst h0
  go_enter func144,ntmps144;go_wp2;go_ret;exact⟨_,rfl,⟨rfl,.inl ⟨rfl,rfl⟩⟩,ε.refl _ _⟩
 ·obtain⟨i0,z,hi0,hz0,hs0,hb0,hzc⟩:=Tryz.info68
  have h1: ¬((n:Int)<0):=(by omega);have h4:(n:Int)>0:=(by omega);have hold:(Builtin.firstCells i0.size 0 (.slice none 0 0)).run prog w.drew= .ok #[] w.drew:=run_firstCells_none w.drew i0.size 0 0 0;have hrz: ∀ty,(Builtin.append_ #[60,3] ty #[.slice none 0 0,.int .i64 (n:Int)]).run prog w=
   .ok (.slice (some ⟨w.heap.size,0,none⟩) n (grownCap w n 0 68)) (w.drew.alloc (.cells (#[]++Builtin.zeroCells z.cells n++Builtin.zeroCells z.cells (grownCap w n 0 68-n)) 68)):=fun ty=>by
   have h:=Lib.run_append_grow_zeros w 60 3 ty 68 i0 z .i64 .i64 underlying60 underlying3 hi0 hz0 none 0 0 [] hold n (by omega) (by omega) (by omega) (by omega)
    (by rw[hb0];omega) (by rw[Nat.zero_add];exact growslice_fits (by omega) (by rw[hb0];omega))
   rw[Nat.zero_add]at h;exact h
  have hGn:n<=grownCap w n 0 68:=grownCap_ge w _ _ _;have hGm:=grownCap_le_maxLen w n 0 68 (by unfold maxLen;omega);have hsz:(Builtin.zeroCells z.cells n++Builtin.zeroCells z.cells (grownCap w n 0 68-n)).size=grownCap w n 0 68*3:=by
   rw[Array.size_append,size_zeroCells,size_zeroCells,hzc,<-Nat.add_mul]
   congr 1;omega
  obtain⟨G,hG⟩: ∃G,G=grownCap w n 0 68:=⟨_,rfl⟩;rw[<-hG]at hrz hGn hGm hsz;obtain⟨zc,hzz⟩: ∃zc,zc=Builtin.zeroCells z.cells n++Builtin.zeroCells z.cells (G-n):=⟨_,rfl⟩;rw[Array.empty_append,<-hzz]at hrz;rw[<-hzz]at hsz;have hG63:G<=9223372036854775807:=(by unfold maxLen at hGm;omega);have F: ∀(cs:Array Value),cs.size=G*3->(w.alloc (.cells cs 68)).drew.ownsRow w.heap.size 68 3 (.slice (some ⟨w.heap.size,0,none⟩) 0 G) 0 []/\ε η w (w.alloc (.cells cs 68)).drew:=(by intro cs hcs;exact⟨⟨by simp,.inr ⟨w.heap.size,G,cs,rfl,ξ _,by show(w.heap.push _)[w.heap.size]?=_;simp,Nat.zero_le _,hGm,hcs,by simp⟩⟩,(δ.alloc _).drew⟩);have FF:=γ (F _ hsz);clear hold hG F hsz hs0 hb0 hzc hz0 hi0 hGm hzz;go_enter func144,ntmps144;go_wp2_with (at_builtin;refine Lib.wpList_append_run _ rfl _ _ _ _ rfl _ _ rfl rfl _ _ (hrz _) ?_);all_goals(go_ret;exact⟨_,rfl,FF.o⟩)
theorem aQ (L:List Rec):(recs L).length=L.length*3:=by
 unfold recs
 induction L with
 |nil=>rfl
 |cons x L ih=>simp only[flatMap_cons,ν,φ,Γ];omega
theorem qZ (L M:List Rec):recs (L++M)=recs L++recs M:=by unfold recs;rw[flatMap_append]
theorem rQ (L:List Rec): ∀x∈recs L,x.oneCell'=true:=by
 intro x hx;unfold recs at hx;obtain⟨r,_,hr⟩:=mem_flatMap.1 hx;simp at hr
 rcases hr with rfl|rfl|rfl<;>rfl
theorem Reads.len {w:World}{v:Value}{L:List Rec}(h:Reads w 3 v (recs L)): ∃a cap,v= .slice a L.length cap/\L.length<=cap/\cap<=maxLen:=by obtain⟨a,n,cap,rfl,h1,h2,h3,_⟩:=h;rw[aQ]at h3;obtain rfl:L.length=n:=(by omega);exact⟨a,cap,rfl,h1,h2⟩
theorem aY {w:World}{base e size n:Nat}{v:Value}{xs:List Value}(h:w.ownsRow base e size v n xs){b:Nat}(hb:v.ownBlock=some b):base<=b/\b<w.heap.size:=by
 rcases h.2 with⟨rfl,_⟩|⟨g,cap,cur,rfl,h1,h2,_⟩
 ·cases hb
 ·cases hb;exact⟨h1,(κ.1 h2).1⟩
def oP (w:World)(v:Value)(LL:List (List Rec)):Prop:= ∃vs:List Value,vs.length=LL.length/\Reads w 1 v vs/\ ∀(i:Nat)(u:Value)(L:List Rec),vs[i]?=some u->LL[i]?=some L->Reads w 3 u (recs L)
theorem oP.pure {w w':World}{v:Value}{LL:List (List Rec)}(h:oP w v LL)(hk:ε η w w'):oP w' v LL:=by obtain⟨vs,h1,h2,h3⟩:=h;exact⟨vs,h1,h2.pure hk,fun i u L hu hL=>(h3 i u L hu hL).pure hk⟩
theorem lH {LL:List (List Rec)}{k:Nat}{L:List Rec}(h:LL[k]?=some L):(LL.take (k+1)).flatten=(LL.take k).flatten++L:=by rw[ψ,h];simp
theorem qE {LL:List (List Rec)}(k:Nat):(LL.take k).flatten.length<=LL.flatten.length:=by
 conv=>rhs;rw[<-take_append_drop k LL]
 rw[flatten_append,ν];omega
def ab3 (w:World)(L:List Rec)(e:Ending)(w':World):Prop:= ∃v',e= .returned v'/\w'.ownsRow w.heap.size 68 3 v' L.length (recs L)/\ε η w w'
theorem WR (v:Value)(LL:List (List Rec))(w:World)(h:oP w v LL)(hb:LL.flatten.length<=1073741824):Calls prog 115 #[v] w (ab3 w LL.flatten):=by
 obtain⟨i0,z0,hi,hz,hs0,hb0,hzc⟩:=Tryz.info68;obtain⟨vs,hlen,⟨a,n,cap,rfl,hn,hc,hl,hcell⟩,hvs⟩:=h;rw[Nat.mul_one]at hl;obtain rfl:LL.length=n:=(by omega);unfold maxLen at hc;have HV:=γ (θ hlen (θ hcell hvs));have HB:=γ hb;clear hlen hcell hvs hb hl;go_enter func115,ntmps115;go_wp2;go_loopg [3,11] LL.length (fun g vt vi wr=> ∃k:Nat,vt= .int .i64 (((LL.take k).flatten.length:Nat):Int)/\vi= .int .i64 (k:Int)/\k<=LL.length/\LL.length-k<=g/\ε η w wr)
 case atStart=>exact⟨0,by simp,rfl,by omega,by omega,ε.refl _ _⟩
 case round=>
  obtain⟨k,rfl,rfl,hk,hg,hkp⟩:=hrel;have hle:= @qE LL k;obtain⟨t,ht⟩:=acu ((LL.take k).flatten.length);rw[ht]at hle⊢;have HT:=γ (θ ht hg);clear ht hg;by_cases hlt:k<LL.length
  ·obtain⟨u,hu⟩: ∃u,vs[k]?=some u:=⟨_,ι (by rw[HV.o.1];exact hlt)⟩
   obtain⟨L,hL⟩: ∃L,LL[k]?=some L:=⟨_,ι hlt⟩;have hr:=(HV.o.2.2 k u L hu hL).pure hkp;obtain⟨ua,uc,rfl,hu1,hu2⟩:=hr.len;unfold maxLen at hu2;obtain⟨b0,off,rfl,hcl⟩:=HV.o.2.1.resolve_left (fun h=>by rw[h]at hu;cases hu);have q0:=hkp.cell (p:=⟨b0,off+k,none⟩) id (hcl k _ hu);have hle2:= @qE LL (k+1);rw[lH hL,ν,HT.o.1]at hle2;have hb1:=HB.o;have e1:IntKind.i64.wrap ((t:Int)+(L.length:Int))=((t+L.length:Nat):Int):=bI (n:=t+L.length) (by omega);obtain⟨t2,ht2⟩:=acu (t+L.length);rw[ht2]at e1;have h0: ¬((t2:Int)<0):=(by omega);have F:acr ((LL.take (k+1)).flatten.length=t2):=(by rw[lH hL,ν,HT.o.1];exact ht2);clear hr hu hL hcl hle hle2 ht2 hb1;go_wp2;go_roundg (LL.length-(k+1))
   case rel=>exact⟨k+1,by rw[F.o],by go_num,by omega,ξ _,hkp⟩
   case measure=>have:=HT.o.2;omega
  ·have hkk:k=LL.length:=by omega
   have hb1:=HB.o;have hle3:t<=1099511627776:=(by omega);have G:=fun W=>abG t hle3 W;clear hkk hb1 hle;go_wp2_with fail;refine(G wr).mono ?_;rintro e w2 ⟨v2,rfl,g1,g2⟩;clear G;have G1:=γ (θ (jV g1 hkp.size) (hkp.trans g2));clear g1 g2;go_wp2;go_loopg [6,27] LL.length (fun g vo vi wr=> ∃k:Nat,vi= .int .i64 (k:Int)/\k<=LL.length/\LL.length-k<=g/\wr.ownsRow w.heap.size 68 3 vo (LL.take k).flatten.length (recs (LL.take k).flatten)/\ε η w wr)
   case atStart=>exact⟨0,rfl,by omega,by omega,G1.o.1,G1.o.2⟩
   case round=>
    clear hkp;obtain⟨k,rfl,hk,hg,ho,hkp⟩:=hrel;by_cases hlt:k<LL.length
    ·obtain⟨u,hu⟩: ∃u,vs[k]?=some u:=⟨_,ι (by rw[HV.o.1];exact hlt)⟩
     obtain⟨L,hL⟩: ∃L,LL[k]?=some L:=⟨_,ι hlt⟩;have hr:=(HV.o.2.2 k u L hu hL).pure hkp;obtain⟨b0,off,rfl,hcl⟩:=HV.o.2.1.resolve_left (fun h=>by rw[h]at hu;cases hu);have q0:=hkp.cell (p:=⟨b0,off+k,none⟩) id (hcl k _ hu);have hle2:= @qE LL (k+1);rw[lH hL,ν]at hle2;have hrl:=aQ L;have B1:acr (((LL.take k).flatten.length*3+(recs L).length)*24<=140737488355328):=(by have:=HB.o;show _<=_;rw[hrl];omega);have B2:acr ((LL.take k).flatten.length*3+(recs L).length<=maxLen):=(by have:=HB.o;show _<=_;rw[hrl];unfold maxLen;omega);have HR:=γ hr;have HO:=γ ho;have HLk:=γ hL;have H1:=γ (rQ L);have B3:=γ hkp.size;have HK:=γ hg;obtain⟨oa,oc,rfl⟩:=au ho;obtain⟨ua,uc,rfl,hu1,hu2⟩:=hr.len;clear hr hu hL hcl hle2 hrl ho hg hu1 hu2;go_wp2_with (at_builtin;(refine pJ rfl (.tmp 31) (.tmp 32) 60 rfl w.heap.size 68 i0 z0 3 24 underlying60 hi hz hs0 hb0 hzc (by decide) _ _ _ rfl HO.o _ (recs L) rfl HR.o H1.o B1.o B2.o B3.o ?_);intro v' n' w' g1 g2 g3 g4);obtain⟨va,vc,rfl⟩:=au g1;have F:acr (w'.ownsRow w.heap.size 68 3 (.slice va n' vc) (LL.take (k+1)).flatten.length (recs (LL.take (k+1)).flatten)/\ε η w w'):=by
      have e1:(LL.take (k+1)).flatten=(LL.take k).flatten++L:=lH HLk.o;rw[aQ]at g2;have e2:n'=(LL.take (k+1)).flatten.length:=(by rw[e1,ν];omega);refine⟨?_,?_⟩
      ·rw[e2]at g1⊢;rw[e1,qZ];rw[e1]at g1;exact g1
      ·refine hkp.new (ε.grown (S:=fun j=>w.heap.size<=j) g3 (fun j hj _=>?_)) (fun j hj e=>by omega)
       exact(aY HO.o hj).1
     clear g1 g2 g3 g4;go_wp2;go_roundg (LL.length-(k+1))
     case rel=>exact⟨k+1,by go_num,by omega,ξ _,F.o.1,F.o.2⟩
     case measure=>have:=HK.o;omega
    ·have hkk:k=LL.length:=by omega
     subst hkk;rw[χ (ξ _)]at ho;obtain⟨oa,oc,rfl⟩:=au ho;have HO:=γ ho;clear ho;go_wp2;go_ret;exact⟨_,rfl,HO.o,hkp⟩
theorem Fh {L:List Rec}: ∀{i:Nat}{r:Rec},L[i]?=some r->(recs L)[i*3]?=some (.int .i64 r.pos)/\(recs L)[i*3+1]?=some (.int .i64 r.key)/\(recs L)[i*3+2]?=some (.int .i64 r.val):=by
 induction L with
 |nil=>intro i r h;simp at h
 |cons x L ih=>
  intro i r h;have e:recs (x::L)= .int .i64 x.pos:: .int .i64 x.key:: .int .i64 x.val::recs L:=rfl
  cases i with
  |zero=>rw[aap]at h;cases h;rw[e];exact⟨rfl,rfl,rfl⟩
  |succ i=>rw[aat]at h;obtain⟨h1,h2,h3⟩:=ih h;rw[e,show(i+1)*3=i*3+3 by omega];exact⟨h1,h2,h3⟩
theorem aaU {L:List Rec}: ∀{j:Nat}{x:Value},(recs L)[j]?=some x-> ∃i r,L[i]?=some r/\(j=i*3/\x= .int .i64 r.pos\/j=i*3+1/\x= .int .i64 r.key\/j=i*3+2/\x= .int .i64 r.val):=by
 induction L with
 |nil=>intro j x h;simp[recs]at h
 |cons y L ih=>
  intro j x h;have e:recs (y::L)= .int .i64 y.pos:: .int .i64 y.key:: .int .i64 y.val::recs L:=rfl;rw[e]at h
  match j,h with
  |0,h=>exact⟨0,y,rfl,.inl ⟨rfl,by simpa using h.symm⟩⟩
  |1,h=>exact⟨0,y,rfl,.inr (.inl ⟨rfl,by simpa using h.symm⟩)⟩
  |2,h=>exact⟨0,y,rfl,.inr (.inr ⟨rfl,by simpa using h.symm⟩)⟩
  |j+3,h=>
   obtain⟨i,r,h1,h2⟩:=ih (j:=j) (x:=x) (by simpa using h);refine⟨i+1,r,by simpa using h1,?_⟩
   rcases h2 with⟨h2,h3⟩|⟨h2,h3⟩|⟨h2,h3⟩
   ·exact .inl ⟨by omega,h3⟩
   ·exact .inr (.inl ⟨by omega,h3⟩)
   ·exact .inr (.inr ⟨by omega,h3⟩)
theorem RW.aN {w:World}{base e g n cap:Nat}{L:List Rec}(h:w.ownsRow base e 3 (.slice (some ⟨g,0,none⟩) n cap) n (Go.Proofs.YtglbkodmmogomaaGreatDoor.recs L)):RW w g 0 L:=by
 obtain⟨h1,⟨h2,_⟩|⟨g',cap',cur,h2,hb,hg,hn,hc,hs,ht⟩⟩:=h
 ·cases h2
 ·injection h2 with h2 _ _
  injection h2 with h2
  injection h2 with h2 _ _
  subst h2;rw[aQ]at h1;have get: ∀j x,(Go.Proofs.YtglbkodmmogomaaGreatDoor.recs L)[j]?=some x->w.cell? ⟨g,j,none⟩=some x:=by
   intro j x hx;rw[cell_of_row w g j cur e (0,0) hg];rw[<-ht,aaA]at hx;split at hx
   ·simpa using hx
   ·cases hx
  refine⟨fun i r hr=>?_,fun i _=>⟨frozen_of_row w g _ cur e hg,frozen_of_row w g _ cur e hg,frozen_of_row w g _ cur e hg⟩⟩;obtain⟨q0,q1,q2⟩:=Fh hr;rw[Nat.zero_add];exact⟨get _ _ q0,get _ _ q1,get _ _ q2⟩
theorem RW.reads {w:World}{b off cap:Nat}{L:List Rec}(h:RW w b off L)(h1:L.length<=cap)(h2:cap<=maxLen):Reads w 3 (.slice (some ⟨b,off,none⟩) L.length cap) (Go.Proofs.YtglbkodmmogomaaGreatDoor.recs L):=by
 refine⟨_,_,_,rfl,h1,h2,aQ L,.inr ⟨b,off,rfl,fun j x hx=>?_⟩⟩;obtain⟨i,r,hr,⟨rfl,rfl⟩|⟨rfl,rfl⟩|⟨rfl,rfl⟩⟩:=aaU hx
 ·exact(h.recs i r hr).1
 ·exact(h.recs i r hr).2.1
 ·exact(h.recs i r hr).2.2
theorem Reads.recAt {w:World}{v:Value}{L:List Rec}(h:Reads w 3 v (recs L)): ∃a cap,v= .slice a L.length cap/\L.length<=cap/\cap<=maxLen/\(L=[]\/ ∃b off,a=some ⟨b,off,none⟩/\ ∀i r,L[i]?=some r->uy w b (off+i*3) r):=by
 obtain⟨a,cap,hv,h1,h2⟩:=h.len;refine⟨a,cap,hv,h1,h2,?_⟩;obtain⟨a',n,cap',hv',_,_,h3,h4⟩:=h;rw[hv]at hv'
 injection hv' with e1 e2 e3
 subst e1
 rcases h4 with h4|⟨b,off,hb,h4⟩
 ·left
  have:=congrArg length h4;rw[aQ]at this;exact τ (by simp only[Γ]at this;omega)
 ·right
  refine⟨b,off,hb,fun i r hr=>?_⟩;obtain⟨q0,q1,q2⟩:=Fh hr;exact⟨h4 _ _ q0,by have:=h4 _ _ q1;rwa[<-Nat.add_assoc]at this,by have:=h4 _ _ q2;rwa[<-Nat.add_assoc]at this⟩
theorem KZ (w:World):Calls prog 176 #[.slice none 0 0,.int .i64 0,.int .i64 0,.func (.func 117) #[] #[]] w (Gives w (.tuple #[])):=by
 go_enter func176,ntmps176;go_wp2
 go_loopw [8] (fun i wr=>i= .int .i64 1/\wr=w) (fun _ _=>0)
 case atStart=>exact⟨rfl,rfl⟩
 case round=>
  obtain⟨rfl,rfl⟩:=hrel;go_wp2_with fail
  go_end0
  exact⟨rfl,ε.refl _ _⟩
theorem Vk (w:World):Calls prog 145 #[.slice none 0 0,.int .i64 0,.func (.func 117) #[] #[]] w (Gives w (.tuple #[])):=by
 go_enter func145,ntmps145;go_wp2
 go_loopw [7,8] (fun i j wr=>i= .int .i64 0/\j= .int .i64 20/\wr=w) (fun _ _ _=>0)
 case atStart=>exact⟨rfl,rfl,rfl⟩
 case round=>
  obtain⟨rfl,rfl,rfl⟩:=hrel;go_wp2_with fail;refine(KZ _).mono ?_;rintro e w2 ⟨rfl,k2⟩;go_wp2_with fail
  go_loopw [6] (fun i wr=>i= .int .i64 20/\wr=w2) (fun _ _=>0)
  case atStart=>exact⟨rfl,rfl⟩
  case round=>
   obtain⟨rfl,rfl⟩:=hrel;go_wp2_with fail
   go_end0
   exact⟨rfl,k2⟩
theorem IC (w:World):Calls prog 116 #[.slice none 0 0,.func (.func 117) #[] #[]] w (Gives w (.tuple #[])):=by
 go_enter func116,ntmps116;go_wp2_with fail;refine(Vk _).mono ?_;rintro e w2 ⟨rfl,k2⟩;go_wp2_with fail
 go_end0
 exact⟨rfl,k2⟩
theorem IE (b off cap N:Nat)(sK:N<1099511627776)(L:List Rec)(w:World)(h:RW w b off L)(hN:L.length=N):
 Calls prog 116 #[.slice (some ⟨b,off,none⟩) N cap,.func (.func 117) #[] #[]] w (Moves w b off (aO L)):=by
 have H:=γ (Vl b off cap N sK L w h hN);clear h hN;go_enter func116,ntmps116;go_wp2_with fail;refine H.o.mono ?_;rintro e w2 ⟨rfl,k2⟩;have K2:=γ k2;clear k2;go_wp2_with fail
 go_end0
 exact⟨rfl,K2.o⟩
def Jg (w:World)(L:List Rec)(e:Ending)(w':World):Prop:= ∃v,e= .returned v/\Reads w' 3 v (recs L)/\(∀b,Value.blk v=some b->w.heap.size<=b)/\ε η w w'
theorem merge_any (v:Value)(LL:List (List Rec))(w:World)(h:oP w v LL)(hb:LL.flatten.length<=1073741824):Calls prog 70 #[v] w (Jg w (aO LL.flatten)):=by
 have hc:=WR v LL w h hb;have hva: ∃a n cap,v= .slice a n cap:=(by obtain⟨_,_,⟨a,n,cap,rfl,_⟩,_⟩:=h;exact⟨a,n,cap,rfl⟩);obtain⟨a,n,cap,rfl⟩:=hva;clear h;obtain⟨K,hK⟩:=acu LL.flatten;rw[hK]at hc hb⊢;clear hK;have HB:=γ hb;clear hb;go_enter func70,ntmps70;go_wp2_with fail;refine hc.mono ?_;rintro e w1 ⟨v1,rfl,g1,g2⟩;clear hc;have hf: ∃g cp,(v1= .slice none 0 0/\K=[])\/(v1= .slice (some ⟨g,0,none⟩) K.length cp/\w.heap.size<=g/\RW w1 g 0 K/\K.length<=cp/\cp<=maxLen):=by
  rcases id g1 with⟨h1,⟨h2,h3⟩|⟨g,cp,cur,rfl,hb,hg,hn,hc,hs,ht⟩⟩
  ·exact⟨0,0,.inl ⟨h2,τ h3⟩⟩
  ·exact⟨g,cp,.inr ⟨rfl,hb,.aN g1,hn,hc⟩⟩
 obtain⟨g,cp,⟨rfl,hnil⟩|⟨rfl,hg,hrw,hn,hc⟩⟩:=hf
 ·have F: ∀w2,ε η w1 w2->Jg w (aO K) (.returned (.slice none 0 0)) w2:=fun w2 k2=>
   ⟨_,rfl,by rw[hnil,show recs (aO [])=[]from by simp[aO,recs]];exact Reads.nil _ _,fun b hb=>(by cases hb),g2.trans k2⟩
  have FF:=γ F;clear F hnil g1 g2;go_wp2_with fail;refine(IC _).mono ?_;rintro e w2 ⟨rfl,k2⟩;go_wp2;go_ret;exact FF.o _ k2
 ·have HS:=γ (IE g 0 cp K.length (by have:=HB.o;omega) K w1 hrw rfl)
  have F: ∀w2,RW w2 g 0 (aO K)->ε (one g) w1 w2->Jg w (aO K) (.returned (.slice (some ⟨g,0,none⟩) K.length cp)) w2:=fun w2 r2 k2=>by
   refine⟨_,rfl,?_,fun b hb=>?_,g2.new k2 (fun i hi e=>by unfold one at e;omega)⟩
   ·have:=r2.reads (by rw[jq];exact hn) hc
    rwa[jq]at this
   ·have e1:Value.blk (.slice (some ⟨g,0,none⟩) K.length cp)=if K.length=0 then none else some g:=rfl
    rw[e1]at hb;split at hb
    ·cases hb
    ·cases hb;exact hg
  have FF:=γ F;clear F g1 g2 hg hrw hn hc;go_wp2_with fail;refine HS.o.mono ?_;rintro e w2 ⟨rfl,r2,k2⟩;have F2:=γ (FF.o w2 r2 k2);clear r2 k2;go_wp2;go_ret;exact F2.o
end
