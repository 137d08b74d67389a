/- The document's Merge and Gets. -/
import Derived.Test.YtglbkodmmogomaaGreatDoorI38
set_option linter.unusedVariables false
set_option linter.unusedSimpArgs false
set_option maxHeartbeats 4000000
set_option maxRecDepth 100000
namespace Go.Proofs.YtglbkodmmogomaaGreatDoor
open Go Go.RowKit
attribute [local irreducible] cZ
theorem FN (v:Value)(L:List Rec)(w:World)(h:Reads w 3 v (recs L))(hb:L.length<=1000000):Calls Tryz.prog 73 #[v] w (lF w (aO L)):=by
 obtain⟨pa,iQ,rfl,h1,h2,h3⟩:=h.recAt;unfold maxLen at h2;have H3:=γ h3;clear h3 h;go_enter Tryz.func73,Tryz.ntmps73;go_wp2;go_loopg [3,4] L.length (fun g vo vi wr=> ∃i:Nat,i<=L.length/\vi= .int .i64 (i:Int)/\L.length-i<=g/\wr.ownsRow w.heap.size 68 3 vo i (recs (aO (L.take i)))/\ε η w wr)
 case atStart=>exact⟨0,by omega,rfl,by omega,(by simpa[aO,recs]using World.ownsRow_nil _ _ _ _),ε.refl _ _⟩
 case round=>
  obtain⟨i,hil,rfl,hg,hown,hkp⟩:=hrel;obtain⟨wo,rfl⟩: ∃wo:World,wo=wr:=⟨_,rfl⟩;obtain⟨oa,oc,rfl⟩:=au hown;by_cases hlt:i<L.length
  ·obtain⟨r,hr⟩: ∃r,L[i]?=some r:=⟨_,ι hlt⟩
   obtain⟨lb,lo,rfl,hlc⟩:=H3.o.resolve_left (fun h=>by rw[h]at hr;cases hr);obtain⟨x0,x1,x2⟩:=(hlc i r hr).pure hkp;have hlen:(aO (L.take i)).length=i:=(by rw[iY,υ];omega);have A:=γ (θ hg (θ (θ hlen hown) hkp));have HRR:=γ (θ hr hlc);clear hg hown hkp hlc hlen hr H3;go_wp2_with fail;go_loopg [5] i (fun g vk wx=> ∃k:Nat,k<=i/\vk= .int .i64 (k:Int)/\k<=g/\(∀x∈(aO (L.take i)).drop k,r.pos<x.pos)/\ε η wo wx)
   case atStart=>exact⟨i,ξ _,rfl,ξ _,(fun x hx=>by rw[List.drop_of_length_le (by rw[A.o.2.1.1];exact ξ _)]at hx;cases hx),ε.refl _ _⟩
   case round=>
    obtain⟨k,hki,rfl,hgk,hdrop,hkx⟩:=hrel;obtain⟨wx,rfl⟩: ∃wx:World,wx=wr:=⟨_,rfl⟩;have x0:=hkx.cell (p:=⟨lb,lo+i*3,none⟩) id x0;have x1:=hkx.cell (p:=⟨lb,lo+i*3+1,none⟩) id x1;have x2:=hkx.cell (p:=⟨lb,lo+i*3+2,none⟩) id x2;by_cases hk0:k=0
    ·have hkd:decide (0<k)=false:=decide_eq_false (by omega)
     have hkd2:decide (0<(k:Int))=false:=decide_eq_false (by omega);have htake: ∀x∈(aO (L.take i)).take k,x.pos<=r.pos:=(by rw[hk0];intro x hx;cases hx);have D:=γ (θ hdrop (θ htake hkx));clear hdrop htake hkx hk0;go_wp2_with fail;refine ak [0,1,2,3,4,5,6,7,8,9,10,11,12,13,14,15] (fun W=>ε η wx W) (by kernel_rfl) (by kernel_rfl) rfl δ.drew ?_;simp only[abU];iterate 16 (first|(apply bf rfl;go_frame)|(apply aj rfl rfl;(intro W hW;go_simp;rfl);go_frame))
     refine aG (fun _=>δ.drew) ?_;obtain⟨hdrop,htake,hkx⟩:=D.o;obtain⟨wy,hwy⟩: ∃wy,wx.drew=wy:=⟨_,rfl⟩;rw[hwy];have ky:ε η wx wy:=(by rw[<-hwy];exact δ.drew);have Pq:ε η w wy:=A.o.2.2.trans (hkx.trans ky);have hown:=A.o.2.1.2;have hLi:=A.o.2.1.1;have hLt:=List.length_take_le' k (aO (L.take i));have hLd:((aO (L.take i)).drop k).length<=(aO (L.take i)).length:=(by rw[List.length_drop];omega);obtain⟨vo2,n2,w2,p1,p2,p3,p4,p5⟩:=oL (base:=wy.heap.size) (w:=wy) (v:= .slice none 0 0) (n:=0) (L:=[]) (M:=(aO (L.take i)).take k) (World.ownsRow_nil _ _ _ _) (CY (Reads.aN ((hkx.trans ky).owns hown (fun _ _ h=>h))) hki).2 (ξ _) (by rw[Γ];omega);have e1:=(CY (Reads.aN ((hkx.trans ky).owns hown (fun _ _ h=>h))) hki).1;obtain⟨yg,vc2,rfl⟩:=au p2;have k2:ε η wy w2:=ε.TA p4 p5;obtain⟨Bh,xw⟩:=acf (w2.alloc (.cells #[.int .i64 r.pos,.int .i64 r.key,.int .i64 r.val] 68));have Gj:ε η w2 Bh:=(by rw[<-xw];exact δ.alloc _);have rl:Reads Bh 3 (.slice (some ⟨w2.heap.size,0,none⟩) 1 1) (recs [r]):=(by rw[<-xw];exact Reads.lit w2 (recs [r]) 68 3 1 rfl (by unfold maxLen;omega));obtain⟨vo3,n3,w3,s1,s2,s3,s4,s5⟩:=oL (base:=wy.heap.size) (w:=Bh) (M:=[r]) (Gj.owns p2 (fun _ _ h=>h)) rl (ω k2.size Gj.size) (by rw[List.nil_append,List.length_singleton];omega);obtain⟨va3,vc3,rfl⟩:=au s2;have k3:ε η wy w3:=(k2.trans Gj).new (ε.grown (S:=fun j=>wy.heap.size<=j) s4 (fun j hj _=>(aU p2 hj).1)) (fun j hj hs=>by omega);have e2:=(Ti (Reads.aN (((hkx.trans ky).trans k3).owns hown (fun _ _ h=>h))) hki);obtain⟨vd,e2a,e2b⟩:=e2;obtain⟨vo4,n4,w4,t1,t2,t3,t4,t5⟩:=oL (base:=wy.heap.size) (w:=w3) (M:=(aO (L.take i)).drop k) s2 e2b k3.size (by rw[List.nil_append,ν,List.length_singleton];omega);obtain⟨va4,vc4,rfl⟩:=au t2;have k4:ε η wy w4:=k3.new (ε.grown (S:=fun j=>wy.heap.size<=j) t4 (fun j hj _=>(aU s2 hj).1)) (fun j hj hs=>by omega);have hnew:([]++(aO (L.take i)).take k++[r]++(aO (L.take i)).drop k)=aO (L.take (i+1)):=Gm HRR.o.1 hdrop htake;rw[hnew]at t2;have hn4:n4=i+1:=(by have h1:=t2.1;rw[aQ,iY,υ]at h1;omega);subst hn4;have Q:=γ (θ p1 (θ s1 (θ t1 (θ (jH t2 Pq.size) (Pq.trans k4)))));obtain⟨la,ln,lc,hvd⟩: ∃la ln lc,vd= .slice la ln lc:=(by obtain⟨a,n,c,e,_⟩:=e2b;exact⟨a,n,c,e⟩);subst hvd;have y0:=(k2.cell (p:=⟨lb,lo+i*3,none⟩) id (ky.cell id x0));have y1:=(k2.cell (p:=⟨lb,lo+i*3+1,none⟩) id (ky.cell id x1));have y2:=(k2.cell (p:=⟨lb,lo+i*3+2,none⟩) id (ky.cell id x2));rw[<-xw]at Q;have aia:=γ xw;clear p1 p2 p3 p4 p5 s1 s2 s3 s4 s5 t1 t2 t3 t4 t5 k2 Gj k3 k4 rl e2b hnew ky Pq hown hLi hLt hLd hwy xw x0 x1 x2 hdrop htake hkx;have tok1:True:=trivial;have tok2:True:=trivial;have Ov:True:=trivial;have P1:=γ Q.o.1;have P2:=γ Q.o.2.1;have P3:=γ Q.o.2.2.1;go_wp2_with (first|(at_builtin;have _t:=tok1;clear _t tok1;refine wpList_append_run rfl (.tmp 33) (.tmp 36) 60 rfl (.slice none 0 0) (.slice oa k oc) _ rfl rfl P1.o ?_)|(at_builtin;have _t:=tok2;clear _t tok2;refine wpList_append_run rfl (.tmp 38) (.tmp 43) 60 rfl (.slice yg n2 vc2) (.slice (some ⟨w2.heap.size,0,none⟩) 1 1) _ rfl rfl P2.o ?_)|(at_builtin;have _t:=Ov;clear _t Ov;refine wpList_append_run rfl (.tmp 45) (.tmp 48) 60 rfl (.slice va3 n3 vc3) (.slice la ln lc) _ rfl rfl P3.o ?_));go_roundg (L.length-(i+1))
     case rel=>exact⟨i+1,by omega,by go_num,ξ _,Q.o.2.2.2.1,Q.o.2.2.2.2⟩
     case measure=>have:=A.o.1;omega
    ·obtain⟨j,hj⟩: ∃j,k=j+1:=⟨k-1,by omega⟩
     subst hj;clear hk0;have hwj:IntKind.i64.wrap ((j:Nat):Int)=((j:Nat):Int):=bI (by omega);have hjl2:((j:Nat):Int)<(i:Int):=(by omega);have hjl3:j<i:=(by omega);obtain⟨y,hy⟩: ∃y,(aO (L.take i))[j]?=some y:=⟨_,ι (by rw[A.o.2.1.1];omega)⟩;obtain⟨ra,rC,re,_,_,sW⟩:=(Reads.aN (hkx.owns A.o.2.1.2 (fun _ _ h=>h))).recAt
     injection re with re1 re2 re3
     clear re2 re3;obtain⟨ob,oo,e',OU⟩:=sW.resolve_left (fun h=>by rw[h]at hy;cases hy);subst re1;subst e';obtain⟨t0,_,_⟩:=OU j y hy;by_cases hgt:r.pos<y.pos
     ·have hgd:decide (r.pos<y.pos)=true:=decide_eq_true hgt
      have Y3: ∀x∈(aO (L.take i)).drop j,r.pos<x.pos:=by
       intro x hx;obtain⟨hjl,rfl⟩:=μ.1 hy;rw[abS hjl]at hx
       rcases abR.1 hx with rfl|hx
       ·exact hgt
       ·exact hdrop x hx
      have D:=γ (θ Y3 hkx);clear hdrop Y3 hkx hy sW OU hgt x1 x2;go_wp2_with fail;refine ak [0,1,2,3,4,5,6,7,8,9,10,11,12,13,14,15] (fun W=>ε η wx W) (by kernel_rfl) (by kernel_rfl) rfl δ.drew ?_;simp only[abU];iterate 16 (first|(apply bf rfl;go_frame)|(apply aj rfl rfl;(intro W hW;have z0:=hW.cell id t0;have z1:=hW.cell id x0;go_simp;rfl);go_frame))
      refine aG (fun _=>δ.drew) ?_;go_wp2_with fail;go_roundg j
      case rel=>exact⟨j,by omega,by first|rfl|go_num,ξ _,D.o.1,D.o.2.trans δ.drew⟩
      case measure=>omega
     ·have hgd:decide (r.pos<y.pos)=false:=decide_eq_false hgt
      have htake: ∀x∈(aO (L.take i)).take (j+1),x.pos<=r.pos:=by
       intro x hx;rw[ψ]at hx;have hs:=qR (L.take i)
       rcases abL.1 hx with hx|hx
       ·have e:aO (L.take i)=(aO (L.take i)).take j++(aO (L.take i)).drop j:=(List.take_append_drop j _).symm
        rw[e]at hs;obtain⟨hjl,rfl⟩:=μ.1 hy;have:=hs.le x hx _ (by rw[abS hjl];exact List.mem_cons_self);omega
       ·rw[hy]at hx;simp at hx;subst hx;omega
      have D:=γ (θ hdrop (θ htake hkx));clear hdrop htake hkx hy sW OU hgt;go_wp2_with fail;refine ak [0,1,2,3,4,5,6,7,8,9,10,11,12,13,14,15] (fun W=>ε η wx W) (by kernel_rfl) (by kernel_rfl) rfl δ.drew ?_;simp only[abU];iterate 16 (first|(apply bf rfl;go_frame)|(apply aj rfl rfl;(intro W hW;have z0:=hW.cell id t0;have z1:=hW.cell id x0;go_simp;rfl);go_frame))
      refine aG (fun _=>δ.drew) ?_;obtain⟨hdrop,htake,hkx⟩:=D.o;obtain⟨wy,hwy⟩: ∃wy,wx.drew=wy:=⟨_,rfl⟩;rw[hwy];have ky:ε η wx wy:=(by rw[<-hwy];exact δ.drew);have Pq:ε η w wy:=A.o.2.2.trans (hkx.trans ky);have hown:=A.o.2.1.2;have hLi:=A.o.2.1.1;have hLt:=List.length_take_le' (j+1) (aO (L.take i));have hLd:((aO (L.take i)).drop (j+1)).length<=(aO (L.take i)).length:=(by rw[List.length_drop];omega);obtain⟨vo2,n2,w2,p1,p2,p3,p4,p5⟩:=oL (base:=wy.heap.size) (w:=wy) (v:= .slice none 0 0) (n:=0) (L:=[]) (M:=(aO (L.take i)).take (j+1)) (World.ownsRow_nil _ _ _ _) (CY (Reads.aN ((hkx.trans ky).owns hown (fun _ _ h=>h))) hki).2 (ξ _) (by rw[Γ];omega);have e1x:=(CY (Reads.aN ((hkx.trans ky).owns hown (fun _ _ h=>h))) hki).1;have e1:=e1x;have e1y:=e1x;rw[show(((j+1:Nat):Nat):Int)=(j:Int)+1 by omega]at e1y;clear e1x;obtain⟨yg,vc2,rfl⟩:=au p2;have k2:ε η wy w2:=ε.TA p4 p5;obtain⟨Bh,xw⟩:=acf (w2.alloc (.cells #[.int .i64 r.pos,.int .i64 r.key,.int .i64 r.val] 68));have Gj:ε η w2 Bh:=(by rw[<-xw];exact δ.alloc _);have rl:Reads Bh 3 (.slice (some ⟨w2.heap.size,0,none⟩) 1 1) (recs [r]):=(by rw[<-xw];exact Reads.lit w2 (recs [r]) 68 3 1 rfl (by unfold maxLen;omega));obtain⟨vo3,n3,w3,s1,s2,s3,s4,s5⟩:=oL (base:=wy.heap.size) (w:=Bh) (M:=[r]) (Gj.owns p2 (fun _ _ h=>h)) rl (ω k2.size Gj.size) (by rw[List.nil_append,List.length_singleton];omega);obtain⟨va3,vc3,rfl⟩:=au s2;have k3:ε η wy w3:=(k2.trans Gj).new (ε.grown (S:=fun j=>wy.heap.size<=j) s4 (fun j hj _=>(aU p2 hj).1)) (fun j hj hs=>by omega);have e2:=(Ti (Reads.aN (((hkx.trans ky).trans k3).owns hown (fun _ _ h=>h))) hki);obtain⟨vd,e2a,e2b⟩:=e2;have e2y:=e2a;rw[show(((j+1:Nat):Nat):Int)=(j:Int)+1 by omega]at e2y;obtain⟨vo4,n4,w4,t1,t2,t3,t4,t5⟩:=oL (base:=wy.heap.size) (w:=w3) (M:=(aO (L.take i)).drop (j+1)) s2 e2b k3.size (by rw[List.nil_append,ν,List.length_singleton];omega);obtain⟨va4,vc4,rfl⟩:=au t2;have k4:ε η wy w4:=k3.new (ε.grown (S:=fun j=>wy.heap.size<=j) t4 (fun j hj _=>(aU s2 hj).1)) (fun j hj hs=>by omega);have hnew:([]++(aO (L.take i)).take (j+1)++[r]++(aO (L.take i)).drop (j+1))=aO (L.take (i+1)):=Gm HRR.o.1 hdrop htake;rw[hnew]at t2;have hn4:n4=i+1:=(by have h1:=t2.1;rw[aQ,iY,υ]at h1;omega);subst hn4;have Q:=γ (θ p1 (θ s1 (θ t1 (θ (jH t2 Pq.size) (Pq.trans k4)))));obtain⟨la,ln,lc,hvd⟩: ∃la ln lc,vd= .slice la ln lc:=(by obtain⟨a,n,c,e,_⟩:=e2b;exact⟨a,n,c,e⟩);subst hvd;have y0:=(k2.cell (p:=⟨lb,lo+i*3,none⟩) id (ky.cell id x0));have y1:=(k2.cell (p:=⟨lb,lo+i*3+1,none⟩) id (ky.cell id x1));have y2:=(k2.cell (p:=⟨lb,lo+i*3+2,none⟩) id (ky.cell id x2));rw[<-xw]at Q;have aia:=γ xw;clear p1 p2 p3 p4 p5 s1 s2 s3 s4 s5 t1 t2 t3 t4 t5 k2 Gj k3 k4 rl e2b hnew ky Pq hown hLi hLt hLd hwy xw x0 x1 x2 hdrop htake hkx;have tok1:True:=trivial;have tok2:True:=trivial;have Ov:True:=trivial;have P1:=γ Q.o.1;have P2:=γ Q.o.2.1;have P3:=γ Q.o.2.2.1;go_wp2_with (first|(at_builtin;have _t:=tok1;clear _t tok1;refine wpList_append_run rfl (.tmp 33) (.tmp 36) 60 rfl (.slice none 0 0) (.slice (some ⟨ob,oo,none⟩) (j+1) oc) _ rfl rfl P1.o ?_)|(at_builtin;have _t:=tok2;clear _t tok2;refine wpList_append_run rfl (.tmp 38) (.tmp 43) 60 rfl (.slice yg n2 vc2) (.slice (some ⟨w2.heap.size,0,none⟩) 1 1) _ rfl rfl P2.o ?_)|(at_builtin;have _t:=Ov;clear _t Ov;refine wpList_append_run rfl (.tmp 45) (.tmp 48) 60 rfl (.slice va3 n3 vc3) (.slice la ln lc) _ rfl rfl P3.o ?_));go_roundg (L.length-(i+1))
      case rel=>exact⟨i+1,by omega,by go_num,ξ _,Q.o.2.2.2.1,Q.o.2.2.2.2⟩
      case measure=>have:=A.o.1;omega
  ·have hie:i=L.length:=by omega
   subst hie;rw[χ (ξ _)]at hown;have F:=γ (show lF w (aO L) (.returned (.slice oa L.length oc)) wo from⟨_,rfl,Reads.aN hown,fun b hb=>(nZ hown hb).1,hkp⟩);clear hown hkp;go_wp2_with fail;go_ret;exact F.o
def stepG (kind:Int)(b:Nat)(r:Rec):Rec:=if kind=8 then iJ b r else r
def uF (kind:Int)(LL:List (List Rec)):List (List Rec):=if kind=8 then iK 0 LL else LL
theorem OQ (kind:Int)(LL:List (List Rec))(b:Nat):(uF kind LL)[b]?=LL[b]?.map (fun L=>L.map (stepG kind b)):=by
 unfold uF;by_cases h:kind=8
 ·rw[if_pos h,Bf,Nat.zero_add]
  congr 1;funext L;congr 1;funext r;unfold stepG;rw[if_pos h]
 ·rw[if_neg h]
  have:(fun L:List Rec=>L.map (stepG kind b))=id:=by
   funext L
   have e:stepG kind b=id:=(by funext r;unfold stepG;rw[if_neg h];rfl);rw[e];simp
  rw[this];simp
theorem aag (kind:Int)(LL:List (List Rec)):(uF kind LL).length=LL.length:=by unfold uF;split;exact wS 0 LL;rfl
theorem IZ (kind:Int)(LL:List (List Rec)):(uF kind LL).flatten.length=LL.flatten.length:=by unfold uF;split;exact wF 0 LL;rfl
def kR (kind:Int)(LL:List (List Rec))(b i:Nat):List Rec:=((uF kind LL).take b).flatten++(((uF kind LL)[b]?).getD []).take i
theorem Jy {kind:Int}{LL:List (List Rec)}{b i:Nat}{L:List Rec}{r:Rec}(hL:LL[b]?=some L)(hr:L[i]?=some r):kR kind LL b (i+1)=kR kind LL b i++[stepG kind b r]:=by unfold kR;rw[OQ,hL];simp only[Option.map_some,Δ];rw[ψ,abJ,hr,List.append_assoc];rfl
theorem Jw (kind:Int)(LL:List (List Rec))(b:Nat):kR kind LL b 0=((uF kind LL).take b).flatten:=by unfold kR;simp
theorem Jz {kind:Int}{LL:List (List Rec)}{b:Nat}{L:List Rec}(hL:LL[b]?=some L):kR kind LL b L.length=kR kind LL (b+1) 0:=by
 have h1:(uF kind LL)[b]?=some (L.map (stepG kind b)):=(by rw[OQ,hL];rfl);rw[Jw,kL h1];unfold kR;rw[h1]
 congr 1
 exact χ (by simp)
theorem ac6 {LL:List (List Rec)}(b i:Nat):((LL.take b).flatten++((LL[b]?).getD []).take i).length<=LL.flatten.length:=by
 cases h:LL[b]? with
 |none=>simp only[Option.getD_none,List.take_nil,List.append_nil];exact pX b
 |some L=>simp only[Δ];have h1:=kL h;have h2:=pX (LL:=LL) (b+1);rw[h1,ν]at h2;have h3:=List.length_take_le' i L;rw[ν];omega
theorem aa4 (kind:Int)(LL:List (List Rec))(b i:Nat):(kR kind LL b i).length<=LL.flatten.length:=by rw[<-IZ kind LL];exact ac6 b i
theorem X5 (na:Array Value)(nd:dD)(v:Value)(LL:List (List Rec))(w:World)(hn:dO w na nd)(hr:oq w v LL)(hb:LL.flatten.length<=1000000)(hll:LL.length<=1000):
 Calls Tryz.prog 71 #[.agg na,v] w (lF w (ji nd.kind LL)):=by
 have hg:ji nd.kind LL=aO (uF nd.kind LL).flatten:=rfl;rw[hg];obtain⟨uid,inv,p,cap,rfl,hx,hk0,hk1,mV⟩:=hn;obtain⟨vs0,hv0,hrd,hev⟩:=hr;obtain⟨pa,n0,iQ,rfl,hc1,hc2,hc3,hcl⟩:=hrd;have hn0:n0=LL.length:=(by omega);subst hn0;unfold maxLen at hc2;have HE:=γ (θ hv0 (θ hcl hev));clear hx hg hv0 hc3 hcl hev;go_enter Tryz.func71,Tryz.ntmps71;go_wp2_with fail;obtain⟨W0,hW0⟩:=acf (w.alloc (.cells #[.string uid,.int .u8 nd.kind,inv,.int .u8 nd.x.op,.int .i64 nd.x.n,.slice p nd.x.args.length cap,.int .i64 nd.n] 42));have k0:ε η w W0:=(by rw[<-hW0];exact δ.alloc _);have d1:W0.cell? ⟨w.heap.size,1,none⟩=some (.int .u8 nd.kind):=(by rw[<-hW0];simp);rw[hW0];have K0:=γ (θ k0 d1);have hsz0:w.heap.size<=W0.heap.size:=k0.size;clear hW0 k0 d1;go_loopg [5,6] LL.length (fun g va vi wr=> ∃b:Nat,b<=LL.length/\vi= .int .i64 (b:Int)/\LL.length-b<=g/\wr.ownsRow W0.heap.size 68 3 va (kR nd.kind LL b 0).length (recs (kR nd.kind LL b 0))/\ε η W0 wr)
 case atStart=>exact⟨0,by omega,rfl,by omega,(by simpa[kR,recs]using World.ownsRow_nil _ _ _ _),ε.refl _ _⟩
 case round=>
  obtain⟨b,hbl,rfl,hg,hown,hkp⟩:=hrel;obtain⟨wo,rfl⟩: ∃wo:World,wo=wr:=⟨_,rfl⟩;obtain⟨oa,oc,rfl⟩:=au hown;by_cases hlt:b<LL.length
  ·obtain⟨L,hL⟩: ∃L,LL[b]?=some L:=⟨_,ι hlt⟩
   obtain⟨u,hu⟩: ∃u,vs0[b]?=some u:=⟨_,ι (by rw[HE.o.1];exact hlt)⟩;have qH:=HE.o.2.2 b u L hu hL;obtain⟨ua,uc,rfl,hu1,hu2,hu3⟩:=qH.recAt;unfold maxLen at hu2;obtain⟨pb,po,rfl,hpc⟩:=HE.o.2.1.resolve_left (fun h=>by rw[h]at hu;cases hu);have q00:=K0.o.1.cell (p:=⟨pb,po+b,none⟩) id (hpc b _ hu);have q0:=hkp.cell (p:=⟨pb,po+b,none⟩) id q00;have A:=γ (θ hg (θ hown hkp));have HL:=γ (θ hL (θ hu3 q00));have hb1000:b<=1000:=(by omega);clear hg hown hkp hL hu qH hpc hu3 q0 q00;go_wp2_with fail;go_loopg [5,7] L.length (fun g va vi wr=> ∃i:Nat,i<=L.length/\vi= .int .i64 (i:Int)/\L.length-i<=g/\wr.ownsRow W0.heap.size 68 3 va (kR nd.kind LL b i).length (recs (kR nd.kind LL b i))/\ε η W0 wr)
   case atStart=>exact⟨0,by omega,rfl,by omega,A.o.2.1,A.o.2.2⟩
   case round=>
    obtain⟨i,hil,rfl,hgi,hown,hkx⟩:=hrel;obtain⟨wx,rfl⟩: ∃wx:World,wx=wr:=⟨_,rfl⟩;obtain⟨xa,xc,rfl⟩:=au hown;have q0:=hkx.cell (p:=⟨pb,po+b,none⟩) id HL.o.2.2;by_cases hit:i<L.length
    ·obtain⟨r,hr⟩: ∃r,L[i]?=some r:=⟨_,ι hit⟩
     obtain⟨rb,ro,rfl,hrc⟩:=HL.o.2.1.resolve_left (fun h=>by rw[h]at hr;cases hr);obtain⟨x0,x1,x2⟩:=((hrc i r hr).pure (K0.o.1.trans hkx));have d1:=hkx.cell (p:=⟨w.heap.size,1,none⟩) id K0.o.2;have hdl:=block_lt_of_cell d1;simp only[]at hdl;have hgl:=aa4 nd.kind LL b i;by_cases h8:nd.kind=8
     ·have h8b:(nd.kind==8)=true:=by simp[h8]
      have QY:=γ (show(if nd.kind=8 then iJ b r else r)=iJ b r from if_pos h8);clear h8;obtain⟨W1,hW1⟩:=acf ((wx.alloc (.cells #[.int .i64 (wrap64 (wrap64 (8*r.pos)+(b:Int))),.int .i64 r.key,.int .i64 r.val] 68)).alloc (.cells #[.int .i64 (wrap64 (wrap64 (8*r.pos)+(b:Int))),.int .i64 r.key,.int .i64 r.val] 68));have k1:ε η wx W1:=(by rw[<-hW1];exact(δ.alloc _).alloc _);have rl:Reads W1 3 (.slice (some ⟨wx.heap.size+1,0,none⟩) 1 1) (recs [(iJ b r:Rec)]):=(by have:=Reads.lit (wx.alloc (.cells #[.int .i64 (wrap64 (wrap64 (8*r.pos)+(b:Int))),.int .i64 r.key,.int .i64 r.val] 68)) (recs [(iJ b r:Rec)]) 68 3 1 rfl (by unfold maxLen;omega);rw[World.size_alloc]at this;rw[<-hW1];exact this);obtain⟨va,n1,W2,p1,p2,p3,p4,_⟩:=oL (k1.owns hown (fun _ _ h=>h)) rl (ω hkx.size k1.size) (by rw[List.length_singleton];omega);obtain⟨va,vc,rfl⟩:=au p2;have k2:ε η W0 W2:=(hkx.trans k1).new (ε.grown (S:=fun j=>W0.heap.size<=j) p4 (fun j hj _=>(aU hown hj).1)) (fun j hj hs=>by omega);rw[List.length_singleton,<-List.length_singleton (a:=(iJ b r:Rec)),<-ν]at p3;rw[show kR nd.kind LL b i++[(iJ b r:Rec)]=kR nd.kind LL b (i+1)from by rw[Jy HL.o.1 hr];unfold stepG;rw[QY.o]]at p2 p3;subst p3;rw[<-hW1]at p1;have Q:=γ (θ hgi (θ p1 (θ p2 k2)));clear hgi p1 p2 p4 k2 k1 rl hW1 hown hkx hr hrc hgl;go_wp2_with (at_builtin;refine wpList_append_run rfl (.tmp 40) (.tmp 42) 60 rfl (.slice xa (kR nd.kind LL b i).length xc) (.slice (some ⟨wx.heap.size+1,0,none⟩) 1 1) _ rfl rfl Q.o.2.1 ?_);go_roundg (L.length-(i+1))
      case rel=>exact⟨i+1,by omega,by go_num,ξ _,Q.o.2.2.1,Q.o.2.2.2⟩
      case measure=>have:=Q.o.1;omega
     ·have h8b:(nd.kind==8)=false:=by simp[h8]
      have QY:=γ (show(if nd.kind=8 then iJ b r else r)=r from if_neg h8);clear h8;obtain⟨W1,hW1⟩:=acf ((wx.alloc (.cells #[.int .i64 r.pos,.int .i64 r.key,.int .i64 r.val] 68)).alloc (.cells #[.int .i64 r.pos,.int .i64 r.key,.int .i64 r.val] 68));have k1:ε η wx W1:=(by rw[<-hW1];exact(δ.alloc _).alloc _);have rl:Reads W1 3 (.slice (some ⟨wx.heap.size+1,0,none⟩) 1 1) (recs [(r:Rec)]):=(by have:=Reads.lit (wx.alloc (.cells #[.int .i64 r.pos,.int .i64 r.key,.int .i64 r.val] 68)) (recs [(r:Rec)]) 68 3 1 rfl (by unfold maxLen;omega);rw[World.size_alloc]at this;rw[<-hW1];exact this);obtain⟨va,n1,W2,p1,p2,p3,p4,_⟩:=oL (k1.owns hown (fun _ _ h=>h)) rl (ω hkx.size k1.size) (by rw[List.length_singleton];omega);obtain⟨va,vc,rfl⟩:=au p2;have k2:ε η W0 W2:=(hkx.trans k1).new (ε.grown (S:=fun j=>W0.heap.size<=j) p4 (fun j hj _=>(aU hown hj).1)) (fun j hj hs=>by omega);rw[List.length_singleton,<-List.length_singleton (a:=(r:Rec)),<-ν]at p3;rw[show kR nd.kind LL b i++[(r:Rec)]=kR nd.kind LL b (i+1)from by rw[Jy HL.o.1 hr];unfold stepG;rw[QY.o]]at p2 p3;subst p3;rw[<-hW1]at p1;have Q:=γ (θ hgi (θ p1 (θ p2 k2)));clear hgi p1 p2 p4 k2 k1 rl hW1 hown hkx hr hrc hgl;go_wp2_with (at_builtin;refine wpList_append_run rfl (.tmp 40) (.tmp 42) 60 rfl (.slice xa (kR nd.kind LL b i).length xc) (.slice (some ⟨wx.heap.size+1,0,none⟩) 1 1) _ rfl rfl Q.o.2.1 ?_);go_roundg (L.length-(i+1))
      case rel=>exact⟨i+1,by omega,by go_num,ξ _,Q.o.2.2.1,Q.o.2.2.2⟩
      case measure=>have:=Q.o.1;omega
    ·have hie:i=L.length:=by omega
     subst hie;rw[Jz HL.o.1]at hown;have Q:=γ (θ hown hkx);have hlenx:(kR nd.kind LL b L.length).length=(kR nd.kind LL (b+1) 0).length:=(by rw[Jz HL.o.1]);rw[hlenx];clear hown hkx hgi;go_wp2_with fail;go_roundg (LL.length-(b+1))
     case rel=>exact⟨b+1,by omega,by go_num,ξ _,Q.o.1,Q.o.2⟩
     case measure=>have:=A.o.1;omega
  ·have hbe:b=LL.length:=by omega
   subst hbe;have hfull:kR nd.kind LL LL.length 0=(uF nd.kind LL).flatten:=(by rw[Jw,χ (by rw[aag];exact ξ _)]);rw[hfull]at hown⊢;have hfl:=IZ nd.kind LL;obtain⟨FL,hFL⟩: ∃FL,(uF nd.kind LL).flatten=FL:=⟨_,rfl⟩;rw[hFL]at hown hfl⊢;have HFL:=γ hFL;clear hFL;have Q:=γ (θ (Reads.aN hown) (K0.o.1.trans hkp));have HF:=γ hfl;clear hown hkp hg hfl hfull;go_wp2_with fail;have c:=FN _ FL wo Q.o.1 (by have:=HF.o;omega);(with_reducible refine c.mono ?_);clear c;rintro e w2 ⟨u,rfl,r1,r2,k2⟩;have F:=γ (show lF w (aO FL) (.returned u) w2 from⟨u,rfl,r1,fun b hb=>ω Q.o.2.size (r2 b hb),Q.o.2.trans k2⟩);obtain⟨ra,rc,rfl,_,_⟩:=r1.len;clear r1 r2 k2;go_wp2_with fail;go_ret;rw[HFL.o];exact F.o
