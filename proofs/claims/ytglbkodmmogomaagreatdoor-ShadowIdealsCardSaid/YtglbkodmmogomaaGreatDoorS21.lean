/- The document's Merge and Gets. -/
import Derived.Test.YtglbkodmmogomaaGreatDoorS20
set_option linter.unusedVariables false
set_option linter.unusedSimpArgs false
set_option maxHeartbeats 4000000
set_option maxRecDepth 100000
namespace Go.Proofs.YtglbkodmmogomaaGreatDoor
open List Go.Proofs.Tryz
section
open Go Go.RowKit
attribute [local irreducible] dI
theorem Gm (v:Value)(L:List Rec)(w:World)(h:Reads w 3 v (recs L))(hb:L.length<=1000000):Calls prog 73 #[v] w (mG w (aO L)):=by
 obtain⟨pa,jI,rfl,h1,h2,h3⟩:=h.recAt;unfold maxLen at h2;have H3:=γ h3;clear h3 h;go_enter func73,ntmps73;go_wp2;go_loopg [3,4] L.length (fun g vo vi wr=> ∃i:Nat,i<=L.length/\vi= .int .i64 (i:Int)/\L.length-i<=g/\wr.ownsRow w.heap.size 68 3 vo i (recs (aO (L.take i)))/\ε η w wr)
 case atStart=>exact⟨0,by omega,rfl,by omega,(by simpa[aO,recs]using World.ownsRow_nil _ _ _ _),ε.refl _ _⟩
 case round=>
  obtain⟨i,hil,rfl,hg,hown,hkp⟩:=hrel;obtain⟨wo,rfl⟩: ∃wo:World,wo=wr:=⟨_,rfl⟩;obtain⟨oa,oc,rfl⟩:=au hown;by_cases hlt:i<L.length
  ·obtain⟨r,hr⟩: ∃r,L[i]?=some r:=⟨_,ι hlt⟩
   obtain⟨lb,lo,rfl,hlc⟩:=H3.o.resolve_left (fun h=>by rw[h]at hr;cases hr);obtain⟨x0,x1,x2⟩:=(hlc i r hr).pure hkp;have hlen:(aO (L.take i)).length=i:=(by rw[jq,υ];omega);have A:=γ (θ hg (θ (θ hlen hown) hkp));have HRR:=γ (θ hr hlc);clear hg hown hkp hlc hlen hr H3;go_wp2;go_loopg [5] i (fun g vk wx=> ∃k:Nat,k<=i/\vk= .int .i64 (k:Int)/\k<=g/\(∀x∈(aO (L.take i)).drop k,r.pos<x.pos)/\ε η wo wx)
   case atStart=>exact⟨i,ξ _,rfl,ξ _,(fun x hx=>by rw[drop_of_length_le (by rw[A.o.2.1.1];exact ξ _)]at hx;cases hx),ε.refl _ _⟩
   case round=>
    obtain⟨k,hki,rfl,hgk,hdrop,hkx⟩:=hrel;obtain⟨wx,rfl⟩: ∃wx:World,wx=wr:=⟨_,rfl⟩;have x0:=hkx.cell (p:=⟨lb,lo+i*3,none⟩) id x0;have x1:=hkx.cell (p:=⟨lb,lo+i*3+1,none⟩) id x1;have x2:=hkx.cell (p:=⟨lb,lo+i*3+2,none⟩) id x2;by_cases hk0:k=0
    ·have hkd:decide (0<k)=false:=decide_eq_false (by omega)
     have hkd2:decide (0<(k:Int))=false:=decide_eq_false (by omega);have htake: ∀x∈(aO (L.take i)).take k,x.pos<=r.pos:=(by rw[hk0];intro x hx;cases hx);have D:=γ (θ hdrop (θ htake hkx));clear hdrop htake hkx hk0;go_wp2;refine acv [0,1,2,3,4,5,6,7,8,9,10,11,12,13,14,15] ?_;simp only[aco];iterate 16 (first|(apply aT rfl;go_frame)|(apply aj rfl rfl;(intro W hW;go_simp;rfl);go_frame))
     refine aA (fun _=>δ.drew) ?_;obtain⟨hdrop,htake,hkx⟩:=D.o;obtain⟨wy,hwy⟩:=acu wx.drew;rw[hwy];have ky:ε η wx wy:=(by rw[<-hwy];exact δ.drew);have Qb:ε η w wy:=A.o.2.2.trans (hkx.trans ky);have hown:=A.o.2.1.2;have hLi:=A.o.2.1.1;have hLt:=length_take_le' k (aO (L.take i));have hLd:((aO (L.take i)).drop k).length<=(aO (L.take i)).length:=(by rw[length_drop];omega);obtain⟨vo2,n2,w2,p1,p2,p3,p4,p5⟩:=pF (base:=wy.heap.size) (w:=wy) (v:= .slice none 0 0) (n:=0) (L:=[]) (M:=(aO (L.take i)).take k) (World.ownsRow_nil _ _ _ _) (Dy (Reads.aN ((hkx.trans ky).owns hown (fun _ _ h=>h))) hki).2 (ξ _) (by rw[Γ];omega);have e1:=(Dy (Reads.aN ((hkx.trans ky).owns hown (fun _ _ h=>h))) hki).1;obtain⟨dS,vc2,rfl⟩:=au p2;have k2:ε η wy w2:=ε.Uk p4 p5;obtain⟨BG,x9⟩:=acu (w2.alloc (.cells #[.int .i64 r.pos,.int .i64 r.key,.int .i64 r.val] 68));have GZ:ε η w2 BG:=(by rw[<-x9];exact δ.alloc _);have rl:Reads BG 3 (.slice (some ⟨w2.heap.size,0,none⟩) 1 1) (recs [r]):=(by rw[<-x9];exact Reads.lit w2 (recs [r]) 68 3 1 rfl (by unfold maxLen;omega));obtain⟨vo3,n3,w3,s1,s2,s3,s4,s5⟩:=pF (base:=wy.heap.size) (w:=BG) (M:=[r]) (GZ.owns p2 (fun _ _ h=>h)) rl (ω k2.size GZ.size) (by rw[nil_append,length_singleton];omega);obtain⟨va3,vc3,rfl⟩:=au s2;have k3:ε η wy w3:=(k2.trans GZ).new (ε.grown (S:=fun j=>wy.heap.size<=j) s4 (fun j hj _=>(aY p2 hj).1)) (fun j hj hs=>by omega);have e2:=(Ud (Reads.aN (((hkx.trans ky).trans k3).owns hown (fun _ _ h=>h))) hki);obtain⟨vd,e2a,e2b⟩:=e2;obtain⟨vo4,n4,w4,t1,t2,t3,t4,t5⟩:=pF (base:=wy.heap.size) (w:=w3) (M:=(aO (L.take i)).drop k) s2 e2b k3.size (by rw[nil_append,ν,length_singleton];omega);obtain⟨va4,vc4,rfl⟩:=au t2;have k4:ε η wy w4:=k3.new (ε.grown (S:=fun j=>wy.heap.size<=j) t4 (fun j hj _=>(aY s2 hj).1)) (fun j hj hs=>by omega);have hnew:([]++(aO (L.take i)).take k++[r]++(aO (L.take i)).drop k)=aO (L.take (i+1)):=G7 HRR.o.1 hdrop htake;rw[hnew]at t2;have hn4:n4=i+1:=(by have h1:=t2.1;rw[aQ,jq,υ]at h1;omega);subst hn4;have Q:=γ (θ p1 (θ s1 (θ t1 (θ (jV t2 Qb.size) (Qb.trans k4)))));obtain⟨la,ln,lc,hvd⟩: ∃la ln lc,vd= .slice la ln lc:=(by obtain⟨a,n,c,e,_⟩:=e2b;exact⟨a,n,c,e⟩);subst hvd;have y0:=(k2.cell (p:=⟨lb,lo+i*3,none⟩) id (ky.cell id x0));have y1:=(k2.cell (p:=⟨lb,lo+i*3+1,none⟩) id (ky.cell id x1));have y2:=(k2.cell (p:=⟨lb,lo+i*3+2,none⟩) id (ky.cell id x2));rw[<-x9]at Q;have aiU:=γ x9;clear p1 p2 p3 p4 p5 s1 s2 s3 s4 s5 t1 t2 t3 t4 t5 k2 GZ k3 k4 rl e2b hnew ky Qb hown hLi hLt hLd hwy x9 x0 x1 x2 hdrop htake hkx;have tok1:True:=trivial;have tok2:True:=trivial;have OZ:True:=trivial;have P1:=γ Q.o.1;have P2:=γ Q.o.2.1;have P3:=γ Q.o.2.2.1;go_wp2_with (first|(at_builtin;have _t:=tok1;clear _t tok1;refine wpList_append_run rfl (.tmp 33) (.tmp 36) 60 rfl (.slice none 0 0) (.slice oa k oc) _ rfl rfl P1.o ?_)|(at_builtin;have _t:=tok2;clear _t tok2;refine wpList_append_run rfl (.tmp 38) (.tmp 43) 60 rfl (.slice dS n2 vc2) (.slice (some ⟨w2.heap.size,0,none⟩) 1 1) _ rfl rfl P2.o ?_)|(at_builtin;have _t:=OZ;clear _t OZ;refine wpList_append_run rfl (.tmp 45) (.tmp 48) 60 rfl (.slice va3 n3 vc3) (.slice la ln lc) _ rfl rfl P3.o ?_));go_roundg (L.length-(i+1))
     case rel=>exact⟨i+1,by omega,by go_num,ξ _,Q.o.2.2.2.1,Q.o.2.2.2.2⟩
     case measure=>have:=A.o.1;omega
    ·obtain⟨j,hj⟩: ∃j,k=j+1:=⟨k-1,by omega⟩
     subst hj;clear hk0;have hwj:IntKind.i64.wrap ((j:Nat):Int)=((j:Nat):Int):=bI (by omega);have hjl2:((j:Nat):Int)<(i:Int):=(by omega);have hjl3:j<i:=(by omega);obtain⟨y,hy⟩: ∃y,(aO (L.take i))[j]?=some y:=⟨_,ι (by rw[A.o.2.1.1];omega)⟩;obtain⟨ra,tV,re,_,_,tN⟩:=(Reads.aN (hkx.owns A.o.2.1.2 (fun _ _ h=>h))).recAt
     injection re with re1 re2 re3
     clear re2 re3;obtain⟨ob,oo,e',PE⟩:=tN.resolve_left (fun h=>by rw[h]at hy;cases hy);subst re1;subst e';obtain⟨t0,_,_⟩:=PE j y hy;by_cases hgt:r.pos<y.pos
     ·have hgd:decide (r.pos<y.pos)=true:=decide_eq_true hgt
      have ZB: ∀x∈(aO (L.take i)).drop j,r.pos<x.pos:=by
       intro x hx;obtain⟨hjl,rfl⟩:=μ.1 hy;rw[acn hjl]at hx
       rcases aci.1 hx with rfl|hx
       ·exact hgt
       ·exact hdrop x hx
      have D:=γ (θ ZB hkx);clear hdrop ZB hkx hy tN PE hgt x1 x2;go_wp2;refine acv [0,1,2,3,4,5,6,7,8,9,10,11,12,13,14,15] ?_;simp only[aco];iterate 16 (first|(apply aT rfl;go_frame)|(apply aj rfl rfl;(intro W hW;have z0:=hW.cell id t0;have z1:=hW.cell id x0;go_simp;rfl);go_frame))
      refine aA (fun _=>δ.drew) ?_;go_wp2;go_roundg j
      case rel=>exact⟨j,by omega,by first|rfl|go_num,ξ _,D.o.1,D.o.2.trans δ.drew⟩
      case measure=>omega
     ·have hgd:decide (r.pos<y.pos)=false:=decide_eq_false hgt
      have htake: ∀x∈(aO (L.take i)).take (j+1),x.pos<=r.pos:=by
       intro x hx;rw[ψ]at hx;have hs:=rH (L.take i)
       rcases aax.1 hx with hx|hx
       ·have e:aO (L.take i)=(aO (L.take i)).take j++(aO (L.take i)).drop j:=(take_append_drop j _).symm
        rw[e]at hs;obtain⟨hjl,rfl⟩:=μ.1 hy;have:=hs.le x hx _ (by rw[acn hjl];exact mem_cons_self);omega
       ·rw[hy]at hx;simp at hx;subst hx;omega
      have D:=γ (θ hdrop (θ htake hkx));clear hdrop htake hkx hy tN PE hgt;go_wp2;refine acv [0,1,2,3,4,5,6,7,8,9,10,11,12,13,14,15] ?_;simp only[aco];iterate 16 (first|(apply aT rfl;go_frame)|(apply aj rfl rfl;(intro W hW;have z0:=hW.cell id t0;have z1:=hW.cell id x0;go_simp;rfl);go_frame))
      refine aA (fun _=>δ.drew) ?_;obtain⟨hdrop,htake,hkx⟩:=D.o;obtain⟨wy,hwy⟩:=acu wx.drew;rw[hwy];have ky:ε η wx wy:=(by rw[<-hwy];exact δ.drew);have Qb:ε η w wy:=A.o.2.2.trans (hkx.trans ky);have hown:=A.o.2.1.2;have hLi:=A.o.2.1.1;have hLt:=length_take_le' (j+1) (aO (L.take i));have hLd:((aO (L.take i)).drop (j+1)).length<=(aO (L.take i)).length:=(by rw[length_drop];omega);obtain⟨vo2,n2,w2,p1,p2,p3,p4,p5⟩:=pF (base:=wy.heap.size) (w:=wy) (v:= .slice none 0 0) (n:=0) (L:=[]) (M:=(aO (L.take i)).take (j+1)) (World.ownsRow_nil _ _ _ _) (Dy (Reads.aN ((hkx.trans ky).owns hown (fun _ _ h=>h))) hki).2 (ξ _) (by rw[Γ];omega);have e1x:=(Dy (Reads.aN ((hkx.trans ky).owns hown (fun _ _ h=>h))) hki).1;have e1:=e1x;have e1y:=e1x;rw[show(((j+1:Nat):Nat):Int)=(j:Int)+1 by omega]at e1y;clear e1x;obtain⟨dS,vc2,rfl⟩:=au p2;have k2:ε η wy w2:=ε.Uk p4 p5;obtain⟨BG,x9⟩:=acu (w2.alloc (.cells #[.int .i64 r.pos,.int .i64 r.key,.int .i64 r.val] 68));have GZ:ε η w2 BG:=(by rw[<-x9];exact δ.alloc _);have rl:Reads BG 3 (.slice (some ⟨w2.heap.size,0,none⟩) 1 1) (recs [r]):=(by rw[<-x9];exact Reads.lit w2 (recs [r]) 68 3 1 rfl (by unfold maxLen;omega));obtain⟨vo3,n3,w3,s1,s2,s3,s4,s5⟩:=pF (base:=wy.heap.size) (w:=BG) (M:=[r]) (GZ.owns p2 (fun _ _ h=>h)) rl (ω k2.size GZ.size) (by rw[nil_append,length_singleton];omega);obtain⟨va3,vc3,rfl⟩:=au s2;have k3:ε η wy w3:=(k2.trans GZ).new (ε.grown (S:=fun j=>wy.heap.size<=j) s4 (fun j hj _=>(aY p2 hj).1)) (fun j hj hs=>by omega);have e2:=(Ud (Reads.aN (((hkx.trans ky).trans k3).owns hown (fun _ _ h=>h))) hki);obtain⟨vd,e2a,e2b⟩:=e2;have e2y:=e2a;rw[show(((j+1:Nat):Nat):Int)=(j:Int)+1 by omega]at e2y;obtain⟨vo4,n4,w4,t1,t2,t3,t4,t5⟩:=pF (base:=wy.heap.size) (w:=w3) (M:=(aO (L.take i)).drop (j+1)) s2 e2b k3.size (by rw[nil_append,ν,length_singleton];omega);obtain⟨va4,vc4,rfl⟩:=au t2;have k4:ε η wy w4:=k3.new (ε.grown (S:=fun j=>wy.heap.size<=j) t4 (fun j hj _=>(aY s2 hj).1)) (fun j hj hs=>by omega);have hnew:([]++(aO (L.take i)).take (j+1)++[r]++(aO (L.take i)).drop (j+1))=aO (L.take (i+1)):=G7 HRR.o.1 hdrop htake;rw[hnew]at t2;have hn4:n4=i+1:=(by have h1:=t2.1;rw[aQ,jq,υ]at h1;omega);subst hn4;have Q:=γ (θ p1 (θ s1 (θ t1 (θ (jV t2 Qb.size) (Qb.trans k4)))));obtain⟨la,ln,lc,hvd⟩: ∃la ln lc,vd= .slice la ln lc:=(by obtain⟨a,n,c,e,_⟩:=e2b;exact⟨a,n,c,e⟩);subst hvd;have y0:=(k2.cell (p:=⟨lb,lo+i*3,none⟩) id (ky.cell id x0));have y1:=(k2.cell (p:=⟨lb,lo+i*3+1,none⟩) id (ky.cell id x1));have y2:=(k2.cell (p:=⟨lb,lo+i*3+2,none⟩) id (ky.cell id x2));rw[<-x9]at Q;have aiU:=γ x9;clear p1 p2 p3 p4 p5 s1 s2 s3 s4 s5 t1 t2 t3 t4 t5 k2 GZ k3 k4 rl e2b hnew ky Qb hown hLi hLt hLd hwy x9 x0 x1 x2 hdrop htake hkx;have tok1:True:=trivial;have tok2:True:=trivial;have OZ:True:=trivial;have P1:=γ Q.o.1;have P2:=γ Q.o.2.1;have P3:=γ Q.o.2.2.1;go_wp2_with (first|(at_builtin;have _t:=tok1;clear _t tok1;refine wpList_append_run rfl (.tmp 33) (.tmp 36) 60 rfl (.slice none 0 0) (.slice (some ⟨ob,oo,none⟩) (j+1) oc) _ rfl rfl P1.o ?_)|(at_builtin;have _t:=tok2;clear _t tok2;refine wpList_append_run rfl (.tmp 38) (.tmp 43) 60 rfl (.slice dS n2 vc2) (.slice (some ⟨w2.heap.size,0,none⟩) 1 1) _ rfl rfl P2.o ?_)|(at_builtin;have _t:=OZ;clear _t OZ;refine wpList_append_run rfl (.tmp 45) (.tmp 48) 60 rfl (.slice va3 n3 vc3) (.slice la ln lc) _ rfl rfl P3.o ?_));go_roundg (L.length-(i+1))
      case rel=>exact⟨i+1,by omega,by go_num,ξ _,Q.o.2.2.2.1,Q.o.2.2.2.2⟩
      case measure=>have:=A.o.1;omega
  ·have hie:i=L.length:=by omega
   subst hie;rw[χ (ξ _)]at hown;have F:=γ (show mG w (aO L) (.returned (.slice oa L.length oc)) wo from⟨_,rfl,Reads.aN hown,fun b hb=>(oN hown hb).1,hkp⟩);clear hown hkp;go_wp2;go_ret;exact F.o
def stepG (kind:Int)(b:Nat)(r:Rec):Rec:=if kind=8 then jc b r else r
def uP (kind:Int)(LL:List (List Rec)):List (List Rec):=if kind=8 then jd 0 LL else LL
theorem Pz (kind:Int)(LL:List (List Rec))(b:Nat):(uP kind LL)[b]?=LL[b]?.map (fun L=>L.map (stepG kind b)):=by
 unfold uP;by_cases h:kind=8
 ·rw[if_pos h,BF,Nat.zero_add]
  congr 1;funext L;congr 1;funext r;unfold stepG;rw[if_pos h]
 ·rw[if_neg h]
  have:(fun L:List Rec=>L.map (stepG kind b))=id:=by
   funext L
   have e:stepG kind b=id:=(by funext r;unfold stepG;rw[if_neg h];rfl);rw[e];simp
  rw[this];simp
theorem aaO (kind:Int)(LL:List (List Rec)):(uP kind LL).length=LL.length:=by unfold uP;split;exact xH 0 LL;rfl
theorem JA (kind:Int)(LL:List (List Rec)):(uP kind LL).flatten.length=LL.flatten.length:=by unfold uP;split;exact wY 0 LL;rfl
def lN (kind:Int)(LL:List (List Rec))(b i:Nat):List Rec:=((uP kind LL).take b).flatten++(((uP kind LL)[b]?).getD []).take i
theorem J5 {kind:Int}{LL:List (List Rec)}{b i:Nat}{L:List Rec}{r:Rec}(hL:LL[b]?=some L)(hr:L[i]?=some r):lN kind LL b (i+1)=lN kind LL b i++[stepG kind b r]:=by unfold lN;rw[Pz,hL];simp only[Option.map_some,Δ];rw[ψ,aav,hr,append_assoc];rfl
theorem J4 (kind:Int)(LL:List (List Rec))(b:Nat):lN kind LL b 0=((uP kind LL).take b).flatten:=by unfold lN;simp
theorem J7 {kind:Int}{LL:List (List Rec)}{b:Nat}{L:List Rec}(hL:LL[b]?=some L):lN kind LL b L.length=lN kind LL (b+1) 0:=by
 have h1:(uP kind LL)[b]?=some (L.map (stepG kind b)):=(by rw[Pz,hL];rfl);rw[J4,lH h1];unfold lN;rw[h1]
 congr 1
 exact χ (by simp)
theorem adP {LL:List (List Rec)}(b i:Nat):((LL.take b).flatten++((LL[b]?).getD []).take i).length<=LL.flatten.length:=by
 cases h:LL[b]? with
 |none=>simp only[Option.getD_none,take_nil,append_nil];exact qE b
 |some L=>simp only[Δ];have h1:=lH h;have h2:=qE (LL:=LL) (b+1);rw[h1,ν]at h2;have h3:=length_take_le' i L;rw[ν];omega
theorem abH (kind:Int)(LL:List (List Rec))(b i:Nat):(lN kind LL b i).length<=LL.flatten.length:=by rw[<-JA kind LL];exact adP b i
theorem Yx (na:Array Value)(nd:dG)(v:Value)(LL:List (List Rec))(w:World)(hn:dR w na nd)(hr:oP w v LL)(hb:LL.flatten.length<=1000000)(hll:LL.length<=1000):
 Calls prog 71 #[.agg na,v] w (mG w (jC nd.kind LL)):=by
 have hg:jC nd.kind LL=aO (uP nd.kind LL).flatten:=rfl;rw[hg];obtain⟨uid,inv,p,cap,rfl,hx,hk0,hk1,nN⟩:=hn;obtain⟨vs0,hv0,hrd,hev⟩:=hr;obtain⟨pa,n0,jI,rfl,hc1,hc2,hc3,hcl⟩:=hrd;have hn0:n0=LL.length:=(by omega);subst hn0;unfold maxLen at hc2;have HE:=γ (θ hv0 (θ hcl hev));clear hx hg hv0 hc3 hcl hev;go_enter func71,ntmps71;go_wp2_with fail;obtain⟨W0,hW0⟩:=acu (w.alloc (.cells #[.string uid,.int .u8 nd.kind,inv,.int .u8 nd.x.op,.int .i64 nd.x.n,.slice p nd.x.args.length cap,.int .i64 nd.n] 42));have k0:ε η w W0:=(by rw[<-hW0];exact δ.alloc _);have d1:W0.cell? ⟨w.heap.size,1,none⟩=some (.int .u8 nd.kind):=(by rw[<-hW0];simp);rw[hW0];have K0:=γ (θ k0 d1);have hsz0:w.heap.size<=W0.heap.size:=k0.size;clear hW0 k0 d1;go_loopg [5,6] LL.length (fun g va vi wr=> ∃b:Nat,b<=LL.length/\vi= .int .i64 (b:Int)/\LL.length-b<=g/\wr.ownsRow W0.heap.size 68 3 va (lN nd.kind LL b 0).length (recs (lN nd.kind LL b 0))/\ε η W0 wr)
 case atStart=>exact⟨0,by omega,rfl,by omega,(by simpa[lN,recs]using World.ownsRow_nil _ _ _ _),ε.refl _ _⟩
 case round=>
  obtain⟨b,hbl,rfl,hg,hown,hkp⟩:=hrel;obtain⟨wo,rfl⟩: ∃wo:World,wo=wr:=⟨_,rfl⟩;obtain⟨oa,oc,rfl⟩:=au hown;by_cases hlt:b<LL.length
  ·obtain⟨L,hL⟩: ∃L,LL[b]?=some L:=⟨_,ι hlt⟩
   obtain⟨u,hu⟩: ∃u,vs0[b]?=some u:=⟨_,ι (by rw[HE.o.1];exact hlt)⟩;have qW:=HE.o.2.2 b u L hu hL;obtain⟨ua,uc,rfl,hu1,hu2,hu3⟩:=qW.recAt;unfold maxLen at hu2;obtain⟨pb,po,rfl,hpc⟩:=HE.o.2.1.resolve_left (fun h=>by rw[h]at hu;cases hu);have YI:=K0.o.1.cell (p:=⟨pb,po+b,none⟩) id (hpc b _ hu);have q0:=hkp.cell (p:=⟨pb,po+b,none⟩) id YI;have A:=γ (θ hg (θ hown hkp));have HL:=γ (θ hL (θ hu3 YI));have hb1000:b<=1000:=(by omega);clear hg hown hkp hL hu qW hpc hu3 q0 YI;go_wp2;go_loopg [5,7] L.length (fun g va vi wr=> ∃i:Nat,i<=L.length/\vi= .int .i64 (i:Int)/\L.length-i<=g/\wr.ownsRow W0.heap.size 68 3 va (lN nd.kind LL b i).length (recs (lN nd.kind LL b i))/\ε η W0 wr)
   case atStart=>exact⟨0,by omega,rfl,by omega,A.o.2.1,A.o.2.2⟩
   case round=>
    obtain⟨i,hil,rfl,hgi,hown,hkx⟩:=hrel;obtain⟨wx,rfl⟩: ∃wx:World,wx=wr:=⟨_,rfl⟩;obtain⟨xa,xc,rfl⟩:=au hown;have q0:=hkx.cell (p:=⟨pb,po+b,none⟩) id HL.o.2.2;by_cases hit:i<L.length
    ·obtain⟨r,hr⟩: ∃r,L[i]?=some r:=⟨_,ι hit⟩
     obtain⟨rb,ro,rfl,hrc⟩:=HL.o.2.1.resolve_left (fun h=>by rw[h]at hr;cases hr);obtain⟨x0,x1,x2⟩:=((hrc i r hr).pure (K0.o.1.trans hkx));have d1:=hkx.cell (p:=⟨w.heap.size,1,none⟩) id K0.o.2;have hdl:=block_lt_of_cell d1;simp only[]at hdl;have hgl:=abH nd.kind LL b i;by_cases h8:nd.kind=8
     ·have h8b:(nd.kind==8)=true:=by simp[h8]
      have RY:=γ (show(if nd.kind=8 then jc b r else r)=jc b r from if_pos h8);clear h8;obtain⟨W1,hW1⟩:=acu ((wx.alloc (.cells #[.int .i64 (wrap64 (wrap64 (8*r.pos)+(b:Int))),.int .i64 r.key,.int .i64 r.val] 68)).alloc (.cells #[.int .i64 (wrap64 (wrap64 (8*r.pos)+(b:Int))),.int .i64 r.key,.int .i64 r.val] 68));have k1:ε η wx W1:=(by rw[<-hW1];exact(δ.alloc _).alloc _);have rl:Reads W1 3 (.slice (some ⟨wx.heap.size+1,0,none⟩) 1 1) (recs [(jc b r:Rec)]):=(by have:=Reads.lit (wx.alloc (.cells #[.int .i64 (wrap64 (wrap64 (8*r.pos)+(b:Int))),.int .i64 r.key,.int .i64 r.val] 68)) (recs [(jc b r:Rec)]) 68 3 1 rfl (by unfold maxLen;omega);rw[World.size_alloc]at this;rw[<-hW1];exact this);obtain⟨va,n1,W2,p1,p2,p3,p4,_⟩:=pF (k1.owns hown (fun _ _ h=>h)) rl (ω hkx.size k1.size) (by rw[length_singleton];omega);obtain⟨va,vc,rfl⟩:=au p2;have k2:ε η W0 W2:=(hkx.trans k1).new (ε.grown (S:=fun j=>W0.heap.size<=j) p4 (fun j hj _=>(aY hown hj).1)) (fun j hj hs=>by omega);rw[length_singleton,<-length_singleton (a:=(jc b r:Rec)),<-ν]at p3;rw[show lN nd.kind LL b i++[(jc b r:Rec)]=lN nd.kind LL b (i+1)from by rw[J5 HL.o.1 hr];unfold stepG;rw[RY.o]]at p2 p3;subst p3;rw[<-hW1]at p1;have Q:=γ (θ hgi (θ p1 (θ p2 k2)));clear hgi p1 p2 p4 k2 k1 rl hW1 hown hkx hr hrc hgl;go_wp2_with (at_builtin;refine wpList_append_run rfl (.tmp 40) (.tmp 42) 60 rfl (.slice xa (lN nd.kind LL b i).length xc) (.slice (some ⟨wx.heap.size+1,0,none⟩) 1 1) _ rfl rfl Q.o.2.1 ?_);go_roundg (L.length-(i+1))
      case rel=>exact⟨i+1,by omega,by go_num,ξ _,Q.o.2.2.1,Q.o.2.2.2⟩
      case measure=>have:=Q.o.1;omega
     ·have h8b:(nd.kind==8)=false:=by simp[h8]
      have RY:=γ (show(if nd.kind=8 then jc b r else r)=r from if_neg h8);clear h8;obtain⟨W1,hW1⟩:=acu ((wx.alloc (.cells #[.int .i64 r.pos,.int .i64 r.key,.int .i64 r.val] 68)).alloc (.cells #[.int .i64 r.pos,.int .i64 r.key,.int .i64 r.val] 68));have k1:ε η wx W1:=(by rw[<-hW1];exact(δ.alloc _).alloc _);have rl:Reads W1 3 (.slice (some ⟨wx.heap.size+1,0,none⟩) 1 1) (recs [(r:Rec)]):=(by have:=Reads.lit (wx.alloc (.cells #[.int .i64 r.pos,.int .i64 r.key,.int .i64 r.val] 68)) (recs [(r:Rec)]) 68 3 1 rfl (by unfold maxLen;omega);rw[World.size_alloc]at this;rw[<-hW1];exact this);obtain⟨va,n1,W2,p1,p2,p3,p4,_⟩:=pF (k1.owns hown (fun _ _ h=>h)) rl (ω hkx.size k1.size) (by rw[length_singleton];omega);obtain⟨va,vc,rfl⟩:=au p2;have k2:ε η W0 W2:=(hkx.trans k1).new (ε.grown (S:=fun j=>W0.heap.size<=j) p4 (fun j hj _=>(aY hown hj).1)) (fun j hj hs=>by omega);rw[length_singleton,<-length_singleton (a:=(r:Rec)),<-ν]at p3;rw[show lN nd.kind LL b i++[(r:Rec)]=lN nd.kind LL b (i+1)from by rw[J5 HL.o.1 hr];unfold stepG;rw[RY.o]]at p2 p3;subst p3;rw[<-hW1]at p1;have Q:=γ (θ hgi (θ p1 (θ p2 k2)));clear hgi p1 p2 p4 k2 k1 rl hW1 hown hkx hr hrc hgl;go_wp2_with (at_builtin;refine wpList_append_run rfl (.tmp 40) (.tmp 42) 60 rfl (.slice xa (lN nd.kind LL b i).length xc) (.slice (some ⟨wx.heap.size+1,0,none⟩) 1 1) _ rfl rfl Q.o.2.1 ?_);go_roundg (L.length-(i+1))
      case rel=>exact⟨i+1,by omega,by go_num,ξ _,Q.o.2.2.1,Q.o.2.2.2⟩
      case measure=>have:=Q.o.1;omega
    ·have hie:i=L.length:=by omega
     subst hie;rw[J7 HL.o.1]at hown;have Q:=γ (θ hown hkx);have hlenx:(lN nd.kind LL b L.length).length=(lN nd.kind LL (b+1) 0).length:=(by rw[J7 HL.o.1]);rw[hlenx];clear hown hkx hgi;go_wp2;go_roundg (LL.length-(b+1))
     case rel=>exact⟨b+1,by omega,by go_num,ξ _,Q.o.1,Q.o.2⟩
     case measure=>have:=A.o.1;omega
  ·have hbe:b=LL.length:=by omega
   subst hbe;have hfull:lN nd.kind LL LL.length 0=(uP nd.kind LL).flatten:=(by rw[J4,χ (by rw[aaO];exact ξ _)]);rw[hfull]at hown⊢;have hfl:=JA nd.kind LL;obtain⟨FL,hFL⟩:=acu ((uP nd.kind LL).flatten);rw[hFL]at hown hfl⊢;have HFL:=γ hFL;clear hFL;have Q:=γ (θ (Reads.aN hown) (K0.o.1.trans hkp));have HF:=γ hfl;clear hown hkp hg hfl hfull;go_wp2_with fail;have c:=Gm _ FL wo Q.o.1 (by have:=HF.o;omega);refine c.mono ?_;clear c;rintro e w2 ⟨u,rfl,r1,r2,k2⟩;have F:=γ (show mG w (aO FL) (.returned u) w2 from⟨u,rfl,r1,fun b hb=>ω Q.o.2.size (r2 b hb),Q.o.2.trans k2⟩);obtain⟨ra,rc,rfl,_,_⟩:=r1.len;clear r1 r2 k2;go_wp2;go_ret;rw[HFL.o];exact F.o
end
section
open Go Go.RowKit
structure bP (w:World)(M:Nat->Prop)(D:Nat)(T:Tab):Prop where
 ok:fC T
 dot:M D
 out: ∃v cs,w.heap[D]?=some (.cells #[v] 103 (0,0))/\Reads w 3 v cs/\cu w cs T/\(∀b,Value.blk v=some b->M b)/\ ∀(i:Nat)(lv:Value),cs[i*3+2]?=some lv-> ∀b,Value.blk lv=some b->M b
theorem bP.at {w:World}{M:Nat->Prop}{D:Nat}{T:Tab}(h:bP w M D T):RTabAt w D T:=by obtain⟨v,cs,h1,h2,h3,_⟩:=h.out;exact⟨⟨v,h1,cs,h2,h3⟩,h.ok⟩
theorem bP.mono {w:World}{M M':Nat->Prop}{D:Nat}{T:Tab}(h:bP w M D T)(hM: ∀q,M q->M' q):bP w M' D T:=by obtain⟨v,cs,h1,h2,h3,h4,h5⟩:=h.out;exact⟨h.ok,hM _ h.dot,v,cs,h1,h2,h3,fun b hb=>hM b (h4 b hb),fun i lv hl b hb=>hM b (h5 i lv hl b hb)⟩
theorem bP.kept {w w':World}{M S:Nat->Prop}{D:Nat}{T:Tab}(h:bP w M D T)(hk:ε S w w')(hS: ∀q,S q-> ¬M q):bP w' M D T:=by obtain⟨v,cs,h1,h2,h3,h4,h5⟩:=h.out;refine⟨h.ok,h.dot,v,cs,hk.heap h1 (fun hs=>hS D hs h.dot),h2.kept hk (fun b hb hs=>hS b hs (h4 b hb)),⟨h3.1,fun i p hp=>?_⟩,h4,h5⟩;obtain⟨a,b,lv,c,d⟩:=h3.2 i p hp;exact⟨a,b,lv,c,d.kept hk (fun q hq hs=>hS q hs (h5 i lv c q hq))⟩
theorem vw {v:Value}{q:Nat}(h:Value.blk v=some q):v.ownBlock=some q:=by
 unfold Value.blk at h;split at h
 ·split at h
  ·cases h
  ·exact h
 ·cases h
theorem Reads.det {w:World}{k:Nat}{v:Value}{cs ds:List Value}(hk:0<k)(h:Reads w k v cs)(h':Reads w k v ds):cs=ds:=by
 obtain⟨a,n,cap,rfl,_,_,h3,h4⟩:=h;obtain⟨a',n',cap',e,_,_,g3,g4⟩:=h'
 injection e with e1 e2 e3
 subst e1 e2 e3;have hl:cs.length=ds.length:=by omega
 rcases h4 with h4|⟨b,off,hb,h4⟩
 ·rw[h4]at hl⊢
  exact(τ hl.symm).symm
 ·rcases g4 with g4|⟨b',off',hb',g4⟩
  ·rw[g4]at hl⊢
   exact τ hl
  ·rw[hb]at hb'
   injection hb' with hb'
   injection hb' with e1 e2
   subst e1 e2;apply ext_getElem?;intro j;by_cases hj:j<cs.length
   ·obtain⟨x,hx⟩: ∃x,cs[j]?=some x:=⟨_,ι hj⟩
    obtain⟨y,hy⟩: ∃y,ds[j]?=some y:=⟨_,ι (by omega)⟩;have h1:=h4 j x hx;rw[g4 j y hy]at h1;rw[hx,hy,h1]
   ·rw[aak (by omega),aak (by omega)]
theorem Reads.DW {w:World}{k:Nat}{v:Value}{cs:List Value}(hk:0<k)(h:Reads w k v cs){q:Nat}(hq:Value.blk v=some q):q<w.heap.size:=by
 obtain⟨a,n,cap,rfl,_,_,h3,h4⟩:=h;unfold Value.blk at hq
 cases a with
 |none=>cases hq
 |some p=>
  simp only at hq;split at hq
  ·cases hq
  ·rename_i hn
   have hpos:0<cs.length:=by rw[h3];exact Nat.mul_pos (by omega) hk
   rcases h4 with h4|⟨b,off,hb,h4⟩
   ·rw[h4]at hpos;cases hpos
   ·injection hb with hb
    subst hb
    injection hq with hq
    have:=block_lt_of_cell (h4 0 _ (ι hpos));simp only at hq this;omega
theorem bP.Gx {w:World}{M:Nat->Prop}{D:Nat}{T:Tab}(h:bP w M D T):bP w (fun q=>M q/\q<w.heap.size) D T:=by
 obtain⟨v,cs,h1,h2,h3,h4,h5⟩:=h.out;refine⟨h.ok,⟨h.dot,(κ.1 h1).1⟩,v,cs,h1,h2,h3,fun q hq=>⟨h4 q hq,h2.DW (by omega) hq⟩,fun i lv hl q hq=>⟨h5 i lv hl q hq,?_⟩⟩;have hi:i<T.length:=(by have:=(μ.1 hl).1;have:=h3.1;omega);obtain⟨_,_,lv',e,d⟩:=h3.2 i _ (ι hi);rw[hl]at e
 injection e with e
 subst e;exact d.DW (by omega) hq
def iH (cs:List Value)(R:Value->Prop):Prop:= ∀(i:Nat)(lv:Value),cs[i*3+2]?=some lv->R lv
theorem iH.append {cs ds:List Value}{R:Value->Prop}{n:Nat}(hn:cs.length=n*3)(h:iH cs R)(h':iH ds R):iH (cs++ds) R:=fun i lv hi=>by
 by_cases hin:i<n
 ·rw[Ω (by omega)]at hi
  exact h i lv hi
 ·rw[Ψ (by omega),hn,show i*3+2-n*3=(i-n)*3+2 by omega]at hi
  exact h' _ lv hi
theorem iH.take {cs:List Value}{R:Value->Prop}(h:iH cs R)(m:Nat):iH (cs.take m) R:=fun i lv hi=>by
 rw[aaA]at hi;split at hi
 ·exact h i lv hi
 ·cases hi
theorem iH.drop {cs:List Value}{R:Value->Prop}(h:iH cs R)(k:Nat):iH (cs.drop (k*3)) R:=fun i lv hi=>by rw[getElem?_drop,show k*3+(i*3+2)=(k+i)*3+2 by omega]at hi;exact h _ lv hi
theorem iH.one {x y lv:Value}{R:Value->Prop}(h:R lv):iH [x,y,lv] R:=fun i u hi=>by
 match i,hi with
 |0,hi=>cases hi;exact h
 |i+1,hi=>have:(i+1)*3+2=i*3+2+1+1+1:=(by omega);rw[this]at hi;cases hi
def pU (w w':World)(b:Nat)(T T':Tab):Prop:= ∀M:Nat->Prop,bP w M b T->bP w' (fun q=>M q\/w.heap.size<=q) b T'
theorem pU.same {w w':World}{b:Nat}{T:Tab}(hk:ε η w w'):pU w w' b T T:=fun _ h=>(h.kept hk (fun _ h=>h.elim)).mono (fun _ h=> .inl h)
theorem pU.of {w w':World}{b:Nat}{T T':Tab}{v v':Value}{cs cs':List Value}(hv:w.heap[b]?=some (.cells #[v] 103 (0,0)))(hcs:Reads w 3 v cs)
 (aiA:w'.heap[b]?=some (.cells #[v'] 103 (0,0))) (hr':Reads w' 3 v' cs') (aiw:cu w' cs' T') (hok':fC T') (hnew: ∀q,Value.blk v'=some q->w.heap.size<=q)
 (hl: ∀R:Value->Prop,iH cs R->(∀lv,(∀q,Value.blk lv=some q->w.heap.size<=q)->R lv)->iH cs' R):pU w w' b T T':=fun M h=>by
 obtain⟨v1,cs1,h1,h2,_,_,h5⟩:=h.out;rw[hv]at h1
 injection h1 with h1
 injection h1 with h1
 injection h1 with h1
 injection h1 with h1
 subst h1;obtain rfl:=Reads.det (by omega) hcs h2;exact⟨hok',.inl h.dot,v',cs',aiA,hr',aiw,fun q hq=> .inr (hnew q hq),fun i lv hi q hq=>hl (fun lv=> ∀q,Value.blk lv=some q->M q\/w.heap.size<=q) (fun i lv hi q hq=> .inl (h5 i lv hi q hq)) (fun lv hn q hq=> .inr (hn q hq)) i lv hi q hq⟩
end
section
open Go Go.RowKit
attribute [local irreducible] dI
theorem Reads.rD {w:World}{b E k n z:Nat}{x:Option Addr}{f:Nat×Nat}{v:Value}{cs:List Value}(h:Reads w k v cs)(hb:w.heap[b]?=some (.cells #[.slice x n z] E f))(hk:0<k)(h0: ∀y,cs[0]?=some y-> ∃q m,y= .int q m): ∀bb,Value.blk v=some bb->bb≠b:=by
 intro bb hbb e;subst e;obtain⟨a,m,cap,rfl,h1,h2,h3,h4⟩:=h;have hm:m≠0:=(by intro e;subst e;cases a<;>simp[Value.blk]at hbb);have hlen:0<cs.length:=by rw[h3];exact Nat.mul_pos (by omega) hk
 rcases h4 with rfl|⟨b',off,rfl,h4⟩
 ·simp at hlen
 ·simp[Value.blk,hm]at hbb
  subst hbb;obtain⟨y,hy⟩: ∃y,cs[0]?=some y:=⟨_,ι hlen⟩;obtain⟨q,i,rfl⟩:=h0 y hy;have h5:=h4 0 _ hy;simp[World.cell?,hb]at h5
  cases off with
  |zero=>simp at h5
  |succ o=>simp at h5
theorem Gq {w:World}{b e s n b' e' s' n':Nat}{v v':Value}{xs xs':List Value}(h:w.ownsRow b e s v n xs)(h':w.ownsRow b' e' s' v' n' xs')(hne:e≠e'){k:Nat}(hk:v.ownBlock=some k)(hk':v'.ownBlock=some k):False:=by
 rcases h.2 with⟨rfl,_⟩|⟨g,cap,cur,rfl,_,h2,_⟩
 ·cases hk
 ·rcases h'.2 with⟨rfl,_⟩|⟨g',cap',cur',rfl,_,h2',_⟩
  ·cases hk'
  ·cases hk
   cases hk';rw[h2]at h2'
   injection h2' with h2'
   injection h2' with _ h3 _
   exact hne h3
theorem cu.first {w:World}{cs:List Value}{T:Tab}(h:cu w cs T): ∀y,cs[0]?=some y-> ∃q m,y= .int q m:=by
 intro y hy
 cases T with
 |nil=>have h1:=h.1;simp at h1;subst h1;cases hy
 |cons p r=>have h1:=(h.2 0 p rfl).1;rw[Nat.zero_mul,hy]at h1;cases h1;exact⟨_,_,rfl⟩
def AX (w:World)(b:Nat)(T:Tab)(k:Int)(c:Cell)(e:Ending)(w':World):Prop:=
 e= .returned (.int .i64 (eP T k c.2.length))/\RTabAt w' b (dL T k c)/\ε (one b) w w'/\pU w w' b T (dL T k c)
theorem Px (b:Nat)(T:Tab)(k:Int)(c:Cell)(v:Value)(w:World)(h:RTabAt w b T)(hk:aJ k)(hc1:aJ c.1)(hc2: ∀x∈c.2,aJ x)(hlen:c.2.length<=17592186044416)(hr:Reads w 1 v (ints c.2)):
 Calls prog 149 #[.pointer (some ⟨b,0,none⟩),.int .i64 k,.agg #[.int .i64 c.1,v]] w (AX w b T k c):=by
 obtain⟨va,vc,rfl,hv1,hv2,_⟩:=hr.at;obtain⟨⟨tv,eU,hrt⟩,hok⟩:=h;obtain⟨pa,jI,rfl,hc1',hc2',_⟩:=hrt.parts;have hT:=hok.len;have hfl:=xI k T;have c0:w.cell? ⟨b,0,none⟩=some (.slice pa T.length jI):=ζ eU rfl;have c00:=γ c0;have hbl:=block_lt_of_cell c0;simp only[]at hbl;have HT:=γ (show RTabAt w b T from⟨⟨_,eU,hrt⟩,hok⟩);have HRT:=γ hrt;have HC:=γ (θ hk (θ hc1 hc2));have hr:=γ hr;unfold maxLen at hc2' hv2;clear eU hrt hok hk hc1 hc2;by_cases h16:16<c.2.length
 ·have hE:eP T k c.2.length=2:=by unfold eP;rw[if_pos h16]
  have QU:dL T k c=T:=(by unfold dL;rw[hE];rfl);have F:=γ (show AX w b T k c (.returned (.int .i64 2)) (w.alloc (.cells #[.int .i64 c.1,.slice va c.2.length vc] 109))from⟨by rw[hE],by rw[QU];exact HT.o.pure (δ.alloc _),δ.alloc _,by rw[QU];exact pU.same (δ.alloc _)⟩);have aiQ:(16:Int)<(c.2.length:Int):=(by omega);clear hE QU;go_enter func149,ntmps149;go_wp2;go_ret;exact F.o
 ·have aiQ: ¬(16:Int)<(c.2.length:Int):=by omega
  go_enter func149,ntmps149;go_wp2_with fail;obtain⟨W0,hW0⟩:=acu (w.alloc (.cells #[.int .i64 c.1,.slice va c.2.length vc] 109));have k0:ε η w W0:=(by rw[<-hW0];exact δ.alloc _);have d0:W0.cell? ⟨w.heap.size,0,none⟩=some (.int .i64 c.1):=(by rw[<-hW0];simp);have d1:W0.cell? ⟨w.heap.size,1,none⟩=some (.slice va c.2.length vc):=(by rw[<-hW0];simp);rw[hW0];have cc:=yB b T k W0 (HT.o.pure k0) HC.o.1;refine cc.mono ?_;clear cc;rintro e w1 ⟨rfl,k1'⟩;have d0:=k1'.cell (p:=⟨w.heap.size,0,none⟩) id d0;have d1:=k1'.cell (p:=⟨w.heap.size,1,none⟩) id d1;have k1:ε η w w1:=k0.trans k1';have c0:=k1.cell (p:=⟨b,0,none⟩) id c0;rw[<-hW0]at k1';have ou:=γ k1';have hbl1:b<w1.heap.size:=Pe hbl k1.size;have VY:w.heap.size<w1.heap.size:=(by have:=k1'.size;simp at this;omega);clear k0 k1' hW0
  cases his:(bZ T k).isSome with
  |true=>
   have hne:bZ T k≠none:=by intro e;rw[e]at his;cases his
   have aiV:=γ (show aV k T<T.length by
    have h1:=EX (k:=k) HT.o.ok.rises;rw[his]at h1
    cases hx:T[aV k T]? with
    |none=>rw[hx]at h1;cases h1
    |some p=>exact(μ.1 hx).1)
   have RQ:=γ (θ his hne);clear his hne;have abo:(aV k T+1)<=T.length:=(by have:=aiV.o;omega);obtain⟨cs,hcs1,hcs2⟩:=HRT.o;have Ho:=hcs1.pure k1;have hcl0:=hcs2.1;have e1:=E8 (P:=prog) underlying101 (xC w1) Ho hfl;have PS:=World.ownsRow_nil w1 w1.heap.size 122 3;obtain⟨v1,n1,w2,a1,a2,a3,a4⟩:=qj (base:=w1.heap.size) (n:=0) PS e1.2 (hcs2.take (aV k T)).cells (ξ _) (by rw[Γ,υ];omega);obtain⟨Xm,Xl,rfl⟩:=au a2;have k12:ε η w1 w2:=ε.grown a4 (fun j hj _=>by cases hj);have uj:=hr.o.pure (((ε.refl η w).alloc (.cells #[.int .i64 c.1,.slice va c.2.length vc] 109)).trans (ou.o.trans k12));have d0:=k12.cell (p:=⟨w.heap.size,0,none⟩) id d0;have d1:=k12.cell (p:=⟨w.heap.size,1,none⟩) id d1;have c0x:=k12.cell (p:=⟨b,0,none⟩) id c0;have A1:=γ a1;have E1:=e1.1;have Q2:=γ (θ a2 (θ a3 (θ k12 (θ uj (θ hcs1 (θ hcs2 hcl0))))));clear a1 a2 a3 a4 e1 k12 uj PS hcs1 hcs2 hcl0 Ho;go_wp2_with (at_builtin;refine wpList_append_run rfl (.tmp 29) (.tmp 35) 101 rfl (.slice none 0 0) (.slice pa (aV k T) jI) _ rfl rfl A1.o ?_);refine ak [0,1,2,3,5,6,4,7,8,9,10,11,12] (fun W=>ε (fun j=>w1.heap.size<=j) w2 W) (by kernel_rfl) (by kernel_rfl) rfl δ.drew ?_;simp only[aco];iterate 6 (apply aj rfl rfl;(intro W hW;have z0:=hW.cell (fun h=>Nat.not_le.2 VY h) d0;have z1:=hW.cell (fun h=>Nat.not_le.2 VY h) d1;go_simp;rfl);go_frame)
   have kd:ε η w2 w2.drew:=δ.drew;apply ay rfl rfl;intro K hK;go_wp2_with fail;have k4:ε η w2 (w2.drew.alloc (.cells #[] 2)):=kd.alloc _;refine hK _ _ (fun _=>k4.pure) ?_;clear hK;apply ay rfl rfl;intro K hK;obtain⟨i2,hi2,hz2,hs2,hb2⟩:=info_parts Tryz.info2;obtain⟨v7,n7,w7,b1,b2,b3,b4,b5⟩:=aZ (P:=prog) w2.heap.size 97 97 2 i2 (.int .i64 0) 1 8 underlying97 hi2 hz2 hs2 hb2 rfl (by omega) (World.ownsRow_made w2.drew #[] 0 (ξ _) (Nat.zero_le _) rfl:(w2.drew.alloc (.cells #[] 2)).ownsRow w2.heap.size 2 1 (.slice (some ⟨w2.heap.size,0,none⟩) 0 0) 0 []) (Q2.o.2.2.2.1.pure k4) (nM c.2) (by simp;omega) (by unfold maxLen;simp;omega) k4.size;obtain⟨sZ,sW,rfl⟩:=au b2;have k7:ε η w2 w7:=k4.new (ε.grown (S:=fun j=>w2.heap.size<=j) b4 (fun j hj _=>by cases hj;exact ξ _)) (fun j hj hs=>by omega);refine wp_append_run (.tmp 41) (.tmp 43) 97 rfl (.slice (some ⟨w2.heap.size,0,none⟩) 0 0) (.slice va c.2.length vc) _ rfl rfl b1 ?_;refine hK _ _ (fun _=>k7.pure) ?_;clear hK;have R7:=γ (Reads.aN b2);have O7:=γ b2;clear b1 b2 b3 b4 b5 hi2 hz2 hs2 hb2;iterate 2 (first|(apply aT rfl;go_frame)|(apply aj rfl rfl;(intro W hW;go_simp;rfl);go_frame))
   apply ay rfl rfl;intro K hK;go_wp2_with fail;have k10:ε η w2 (w7.alloc (.cells #[.int .i64 k,.int .i64 c.1,.slice sZ n7 sW] 122)):=k7.alloc _;refine hK _ _ (fun _=>k10.pure) ?_;clear hK;apply ay rfl rfl;intro K hK;have Yq:cu (w7.alloc (.cells #[.int .i64 k,.int .i64 c.1,.slice sZ n7 sW] 122)) [.int .i64 k,.int .i64 c.1,.slice sZ n7 sW] [(k,(c.1,c.2))]:=cu.one (by have:=R7.o.pure ((ε.refl η w7).alloc (.cells #[.int .i64 k,.int .i64 c.1,.slice sZ n7 sW] 122));simpa using this);have JE:=Reads.lit w7 [.int .i64 k,.int .i64 c.1,.slice sZ n7 sW] 122 3 1 rfl (by unfold maxLen;omega);obtain⟨v11,n11,Xj,f1,f2,f3,f4⟩:=qj (k10.owns Q2.o.1 (fun _ _ h=>h)) JE Yq.cells (ω Q2.o.2.2.1.size k10.size) (by have:=Q2.o.2.2.2.2.2.2;simp;omega);obtain⟨LP,LK,rfl⟩:=au f2;have xZ:ε η w1 Xj:=(Q2.o.2.2.1.trans k10).new (ε.grown (S:=fun j=>w1.heap.size<=j) f4 (fun j hj _=>(aY Q2.o.1 hj).1)) (fun j hj hs=>by omega);refine wp_append_run (.tmp 37) (.tmp 47) 101 rfl (.slice Xm n1 Xl) (.slice (some ⟨w7.heap.size,0,none⟩) 1 1) _ rfl rfl f1 ?_;refine hK _ _ (fun _=>k10.pure.trans (ε.grown f4 (fun j hj _=>(aY Q2.o.1 hj).1))) ?_;clear hK;iterate 1 (first|(apply aT rfl;go_frame)|(apply aj rfl rfl;(intro W hW;go_simp;rfl);go_frame))
   refine aA (fun _=>k10.pure.trans (ε.grown f4 (fun j hj _=>(aY Q2.o.1 hj).1))) ?_;have ecs:=Q2.o.2.2.2.2.1;have uX:=Q2.o.2.2.2.2.2.1;obtain⟨vd,g1,g2⟩:=Fa (P:=prog) underlying101 (xC Xj) (ecs.pure (k1.trans xZ)) abo;obtain⟨da,dn,dc,hvd⟩: ∃da dn dc,vd= .slice da dn dc:=(by obtain⟨a,n,c,e,_⟩:=g2;exact⟨a,n,c,e⟩);subst hvd;obtain⟨v14,n14,mX,j1,j2,j3,j4⟩:=qj f2 g2 (uX.drop (aV k T+1)).cells xZ.size (by have:=Q2.o.2.2.2.2.2.2;simp;omega);obtain⟨oK,oJ,rfl⟩:=au j2;have k14:ε η w1 mX:=xZ.new (ε.grown (S:=fun j=>w1.heap.size<=j) j4 (fun j hj _=>(aY f2 hj).1)) (fun j hj hs=>by omega);have eU:mX.heap[b]?=some (.cells #[.slice pa T.length jI] 103 (0,0)):=by
    obtain⟨FZ,ho,_⟩:=HT.o.obj;have h1:=(k1.trans k14).heap ho id;have h2:=(k1.trans k14).cell (p:=⟨b,0,none⟩) id c00.o;have h3:mX.cell? ⟨b,0,none⟩=some FZ:=ζ h1 rfl;rw[h3]at h2
    injection h2 with h2
    rw[h2]at h1;exact h1
   have cb:mX.cell? ⟨b,0,none⟩=some (.slice pa T.length jI):=ζ eU rfl;have fb:=free_at eU 0;have c11:=xZ.cell (p:=⟨b,0,none⟩) id c0;have hfin:AX w b T k c (.returned (.int .i64 0)) (mX.setCell ⟨b,0,none⟩ (.slice oK n14 oJ)):=by
    have hE:eP T k c.2.length=0:=(by unfold eP;rw[if_neg h16,if_neg (fun h=>RQ.o.2 h.1)]);have ZE:dL T k c=iq k c T:=(by unfold dL;rw[if_pos hE]);have kb:ε (one b) mX (mX.setCell ⟨b,0,none⟩ (.slice oK n14 oJ)):=(ε.refl (one b) mX).setCell (p:=⟨b,0,none⟩) (.inl rfl) _;have hrows:cu mX ([]++cs.take (aV k T*3)++[.int .i64 k,.int .i64 c.1,.slice sZ n7 sW]++cs.drop ((aV k T+1)*3)) (T.take (aV k T)++[(k,(c.1,c.2))]++T.drop (aV k T+1)):=by
     refine cu.append (cu.append ?_ ?_) ?_
     ·rw[nil_append];exact(uX.take _).pure (k1.trans k14)
     ·refine cu.one ?_
      have ka:ε η w7 (w7.alloc (.cells #[.int .i64 k,.int .i64 c.1,.slice sZ n7 sW] 122)):=(ε.refl η w7).alloc _;have o10:=ka.owns O7.o (fun _ _ h=>h)
      have YQ:=(ε.grown (S:=fun j=>Value.ownBlock (.slice Xm n1 Xl)=some j) f4 (fun j hj _=>hj)).owns o10 (fun j hj hx=>by
       have h1:=(aY Q2.o.1 hx).2;have h2:=(aY O7.o hj).1
       omega)
      have o14:=(ε.grown (S:=fun j=>Value.ownBlock (.slice LP n11 LK)=some j) j4 (fun j hj _=>hj)).owns YQ (fun j hj hx=>Gq YQ f2 (by decide) hj hx);exact Reads.aN o14
     ·exact(uX.drop _).pure (k1.trans k14)
    have hnot: ∀(x:Value)(l:List Int),Reads mX 1 x (ints l)->Reads (mX.setCell ⟨b,0,none⟩ (.slice oK n14 oJ)) 1 x (ints l):=fun x l hx=>
     hx.kept kb (fun bb hbb e=>hx.rD eU (by omega) (fun y hy=>by
      cases l with
      |nil=>cases hy
      |cons q l=>cases hy;exact⟨_,_,rfl⟩) bb hbb e)
    have QW:(mX.setCell ⟨b,0,none⟩ (.slice oK n14 oJ)).heap[b]?=some (.cells #[.slice oK n14 oJ] 103 (0,0)):=(by have:=aU eU 0 (.slice oK n14 oJ);simpa using this);have QV:Reads (mX.setCell ⟨b,0,none⟩ (.slice oK n14 oJ)) 3 (.slice oK n14 oJ) ([]++cs.take (aV k T*3)++[.int .i64 k,.int .i64 c.1,.slice sZ n7 sW]++cs.drop ((aV k T+1)*3)):=(by exact(Reads.aN j2).kept kb (fun bb hbb e=>(Reads.aN j2).rD eU (by omega) hrows.first bb hbb e));have hRR:cu (mX.setCell ⟨b,0,none⟩ (.slice oK n14 oJ)) ([]++cs.take (aV k T*3)++[.int .i64 k,.int .i64 c.1,.slice sZ n7 sW]++cs.drop ((aV k T+1)*3)) (dL T k c):=(by rw[ZE,BH HT.o.ok.rises];have hsome:(if(bZ T k).isSome=true then aV k T+1 else aV k T)=(aV k T+1):=(by rw[RQ.o.1];rfl);rw[hsome];exact⟨hrows.1,fun i p hp=>by obtain⟨a,b',lv,c',d⟩:=hrows.2 i p hp;exact⟨a,b',lv,c',hnot _ _ d⟩⟩);have ZF:fC (dL T k c):=by rw[ZE];exact HT.o.ok.iq HC.o.1 ⟨HC.o.2.1,HC.o.2.2,by omega⟩ (.inl RQ.o.2)
    refine⟨by rw[hE],⟨⟨_,QW,_,QV,hRR⟩,ZF⟩,(k1.trans k14).pure.trans kb,?_⟩;obtain⟨FZ,ho,_⟩:=HT.o.obj;have abr:FZ= .slice pa T.length jI:=by
     have h1:=ζ ho (j:=0) (v:=FZ) rfl;rw[c00.o]at h1
     injection h1 with h1;exact h1.symm
    rw[abr]at ho;refine pU.of ho ecs QW QV hRR ZF (fun q hq=>by have:=(j2.lt q (vw hq)).1;have:=k1.size;omega) (fun R hR hN=>?_);exact iH.append (n:=aV k T+1) (by simp only[nil_append,ν,υ,φ,Γ];have:=uX.1;omega) (iH.append (n:=aV k T) (by rw[nil_append,υ];have:=uX.1;omega) (by rw[nil_append];exact hR.take _) (iH.one (hN _ (fun q hq=>by have:=(O7.o.lt q (vw hq)).1;have:=Q2.o.2.2.1.size;have:=k1.size;omega)))) (hR.drop _)
   have F:=γ hfin;have J1:=γ j1;have G1:=γ g1;have g1y:=g1;rw[show(((aV k T+1:Nat):Nat):Int)=(aV k T:Int)+1 by omega]at g1y;clear hfin j1 j2 j3 j4 f1 f2 f3 f4 g2 k14 eU xZ k10 k7 k4 kd Yq JE ecs uX;go_wp2_with (at_builtin;refine wpList_append_run rfl (.tmp 53) (.tmp 59) 101 rfl (.slice LP n11 LK) (.slice da dn dc) _ rfl rfl J1.o ?_);go_ret;exact F.o
  |false=>
   have hnn:bZ T k=none:=by cases hx:bZ T k with|none=>rfl|some _=>rw[hx]at his;cases his
   have HN:=γ (θ his hnn);clear his hnn;go_wp2_with fail;have cc:=jZ k HC.o.1 w1;refine cc.mono ?_;clear cc;rintro e w1x ⟨rfl,rfl⟩;go_wp2_with fail;have cc:=BQ b T (grp k) w1 (HT.o.pure k1);refine cc.mono ?_;clear cc;rintro e w1x ⟨rfl,rfl⟩;by_cases Ey:40<=aX T (grp k)
   ·have aiO:(40:Int)<=((aX T (grp k):Nat):Int):=by omega
    have hE:eP T k c.2.length=7:=(by unfold eP;rw[if_neg h16,if_pos ⟨HN.o.2,Ey⟩]);have QU:dL T k c=T:=(by unfold dL;rw[hE];rfl);have F:=γ (show AX w b T k c (.returned (.int .i64 7)) w1 from⟨by rw[hE],by rw[QU];exact HT.o.pure k1,k1.mono (fun _ _ h=>h.elim),by rw[QU];exact pU.same k1⟩);clear hE QU;go_wp2;go_ret;exact F.o
   ·have aiO: ¬(40:Int)<=((aX T (grp k):Nat):Int):=by omega
    have RQ:=γ (θ HN.o.1 Ey);clear Ey HN;have abo:(aV k T)<=T.length:=(by exact hfl);obtain⟨cs,hcs1,hcs2⟩:=HRT.o;have Ho:=hcs1.pure k1;have hcl0:=hcs2.1;have e1:=E8 (P:=prog) underlying101 (xC w1) Ho hfl;have PS:=World.ownsRow_nil w1 w1.heap.size 122 3;obtain⟨v1,n1,w2,a1,a2,a3,a4⟩:=qj (base:=w1.heap.size) (n:=0) PS e1.2 (hcs2.take (aV k T)).cells (ξ _) (by rw[Γ,υ];omega);obtain⟨Xm,Xl,rfl⟩:=au a2;have k12:ε η w1 w2:=ε.grown a4 (fun j hj _=>by cases hj);have uj:=hr.o.pure (((ε.refl η w).alloc (.cells #[.int .i64 c.1,.slice va c.2.length vc] 109)).trans (ou.o.trans k12));have d0:=k12.cell (p:=⟨w.heap.size,0,none⟩) id d0;have d1:=k12.cell (p:=⟨w.heap.size,1,none⟩) id d1;have c0x:=k12.cell (p:=⟨b,0,none⟩) id c0;have A1:=γ a1;have E1:=e1.1;have Q2:=γ (θ a2 (θ a3 (θ k12 (θ uj (θ hcs1 (θ hcs2 hcl0))))));clear a1 a2 a3 a4 e1 k12 uj PS hcs1 hcs2 hcl0 Ho;go_wp2_with (at_builtin;refine wpList_append_run rfl (.tmp 29) (.tmp 35) 101 rfl (.slice none 0 0) (.slice pa (aV k T) jI) _ rfl rfl A1.o ?_);refine ak [0,1,2,3,5,6,4,7,8,9,10,11,12] (fun W=>ε (fun j=>w1.heap.size<=j) w2 W) (by kernel_rfl) (by kernel_rfl) rfl δ.drew ?_;simp only[aco];iterate 6 (apply aj rfl rfl;(intro W hW;have z0:=hW.cell (fun h=>Nat.not_le.2 VY h) d0;have z1:=hW.cell (fun h=>Nat.not_le.2 VY h) d1;go_simp;rfl);go_frame)
    have kd:ε η w2 w2.drew:=δ.drew;apply ay rfl rfl;intro K hK;go_wp2_with fail;have k4:ε η w2 (w2.drew.alloc (.cells #[] 2)):=kd.alloc _;refine hK _ _ (fun _=>k4.pure) ?_;clear hK;apply ay rfl rfl;intro K hK;obtain⟨i2,hi2,hz2,hs2,hb2⟩:=info_parts Tryz.info2;obtain⟨v7,n7,w7,b1,b2,b3,b4,b5⟩:=aZ (P:=prog) w2.heap.size 97 97 2 i2 (.int .i64 0) 1 8 underlying97 hi2 hz2 hs2 hb2 rfl (by omega) (World.ownsRow_made w2.drew #[] 0 (ξ _) (Nat.zero_le _) rfl:(w2.drew.alloc (.cells #[] 2)).ownsRow w2.heap.size 2 1 (.slice (some ⟨w2.heap.size,0,none⟩) 0 0) 0 []) (Q2.o.2.2.2.1.pure k4) (nM c.2) (by simp;omega) (by unfold maxLen;simp;omega) k4.size;obtain⟨sZ,sW,rfl⟩:=au b2;have k7:ε η w2 w7:=k4.new (ε.grown (S:=fun j=>w2.heap.size<=j) b4 (fun j hj _=>by cases hj;exact ξ _)) (fun j hj hs=>by omega);refine wp_append_run (.tmp 41) (.tmp 43) 97 rfl (.slice (some ⟨w2.heap.size,0,none⟩) 0 0) (.slice va c.2.length vc) _ rfl rfl b1 ?_;refine hK _ _ (fun _=>k7.pure) ?_;clear hK;have R7:=γ (Reads.aN b2);have O7:=γ b2;clear b1 b2 b3 b4 b5 hi2 hz2 hs2 hb2;iterate 2 (first|(apply aT rfl;go_frame)|(apply aj rfl rfl;(intro W hW;go_simp;rfl);go_frame))
    apply ay rfl rfl;intro K hK;go_wp2_with fail;have k10:ε η w2 (w7.alloc (.cells #[.int .i64 k,.int .i64 c.1,.slice sZ n7 sW] 122)):=k7.alloc _;refine hK _ _ (fun _=>k10.pure) ?_;clear hK;apply ay rfl rfl;intro K hK;have Yq:cu (w7.alloc (.cells #[.int .i64 k,.int .i64 c.1,.slice sZ n7 sW] 122)) [.int .i64 k,.int .i64 c.1,.slice sZ n7 sW] [(k,(c.1,c.2))]:=cu.one (by have:=R7.o.pure ((ε.refl η w7).alloc (.cells #[.int .i64 k,.int .i64 c.1,.slice sZ n7 sW] 122));simpa using this);have JE:=Reads.lit w7 [.int .i64 k,.int .i64 c.1,.slice sZ n7 sW] 122 3 1 rfl (by unfold maxLen;omega);obtain⟨v11,n11,Xj,f1,f2,f3,f4⟩:=qj (k10.owns Q2.o.1 (fun _ _ h=>h)) JE Yq.cells (ω Q2.o.2.2.1.size k10.size) (by have:=Q2.o.2.2.2.2.2.2;simp;omega);obtain⟨LP,LK,rfl⟩:=au f2;have xZ:ε η w1 Xj:=(Q2.o.2.2.1.trans k10).new (ε.grown (S:=fun j=>w1.heap.size<=j) f4 (fun j hj _=>(aY Q2.o.1 hj).1)) (fun j hj hs=>by omega);refine wp_append_run (.tmp 37) (.tmp 47) 101 rfl (.slice Xm n1 Xl) (.slice (some ⟨w7.heap.size,0,none⟩) 1 1) _ rfl rfl f1 ?_;refine hK _ _ (fun _=>k10.pure.trans (ε.grown f4 (fun j hj _=>(aY Q2.o.1 hj).1))) ?_;clear hK;iterate 1 (first|(apply aT rfl;go_frame)|(apply aj rfl rfl;(intro W hW;go_simp;rfl);go_frame))
    refine aA (fun _=>k10.pure.trans (ε.grown f4 (fun j hj _=>(aY Q2.o.1 hj).1))) ?_;have ecs:=Q2.o.2.2.2.2.1;have uX:=Q2.o.2.2.2.2.2.1;obtain⟨vd,g1,g2⟩:=Fa (P:=prog) underlying101 (xC Xj) (ecs.pure (k1.trans xZ)) abo;obtain⟨da,dn,dc,hvd⟩: ∃da dn dc,vd= .slice da dn dc:=(by obtain⟨a,n,c,e,_⟩:=g2;exact⟨a,n,c,e⟩);subst hvd;obtain⟨v14,n14,mX,j1,j2,j3,j4⟩:=qj f2 g2 (uX.drop (aV k T)).cells xZ.size (by have:=Q2.o.2.2.2.2.2.2;simp;omega);obtain⟨oK,oJ,rfl⟩:=au j2;have k14:ε η w1 mX:=xZ.new (ε.grown (S:=fun j=>w1.heap.size<=j) j4 (fun j hj _=>(aY f2 hj).1)) (fun j hj hs=>by omega);have eU:mX.heap[b]?=some (.cells #[.slice pa T.length jI] 103 (0,0)):=by
     obtain⟨FZ,ho,_⟩:=HT.o.obj;have h1:=(k1.trans k14).heap ho id;have h2:=(k1.trans k14).cell (p:=⟨b,0,none⟩) id c00.o;have h3:mX.cell? ⟨b,0,none⟩=some FZ:=ζ h1 rfl;rw[h3]at h2
     injection h2 with h2
     rw[h2]at h1;exact h1
    have cb:mX.cell? ⟨b,0,none⟩=some (.slice pa T.length jI):=ζ eU rfl;have fb:=free_at eU 0;have c11:=xZ.cell (p:=⟨b,0,none⟩) id c0;have hfin:AX w b T k c (.returned (.int .i64 0)) (mX.setCell ⟨b,0,none⟩ (.slice oK n14 oJ)):=by
     have hE:eP T k c.2.length=0:=(by unfold eP;rw[if_neg h16,if_neg (fun h=>RQ.o.2 h.2)]);have ZE:dL T k c=iq k c T:=(by unfold dL;rw[if_pos hE]);have kb:ε (one b) mX (mX.setCell ⟨b,0,none⟩ (.slice oK n14 oJ)):=(ε.refl (one b) mX).setCell (p:=⟨b,0,none⟩) (.inl rfl) _;have hrows:cu mX ([]++cs.take (aV k T*3)++[.int .i64 k,.int .i64 c.1,.slice sZ n7 sW]++cs.drop ((aV k T)*3)) (T.take (aV k T)++[(k,(c.1,c.2))]++T.drop (aV k T)):=by
      refine cu.append (cu.append ?_ ?_) ?_
      ·rw[nil_append];exact(uX.take _).pure (k1.trans k14)
      ·refine cu.one ?_
       have ka:ε η w7 (w7.alloc (.cells #[.int .i64 k,.int .i64 c.1,.slice sZ n7 sW] 122)):=(ε.refl η w7).alloc _;have o10:=ka.owns O7.o (fun _ _ h=>h)
       have YQ:=(ε.grown (S:=fun j=>Value.ownBlock (.slice Xm n1 Xl)=some j) f4 (fun j hj _=>hj)).owns o10 (fun j hj hx=>by
        have h1:=(aY Q2.o.1 hx).2;have h2:=(aY O7.o hj).1
        omega)
       have o14:=(ε.grown (S:=fun j=>Value.ownBlock (.slice LP n11 LK)=some j) j4 (fun j hj _=>hj)).owns YQ (fun j hj hx=>Gq YQ f2 (by decide) hj hx);exact Reads.aN o14
      ·exact(uX.drop _).pure (k1.trans k14)
     have hnot: ∀(x:Value)(l:List Int),Reads mX 1 x (ints l)->Reads (mX.setCell ⟨b,0,none⟩ (.slice oK n14 oJ)) 1 x (ints l):=fun x l hx=>
      hx.kept kb (fun bb hbb e=>hx.rD eU (by omega) (fun y hy=>by
       cases l with
       |nil=>cases hy
       |cons q l=>cases hy;exact⟨_,_,rfl⟩) bb hbb e)
     have QW:(mX.setCell ⟨b,0,none⟩ (.slice oK n14 oJ)).heap[b]?=some (.cells #[.slice oK n14 oJ] 103 (0,0)):=(by have:=aU eU 0 (.slice oK n14 oJ);simpa using this);have QV:Reads (mX.setCell ⟨b,0,none⟩ (.slice oK n14 oJ)) 3 (.slice oK n14 oJ) ([]++cs.take (aV k T*3)++[.int .i64 k,.int .i64 c.1,.slice sZ n7 sW]++cs.drop ((aV k T)*3)):=(by exact(Reads.aN j2).kept kb (fun bb hbb e=>(Reads.aN j2).rD eU (by omega) hrows.first bb hbb e));have hRR:cu (mX.setCell ⟨b,0,none⟩ (.slice oK n14 oJ)) ([]++cs.take (aV k T*3)++[.int .i64 k,.int .i64 c.1,.slice sZ n7 sW]++cs.drop ((aV k T)*3)) (dL T k c):=(by rw[ZE,BH HT.o.ok.rises];have hsome:(if(bZ T k).isSome=true then aV k T+1 else aV k T)=(aV k T):=(by rw[RQ.o.1];rfl);rw[hsome];exact⟨hrows.1,fun i p hp=>by obtain⟨a,b',lv,c',d⟩:=hrows.2 i p hp;exact⟨a,b',lv,c',hnot _ _ d⟩⟩);have ZF:fC (dL T k c):=by rw[ZE];exact HT.o.ok.iq HC.o.1 ⟨HC.o.2.1,HC.o.2.2,by omega⟩ (.inr (by have:=RQ.o.2;omega))
     refine⟨by rw[hE],⟨⟨_,QW,_,QV,hRR⟩,ZF⟩,(k1.trans k14).pure.trans kb,?_⟩;obtain⟨FZ,ho,_⟩:=HT.o.obj;have abr:FZ= .slice pa T.length jI:=by
      have h1:=ζ ho (j:=0) (v:=FZ) rfl;rw[c00.o]at h1
      injection h1 with h1;exact h1.symm
     rw[abr]at ho;refine pU.of ho ecs QW QV hRR ZF (fun q hq=>by have:=(j2.lt q (vw hq)).1;have:=k1.size;omega) (fun R hR hN=>?_);exact iH.append (n:=aV k T+1) (by simp only[nil_append,ν,υ,φ,Γ];have:=uX.1;omega) (iH.append (n:=aV k T) (by rw[nil_append,υ];have:=uX.1;omega) (by rw[nil_append];exact hR.take _) (iH.one (hN _ (fun q hq=>by have:=(O7.o.lt q (vw hq)).1;have:=Q2.o.2.2.1.size;have:=k1.size;omega)))) (hR.drop _)
    have F:=γ hfin;have J1:=γ j1;have G1:=γ g1;have g1y:=g1
    skip
    clear hfin j1 j2 j3 j4 f1 f2 f3 f4 g2 k14 eU xZ k10 k7 k4 kd Yq JE ecs uX;go_wp2_with (at_builtin;refine wpList_append_run rfl (.tmp 53) (.tmp 59) 101 rfl (.slice LP n11 LK) (.slice da dn dc) _ rfl rfl J1.o ?_);go_ret;exact F.o
end
