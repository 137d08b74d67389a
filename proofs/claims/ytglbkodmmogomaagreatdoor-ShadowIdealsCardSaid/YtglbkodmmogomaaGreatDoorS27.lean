/- The document's shadow: what the ideal of a side comes to, in a part. -/
import Derived.Test.YtglbkodmmogomaaGreatDoorS26
set_option linter.unusedVariables false
set_option linter.unusedSimpArgs false
set_option maxHeartbeats 4000000
set_option maxRecDepth 100000
namespace Go.Proofs.YtglbkodmmogomaaGreatDoor
open List Go.Proofs.Tryz
section
open Go Go.RowKit
attribute [local irreducible] dI iO H2.eX
theorem Aa {w:World}{n E size k:Nat}{v:Value}{xs:List Value}(h:w.ownsRow n E size v k xs){q:Nat}(hq:v.ownBlock=some q): ∃c f,w.heap[q]?=some (.cells c E f):=by
 rcases h.2 with⟨e,_⟩|⟨g,cap,cur,e,_,hg,_⟩
 ·rw[e]at hq;cases hq
 ·rw[e]at hq
  cases hq;exact⟨_,_,hg⟩
theorem iI.agi {nodes:List JN}{Ts Us:Tabs}(h:iI nodes Ts)(hu:iI nodes Us)(pm:Nat->Nat):rp pm Ts=rp pm Us:=by
 apply ext_getElem?;intro i;by_cases hi:i<Ts.length
 ·obtain⟨t,ht⟩: ∃t,Ts[i]?=some t:=⟨_,ι hi⟩
  obtain⟨u,hu'⟩: ∃u,Us[i]?=some u:=⟨_,ι (by rw[hu.len,<-h.len];exact hi)⟩;rw[xO ht,xO hu']
  cases t with
  |some T=>
   obtain⟨U,hU⟩:=h.IG hu ht;rw[hu']at hU
   injection hU with hU
   subst hU;rfl
  |none=>
   cases u with
   |none=>rfl
   |some U=>
    obtain⟨T,hT⟩:=hu.IG h hu';rw[ht]at hT
    injection hT with hT
    cases hT
 ·rw[aak (by rw[sD];omega),aak (by rw[sD,hu.len,<-h.len];omega)]
structure uz (wb:World)(n0 b:Nat)(j:Jb)(nv tv:Value)(pm:Nat->Nat)(Ts:Tabs)(B:Option Nat)(w:World):Prop where
 ok:iI j.nodes Ts
 nds:iR wb nv j.nodes
 ob:w.heap[b]?=some (.cells #[.int .i64 j.par,nv,tv] 90 (0,0))
 row:w.ownsRow n0 46 1 tv Ts.length (rp pm Ts)
 Jq:mP w wb.heap.size (fun q=>zu q/\B≠some q) Ts pm
 kp:ε η wb w
section
variable {wb w w':World} {n0 b:Nat} {j:Jb} {nv tv:Value} {pm:Nat->Nat} {Ts T2:Tabs} {B:Option Nat}
theorem uz.pure (h:uz wb n0 b j nv tv pm Ts B w)(hk:ε η w w'):uz wb n0 b j nv tv pm Ts B w':=
 ⟨h.ok,h.nds,hk.heap h.ob id,hk.owns h.row (fun _ _ h=>h),h.Jq.pure hk,h.kp.trans hk⟩
theorem uz.push {n:Nat}{vo:Value}{xs:List Value}{B':Option Nat}(h:uz wb n0 b j nv tv pm Ts vo.ownBlock w)(hv:w.ownsRow wb.heap.size 86 2 vo n xs)(hk:ε (fun q=>vo.ownBlock=some q) w w')(hB: ∀q,B'=some q->vo.ownBlock=some q\/w.heap.size<=q):uz wb n0 b j nv tv pm Ts B' w':=by
 refine⟨h.ok,h.nds,hk.heap h.ob (fun hs=>?_),hk.owns h.row (fun q hq hs=>qp h.row hv (by decide) q hq hs),h.Jq.grow hk hB,h.kp.new hk (fun q hq hs=>by have:=(hv.lt q hs).1;omega)⟩;obtain⟨c,f,hc⟩:=Aa hv hs;have e:=h.ob;rw[hc]at e
 injection e with e
 injection e with _ e _
 cases e
theorem uz.fed {n:Nat}{vo:Value}{xs:List Value}(h:uz wb n0 b j nv tv pm Ts vo.ownBlock w)(hv:w.ownsRow wb.heap.size 86 2 vo n xs){key val:Int}{e:Ending}(hq:RG (fun q=>zu q/\vo.ownBlock≠some q) wb w j Ts pm key val e w')(h2:(gW j.nodes Ts key val).2=T2)(hT:iI j.nodes T2):
 (∃v,e= .returned v/\Reads w' 3 v (recs (gW j.nodes Ts key val).1)/\ ∀q,Value.blk v=some q->q<w'.heap.size/\vo.ownBlock≠some q)/\w'.ownsRow wb.heap.size 86 2 vo n xs/\ε (xQ Ts pm) w w'/\uz wb n0 b j nv tv pm T2 vo.ownBlock w':=by
 obtain⟨v,e1,e2,e3,e4,hk⟩:=hq;rw[h2]at e4;have hno: ∀q,vo.ownBlock=some q-> ¬xQ Ts pm q:=fun q hq=>(by obtain⟨c,f,hc⟩:=Aa hv hq;exact h.Jq.notS hc (by decide));refine⟨⟨v,e1,e2,fun q hq=>⟨e2.Rq (by omega) hq,fun hs=>by have:=e3 q hq;have:=(hv.lt q hs).2;omega⟩⟩,hk.owns hv hno,hk,⟨hT,h.nds,hk.heap h.ob (h.Jq.notS h.ob (by decide)),?_,e4.mono (fun q hq _=>⟨trivial,fun hs=>hq.elim (fun h=>h.2 hs) (fun h=>by have:=(hv.lt q hs).2;omega)⟩),h.kp.new hk (fun q hq hs=>by have:=(h.Jq.ltS hs).1;omega)⟩⟩;have:=hk.owns h.row (fun q hq=>by obtain⟨c,f,hc⟩:=Aa h.row hq;exact h.Jq.notS hc (by decide));rw[hT.len,<-h.ok.len,hT.agi h.ok];exact this
end
def afW (w:World)(O:List dU)(e:Ending)(w':World):Prop:= ∃v,e= .returned v/\Reads w' 2 v (lM O)/\ε η w w'
theorem JB (s:Side)(va ua lv:Value)(L:List Rec)(p:Nat)(kF:Tabs)(w:World)(ha:lZ w va ua s)(hsm:Du s.1)(hl:Reads w 3 lv (recs L))(hL: ∀r∈L,bF r)(hlen:L.length<=60)(hld:fG s.1 s.2= .ok kF):
 Calls prog 67 #[.agg #[.int .i64 s.1.par,va,ua],lv,.int .i64 (p:Int)] w (afW w (ng s kF (L.map bT) p)):=by
 obtain⟨la,Qa,rfl,l1,l2,l3⟩:=hl.recAt;unfold maxLen at l2;obtain⟨eF,dS,hva⟩: ∃a c,va= .slice a s.1.nodes.length c:=(by obtain⟨a,c,h,_⟩:=ha.1.nodes.at;exact⟨a,c,h⟩);obtain⟨lg,kZ,hua,u1,u2,-⟩:=ha.2.1.yY;subst hva hua;have hjr:=ha.1.nodes.jr;have kA:ε η w (w.alloc (.cells #[.int .i64 s.1.par,.slice eF s.1.nodes.length dS,.slice lg s.2.length kZ] 53)):=δ.alloc _;have t0:(w.alloc (.cells #[.int .i64 s.1.par,.slice eF s.1.nodes.length dS,.slice lg s.2.length kZ] 53)).heap[w.heap.size]?=some (.cells #[.int .i64 s.1.par,.slice eF s.1.nodes.length dS,.slice lg s.2.length kZ] 53 (0,0)):=heap_alloc_new w _;obtain⟨W1,hW1⟩:=acu (w.alloc (.cells #[.int .i64 s.1.par,.slice eF s.1.nodes.length dS,.slice lg s.2.length kZ] 53));rw[hW1]at kA t0;have q0:=ζ t0 (j:=0) (v:= .int .i64 s.1.par) rfl;have q1:=ζ t0 (j:=1) (v:= .slice eF s.1.nodes.length dS) rfl;have q2:=ζ t0 (j:=2) (v:= .slice lg s.2.length kZ) rfl;have cl:=BR s.1 _ _ s.2 W1 (ha.1.pure kA) (ha.2.1.pure kA) ha.2.2 hsm;unfold kT at cl;rw[hld]at cl;dsimp only at cl;obtain⟨hok,hT0⟩:=IY hld;have H:=γ (θ (ha.1.pure kA) (θ l3 (θ hL (θ kA (θ hok (θ hT0 hjr))))));have HW:=γ hW1;clear ha hl l3 hL kA t0 hW1 hok hT0 hjr hld u1 u2;go_enter func67,ntmps67;go_wp2_with fail;rw[HW.o];clear HW;refine cl.mono ?_;clear cl q0 q1 q2;rintro e w3 ⟨b,tv,pm,m,rfl,hob,hb,hrow,hB,hm,-,htb,k3⟩;have hup: ∀i T,kF[i]?=some (some T)->m<=pm i:=fun i T hi=>(htb.tab i T hi).dot
 have S:=γ (show uz W1 (b+1) b s.1 (.slice eF s.1.nodes.length dS) tv pm kF none w3 from
  ⟨H.o.2.2.2.2.2.1,H.o.1.nodes,hob,hrow,⟨fun i T hi=>⟨by have:=hup i T hi;omega,(htb.tab i T hi).mono (fun _ _=>⟨trivial,fun h=>by cases h⟩)⟩,htb.inj⟩,k3⟩)
 clear hob hb hrow hB hm htb k3 hup;go_wp2;go_loopg [9,10] L.length (fun g vo vi wr=> ∃(k:Nat),k<=L.length/\vi= .int .i64 (k:Int)/\L.length-k<=g/\wr.ownsRow W1.heap.size 86 2 vo (bU p (gZ s.1.nodes kF ((L.take k).map bT)).1).length (lM (bU p (gZ s.1.nodes kF ((L.take k).map bT)).1))/\uz W1 (b+1) b s.1 (.slice eF s.1.nodes.length dS) tv pm (gZ s.1.nodes kF ((L.take k).map bT)).2 vo.ownBlock wr)
 case atStart=>exact⟨0,by omega,rfl,by omega,World.ownsRow_nil _ _ _ _,S.o⟩
 case round=>
  obtain⟨k,hkl,rfl,hg,hown,hf⟩:=hrel;by_cases hlt:k<L.length
  ·obtain⟨r,hrk⟩: ∃r,L[k]?=some r:=⟨_,ι hlt⟩
   obtain⟨lb,off,rfl,hc⟩:=H.o.2.1.resolve_left (fun h=>by rw[h]at hlt;simp at hlt);have hcr:=hc k r hrk;obtain⟨c0,c1,c2⟩:=hcr.pure (H.o.2.2.2.1.trans hf.kp);have hro:=H.o.2.2.1 r (ς hrk);have gs:=FP s.1.nodes kF hrk;have gok:=(Hy H.o.2.2.2.2.1 H.o.2.2.2.2.2.2 ((L.take k).map bT) kF H.o.2.2.2.2.2.1 (Fq H.o.2.2.1 k)).2.2;rw[length_map,υ]at gok;obtain⟨GA,hGA⟩:=acu (gZ s.1.nodes kF ((L.take k).map bT));rw[hGA]at gs gok hown hf;obtain⟨A,Ts⟩:=GA;dsimp only at gs gok hown hf;have fo:=yD H.o.2.2.2.2.1 H.o.2.2.2.2.2.2 hf.ok hro.key hro.val;obtain⟨T2,O,hO,hT2⟩: ∃T2 O,(gW s.1.nodes Ts r.key r.val).1=O/\(gW s.1.nodes Ts r.key r.val).2=T2:=⟨_,_,rfl,rfl⟩;rw[hO,hT2]at fo gs;have hAl:A.length<=3840:=(by omega);obtain⟨oa,oc,rfl⟩:=au hown;have J3:=hf.pure (ε.refl η wr).drew;have acF:=(ε.refl η wr).drew.owns hown (fun _ _ h=>h);have cf:=YB (fun q=>zu q/\(Value.slice oa (bU p A).length oc).ownBlock≠some q) s.1 b (b+1) _ tv Ts pm r.key r.val W1 wr.drew J3.kp J3.ob J3.nds J3.row J3.Jq H.o.2.2.2.2.1 H.o.2.2.2.2.2.2 J3.ok hro.key hro.val;have hlb: ¬xQ Ts pm lb:=fun hs=>(by have h1:=(hf.Jq.ltS hs).1;have h2:lb<w.heap.size:=block_lt_of_cell hcr.1;have h3:=H.o.2.2.2.1.size;omega);have G:=γ (θ hg (θ J3 (θ acF (θ fo (θ gs (θ hO (θ hT2 (θ hAl hlb))))))));have X:=γ (θ c1 c2);clear hg hf hown hrk hc hro fo gs hO hT2 hAl J3 acF hGA gok hcr c0 c1 c2 hlb;go_wp2;refine ak [0,1,2,3,4,5,6,7,8,9,10,11,12] (fun W=>ε (xQ Ts pm) wr W) (by kernel_rfl) (by kernel_rfl) rfl δ.drew ?_;simp only[aco];iterate 11 (apply aj rfl rfl;(intro W hW;have o0:=hW.cell (p:=⟨lb,off+k*3+1,none⟩) G.o.2.2.2.2.2.2.2.2 X.o.1;have o1:=hW.cell (p:=⟨lb,off+k*3+2,none⟩) G.o.2.2.2.2.2.2.2.2 X.o.2;go_simp;rfl);go_frame)
   apply ay rfl rfl;intro K hK;go_wp2_with fail;refine cf.mono ?_;clear cf;intro e W5 hq;obtain⟨⟨v5,rfl,hv5,hb5⟩,ho5,k5,hf5⟩:=G.o.2.1.fed G.o.2.2.1 hq G.o.2.2.2.2.2.2.1 G.o.2.2.2.1.1;clear hq;rw[G.o.2.2.2.2.2.1]at hv5;obtain⟨a5,c5,rfl,z1,z2,z3⟩:=hv5.recAt;unfold maxLen at z2;have Z5:=γ (θ hv5 (θ hb5 (θ ho5 (θ hf5 ((ε.refl (xQ Ts pm) wr).drew.trans k5)))));clear hv5 hb5 ho5 k5 hf5 z3;go_wp2;refine hK _ _ (fun _=>Z5.o.2.2.2.2) ?_;clear hK;apply aj rfl rfl
   ·intro W hW;go_simp;rfl
   go_frame;refine aA (fun _=>Z5.o.2.2.2.2) ?_;have hOl:O.length<=64:=G.o.2.2.2.1.2.2.2;go_wp2;go_loopg [9,12] O.length (fun g vo vi wq=> ∃(i:Nat),i<=O.length/\vi= .int .i64 (i:Int)/\O.length-i<=g/\wq.ownsRow W1.heap.size 86 2 vo (bU p (A++O.take i)).length (lM (bU p (A++O.take i)))/\Reads wq 3 (.slice a5 O.length c5) (recs O)/\(∀q,Value.blk (.slice a5 O.length c5)=some q->q<wq.heap.size/\vo.ownBlock≠some q)/\uz W1 (b+1) b s.1 (.slice eF s.1.nodes.length dS) tv pm T2 vo.ownBlock wq)
   case atStart=>exact⟨0,by omega,rfl,by omega,by simpa using Z5.o.2.2.1,Z5.o.1,Z5.o.2.1,Z5.o.2.2.2.1⟩
   case round=>
    obtain⟨wq,rfl⟩: ∃wq:World,wq=wr:=⟨_,rfl⟩;obtain⟨i,hil,rfl,hgi,hown,hrd,hbl,hf⟩:=hrel;obtain⟨xa,xc,rfl⟩:=au hown;by_cases hit:i<O.length
    ·obtain⟨s2,hs2⟩: ∃s2,O[i]?=some s2:=⟨_,ι hit⟩
     obtain⟨a5',c5',eo,-,-,o3⟩:=hrd.recAt
     injection eo with Z9 _ Z8
     subst Z9 Z8;obtain⟨ob,xR,rfl,hoc⟩:=o3.resolve_left (fun h=>by rw[h]at hit;simp at hit);obtain⟨d0,d1,d2⟩:=hoc i s2 hs2;have hso:=G.o.2.2.2.1.2.1 s2 (ς hs2);have cp:=Yr s2.key hso.key wq;have hsn:=rE p (A++O.take i) s2;have htk:A++O.take (i+1)=A++O.take i++[s2]:=(by rw[ψ,hs2,Option.toList_some,append_assoc]);rw[<-htk]at hsn;have hlen2:(bU p (A++O.take i)).length<=100000:=(by have h1:=CS p (A++O.take i);rw[ν,υ]at h1;have:=G.o.2.2.2.2.2.2.2.1;omega);have hob:Value.blk (.slice (some ⟨ob,xR,none⟩) O.length c5)=some ob:=(by unfold Value.blk;simp only;rw[if_neg (by omega)]);have hbo:=hbl ob hob;have Y:=γ (θ hgi (θ hown (θ hrd (θ hbl (θ hf (θ hsn (θ hlen2 hbo)))))));have D:=γ (θ d1 d2);clear hgi hown hrd hbl hf hsn hlen2 hoc o3 hs2 hso htk d0 d2 hbo hob;go_wp2_with fail;refine cp.mono ?_;clear cp d1;rintro e w' ⟨rfl,rfl⟩;by_cases hp:partOf s2.key=p
     ·have hpI:((partOf s2.key:Nat):Int)=(p:Int):=by omega
      have hsn:=Y.o.2.2.2.2.2.1;rw[if_pos hp]at hsn;obtain⟨iC,w7,p1,p2,p3,p4⟩:=PK ((ε.refl η wq).drew.owns Y.o.2.1 (fun _ _ h=>h)) (s2.key,s2.val) (by have:=Y.o.2.2.2.2.1.kp.size;exact this) Y.o.2.2.2.2.2.2.1;obtain⟨xa2,xc2,rfl⟩:=au p2
      have F:=γ (show w7.ownsRow W1.heap.size 86 2 (.slice xa2 ((bU p (A++O.take i)).length+1) xc2) (bU p (A++O.take (i+1))).length (lM (bU p (A++O.take (i+1))))/\Reads w7 3 (.slice (some ⟨ob,xR,none⟩) O.length c5) (recs O)/\(∀q,Value.blk (.slice (some ⟨ob,xR,none⟩) O.length c5)=some q->q<w7.heap.size/\(Value.slice xa2 ((bU p (A++O.take i)).length+1) xc2).ownBlock≠some q)/\uz W1 (b+1) b s.1 (.slice eF s.1.nodes.length dS) tv pm T2 (Value.slice xa2 ((bU p (A++O.take i)).length+1) xc2).ownBlock w7 from by
       refine⟨?_,((Y.o.2.2.1.pure (ε.refl η wq).drew).kept p3 (fun q hq hs=>(Y.o.2.2.2.1 q hq).2 hs)),fun q hq=>⟨Pe (Y.o.2.2.2.1 q hq).1 p3.size,fun hs=>?_⟩,(Y.o.2.2.2.2.1.pure (ε.refl η wq).drew).push ((ε.refl η wq).drew.owns Y.o.2.1 (fun _ _ h=>h)) p3 p4⟩
       ·rw[hsn,ν,length_singleton]
        exact p2
       ·rcases p4 q hs with h1|h1
        ·exact(Y.o.2.2.2.1 q hq).2 h1
        ·have h2:=(Y.o.2.2.2.1 q hq).1
         have h3:wq.heap.size<=q:=h1
         omega)
      have P1:=γ p1;have P3:=γ p3;clear p1 p2 p3 p4 hsn;go_wp2;refine ak [0,1,2,3,4,5,6,7,8,9,10,11,12,13,14] (fun W=>ε (fun q=>(Value.slice xa (bU p (A++O.take i)).length xc).ownBlock=some q) wq W) (by kernel_rfl) (by kernel_rfl) rfl δ.drew ?_;simp only[aco];iterate 12 (apply aj rfl rfl;(intro W hW;have o0:=hW.cell (p:=⟨ob,xR+i*3+1,none⟩) Y.o.2.2.2.2.2.2.2.2 D.o.1;have o1:=hW.cell (p:=⟨ob,xR+i*3+2,none⟩) Y.o.2.2.2.2.2.2.2.2 D.o.2;go_simp;rfl);go_frame)
      apply ay rfl rfl;intro K hK;go_wp2;refine hK _ _ (fun _=>(δ.drew).alloc _) ?_;clear hK;apply ay rfl rfl;intro K hK;refine rZ (.tmp 53) (.tmp 65) 79 rfl (.slice xa (bU p (A++O.take i)).length xc) (.slice (some ⟨wq.heap.size,0,none⟩) 1 1) (.slice xa2 ((bU p (A++O.take i)).length+1) xc2) rfl rfl P1.o ?_;have k7:ε (fun q=>(Value.slice xa (bU p (A++O.take i)).length xc).ownBlock=some q) wq w7:=δ.drew.trans P3.o;refine hK _ _ (fun _=>k7) ?_;clear hK;apply aj rfl rfl
      ·intro W hW;go_simp;rfl
      go_frame;refine aA (fun _=>k7) ?_;clear k7;go_wp2;go_roundg (O.length-(i+1))
      case rel=>exact⟨i+1,by omega,by go_num,ξ _,F.o⟩
      case measure=>have:=Y.o.1;omega
     ·have hpI: ¬(((partOf s2.key:Nat):Int)=(p:Int)):=by omega
      have hsn:=Y.o.2.2.2.2.2.1;rw[if_neg hp,append_nil]at hsn;have F:=γ hsn;clear hsn;go_wp2;go_roundg (O.length-(i+1))
      case rel=>exact⟨i+1,by omega,by go_num,ξ _,by rw[F.o];exact Y.o.2.1,Y.o.2.2.1,Y.o.2.2.2.1,Y.o.2.2.2.2.1⟩
      case measure=>have:=Y.o.1;omega
    ·have hie:i=O.length:=by omega
     have F:=γ (show wq.ownsRow W1.heap.size 86 2 (.slice xa (bU p (A++O.take i)).length xc) (bU p (gZ s.1.nodes kF ((L.take (k+1)).map bT)).1).length (lM (bU p (gZ s.1.nodes kF ((L.take (k+1)).map bT)).1))/\uz W1 (b+1) b s.1 (.slice eF s.1.nodes.length dS) tv pm (gZ s.1.nodes kF ((L.take (k+1)).map bT)).2 (Value.slice xa (bU p (A++O.take i)).length xc).ownBlock wq from by
      rw[G.o.2.2.2.2.1];refine⟨?_,hf⟩;have:O.take i=O:=(by rw[hie,take_length]);rw[this]at hown;rw[this]
      exact hown)
     have GG:=γ hgi;clear hown hrd hbl hf hgi hie;go_wp2;go_roundg (L.length-(k+1))
     case rel=>exact⟨k+1,by omega,by go_num,ξ _,F.o⟩
     case measure=>have:=G.o.1;omega
  ·have hke:k=L.length:=by omega
   have F:=γ (show Reads wr 2 _ (lM (ng s kF (L.map bT) p))/\ε η w wr from by
    refine⟨?_,H.o.2.2.2.1.trans hf.kp⟩;have:=Reads.aN hown;rw[hke,take_length]at this
    exact this)
   obtain⟨oa,oc,rfl⟩:=au hown;clear hown hf hg hke;go_wp2;go_ret;exact⟨_,rfl,F.o.1,F.o.2⟩
end
section
open Go Go.RowKit
attribute [local irreducible] dI iO H2.eX
theorem VW {sa sb:Side}{l:List (Int×Int)}{Ts Us:Tabs}(ha:fG sa.1 sa.2= .ok Ts)(hb:fG sb.1 sb.2= .ok Us):fQ sa sb l=(kQ (ng sa Ts l) (ng sb Us l),0):=by unfold fQ;rw[ha,hb]
theorem VX {sa sb:Side}{l:List (Int×Int)}{Ts:Tabs}{er:Int}(ha:fG sa.1 sa.2= .ok Ts)(hb:fG sb.1 sb.2= .error er):fQ sa sb l=((false,0,0),er):=by unfold fQ;rw[ha,hb]
theorem SY (sa sb:Side)(va ua vb ub lv:Value)(L:List Rec)(w:World)(ha:lZ w va ua sa)(hb:lZ w vb ub sb)(hma:Du sa.1)(hmb:Du sb.1)(hl:Reads w 3 lv (recs L))(hL: ∀r∈L,bF r)(hlen:L.length<=60):
 Calls prog 23 #[.agg #[.int .i64 sa.1.par,va,ua],.agg #[.int .i64 sb.1.par,vb,ub],lv] w (D6 w (fQ sa sb (L.map bT))):=by
 obtain⟨la,Qa,rfl,l1,l2,-⟩:=hl.recAt;unfold maxLen at l2;have H:=γ (θ ha (θ hb (θ hl (θ hL (θ hma hmb)))));obtain⟨eF,dS,rfl⟩: ∃a c,va= .slice a sa.1.nodes.length c:=(by obtain⟨a,c,h,_⟩:=ha.1.nodes.at;exact⟨a,c,h⟩);obtain⟨vb1,iy,rfl⟩: ∃a c,vb= .slice a sb.1.nodes.length c:=(by obtain⟨a,c,h,_⟩:=hb.1.nodes.at;exact⟨a,c,h⟩);obtain⟨lg,kZ,rfl⟩: ∃a c,ua= .slice a sa.2.length c:=(by obtain⟨a,c,h,_⟩:=ha.2.1.yY;exact⟨a,c,h⟩);obtain⟨oG,oC,rfl⟩: ∃a c,ub= .slice a sb.2.length c:=(by obtain⟨a,c,h,_⟩:=hb.2.1.yY;exact⟨a,c,h⟩);clear ha hb hl hL hma hmb;obtain⟨Av,hAv⟩: ∃Av:Array Value,#[.int .i64 sa.1.par,.slice eF sa.1.nodes.length dS,.slice lg sa.2.length kZ]=Av:=⟨_,rfl⟩;obtain⟨Bv,hBv⟩: ∃Bv:Array Value,#[.int .i64 sb.1.par,.slice vb1 sb.1.nodes.length iy,.slice oG sb.2.length oC]=Bv:=⟨_,rfl⟩;have kA:ε η w (((w.alloc (.cells Av 53)).alloc (.cells Bv 53)).alloc (.cells #[.bool false,.int .i64 0,.int .i64 0] 57)):=((δ.alloc _).alloc _).alloc _;have t0:(((w.alloc (.cells Av 53)).alloc (.cells Bv 53)).alloc (.cells #[.bool false,.int .i64 0,.int .i64 0] 57)).heap[w.heap.size]?=some (.cells Av 53 (0,0)):=(((ε.refl η _).alloc _).alloc _).heap (heap_alloc_new w _) id;have t1:(((w.alloc (.cells Av 53)).alloc (.cells Bv 53)).alloc (.cells #[.bool false,.int .i64 0,.int .i64 0] 57)).heap[w.heap.size+1]?=some (.cells Bv 53 (0,0)):=(by have:=((ε.refl η _).alloc (.cells #[.bool false,.int .i64 0,.int .i64 0] 57)).heap (heap_alloc_new (w.alloc (.cells Av 53)) (.cells Bv 53)) id;rwa[World.size_alloc]at this);have t2:(((w.alloc (.cells Av 53)).alloc (.cells Bv 53)).alloc (.cells #[.bool false,.int .i64 0,.int .i64 0] 57)).heap[w.heap.size+1+1]?=some (.cells #[.bool false,.int .i64 0,.int .i64 0] 57 (0,0)):=(by have:=heap_alloc_new ((w.alloc (.cells Av 53)).alloc (.cells Bv 53)) (.cells #[.bool false,.int .i64 0,.int .i64 0] 57);rwa[World.size_alloc,World.size_alloc]at this);subst hAv hBv;obtain⟨W1,hW1⟩:=acu (((w.alloc (.cells #[.int .i64 sa.1.par,.slice eF sa.1.nodes.length dS,.slice lg sa.2.length kZ] 53)).alloc (.cells #[.int .i64 sb.1.par,.slice vb1 sb.1.nodes.length iy,.slice oG sb.2.length oC] 53)).alloc (.cells #[.bool false,.int .i64 0,.int .i64 0] 57));rw[hW1]at kA t0 t1 t2;have BX: ∀w',ε η W1 w'->(w'.cell? ⟨w.heap.size,0,none⟩=some (.int .i64 sa.1.par)/\w'.cell? ⟨w.heap.size,1,none⟩=some (.slice eF sa.1.nodes.length dS)/\w'.cell? ⟨w.heap.size,2,none⟩=some (.slice lg sa.2.length kZ)/\w'.cell? ⟨w.heap.size+1,0,none⟩=some (.int .i64 sb.1.par)/\w'.cell? ⟨w.heap.size+1,1,none⟩=some (.slice vb1 sb.1.nodes.length iy)/\w'.cell? ⟨w.heap.size+1,2,none⟩=some (.slice oG sb.2.length oC)):=fun w' k=>(by have t0:=k.heap t0 id;have t1:=k.heap t1 id;exact⟨ζ t0 rfl,ζ t0 rfl,ζ t0 rfl,ζ t1 rfl,ζ t1 rfl,ζ t1 rfl⟩);have BX:=γ BX;have KA:=γ (θ kA t2);have hsz1:w.heap.size+1+1<W1.heap.size:=(κ.1 t2).1;have cla:=BR sa.1 _ _ sa.2 W1 (H.o.1.1.pure kA) (H.o.1.2.1.pure kA) H.o.1.2.2 H.o.2.2.2.2.1;obtain⟨q0,q1,q2,-,-,-⟩:=BX.o W1 δ;have HW:=γ hW1;clear kA t0 t1 t2 hW1;go_enter func23,ntmps23;go_wp2_with fail;rw[HW.o];clear HW;refine cla.mono ?_;clear cla q0 q1 q2;intro e w2 hq;unfold kT at hq
 cases hla:fG sa.1 sa.2 with
 |error er=>rw[hla]at hq;obtain⟨rfl,hne,k2⟩:=hq;have t2:=k2.heap KA.o.2 id;have f0:=ζ t2 (j:=0) rfl;have f1:=ζ t2 (j:=1) rfl;have f2:=ζ t2 (j:=2) rfl;have g0:=free_at t2 0;have g1:=free_at t2 1;have g2:=free_at t2 2;have F:=γ (θ t2 (θ (KA.o.1.trans k2) (show fQ sa sb (L.map bT)=((false,0,0),er)from Eu hla)));clear k2 t2 hla;go_wp2_with fail;obtain⟨q0,q1,q2,kE⟩:=kX (w:=w) F.o.1 F.o.2.1 (by omega) false 0 0;refine bodyPost_ret (v:= .tuple #[.agg #[.bool false,.int .i64 0,.int .i64 0],.int .i64 er]) (by simp[results,results23,go_sem,q0,q1,q2]) rfl ⟨by rw[F.o.2.2];rfl,kE⟩
 |ok Ts=>
  rw[hla]at hq;obtain⟨ba,tva,pma,ma,rfl,-,-,-,-,-,-,-,k2⟩:=hq;have jF:=KA.o.1.trans k2;have clb:=BR sb.1 _ _ sb.2 w2 (H.o.2.1.1.pure jF) (H.o.2.1.2.1.pure jF) H.o.2.1.2.2 H.o.2.2.2.2.2;obtain⟨-,-,-,q0,q1,q2⟩:=BX.o w2 k2;have K2:=γ k2;have HLA:=γ hla;clear k2 jF hla;go_wp2_with fail;refine clb.mono ?_;clear clb q0 q1 q2;intro e w3 hq;unfold kT at hq
  cases hlb:fG sb.1 sb.2 with
  |error er=>rw[hlb]at hq;obtain⟨rfl,hne,k3⟩:=hq;have t2:=(K2.o.trans k3).heap KA.o.2 id;have f0:=ζ t2 (j:=0) rfl;have f1:=ζ t2 (j:=1) rfl;have f2:=ζ t2 (j:=2) rfl;have g0:=free_at t2 0;have g1:=free_at t2 1;have g2:=free_at t2 2;have F:=γ (θ t2 (θ (KA.o.1.trans (K2.o.trans k3)) (show fQ sa sb (L.map bT)=((false,0,0),er)from VX HLA.o hlb)));clear k3 t2 hlb;go_wp2_with fail;obtain⟨q0,q1,q2,kE⟩:=kX (w:=w) F.o.1 F.o.2.1 (by omega) false 0 0;refine bodyPost_ret (v:= .tuple #[.agg #[.bool false,.int .i64 0,.int .i64 0],.int .i64 er]) (by simp[results,results23,go_sem,q0,q1,q2]) rfl ⟨by rw[F.o.2.2];rfl,kE⟩
  |ok Us=>
   rw[hlb]at hq;obtain⟨bb,tvb,pmb,mb,rfl,-,-,-,-,-,-,-,k3⟩:=hq;have K3:=γ (K2.o.trans k3);have HLB:=γ hlb;clear k3 hlb;have IP:=γ (show fQ sa sb (L.map bT)=(kQ (ng sa Ts (L.map bT)) (ng sb Us (L.map bT)),0)from VW HLA.o HLB.o);go_wp2;go_loopg [10] 2 (fun g vi wr=> ∃(p:Nat),p<=2/\vi= .int .i64 (p:Int)/\2-p<=g/\(∀q,q<p->eH (ng sa Ts (L.map bT) q) (ng sb Us (L.map bT) q) 0=none)/\ε η W1 wr)
   case atStart=>exact⟨0,by omega,rfl,by omega,fun q hq=>absurd hq (by omega),K3.o⟩
   case round=>
    obtain⟨wq,rfl⟩: ∃wq:World,wq=wr:=⟨_,rfl⟩;obtain⟨p,hpl,rfl,hg,hnone,hkp⟩:=hrel;by_cases hlt:p<2
    ·have ae1:(p:Int)<2:=by omega
     obtain⟨q0,q1,q2,q3,q4,q5⟩:=BX.o wq hkp;have Y6:ε η w wq.drew:=KA.o.1.trans (hkp.trans (ε.refl η wq).drew);have ca:=JB sa _ _ _ L p Ts wq.drew ⟨H.o.1.1.pure Y6,H.o.1.2.1.pure Y6,H.o.1.2.2⟩ H.o.2.2.2.2.1 (H.o.2.2.1.pure Y6) H.o.2.2.2.1 hlen HLA.o;have X:=γ (θ q0 (θ q1 (θ q2 (θ q3 (θ q4 q5)))));have G:=γ (θ hg (θ hnone (θ hkp Y6)));clear hg hnone hkp Y6 q0 q1 q2 q3 q4 q5;go_wp2;refine acv [0,1,2,4,5,6,3,7,8,9] ?_;simp only[aco];iterate 6 (apply aj rfl rfl;(intro W hW;have o0:=hW.cell id X.o.1;have o1:=hW.cell id X.o.2.1;have o2:=hW.cell id X.o.2.2.1;have o3:=hW.cell id X.o.2.2.2.1;have o4:=hW.cell id X.o.2.2.2.2.1;have o5:=hW.cell id X.o.2.2.2.2.2;go_simp;rfl);go_frame)
     apply ay rfl rfl;intro K hK;go_wp2_with fail;refine ca.mono ?_;clear ca;rintro e W5 ⟨v1,rfl,hv1,k5⟩;have GR:=G.o.2.2.2.trans k5;have cb:=JB sb _ _ _ L p Us W5 ⟨H.o.2.1.1.pure GR,H.o.2.1.2.1.pure GR,H.o.2.1.2.2⟩ H.o.2.2.2.2.2 (H.o.2.2.1.pure GR) H.o.2.2.2.1 hlen HLB.o;obtain⟨xa,xc,rfl,x1,x2,-⟩:=hv1.DJ;unfold maxLen at x2;have Z5:=γ (θ hv1 (θ GR (((ε.refl η wq).drew).trans k5)));clear hv1 k5 GR;go_wp2;refine hK _ _ (fun _=>Z5.o.2.2) ?_;clear hK;apply ay rfl rfl;intro K hK;go_wp2_with fail;refine cb.mono ?_;clear cb;rintro e W6 ⟨v2,rfl,hv2,k6⟩;have cf:=Vz _ _ _ _ W6 (Z5.o.1.pure k6) hv2;obtain⟨ya,yc,rfl,y1,y2,-⟩:=hv2.DJ;unfold maxLen at y2;have Z6:=γ (θ (Z5.o.2.1.trans k6) (Z5.o.2.2.trans k6));clear hv2 k6;go_wp2;refine hK _ _ (fun _=>Z6.o.2) ?_;clear hK;apply ay rfl rfl;intro K hK;go_wp2_with fail;refine cf.mono ?_;clear cf;rintro e W7 ⟨rfl,k7⟩;have Z7:=γ (θ (Z6.o.2.trans k7) (G.o.2.2.1.trans (Z6.o.2.trans k7)));clear k7
     cases hfi:eH (ng sa Ts (L.map bT) p) (ng sb Us (L.map bT) p) 0 with
     |some n=>
      have hn:=vU hfi;rw[hn];have F:=γ (show kQ (ng sa Ts (L.map bT)) (ng sb Us (L.map bT))=(false,(p:Int),(n:Int))from vY hlt G.o.2.1 hfi);clear hn hfi;go_wp2;refine hK _ _ (fun _=>Z7.o.1) ?_;clear hK;apply aj rfl rfl
      ·intro W hW;go_simp;rfl
      go_frame;refine aA (fun _=>Z7.o.1) ?_;have hnI:(0:Int)<=(n:Int):=(by omega);have t2:=Z7.o.2.heap KA.o.2 id;have f0:=ζ t2 (j:=0) rfl;have f1:=ζ t2 (j:=1) rfl;have f2:=ζ t2 (j:=2) rfl;have g0:=free_at t2 0;have g1:=free_at t2 1;have g2:=free_at t2 2;have T2:=γ t2;clear t2;go_wp2_with fail;obtain⟨q0,q1,q2,kE⟩:=kX (w:=w) T2.o (KA.o.1.trans Z7.o.2) (by omega) false (p:Int) (n:Int);refine bodyPost_ret (v:= .tuple #[.agg #[.bool false,.int .i64 (p:Int),.int .i64 (n:Int)],.int .i64 0]) (by simp[results,results23,go_sem,q0,q1,q2]) rfl ⟨by rw[IP.o,F.o];rfl,kE⟩
     |none=>
      have hn:=ED hfi;rw[hn]
      have HN:=γ (show∀q,q<p+1->eH (ng sa Ts (L.map bT) q) (ng sb Us (L.map bT) q) 0=none from fun q hq=>by
       by_cases hqp:q=p
       ·subst hqp;exact hfi
       ·exact G.o.2.1 q (by omega))
      clear hn hfi;go_wp2;refine hK _ _ (fun _=>Z7.o.1) ?_;clear hK;apply aj rfl rfl
      ·intro W hW;go_simp;rfl
      go_frame;refine aA (fun _=>Z7.o.1) ?_;go_wp2;go_roundg (2-(p+1))
      case rel=>exact⟨p+1,by omega,by go_num,ξ _,HN.o,Z7.o.2⟩
      case measure=>have:=G.o.1;omega
    ·have hp2:p=2:=by omega
     subst hp2;have t2:=hkp.heap KA.o.2 id;have f0:=ζ t2 (j:=0) rfl;have f1:=ζ t2 (j:=1) rfl;have f2:=ζ t2 (j:=2) rfl;have g0:=free_at t2 0;have g1:=free_at t2 1;have g2:=free_at t2 2;have F:=γ (θ t2 (θ (KA.o.1.trans hkp) (Dh hnone)));clear hkp hg t2 hnone;go_wp2_with fail;obtain⟨q0,q1,q2,kE⟩:=kX (w:=w) F.o.1 F.o.2.1 (by omega) true 0 0;refine bodyPost_ret (v:= .tuple #[.agg #[.bool true,.int .i64 0,.int .i64 0],.int .i64 0]) (by simp[results,results23,go_sem,q0,q1,q2]) rfl ⟨by rw[IP.o,F.o.2.2];rfl,kE⟩
theorem lZ.pure {w w':World}{v u:Value}{s:Side}(h:lZ w v u s)(hk:ε η w w'):lZ w' v u s:=⟨h.1.pure hk,h.2.1.pure hk,h.2.2⟩
def xg:Side:=(⟨2,Vj⟩,[])
def Lp:Side:=(⟨1,VN⟩,[])
def bothR:List Rec:=[⟨0,5,2⟩,⟨1,5,4⟩]
def aaq (w:World)(e:Ending)(w':World):Prop:= ∃va vb lv,e= .returned (.tuple #[.agg #[.int .i64 2,va,.slice none 0 0],.agg #[.int .i64 1,vb,.slice none 0 0],lv])/\lZ w' va (.slice none 0 0) xg/\lZ w' vb (.slice none 0 0) Lp/\Reads w' 3 lv (recs bothR)/\ε η w w'
theorem fK {w:World}{B j:Nat}{cs:Array Value}{E:TypeId}{f:Nat×Nat}{v:Value}(h:w.heap[B]?=some (.cells cs E f))(hj:cs[j]?=some v):w.setCell ⟨B,j,none⟩ v=w:=by
 have hs:=aU h j v;have hsame:cs.setIfInBounds j v=cs:=by
  apply Array.ext_getElem?;intro k;rw[Array.getElem?_setIfInBounds];split
  ·rename_i e
   subst e;rw[hj];have:=(κ.1 hj).1;simp[this]
  ·rfl
 rw[hsame]at hs;have hh:(w.setCell ⟨B,j,none⟩ v).heap=w.heap:=by
  apply Array.ext_getElem?;intro k;by_cases hk:k=B
  ·subst hk;rw[hs,h]
  ·exact Below.heap_setCell _ _ _ _ (fun e=>hk e)
 show({w with heap:=(w.setCell ⟨B,j,none⟩ v).heap}:World)=w;rw[hh]
theorem Ym (w:World)(m:Int)(hm:w.cell? ⟨0,0,none⟩=some (.int .i64 m)):Calls prog 62 #[] w (aaq w):=by
 have kA:ε η w ((w.alloc (.cells #[.int .i64 0,.slice none 0 0,.slice none 0 0] 53)).alloc (.cells #[.int .i64 0,.slice none 0 0,.slice none 0 0] 53)):=(δ.alloc _).alloc _;have t0:((w.alloc (.cells #[.int .i64 0,.slice none 0 0,.slice none 0 0] 53)).alloc (.cells #[.int .i64 0,.slice none 0 0,.slice none 0 0] 53)).heap[w.heap.size]?=some (.cells #[.int .i64 0,.slice none 0 0,.slice none 0 0] 53 (0,0)):=((ε.refl η _).alloc _).heap (heap_alloc_new w _) id;have t1:((w.alloc (.cells #[.int .i64 0,.slice none 0 0,.slice none 0 0] 53)).alloc (.cells #[.int .i64 0,.slice none 0 0,.slice none 0 0] 53)).heap[w.heap.size+1]?=some (.cells #[.int .i64 0,.slice none 0 0,.slice none 0 0] 53 (0,0)):=(by have:=heap_alloc_new (w.alloc (.cells #[.int .i64 0,.slice none 0 0,.slice none 0 0] 53)) (.cells #[.int .i64 0,.slice none 0 0,.slice none 0 0] 53);rwa[World.size_alloc]at this);obtain⟨W1,hW1⟩:=acu ((w.alloc (.cells #[.int .i64 0,.slice none 0 0,.slice none 0 0] 53)).alloc (.cells #[.int .i64 0,.slice none 0 0,.slice none 0 0] 53));rw[hW1]at kA t0 t1;have c1:=PZ acf 2 Vj W1 Vh m (kA.cell (p:=⟨0,0,none⟩) id hm);have H:=γ (θ hm (θ kA (θ t0 t1)));clear hm kA t0 t1;go_enter func62,ntmps62;go_wp2_with fail;try rw[hW1]
 clear hW1;refine c1.mono ?_;clear c1;rintro e w1 ⟨va,J,lo,D,rfl,hj,hJ,k1⟩;have hja:=hj.job;obtain⟨eF,dS,hva⟩: ∃a c,va= .slice a 3 c:=(by obtain⟨a,c,h,_⟩:=hja.nodes.at;exact⟨a,c,h⟩);subst hva;have t0:=k1.heap H.o.2.2.1 id;have t1:=k1.heap H.o.2.2.2 id;have hsz:w.heap.size+1<w1.heap.size:=(κ.1 t1).1;have hs1:w.heap.size+1<W1.heap.size:=(κ.1 H.o.2.2.2).1;have f0:=ζ t0 (j:=0) rfl;have f1:=ζ t0 (j:=1) rfl;have g0:=free_at t0 0;have g1:=free_at t0 1;have s0:=aU (aU t0 0 (.int .i64 2)) 1 (.slice eF 3 dS);have kS:ε (one w.heap.size) w1 ((w1.setCell ⟨w.heap.size,0,none⟩ (.int .i64 2)).setCell ⟨w.heap.size,1,none⟩ (.slice eF 3 dS)):=((ε.refl (one w.heap.size) _).setCell (p:=⟨w.heap.size,0,none⟩) (.inl rfl) _).setCell (p:=⟨w.heap.size,1,none⟩) (.inl rfl) _;obtain⟨W2,hW2⟩:=acu ((w1.setCell ⟨w.heap.size,0,none⟩ (.int .i64 2)).setCell ⟨w.heap.size,1,none⟩ (.slice eF 3 dS));rw[hW2]at s0 kS
 have hj2:=hj.iT kS (fun q hq=>by
  unfold one at hq;have h1:=hj.lt;refine⟨by omega,fun e=>?_,fun hD=>?_⟩
  ·obtain⟨cs,hr,_⟩:=hj.row
   have:=(hr.lt q e).1;omega
  ·have:=(hj.dd q hD).1;omega)
 have t1:=kS.heap t1 (fun e=>by unfold one at e;omega);have jF:ε η w W2:=(H.o.2.1.trans k1).new kS (fun q hq hs=>by unfold one at hs;omega);have c2:=PZ acs 1 VN W2 VL m (jF.cell (p:=⟨0,0,none⟩) id H.o.1);have hs2:w.heap.size+1<W2.heap.size:=(κ.1 t1).1;have K2:=γ (θ hj2 (θ s0 (θ t1 (θ jF hJ))));clear hja t0 k1 hj s0 kS hj2 t1 jF hJ;go_wp2_with fail;try rw[hW2]
 clear hW2 f0 f1 g0 g1;refine c2.mono ?_;clear c2;rintro e w3 ⟨vb,J',lo',D',rfl,hj,hJ,k3⟩;have hja:=hj.job;obtain⟨vb1,iy,hvb⟩: ∃a c,vb= .slice a 3 c:=(by obtain⟨a,c,h,_⟩:=hja.nodes.at;exact⟨a,c,h⟩);subst hvb;have t1:=k3.heap K2.o.2.2.1 id;have t0:=k3.heap K2.o.2.1 id;have hsz3:w.heap.size+1<w3.heap.size:=(κ.1 t1).1;have f0:=ζ t1 (j:=0) rfl;have f1:=ζ t1 (j:=1) rfl;have g0:=free_at t1 0;have g1:=free_at t1 1;have s1:=aU (aU t1 0 (.int .i64 1)) 1 (.slice vb1 3 iy);have kS:ε (one (w.heap.size+1)) w3 ((w3.setCell ⟨w.heap.size+1,0,none⟩ (.int .i64 1)).setCell ⟨w.heap.size+1,1,none⟩ (.slice vb1 3 iy)):=((ε.refl (one (w.heap.size+1)) _).setCell (p:=⟨w.heap.size+1,0,none⟩) (.inl rfl) _).setCell (p:=⟨w.heap.size+1,1,none⟩) (.inl rfl) _;obtain⟨W4,iW⟩:=acu ((w3.setCell ⟨w.heap.size+1,0,none⟩ (.int .i64 1)).setCell ⟨w.heap.size+1,1,none⟩ (.slice vb1 3 iy));rw[iW]at s1 kS
 have hjb:=hj.iT kS (fun q hq=>by
  unfold one at hq;have h1:=hj.lt;refine⟨by omega,fun e=>?_,fun hD=>?_⟩
  ·obtain⟨cs,hr,_⟩:=hj.row
   have:=(hr.lt q e).1;omega
  ·have:=(hj.dd q hD).1;omega)
 have QE:=K2.o.1.pure k3
 have QE:=QE.iT kS (fun q hq=>by
  unfold one at hq;have h1:=QE.lt;have h2:=K2.o.2.2.2.2;refine⟨by omega,fun e=>?_,fun hD=>?_⟩
  ·obtain⟨cs,hr,_⟩:=QE.row
   have:=(hr.lt q e).1;omega
  ·have:=(QE.dd q hD).1;omega)
 have s0:=kS.heap t0 (fun e=>by unfold one at e;omega);have CG:ε η w W4:=(K2.o.2.2.2.1.trans k3).new kS (fun q hq hs=>by unfold one at hs;omega);have hs4:w.heap.size+1<W4.heap.size:=(κ.1 s1).1;have z00:=ζ s0 (j:=0) (v:= .int .i64 2) rfl;have z01:=ζ s0 (j:=1) (v:= .slice eF 3 dS) rfl;have z02:=ζ s0 (j:=2) (v:= .slice none 0 0) rfl;have z10:=ζ s1 (j:=0) (v:= .int .i64 1) rfl;have z11:=ζ s1 (j:=1) (v:= .slice vb1 3 iy) rfl;have z12:=ζ s1 (j:=2) (v:= .slice none 0 0) rfl;have CP:ε η W4 (W4.alloc (.cells #[.int .i64 0,.int .i64 5,.int .i64 2,.int .i64 1,.int .i64 5,.int .i64 4] 133)):=δ.alloc _;have hlit:=Reads.lit W4 [.int .i64 0,.int .i64 5,.int .i64 2,.int .i64 1,.int .i64 5,.int .i64 4] 133 3 2 rfl (by unfold maxLen;omega);obtain⟨W5,oI⟩:=acu (W4.alloc (.cells #[.int .i64 0,.int .i64 5,.int .i64 2,.int .i64 1,.int .i64 5,.int .i64 4] 133));rw[show([.int .i64 0,.int .i64 5,.int .i64 2,.int .i64 1,.int .i64 5,.int .i64 4]:List Value).toArray= #[.int .i64 0,.int .i64 5,.int .i64 2,.int .i64 1,.int .i64 5,.int .i64 4]from rfl,oI]at hlit;rw[oI]at CP;have Yn:=CP.heap s0 id;have s15:=CP.heap s1 id
 have F:=γ (show aaq w (.returned (.tuple #[.agg #[.int .i64 2,.slice eF 3 dS,.slice none 0 0],.agg #[.int .i64 1,.slice vb1 3 iy,.slice none 0 0],.slice (some ⟨W4.heap.size,0,none⟩) 2 2])) W5.drew from
  ⟨_,_,_,rfl,⟨(QE.pure (CP.drew)).job,Reads.nil _ 2,fun s hs=>by cases hs⟩,⟨(hjb.pure (CP.drew)).job,Reads.nil _ 2,fun s hs=>by cases hs⟩,hlit.pure (ε.refl η W5).drew,(CG.trans CP).drew⟩)
 have ZS:=γ (θ s0 (θ s1 (θ Yn (θ s15 CP))));have e00:=fK s0 (j:=0) (v:= .int .i64 2) rfl;have e01:=fK s0 (j:=1) (v:= .slice eF 3 dS) rfl;have e02:=fK s0 (j:=2) (v:= .slice none 0 0) rfl;have e10:=fK s1 (j:=0) (v:= .int .i64 1) rfl;have e11:=fK s1 (j:=1) (v:= .slice vb1 3 iy) rfl;have e12:=fK s1 (j:=2) (v:= .slice none 0 0) rfl;have YI:=ζ Yn (j:=0) (v:= .int .i64 2) rfl;have q01:=ζ Yn (j:=1) (v:= .slice eF 3 dS) rfl;have q02:=ζ Yn (j:=2) (v:= .slice none 0 0) rfl;have q10:=ζ s15 (j:=0) (v:= .int .i64 1) rfl;have q11:=ζ s15 (j:=1) (v:= .slice vb1 3 iy) rfl;have q12:=ζ s15 (j:=2) (v:= .slice none 0 0) rfl;clear hja hj hJ k3 t0 t1 s1 kS hjb QE s0 CG CP hlit Yn s15;go_wp2_with fail;try rw[iW]
 clear iW f0 f1 g0 g1;have kd:ε η W4 W4.drew:=(ε.refl η W4).drew;have fr:=fun(j:Nat)=>free_at ZS.o.1 j;have fr0:=free_at ZS.o.1 0;have fr1:=free_at ZS.o.1 1;have fr2:=free_at ZS.o.1 2;have fs0:=free_at ZS.o.2.1 0;have fs1:=free_at ZS.o.2.1 1;have fs2:=free_at ZS.o.2.1 2;have ft0:=free_at ZS.o.2.2.1 0;have ft1:=free_at ZS.o.2.2.1 1;have ft2:=free_at ZS.o.2.2.1 2;have fu0:=free_at ZS.o.2.2.2.1 0;have fu1:=free_at ZS.o.2.2.2.1 1;have fu2:=free_at ZS.o.2.2.2.1 2;have i00:=fK ZS.o.2.2.1 (j:=0) (v:= .int .i64 2) rfl;have i01:=fK ZS.o.2.2.1 (j:=1) (v:= .slice eF 3 dS) rfl;have i02:=fK ZS.o.2.2.1 (j:=2) (v:= .slice none 0 0) rfl;have i10:=fK ZS.o.2.2.2.1 (j:=0) (v:= .int .i64 1) rfl;have i11:=fK ZS.o.2.2.2.1 (j:=1) (v:= .slice vb1 3 iy) rfl;have i12:=fK ZS.o.2.2.2.1 (j:=2) (v:= .slice none 0 0) rfl;clear fr;refine qJ (fun W=>ε η W4 W) (by kernel_rfl) (by kernel_rfl) kd ?_;refine bG (k:=0) (by kernel_rfl) rfl rfl (fun W hW=>by have a0:=hW.cell (p:=⟨w.heap.size,0,none⟩) id z00;have a1:=hW.cell (p:=⟨w.heap.size,1,none⟩) id z01;have a2:=hW.cell (p:=⟨w.heap.size,2,none⟩) id z02;go_simp;rfl) ?_;go_frame;refine bG (k:=1) (by kernel_rfl) rfl rfl (fun W hW=>by have a0:=hW.cell (p:=⟨w.heap.size+1,0,none⟩) id z10;have a1:=hW.cell (p:=⟨w.heap.size+1,1,none⟩) id z11;have a2:=hW.cell (p:=⟨w.heap.size+1,2,none⟩) id z12;go_simp;rfl) ?_;go_frame;refine bG (k:=2) (by kernel_rfl) rfl rfl (fun W hW=>by go_simp;rfl) ?_;go_frame;refine bG (k:=3) (by kernel_rfl) rfl rfl (fun W hW=>by go_simp;rfl) ?_;go_frame;refine uJ (i:=4) (k:=5) (by kernel_rfl) (by kernel_rfl) rfl rfl rfl rfl ?brA ?brB
 case' brA=>
  intro K hK;go_wp2;refine hK _ _ (ε.drew ZS.o.2.2.2.2) ?_;clear hK;refine dX (k:=5) (by kernel_rfl) (by kernel_rfl) rfl rfl ?_;intro K hK;go_wp2_with fail;try rw[i00,i01,i02]
  refine hK _ _ (ε.drew ZS.o.2.2.2.2) ?_;clear hK;refine dX (k:=6) (by kernel_rfl) (by kernel_rfl) rfl rfl ?_;intro K hK;go_wp2_with fail;try rw[i10,i11,i12]
  refine hK _ _ (ε.drew ZS.o.2.2.2.2) ?_;clear hK
 case' brB=>
  intro K hK;go_wp2_with fail;try rw[e00,e01,e02]
  refine hK _ _ (ε.drew (ε.refl η W4)) ?_;clear hK;refine uJ (i:=4) (k:=6) (by kernel_rfl) (by kernel_rfl) rfl rfl rfl rfl ?brC ?brD
  case' brC=>
   intro K hK;go_wp2;refine hK _ _ (ε.drew ZS.o.2.2.2.2) ?_;clear hK;refine dX (k:=6) (by kernel_rfl) (by kernel_rfl) rfl rfl ?_;intro K hK;go_wp2_with fail;try rw[i10,i11,i12]
   refine hK _ _ (ε.drew ZS.o.2.2.2.2) ?_;clear hK
  case' brD=>
   intro K hK;go_wp2_with fail;try rw[e10,e11,e12]
   refine hK _ _ (ε.drew (ε.refl η W4)) ?_;clear hK;refine dX (k:=4) (by kernel_rfl) (by kernel_rfl) rfl rfl ?_;intro K hK;go_wp2;refine hK _ _ (ε.drew ZS.o.2.2.2.2) ?_;clear hK
 all_goals
  refine bG (k:=7) (v:= .slice (some ⟨W4.heap.size,0,none⟩) 2 2) (by kernel_rfl) rfl rfl (fun W hW=>by go_simp) ?_;simp only[getElem_toArray,getElem_cons_succ,getElem_cons_zero];go_frame;refine uK (by kernel_rfl) (ε.drew ZS.o.2.2.2.2) ?_;go_wp2;refine bodyPost_ret (v:= .tuple #[.agg #[.int .i64 2,.slice eF 3 dS,.slice none 0 0],.agg #[.int .i64 1,.slice vb1 3 iy,.slice none 0 0],.slice (some ⟨W4.heap.size,0,none⟩) 2 2]) (by simp[results,results62,go_sem,YI,q01,q02,q10,q11,q12]) rfl F.o
theorem KU:fQ xg Lp (bothR.map bT)=((false,1,0),0):=by kernel_rfl
theorem Vo:fQ xg xg (bothR.map bT)=((true,0,0),0):=by kernel_rfl
theorem Ro: ∀r∈bothR,bF r:=by
 intro r hr;unfold bothR at hr;simp at hr
 rcases hr with rfl|rfl
 ·exact⟨.small (by simp) (by simp),.small (by simp) (by simp),.small (by simp) (by simp)⟩
 ·exact⟨.small (by simp) (by simp),.small (by simp) (by simp),.small (by simp) (by simp)⟩
theorem Ea (w:World)(m:Int)(hm:w.cell? ⟨0,0,none⟩=some (.int .i64 m)):Calls prog 21 #[] w (Gives w (.bool true)):=by have cs:=Ym w m hm;clear hm;go_enter func21,ntmps21;go_wp2_with fail;refine cs.mono ?_;clear cs;rintro e w1 ⟨va,vb,lv,rfl,ha,hb,hl,k1⟩;obtain⟨eF,dS,hva⟩: ∃a c,va= .slice a 3 c:=(by obtain⟨a,c,h,_⟩:=ha.1.nodes.at;exact⟨a,c,h⟩);obtain⟨vb1,iy,hvb⟩: ∃a c,vb= .slice a 3 c:=(by obtain⟨a,c,h,_⟩:=hb.1.nodes.at;exact⟨a,c,h⟩);obtain⟨la,lc,hlv,-⟩:=hl.recAt;subst hva hvb hlv;have kA:ε η w1 ((w1.alloc (.cells #[.int .i64 2,.slice eF 3 dS,.slice none 0 0] 53)).alloc (.cells #[.int .i64 1,.slice vb1 3 iy,.slice none 0 0] 53)):=(δ.alloc _).alloc _;have t0:((w1.alloc (.cells #[.int .i64 2,.slice eF 3 dS,.slice none 0 0] 53)).alloc (.cells #[.int .i64 1,.slice vb1 3 iy,.slice none 0 0] 53)).heap[w1.heap.size]?=some (.cells #[.int .i64 2,.slice eF 3 dS,.slice none 0 0] 53 (0,0)):=((ε.refl η _).alloc _).heap (heap_alloc_new w1 _) id;obtain⟨W2,hW2⟩:=acu ((w1.alloc (.cells #[.int .i64 2,.slice eF 3 dS,.slice none 0 0] 53)).alloc (.cells #[.int .i64 1,.slice vb1 3 iy,.slice none 0 0] 53));rw[hW2]at kA t0;have c1:=Am xg Lp _ _ _ _ _ bothR W2 (ha.pure kA) (hb.pure kA) (hl.pure kA) Ro (by decide);rw[KU,show xg.1.par=2 from rfl,show Lp.1.par=1 from rfl]at c1;have K1:=γ (θ ha (θ hl (θ (k1.trans kA) (θ kA t0))));have HW:=γ hW2;clear ha hb hl k1 kA t0 hW2;go_wp2_with fail;rw[HW.o];clear HW;refine c1.mono ?_;clear c1;rintro e w3 ⟨rfl,k3⟩;unfold Dv;have t0:=k3.heap K1.o.2.2.2.2 id;have p0:=ζ t0 (j:=0) (v:= .int .i64 2) rfl;have p1:=ζ t0 (j:=1) (v:= .slice eF 3 dS) rfl;have p2:=ζ t0 (j:=2) (v:= .slice none 0 0) rfl;have hsz:w1.heap.size<w3.heap.size:=(κ.1 t0).1;have kB:ε η w3 (w3.alloc (.cells #[.bool false,.int .i64 1,.int .i64 0] 57)):=δ.alloc _;have kk:=K1.o.2.2.2.1.trans (k3.trans kB);have c2:=Am xg xg _ _ _ _ _ bothR (w3.alloc (.cells #[.bool false,.int .i64 1,.int .i64 0] 57)) (K1.o.1.pure kk) (K1.o.1.pure kk) (K1.o.2.1.pure kk) Ro (by decide);rw[Vo,show xg.1.par=2 from rfl]at c2;have v0:=heap_alloc_new w3 (.cells #[.bool false,.int .i64 1,.int .i64 0] 57);have K3:=γ (θ (K1.o.2.2.1.trans (k3.trans kB)) v0);clear k3 kB kk t0 v0;go_wp2_with fail;refine c2.mono ?_;clear c2 p0 p1 p2;rintro e w5 ⟨rfl,k5⟩;unfold Dv;have v0:=k5.heap K3.o.2 id;have q0:=ζ v0 (j:=0) (v:= .bool false) rfl;have q1:=ζ v0 (j:=1) (v:= .int .i64 1) rfl;have q2:=ζ v0 (j:=2) (v:= .int .i64 0) rfl;have hs5:w3.heap.size<w5.heap.size:=(κ.1 v0).1;have F:=γ ((K3.o.1.trans k5).alloc (.cells #[.bool true,.int .i64 0,.int .i64 0] 57));clear k5 v0;go_wp2;go_ret;exact⟨rfl,F.o⟩
def ab4 (w:World)(a b:Jb)(n:Nat)(e:Ending)(w':World):Prop:= ∃c:Bool,e= .returned (.bool c)/\ε η w w'/\(c=false->Du a/\Du b/\n<=60)
theorem QG (sa sb:Side)(va ua vb ub lv:Value)(L:List Rec)(w:World)(ha:lZ w va ua sa)(hb:lZ w vb ub sb)(hl:Reads w 3 lv (recs L)):
 Calls prog 20 #[.agg #[.int .i64 sa.1.par,va,ua],.agg #[.int .i64 sb.1.par,vb,ub],lv] w (ab4 w sa.1 sb.1 L.length):=by
 obtain⟨la,Qa,rfl,l1,l2,l3⟩:=hl.recAt;unfold maxLen at l2;have kA:ε η w ((w.alloc (.cells #[.int .i64 sa.1.par,va,ua] 53)).alloc (.cells #[.int .i64 sb.1.par,vb,ub] 53)):=(δ.alloc _).alloc _;have t0:((w.alloc (.cells #[.int .i64 sa.1.par,va,ua] 53)).alloc (.cells #[.int .i64 sb.1.par,vb,ub] 53)).heap[w.heap.size]?=some (.cells #[.int .i64 sa.1.par,va,ua] 53 (0,0)):=((ε.refl η _).alloc _).heap (heap_alloc_new w _) id;have t1:((w.alloc (.cells #[.int .i64 sa.1.par,va,ua] 53)).alloc (.cells #[.int .i64 sb.1.par,vb,ub] 53)).heap[w.heap.size+1]?=some (.cells #[.int .i64 sb.1.par,vb,ub] 53 (0,0)):=(by have:=heap_alloc_new (w.alloc (.cells #[.int .i64 sa.1.par,va,ua] 53)) (.cells #[.int .i64 sb.1.par,vb,ub] 53);rwa[World.size_alloc]at this);obtain⟨W1,hW1⟩:=acu ((w.alloc (.cells #[.int .i64 sa.1.par,va,ua] 53)).alloc (.cells #[.int .i64 sb.1.par,vb,ub] 53));rw[hW1]at kA t0 t1;have p0:=ζ t0 (j:=0) rfl;have p1:=ζ t0 (j:=1) rfl;have p2:=ζ t0 (j:=2) rfl;have ca:=Hl sa.1 _ ua sa.2 (.slice none 0 0) [] W1 (ha.1.pure kA) (ha.2.1.pure kA) ha.2.2 (Reads.nil _ 3);have H:=γ (θ hb (θ kA t1));clear ha hb hl l3 kA t0 t1;go_enter func20,ntmps20;go_wp2_with fail;try rw[hW1]
 clear hW1;refine ca.mono ?_;clear ca p0 p1 p2;rintro e w1 ⟨b,rfl,k1,hj1⟩;have kw:=H.o.2.1.trans k1;have t1:=k1.heap H.o.2.2 id;have r0:=ζ t1 (j:=0) rfl;have r1:=ζ t1 (j:=1) rfl;have r2:=ζ t1 (j:=2) rfl;have hsz:w.heap.size+1<w1.heap.size:=(κ.1 t1).1
 cases b with
 |true=>have F:=γ kw;clear kw k1 t1 r0 r1 r2 hj1;go_wp2;go_ret;exact⟨true,rfl,F.o,fun h=>by cases h⟩
 |false=>
  have cb:=Hl sb.1 _ ub sb.2 (.slice none 0 0) [] w1 (H.o.1.1.pure kw) (H.o.1.2.1.pure kw) H.o.1.2.2 (Reads.nil _ 3);have F:=γ (θ kw (hj1 rfl).1);clear kw k1 t1 hj1;go_wp2_with fail;refine cb.mono ?_;clear cb r0 r1 r2;rintro e w2 ⟨b,rfl,k2,hj2⟩;have F2:=γ (F.o.1.trans k2);clear k2
  cases b with
  |true=>clear hj2;go_wp2;go_ret;exact⟨true,rfl,F2.o,fun h=>by cases h⟩
  |false=>have J:=γ (hj2 rfl).1;clear hj2;go_wp2;go_ret;exact⟨decide (60<(L.length:Int)),rfl,F2.o,fun h=>⟨F.o.2,J.o,by have:=of_decide_eq_false h;omega⟩⟩
theorem Po (sa sb:Side)(va ua vb ub lv:Value)(L:List Rec)(w:World)(mx:Int)(hm:w.cell? ⟨0,0,none⟩=some (.int .i64 mx))(ha:lZ w va ua sa)(hb:lZ w vb ub sb)(hl:Reads w 3 lv (recs L))(hL: ∀r∈L,bF r):
 Calls prog 5 #[.agg #[.int .i64 sa.1.par,va,ua],.agg #[.int .i64 sb.1.par,vb,ub],lv] w (Gives w (.bool true)):=by
 obtain⟨eF,dS,rfl⟩: ∃a c,va= .slice a sa.1.nodes.length c:=(by obtain⟨a,c,h,_⟩:=ha.1.nodes.at;exact⟨a,c,h⟩);obtain⟨vb1,iy,rfl⟩: ∃a c,vb= .slice a sb.1.nodes.length c:=(by obtain⟨a,c,h,_⟩:=hb.1.nodes.at;exact⟨a,c,h⟩);obtain⟨lg,kZ,rfl⟩: ∃a c,ua= .slice a sa.2.length c:=(by obtain⟨a,c,h,_⟩:=ha.2.1.yY;exact⟨a,c,h⟩);obtain⟨oG,oC,rfl⟩: ∃a c,ub= .slice a sb.2.length c:=(by obtain⟨a,c,h,_⟩:=hb.2.1.yY;exact⟨a,c,h⟩);obtain⟨la,Qa,rfl,l1,l2,-⟩:=hl.recAt;unfold maxLen at l2;obtain⟨Av,hAv⟩: ∃Av:Array Value,#[.int .i64 sa.1.par,.slice eF sa.1.nodes.length dS,.slice lg sa.2.length kZ]=Av:=⟨_,rfl⟩;obtain⟨Bv,hBv⟩: ∃Bv:Array Value,#[.int .i64 sb.1.par,.slice vb1 sb.1.nodes.length iy,.slice oG sb.2.length oC]=Bv:=⟨_,rfl⟩;have kA:ε η w ((w.alloc (.cells Av 53)).alloc (.cells Bv 53)):=(δ.alloc _).alloc _;have t0:((w.alloc (.cells Av 53)).alloc (.cells Bv 53)).heap[w.heap.size]?=some (.cells Av 53 (0,0)):=((ε.refl η _).alloc _).heap (heap_alloc_new w _) id;have t1:((w.alloc (.cells Av 53)).alloc (.cells Bv 53)).heap[w.heap.size+1]?=some (.cells Bv 53 (0,0)):=(by have:=heap_alloc_new (w.alloc (.cells Av 53)) (.cells Bv 53);rwa[World.size_alloc]at this);subst hAv hBv;obtain⟨W1,hW1⟩:=acu ((w.alloc (.cells #[.int .i64 sa.1.par,.slice eF sa.1.nodes.length dS,.slice lg sa.2.length kZ] 53)).alloc (.cells #[.int .i64 sb.1.par,.slice vb1 sb.1.nodes.length iy,.slice oG sb.2.length oC] 53));rw[hW1]at kA t0 t1;have BX: ∀w',ε η W1 w'->(w'.cell? ⟨w.heap.size,0,none⟩=some (.int .i64 sa.1.par)/\w'.cell? ⟨w.heap.size,1,none⟩=some (.slice eF sa.1.nodes.length dS)/\w'.cell? ⟨w.heap.size,2,none⟩=some (.slice lg sa.2.length kZ)/\w'.cell? ⟨w.heap.size+1,0,none⟩=some (.int .i64 sb.1.par)/\w'.cell? ⟨w.heap.size+1,1,none⟩=some (.slice vb1 sb.1.nodes.length iy)/\w'.cell? ⟨w.heap.size+1,2,none⟩=some (.slice oG sb.2.length oC)):=fun w' k=>(by have t0:=k.heap t0 id;have t1:=k.heap t1 id;exact⟨ζ t0 rfl,ζ t0 rfl,ζ t0 rfl,ζ t1 rfl,ζ t1 rfl,ζ t1 rfl⟩);have BX:=γ BX;have hsz1:w.heap.size+1<W1.heap.size:=(κ.1 t1).1;have ch:=QG sa sb _ _ _ _ _ L W1 (ha.pure kA) (hb.pure kA) (hl.pure kA);obtain⟨q0,q1,q2,q3,q4,q5⟩:=BX.o W1 δ;have H:=γ (θ hm (θ ha (θ hb (θ hl (θ hL kA)))));have HW:=γ hW1;clear hm ha hb hl hL kA t0 t1 hW1;go_enter func5,ntmps5;go_wp2_with fail;rw[HW.o];clear HW;refine ch.mono ?_;clear ch q0 q1 q2 q3 q4 q5;rintro e w1 ⟨b1,rfl,k1,h60⟩;have KW:=γ (H.o.2.2.2.2.2.trans k1)
 cases b1 with
 |true=>have cw:=Ea w1 mx (KW.o.cell (p:=⟨0,0,none⟩) id H.o.1);clear k1 h60;go_wp2_with fail;refine cw.mono ?_;clear cw;rintro e wz1 ⟨rfl,kz1⟩;have F1:=γ (KW.o.trans kz1);clear kz1;go_wp2;go_ret;exact⟨rfl,F1.o⟩
 |false=>
  obtain⟨hma,hmb,hlen⟩:=h60 rfl;obtain⟨q0,q1,q2,q3,q4,q5⟩:=BX.o w1 k1;have ci:=Am sa sb _ _ _ _ _ L w1 (H.o.2.1.pure KW.o) (H.o.2.2.1.pure KW.o) (H.o.2.2.2.1.pure KW.o) H.o.2.2.2.2.1 hlen
  have cr: ∀w',ε η w w'->Calls prog 23 #[.agg #[.int .i64 sa.1.par,.slice eF sa.1.nodes.length dS,.slice lg sa.2.length kZ],.agg #[.int .i64 sb.1.par,.slice vb1 sb.1.nodes.length iy,.slice oG sb.2.length oC],.slice la L.length Qa] w' (D6 w' (fQ sa sb (L.map bT))):=fun w' k=>
   SY sa sb _ _ _ _ _ L w' (H.o.2.1.pure k) (H.o.2.2.1.pure k) hma hmb (H.o.2.2.2.1.pure k) H.o.2.2.2.2.1 hlen
  have CR:=γ cr;have K1:=γ k1;obtain⟨⟨vb0,v1,v2⟩,er,hv⟩: ∃(v:Jf)(er:Int),fQ sa sb (L.map bT)=(v,er):=⟨_,_,rfl⟩;rw[hv]at ci CR;unfold D6 Dv at ci CR;dsimp only at ci CR;clear k1 h60 cr hma hmb hv;go_wp2_with fail;refine ci.mono ?_;clear ci q0 q1 q2 q3 q4 q5;rintro e w2 ⟨rfl,k2⟩;have kC:ε η w2 (w2.alloc (.cells #[.bool vb0,.int .i64 v1,.int .i64 v2] 57)):=δ.alloc _;have tC:(w2.alloc (.cells #[.bool vb0,.int .i64 v1,.int .i64 v2] 57)).heap[w2.heap.size]?=some (.cells #[.bool vb0,.int .i64 v1,.int .i64 v2] 57 (0,0)):=heap_alloc_new _ _;obtain⟨W3,hW3⟩:=acu (w2.alloc (.cells #[.bool vb0,.int .i64 v1,.int .i64 v2] 57));rw[hW3]at kC tC;obtain⟨q0,q1,q2,q3,q4,q5⟩:=BX.o W3 (K1.o.trans (k2.trans kC));have hsz3:w2.heap.size<W3.heap.size:=(κ.1 tC).1;have cr:=CR.o W3 (KW.o.trans (k2.trans kC));have K3:=γ (θ (KW.o.trans (k2.trans kC)) tC);clear k2 kC tC;go_wp2_with fail;try rw[hW3]
  clear hW3;refine cr.mono ?_;clear cr q0 q1 q2 q3 q4 q5;rintro e w4 ⟨rfl,k4⟩;have kD:ε η w4 (w4.alloc (.cells #[.bool vb0,.int .i64 v1,.int .i64 v2] 57)):=δ.alloc _;have tD:(w4.alloc (.cells #[.bool vb0,.int .i64 v1,.int .i64 v2] 57)).heap[w4.heap.size]?=some (.cells #[.bool vb0,.int .i64 v1,.int .i64 v2] 57 (0,0)):=heap_alloc_new _ _;obtain⟨W5,oI⟩:=acu (w4.alloc (.cells #[.bool vb0,.int .i64 v1,.int .i64 v2] 57));rw[oI]at kD tD;have tC:=(k4.trans kD).heap K3.o.2 id;have x0:=ζ tC (j:=0) rfl;have x1:=ζ tC (j:=1) rfl;have x2:=ζ tC (j:=2) rfl;have y0:=ζ tD (j:=0) rfl;have y1:=ζ tD (j:=1) rfl;have y2:=ζ tD (j:=2) rfl;have K5:=γ (K3.o.1.trans (k4.trans kD));have cw:=Ea W5 mx (K5.o.cell (p:=⟨0,0,none⟩) id H.o.1);have hee:(er==er)=true:=beq_self_eq_true _;clear k4 kD tD tC;go_wp2_with fail;try rw[oI]
  clear oI x0 x1 x2 y0 y1 y2;refine cw.mono ?_;clear cw;rintro e w6 ⟨rfl,k6⟩;have F:=γ (K5.o.trans k6);clear k6;go_wp2;go_ret;exact⟨rfl,F.o⟩
end
