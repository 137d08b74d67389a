/- ideal.Feed: its walk. -/
import Derived.Test.YtglbkodmmogomaaGreatDoorI30
set_option linter.unusedVariables false
set_option linter.unusedSimpArgs false
set_option maxHeartbeats 4000000
set_option maxRecDepth 100000
namespace Go.Proofs.YtglbkodmmogomaaGreatDoor
open Go Go.RowKit
attribute [local irreducible] cZ
theorem JE (M:Nat->Prop)(j:Jb)(b m:Nat)(Ts:Tabs)(pm:Nat->Nat×Nat)(key val:Int)(w:World)(h:vM w b m j Ts pm)(hX:dN w M m Ts pm)(hj:gu j=true)(hR:JR j.nodes)(hT:eH j.nodes Ts)(hk:aH key)(hv:aH val):
 Calls Tryz.prog 27 #[.pointer (some ⟨b,0,none⟩),.int .i64 key,.int .i64 val] w (VZ M w b m j Ts pm key val):=by
 have hrec:bQ ⟨1,key,val⟩:=⟨.small (by simp) (by simp),hk,hv⟩;obtain⟨⟨nv,hob,hn⟩,hpar,htb⟩:=h;obtain⟨na,cap,rfl,h1,h2,h3⟩:=hn.at;have h12:2<=j.nodes.length/\j.nodes.length<=12:=(by have:=(nU hj).1;unfold eF at this;simp only[Bool.or_eq_false_iff,decide_eq_false_iff_not]at this;omega);obtain⟨h12,h13⟩:=h12;have x1:w.cell? ⟨b,1,none⟩=some (.slice na j.nodes.length cap):=ζ hob rfl;have x2:w.cell? ⟨b,2,none⟩=some (.map (some m)):=ζ hob rfl;have hbl:b<w.heap.size:=(κ.1 hob).1;have hml:=htb.lt;obtain⟨W1,hmk,abX,k1⟩:=aaf w j.nodes.length (by omega);have FO:=γ (Kw hj hR hT hrec rfl);have HJR:=γ hR;have hnb: ¬nH Ts pm b:=fun hs=>htb.zk hs _ _ _ hob;have hnm: ¬nH Ts pm m:=(by rintro⟨i,T,hi,e⟩;exact(htb.tab i T hi).2 e);have y1:=k1.cell id x1;have y2:=k1.cell id x2;have H:=γ (θ hob (θ hn (θ hpar (θ htb (θ abX (θ k1 (θ hnb (θ hnm (θ (hX.of (mb:=w.heap.size) (ξ _)) (θ h3 (θ hj (θ hrec hT))))))))))));clear hob hn hpar htb abX k1 hnb hnm h3 hj hR hT hX;unfold maxLen at h2;go_enter Tryz.func27,Tryz.ntmps27;go_wp2;clear x1 x2 hmk;go_loopg [25] j.nodes.length (fun g vi wr=> ∃k:Nat,k<=j.nodes.length/\vi= .int .i64 (k:Int)/\j.nodes.length-k<=g/\jK wr w.heap.size j.nodes.length (gV j.nodes ⟨1,key,val⟩ Ts k).1/\dN wr (fun q=>(M q\/w.heap.size<=q)/\q≠w.heap.size) m (gV j.nodes ⟨1,key,val⟩ Ts k).2 pm/\ε (fun q=>nH Ts pm q\/q=w.heap.size) W1 wr)
 case atStart=>exact⟨0,by omega,rfl,by omega,H.o.2.2.2.2.1,H.o.2.2.2.2.2.2.2.2.1.pure H.o.2.2.2.2.2.1,ε.refl _ _⟩
 case round=>
  obtain⟨k,hkn,rfl,hg,hmd,htx,hkp⟩:=hrel;obtain⟨wo,rfl⟩: ∃wo:World,wo=wr:=⟨_,rfl⟩;have kw:ε (nH Ts pm) w wo:=H.o.2.2.2.2.2.1.pure.new hkp (fun i hi hs=>by rcases hs with hs|hs;exact hs;omega);have y1:=hkp.cell (p:=⟨b,1,none⟩) (by rintro(h|h);exact H.o.2.2.2.2.2.2.1 h;simp only at h;omega) y1;have y2:=hkp.cell (p:=⟨b,2,none⟩) (by rintro(h|h);exact H.o.2.2.2.2.2.2.1 h;simp only at h;omega) y2;have rF:=hmd.lt;by_cases hlt:k<j.nodes.length
  ·obtain⟨d,hd⟩: ∃d,j.nodes[k]?=some d:=⟨_,ι hlt⟩
   obtain⟨nb,off,pi,ci,p,cap',rfl,hc,hjn⟩:=H.o.2.2.2.2.2.2.2.2.2.1 k d hd;have hjw:nO wo (bG d pi ci p cap') d:=hjn.kept kw (fun q hq=>H.o.2.2.2.1.zk hq)
   obtain⟨c0,c1,c2,c3,c4,c5,c6⟩:=hc.kept kw (fun hs=>by
    have:=H.o.2.2.2.1.zk hs;have c0:=hc.c0;unfold World.cell? at c0;split at c0
    ·rename_i e;exact this _ _ _ e
    ·cases c0)
   have kA:ε η wo (wo.alloc (.cells (bG d pi ci p cap') 42)):=δ.alloc _;have nB:(wo.alloc (.cells (bG d pi ci p cap') 42)).heap[wo.heap.size]?=some (.cells (bG d pi ci p cap') 42 (0,0)):=heap_alloc_new _ _;have hF:=FO.o k (Nat.le_of_lt hlt);have Qa:=PI H.o.2.2.2.2.2.2.2.2.2.2.1 H.o.2.2.2.2.2.2.2.2.2.2.2.1 rfl hd hF;have hstep:gV j.nodes ⟨1,key,val⟩ Ts (k+1)=_:=yO hd ⟨1,key,val⟩ (gV j.nodes ⟨1,key,val⟩ Ts k);have hmay:=qB H.o.2.2.2.2.2.2.2.2.2.2.1 hd;have hbw:b<wo.heap.size:=Pe hbl kw.size;have hltI:(k:Int)<(j.nodes.length:Int):=(by omega);obtain⟨st,hst⟩: ∃st,gV j.nodes ⟨1,key,val⟩ Ts k=st:=⟨_,rfl⟩;rw[hst]at hmd htx Qa hstep hF;have htl:st.2.length=j.nodes.length:=hF.tabs.len;have HL:=γ hF.len;have JX:=γ htl
   have zy:=γ (show∀T,st.2.getD k none=some T->st.2[k]?=some (some T)from fun T h=>by
    rw[σ]at h
    cases e:st.2[k]? with
    |none=>rw[e]at h;cases h
    |some t=>rw[e]at h;exact congrArg some h)
   have HPL:=γ (show st.2.getD k none=none->jZ d.iy.kind from fun h=>by
    cases hs:stateful d.kind with
    |true=>obtain⟨T,hT,_⟩:=hF.tabs.has k d hd hs;rw[σ,hT]at h;cases h
    |false=>
     unfold stateful at hs;simp at hs
     exact hs)
   have MP:=γ (show∀T,st.2.getD k none=some T->nH Ts pm (pm k).2 from fun T h=>by
    have hs:=hF.tabs.not k d hd;have hst2:stateful d.kind=true:=by
     cases e:stateful d.kind with
     |true=>rfl
     |false=>have:=hs e;rw[zy.o T h]at this;cases this
    obtain⟨U,hU,_⟩:=H.o.2.2.2.2.2.2.2.2.2.2.2.2.has k d hd hst2
    exact⟨k,U,hU,rfl⟩)
   have GH:=γ hg;have MD:=γ hmd;have TX:=γ htx;have KP:=γ hkp;have KA:=γ kA;have NB:=γ nB;have HS:=γ hstep;have JW:=γ hjw;have IO:=γ Qa;have HM:=γ hmay;have hkA:b<(wo.alloc (.cells (bG d pi ci p cap') 42)).heap.size:=Pe hbw kA.size;clear hg hmd htx hkp hstep Qa hmay hF htl hjw hc hjn hst kw;by_cases hk0:k=0
   ·have hin:fC ⟨1,key,val⟩ d k st.1=[⟨1,key,val⟩]:=if_pos hk0
    have e0: ¬(0<k):=(by omega);have IN:=γ hin;clear hin hk0 kA nB;go_wp2_with fail;obtain⟨W2,hW2⟩:=acf ((wo.alloc (.cells (bG d pi ci p cap') 42)).alloc (.cells #[.int .i64 1,.int .i64 key,.int .i64 val] 68));have kA2:ε η (wo.alloc (.cells (bG d pi ci p cap') 42)) W2:=(by rw[<-hW2];exact δ.alloc _);have kB:ε η wo W2:=KA.o.trans kA2;have n2:=kA2.heap NB.o id;have hrd:Reads W2 3 (.slice (some ⟨wo.heap.size+1,0,none⟩) 1 1) (recs (fC ⟨1,key,val⟩ d k st.1)):=(by rw[IN.o,<-hW2];have:=Reads.lit (wo.alloc (.cells (bG d pi ci p cap') 42)) [.int .i64 1,.int .i64 key,.int .i64 val] 68 3 1 rfl (by unfold maxLen;omega);rwa[World.size_alloc]at this);have aeN:((wo.alloc (.cells #[.string d.uid,.int .u8 d.kind,.slice pi d.ins.length ci,.int .u8 d.x.op,.int .i64 d.x.n,.slice p d.x.args.length cap',.int .i64 d.n] 42)).alloc (.cells #[.int .i64 1,.int .i64 key,.int .i64 val] 68))=W2:=hW2;try rw[aeN]
    clear c0 c1 c2 c3 c4 c5 c6 e0;clear hW2 aeN kA2 hkA;have YB1:=kB.cell (p:=⟨b,1,none⟩) id y1;have ZE:=kB.cell (p:=⟨b,2,none⟩) id y2;have Yr:=MD.o.pure kB;have Xx:=TX.o.pure kB;have kD:ε η W2 W2.drew:=δ.drew;have hmB:m<W2.heap.size:=Pe hml (ω (ω H.o.2.2.2.2.2.1.size KP.o.size) kB.size);have ahP:wo.heap.size<W2.heap.size:=(κ.1 n2).1;have ahG:b<W2.heap.size:=Pe hbw kB.size;have P6:w.heap.size<W2.heap.size:=Pe rF kB.size;have KB:=γ kB;have ZJ:=γ Yr;have vY:=γ Xx;have RD:=γ hrd;have N2:=γ n2;have KD:=γ kD;clear kB Yr Xx hrd n2 kD y1 y2
    cases hst:st.2.getD k none with
    |none=>
     have hpl:=γ (HPL.o hst)
     have hout:=γ (show st.2.set k ((st.2.getD k none).map fun _=>(aJ d.iy ((st.2.getD k none).getD []) (fC ⟨1,key,val⟩ d k st.1)).2)=st.2 by
      have hk':st.2[k]?=some none:=by
       rw[σ]at hst
       cases e:st.2[k]? with
       |none=>have:=List.getElem?_eq_none_iff.1 e;have:=JX.o;omega
       |some t=>rw[e]at hst;rw[show t=none from hst]
      rw[hst];apply List.ext_getElem?;intro i;by_cases hi:k=i
      ·subst hi
       rw[hk'];exact List.getElem?_set_self (by rw[JX.o];exact hlt)
      ·rw[List.getElem?_set_ne hi])
     have HG:=γ hst;clear hst;refine ak [0,1,2,3,4,5,6,7,8,9,10,11,12] (fun W=>ε η W2 W) (by kernel_rfl) (by kernel_rfl) rfl KD.o ?_;simp only[abU];iterate 10 (apply aj rfl rfl;(intro W hW;have q2:=hW.cell (p:=⟨b,2,none⟩) id ZE;have nW:=hW.heap N2.o id;have m0:=ζ nW (j:=0) rfl;have m1:=ζ nW (j:=1) rfl;have m2:=ζ nW (j:=2) rfl;have m3:=ζ nW (j:=3) rfl;have m4:=ζ nW (j:=4) rfl;have m5:=ζ nW (j:=5) rfl;have m6:=ζ nW (j:=6) rfl;have hlk:=vY.o.at_.look1 hW id k (by rw[JX.o];exact hlt);rw[HG.o]at hlk;simp only[l7,Option.map_none,Option.getD_none]at hlk;clear nW;go_simp;rfl);go_frame)
     apply aA rfl rfl;intro K hK;go_wp2_with fail;(with_reducible refine(Iq _ d.iy (.pointer none) _ _ _ ((JW.o.iy.pure KB.o).pure KD.o) hpl.o (RD.o.pure KD.o) IO.o.1 (by have:=IO.o.2.2.2.1;omega) ⟨_,rfl⟩).mono ?_);rintro e w5 ⟨v,rfl,hv,hvb,k5⟩;obtain⟨va,vc,rfl⟩:=hv.slice_form;go_wp2_with fail;refine hK _ _ (fun _=>KD.o.trans k5) ?_;clear hK;apply aj rfl rfl
     ·intro W hW;go_simp;rfl
     go_frame;have kk:=KD.o.trans k5;have md5:=ZJ.o.pure kk;obtain⟨⟨u5,hu5⟩,hf5⟩:=md5.free hlt;have s5:=md5.store (by rw[HL.o];exact hlt) hv (fun q hq=>Pe P6 (hvb q hq));rw[HL.o]at s5;have Z:=γ (θ s5 (θ ((vY.o.pure kk).store (fun h=>h.2 rfl) (by omega) s5.2) ((KP.o.new (KB.o.trans kk) (fun _ _ h=>h.elim)).new s5.2 (fun i hi hs=> .inr hs))));clear s5 kk md5 hv hvb k5;apply aA rfl rfl;intro K2 hK2;go_wp2_with fail;refine hK2 _ _ (fun h=>absurd rfl h) (jo (by kernel_rfl) ?_);clear hK2;go_wp2_with fail;go_roundg (j.nodes.length-(k+1))
     case rel=>exact⟨k+1,by omega,by go_num,ξ _,by rw[HS.o];simp only[HG.o,Option.getD_none];exact Z.o.1.1,by rw[HS.o];show dN _ _ _ (st.2.set k _) pm;rw[hout.o];exact Z.o.2.1,Z.o.2.2⟩
     case measure=>have:=GH.o;omega
    |some T=>
     have yA:=zy.o T hst;have hq:=(vY.o.at_.tab k T yA).2;have YU:(pm k).2≠b:=fun e=>(vY.o.at_.tab k T yA).1.jT _ _ _ (e▸(KB.o.heap (KP.o.heap (H.o.2.2.2.2.2.1.heap H.o.1 id) (by rintro(h|h);exact H.o.2.2.2.2.2.2.1 h;exact absurd h (by omega))) id));have TY:(pm k).2≠wo.heap.size:=fun e=>(vY.o.at_.tab k T yA).1.jT _ _ _ (e▸N2.o);have HG:=γ hst;have qJ:=γ yA;have HQ:=γ (θ hq (θ YU TY));clear hst yA hq YU TY;refine ak [0,1,2,3,4,5,6,7,8,9,10,11,12] (fun W=>ε (one (pm k).2) W2 W) (by kernel_rfl) (by kernel_rfl) rfl KD.o.pure ?_;simp only[abU];iterate 10 (apply aj rfl rfl;(intro W hW;have q2:=hW.cell (p:=⟨b,2,none⟩) (fun h=>HQ.o.2.1 h.symm) ZE;have nW:=hW.heap N2.o (fun h=>HQ.o.2.2 h.symm);have m0:=ζ nW (j:=0) rfl;have m1:=ζ nW (j:=1) rfl;have m2:=ζ nW (j:=2) rfl;have m3:=ζ nW (j:=3) rfl;have m4:=ζ nW (j:=4) rfl;have m5:=ζ nW (j:=5) rfl;have m6:=ζ nW (j:=6) rfl;have hlk:=vY.o.at_.look1 hW (fun h=>HQ.o.1 h.symm) k (by rw[JX.o];exact hlt);rw[HG.o]at hlk;simp only[l7,Option.map_some,Δ]at hlk;clear nW;go_simp;rfl);go_frame)
     apply aA rfl rfl;intro K hK;go_wp2_with fail;(with_reducible refine(Ue _ d.iy (pm k).1 (pm k).2 T (fun q=>(M q\/w.heap.size<=q)/\q≠w.heap.size) _ _ _ ((JW.o.iy.pure KB.o).pure KD.o) (RD.o.pure KD.o) IO.o.1 (by have:=IO.o.2.2.2.1;omega) ((vY.o.out k T qJ.o).pure KD.o)).mono ?_);rintro e w5 ⟨v,rfl,hv,hvb,YT,k5⟩;obtain⟨va,vc,rfl⟩:=hv.slice_form;go_wp2_with fail;refine hK _ _ (fun _=>KD.o.pure.trans k5) ?_;clear hK;apply aj rfl rfl
     ·intro W hW;go_simp;rfl
     go_frame;have kk:ε (one (pm k).2) W2 w5:=KD.o.pure.trans k5;have ahM:(pm k).2<w.heap.size:=H.o.2.2.2.1.Ic (MP.o T HG.o);have md5:=ZJ.o.mD kk (fun q hq=>by unfold one at hq;omega);obtain⟨⟨u5,hu5⟩,hf5⟩:=md5.free hlt;have s5:=md5.store (by rw[HL.o];exact hlt) hv (fun q hq=>Pe P6 (hvb q hq));rw[HL.o]at s5;have Xy:=vY.o.turn qJ.o kk (YT.mono (fun q hq _=>by rcases hq with hq|hq;exact hq;exact⟨.inr (by have:W2.drew.heap.size=W2.heap.size:=rfl;omega),by have:W2.drew.heap.size=W2.heap.size:=rfl;omega⟩));have Z:=γ (θ s5 (θ (Xy.store (fun h=>h.2 rfl) (by omega) s5.2) (((KP.o.new KB.o (fun _ _ h=>h.elim)).new kk (fun i hi hs=> .inl (by unfold one at hs;rw[hs];exact MP.o T HG.o))).new s5.2 (fun i hi hs=> .inr hs))));clear s5 kk md5 hv hvb k5 Xy YT;apply aA rfl rfl;intro K2 hK2;go_wp2_with fail;refine hK2 _ _ (fun h=>absurd rfl h) (jo (by kernel_rfl) ?_);clear hK2;go_wp2_with fail;go_roundg (j.nodes.length-(k+1))
     case rel=>exact⟨k+1,by omega,by go_num,ξ _,by rw[HS.o];simp only[HG.o,Δ];exact Z.o.1.1,by rw[HS.o];simp only[HG.o,Δ,Option.map_some];exact Z.o.2.1,Z.o.2.2⟩
     case measure=>have:=GH.o;omega
   ·have hin:fC ⟨1,key,val⟩ d k st.1=ji d.kind (insOf d st.1):=if_neg hk0
    have e0:0<k:=(by omega);have IN:=γ hin;have QZ:=γ hk0;have P9:=γ (IO.o.2.2.2.2 hk0);have PS:Reads wo 1 (.slice pi d.ins.length ci) (ints d.ins):=(by obtain⟨pi',ci',p',cap2,e,_,h3,_⟩:=JW.o;have:=congrArg (fun a=>a[2]?) e;simp at this;obtain⟨rfl,rfl⟩:=this;exact h3);have RI:=γ PS.abT;have ahR:d.ins.length<=1000:=(by have:=HM.o.ins;omega);clear hin hk0 kA nB PS;go_wp2_with fail;clear c0 c1 c2 c3 c4 c5 c6 e0;obtain⟨WA,zn⟩:=acf ((wo.alloc (.cells (bG d pi ci p cap') 42)).alloc (.cells #[.int .i64 1,.int .i64 key,.int .i64 val] 68));have Cj:((wo.alloc (.cells #[.string d.uid,.int .u8 d.kind,.slice pi d.ins.length ci,.int .u8 d.x.op,.int .i64 d.x.n,.slice p d.x.args.length cap',.int .i64 d.n] 42)).alloc (.cells #[.int .i64 1,.int .i64 key,.int .i64 val] 68))=WA:=zn;have kA2:ε η (wo.alloc (.cells (bG d pi ci p cap') 42)) WA:=(by rw[<-zn];exact δ.alloc _);have kA3:=KA.o.trans kA2;have n3:=kA2.heap NB.o id;clear KA NB hkA;have KA:=γ kA3;have NB:=γ n3;try rw[Cj]
    clear zn Cj kA2 kA3 n3;go_loopg [11,45] d.ins.length (fun g vr vi wq=> ∃(i:Nat)(vs:List Value),i<=d.ins.length/\vi= .int .i64 (i:Int)/\d.ins.length-i<=g/\wq.ownsRow WA.heap.size 60 1 vr i vs/\(∀(q:Nat)(u:Value),vs[q]?=some u-> ∃L,(insOf d st.1)[q]?=some L/\Reads WA 3 u (recs L))/\ε η WA wq)
    case atStart=>exact⟨0,[],by omega,rfl,by omega,World.ownsRow_nil _ _ _ _,fun q u h=>by simp at h,ε.refl _ _⟩
    case round=>
     obtain⟨i,vs,hin,rfl,hgi,hown,hvs,hkq⟩:=hrel;obtain⟨TF,TD,rfl⟩:=au hown;by_cases hil:i<d.ins.length
     ·obtain⟨x,hx⟩: ∃x,d.ins[i]?=some x:=⟨_,ι hil⟩
      obtain⟨hx0,hxk⟩:=HM.o.low x (ς hx);obtain⟨q,rfl⟩:=Int.eq_ofNat_of_zero_le hx0;obtain⟨bi,bV,rfl,hci⟩:=RI.o.resolve_left (fun h=>by rw[h]at hx;cases hx);have kq:ε η wo wr:=KA.o.trans hkq;have z0:=kq.cell id (hci i _ hx);obtain⟨L,hL⟩: ∃L,st.1[q]?=some L:=⟨_,ι (by rw[HL.o];omega)⟩;obtain⟨u,hu,qH,hub⟩:=(MD.o.pure kq).cell (by rw[HL.o];omega) hL;obtain⟨ua,uc,rfl⟩:=qH.slice_form;obtain⟨u0,hu0,aef,_⟩:=(MD.o.pure KA.o).cell (by rw[HL.o];omega) hL;have TY:(q:Int)<(j.nodes.length:Int):=(by omega);obtain⟨iw,w',g1,g2,g3⟩:=OW hown (u:= .slice ua L.length uc) rfl hkq.size (by omega);obtain⟨a2,cc2,rfl⟩:=au g2;have hLi:(insOf d st.1)[i]?=some L:=(by unfold insOf;rw[abJ,hx];simp only[Option.map_some,Int.toNat_natCast,σ,hL,Δ]);have hlen:vs.length=i:=by have:=hown.1;omega
      have Z:=γ (θ g1 (θ g2 (θ (hkq.new g3 (fun k hk hs=>by omega)) (θ hgi (show∀(q:Nat)(u:Value),(vs++[Value.slice ua L.length uc])[q]?=some u-> ∃L,(insOf d st.1)[q]?=some L/\Reads WA 3 u (recs L)from by
       intro q2 u2 hu2;by_cases hq2:q2<vs.length
       ·rw[Ω hq2]at hu2
        exact hvs q2 u2 hu2
       ·have:q2=vs.length:=by have:=(μ.1 hu2).1;simp at this;omega
        subst this;rw[Ψ (ξ _),Nat.sub_self]at hu2;cases hu2;refine⟨L,by rw[hlen];exact hLi,?_⟩;have he:some u0=some (Value.slice ua L.length uc):=(by rw[<-hu,<-hkq.cell id hu0]);cases he
        exact aef)))))
      clear g1 g2 g3 hkq hown hvs kq hci qH hub hu0 aef hLi hlen hL hgi;go_wp2_with (at_builtin;refine jy rfl (.tmp 49) (.tmp 54) 142 rfl _ _ _ rfl rfl Z.o.1 ?_);go_roundg (d.ins.length-(i+1))
      case rel=>exact⟨i+1,_,by omega,by go_num,ξ _,Z.o.2.1,Z.o.2.2.2.2,Z.o.2.2.1⟩
      case measure=>have:=Z.o.2.2.2.1;omega
     ·have hie:i=d.ins.length:=by omega
      subst hie;have hlen:vs.length=d.ins.length:=(by have:=hown.1;omega);have hr2:oq wr (.slice TF d.ins.length TD) (insOf d st.1):=(by refine⟨vs,by rw[hlen];unfold insOf;rw[List.length_map],Reads.aN hown,fun q u L hu hL=>?_⟩;obtain⟨L',h1,h2⟩:=hvs q u hu;rw[hL]at h1;cases h1;exact h2.pure hkq);have kq:ε η wo wr:=KA.o.trans hkq;have cg:=aa7 _ d.iy _ (insOf d st.1) wr (JW.o.iy.pure kq) hr2 (by have:=P9.o.1;omega) (by have:=P9.o.2;omega);have nq:=hkq.heap NB.o id;have m0:=ζ nq (j:=0) rfl;have m1:=ζ nq (j:=1) rfl;have m2:=ζ nq (j:=2) rfl;have m3:=ζ nq (j:=3) rfl;have m4:=ζ nq (j:=4) rfl;have m5:=ζ nq (j:=5) rfl;have m6:=ζ nq (j:=6) rfl;have KQ:=γ (θ kq nq);clear hr2 hown hvs hkq kq nq;go_wp2_with fail;(with_reducible refine cg.mono ?_);clear cg m0 m1 m2 m3 m4 m5 m6;rintro e W2 ⟨iv,rfl,tN,hblk,k2⟩;obtain⟨iva,ivc,rfl⟩:=tN.slice_form;have kB:ε η wo W2:=KQ.o.1.trans k2;have n2:=k2.heap KQ.o.2 id;have hrd:Reads W2 3 (.slice iva (ji d.iy.kind (insOf d st.1)).length ivc) (recs (fC ⟨1,key,val⟩ d k st.1)):=(by rw[IN.o];exact tN);clear hblk k2 tN;go_wp2_with fail;have YB1:=kB.cell (p:=⟨b,1,none⟩) id y1;have ZE:=kB.cell (p:=⟨b,2,none⟩) id y2;have Yr:=MD.o.pure kB;have Xx:=TX.o.pure kB;have kD:ε η W2 W2.drew:=δ.drew;have hmB:m<W2.heap.size:=Pe hml (ω (ω H.o.2.2.2.2.2.1.size KP.o.size) kB.size);have ahP:wo.heap.size<W2.heap.size:=(κ.1 n2).1;have ahG:b<W2.heap.size:=Pe hbw kB.size;have P6:w.heap.size<W2.heap.size:=Pe rF kB.size;have KB:=γ kB;have ZJ:=γ Yr;have vY:=γ Xx;have RD:=γ hrd;have N2:=γ n2;have KD:=γ kD;clear kB Yr Xx hrd n2 kD y1 y2
      cases hst:st.2.getD k none with
      |none=>
       have hpl:=γ (HPL.o hst)
       have hout:=γ (show st.2.set k ((st.2.getD k none).map fun _=>(aJ d.iy ((st.2.getD k none).getD []) (fC ⟨1,key,val⟩ d k st.1)).2)=st.2 by
        have hk':st.2[k]?=some none:=by
         rw[σ]at hst
         cases e:st.2[k]? with
         |none=>have:=List.getElem?_eq_none_iff.1 e;have:=JX.o;omega
         |some t=>rw[e]at hst;rw[show t=none from hst]
        rw[hst];apply List.ext_getElem?;intro i;by_cases hi:k=i
        ·subst hi
         rw[hk'];exact List.getElem?_set_self (by rw[JX.o];exact hlt)
        ·rw[List.getElem?_set_ne hi])
       have HG:=γ hst;clear hst;refine ak [0,1,2,3,4,5,6,7,8,9,10,11,12] (fun W=>ε η W2 W) (by kernel_rfl) (by kernel_rfl) rfl KD.o ?_;simp only[abU];iterate 10 (apply aj rfl rfl;(intro W hW;have q2:=hW.cell (p:=⟨b,2,none⟩) id ZE;have nW:=hW.heap N2.o id;have m0:=ζ nW (j:=0) rfl;have m1:=ζ nW (j:=1) rfl;have m2:=ζ nW (j:=2) rfl;have m3:=ζ nW (j:=3) rfl;have m4:=ζ nW (j:=4) rfl;have m5:=ζ nW (j:=5) rfl;have m6:=ζ nW (j:=6) rfl;have hlk:=vY.o.at_.look1 hW id k (by rw[JX.o];exact hlt);rw[HG.o]at hlk;simp only[l7,Option.map_none,Option.getD_none]at hlk;clear nW;go_simp;rfl);go_frame)
       apply aA rfl rfl;intro K hK;go_wp2_with fail;(with_reducible refine(Iq _ d.iy (.pointer none) _ _ _ ((JW.o.iy.pure KB.o).pure KD.o) hpl.o (RD.o.pure KD.o) IO.o.1 (by have:=IO.o.2.2.2.1;omega) ⟨_,rfl⟩).mono ?_);rintro e w5 ⟨v,rfl,hv,hvb,k5⟩;obtain⟨va,vc,rfl⟩:=hv.slice_form;go_wp2_with fail;refine hK _ _ (fun _=>KD.o.trans k5) ?_;clear hK;apply aj rfl rfl
       ·intro W hW;go_simp;rfl
       go_frame;have kk:=KD.o.trans k5;have md5:=ZJ.o.pure kk;obtain⟨⟨u5,hu5⟩,hf5⟩:=md5.free hlt;have s5:=md5.store (by rw[HL.o];exact hlt) hv (fun q hq=>Pe P6 (hvb q hq));rw[HL.o]at s5;have Z:=γ (θ s5 (θ ((vY.o.pure kk).store (fun h=>h.2 rfl) (by omega) s5.2) ((KP.o.new (KB.o.trans kk) (fun _ _ h=>h.elim)).new s5.2 (fun i hi hs=> .inr hs))));clear s5 kk md5 hv hvb k5;apply aA rfl rfl;intro K2 hK2;go_wp2_with fail;refine hK2 _ _ (fun h=>absurd rfl h) (jo (by kernel_rfl) ?_);clear hK2;go_wp2_with fail;go_roundg (j.nodes.length-(k+1))
       case rel=>exact⟨k+1,by omega,by go_num,ξ _,by rw[HS.o];simp only[HG.o,Option.getD_none];exact Z.o.1.1,by rw[HS.o];show dN _ _ _ (st.2.set k _) pm;rw[hout.o];exact Z.o.2.1,Z.o.2.2⟩
       case measure=>have:=GH.o;omega
      |some T=>
       have yA:=zy.o T hst;have hq:=(vY.o.at_.tab k T yA).2;have YU:(pm k).2≠b:=fun e=>(vY.o.at_.tab k T yA).1.jT _ _ _ (e▸(KB.o.heap (KP.o.heap (H.o.2.2.2.2.2.1.heap H.o.1 id) (by rintro(h|h);exact H.o.2.2.2.2.2.2.1 h;exact absurd h (by omega))) id));have TY:(pm k).2≠wo.heap.size:=fun e=>(vY.o.at_.tab k T yA).1.jT _ _ _ (e▸N2.o);have HG:=γ hst;have qJ:=γ yA;have HQ:=γ (θ hq (θ YU TY));clear hst yA hq YU TY;refine ak [0,1,2,3,4,5,6,7,8,9,10,11,12] (fun W=>ε (one (pm k).2) W2 W) (by kernel_rfl) (by kernel_rfl) rfl KD.o.pure ?_;simp only[abU];iterate 10 (apply aj rfl rfl;(intro W hW;have q2:=hW.cell (p:=⟨b,2,none⟩) (fun h=>HQ.o.2.1 h.symm) ZE;have nW:=hW.heap N2.o (fun h=>HQ.o.2.2 h.symm);have m0:=ζ nW (j:=0) rfl;have m1:=ζ nW (j:=1) rfl;have m2:=ζ nW (j:=2) rfl;have m3:=ζ nW (j:=3) rfl;have m4:=ζ nW (j:=4) rfl;have m5:=ζ nW (j:=5) rfl;have m6:=ζ nW (j:=6) rfl;have hlk:=vY.o.at_.look1 hW (fun h=>HQ.o.1 h.symm) k (by rw[JX.o];exact hlt);rw[HG.o]at hlk;simp only[l7,Option.map_some,Δ]at hlk;clear nW;go_simp;rfl);go_frame)
       apply aA rfl rfl;intro K hK;go_wp2_with fail;(with_reducible refine(Ue _ d.iy (pm k).1 (pm k).2 T (fun q=>(M q\/w.heap.size<=q)/\q≠w.heap.size) _ _ _ ((JW.o.iy.pure KB.o).pure KD.o) (RD.o.pure KD.o) IO.o.1 (by have:=IO.o.2.2.2.1;omega) ((vY.o.out k T qJ.o).pure KD.o)).mono ?_);rintro e w5 ⟨v,rfl,hv,hvb,YT,k5⟩;obtain⟨va,vc,rfl⟩:=hv.slice_form;go_wp2_with fail;refine hK _ _ (fun _=>KD.o.pure.trans k5) ?_;clear hK;apply aj rfl rfl
       ·intro W hW;go_simp;rfl
       go_frame;have kk:ε (one (pm k).2) W2 w5:=KD.o.pure.trans k5;have ahM:(pm k).2<w.heap.size:=H.o.2.2.2.1.Ic (MP.o T HG.o);have md5:=ZJ.o.mD kk (fun q hq=>by unfold one at hq;omega);obtain⟨⟨u5,hu5⟩,hf5⟩:=md5.free hlt;have s5:=md5.store (by rw[HL.o];exact hlt) hv (fun q hq=>Pe P6 (hvb q hq));rw[HL.o]at s5;have Xy:=vY.o.turn qJ.o kk (YT.mono (fun q hq _=>by rcases hq with hq|hq;exact hq;exact⟨.inr (by have:W2.drew.heap.size=W2.heap.size:=rfl;omega),by have:W2.drew.heap.size=W2.heap.size:=rfl;omega⟩));have Z:=γ (θ s5 (θ (Xy.store (fun h=>h.2 rfl) (by omega) s5.2) (((KP.o.new KB.o (fun _ _ h=>h.elim)).new kk (fun i hi hs=> .inl (by unfold one at hs;rw[hs];exact MP.o T HG.o))).new s5.2 (fun i hi hs=> .inr hs))));clear s5 kk md5 hv hvb k5 Xy YT;apply aA rfl rfl;intro K2 hK2;go_wp2_with fail;refine hK2 _ _ (fun h=>absurd rfl h) (jo (by kernel_rfl) ?_);clear hK2;go_wp2_with fail;go_roundg (j.nodes.length-(k+1))
       case rel=>exact⟨k+1,by omega,by go_num,ξ _,by rw[HS.o];simp only[HG.o,Δ];exact Z.o.1.1,by rw[HS.o];simp only[HG.o,Δ,Option.map_some];exact Z.o.2.1,Z.o.2.2⟩
       case measure=>have:=GH.o;omega
  ·have e1:k=j.nodes.length:=by omega
   subst e1;have hF:=FO.o j.nodes.length (ξ _);obtain⟨n1,hn1⟩: ∃n1,j.nodes.length=n1+1:=⟨j.nodes.length-1,by omega⟩;obtain⟨L,hL⟩: ∃L,(gV j.nodes ⟨1,key,val⟩ Ts j.nodes.length).1[n1]?=some L:=⟨_,ι (by rw[hF.len];omega)⟩;obtain⟨u,hu,qH,hub⟩:=hmd.cell (by rw[hF.len];omega) hL;obtain⟨ua,uc,rfl⟩:=qH.slice_form;have hfeed:(iF j.nodes Ts key val).1=aO L:=(by unfold iF;simp only;rw[show j.nodes.length-1=n1 by omega,σ,hL];rfl);have hfew:L.length<=64:=(by have:=(EW H.o.2.2.2.2.2.2.2.2.2.2.1 HJR.o H.o.2.2.2.2.2.2.2.2.2.2.2.2 hrec.key hrec.val).2.2.2;rw[hfeed,iY]at this;exact this);have cm:=merge_any _ [L] _ (oq.one qH) (by simp;omega);rw[show([L]:List (List Rec)).flatten=L by simp]at cm
   have F:=γ (show∀v w',ε η wo w'->Reads w' 3 v (recs (aO L))->(∀q,Value.blk v=some q->wo.heap.size<=q)->VZ M w b m j Ts pm key val (.returned v) w' from fun v w' hk h1 h2=>
    ⟨v,rfl,by rw[hfeed];exact h1,fun q hq=>ω (Nat.le_of_lt rF) (h2 q hq),⟨⟨_,hk.heap (kw.heap H.o.1 H.o.2.2.2.2.2.2.1) id,(H.o.2.1.kept kw (fun q hq=>H.o.2.2.2.1.zk hq)).pure hk⟩,H.o.2.2.1,htx.at_.pure hk⟩,kw.new hk (fun _ _ h=>h.elim),(htx.pure hk).mono (fun k hk _=>hk.1)⟩)
   have ew:IntKind.i64.wrap ((j.nodes.length:Int)-1)=(n1:Int):=(by rw[IntKind.wrap_i64];omega);have ew2:((j.nodes.length:Int)-1)=(n1:Int):=(by omega);have hn2:(n1:Int)<(j.nodes.length:Int):=(by omega);clear hg hmd htx hkp kw hF qH hub hL hfeed;go_wp2_with fail;(with_reducible refine cm.mono ?_);clear cm;rintro e w2 ⟨v,rfl,hv,hvb,k2⟩;have F2:=γ (F.o v w2 (((ε.refl η wo).alloc _).trans k2) hv (fun q hq=>by have:=hvb q hq;rw[World.size_alloc]at this;omega));obtain⟨va,vc,rfl⟩:=hv.slice_form;clear hv hvb k2 F;go_wp2_with fail;go_ret;exact F2.o
theorem Qs (j:Jb)(b m:Nat)(Ts:Tabs)(pm:Nat->Nat×Nat)(key val:Int)(w:World)(h:vM w b m j Ts pm)(hj:gu j=true)(hR:JR j.nodes)(hT:eH j.nodes Ts)(hk:aH key)(hv:aH val):
 Calls Tryz.prog 27 #[.pointer (some ⟨b,0,none⟩),.int .i64 key,.int .i64 val] w (VY w b m j Ts pm key val):=
 (JE yU j b m Ts pm key val w h (dN.any h.tabs) hj hR hT hk hv).mono (fun _ _ ⟨v,h1,h2,h3,h4,h5,_⟩=>⟨v,h1,h2,h3,h4,h5⟩)
