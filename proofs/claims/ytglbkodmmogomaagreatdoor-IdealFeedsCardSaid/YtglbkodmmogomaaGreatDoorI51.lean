/- An ideal and the document's, fed side by side: their memory. -/
import Derived.Test.YtglbkodmmogomaaGreatDoorI32
import Derived.Test.YtglbkodmmogomaaGreatDoorI50
set_option linter.unusedVariables false
set_option linter.unusedSimpArgs false
set_option maxHeartbeats 8000000
set_option maxRecDepth 100000
namespace Go.Proofs.YtglbkodmmogomaaGreatDoor
section
open Go Go.RowKit
theorem bF.Zw {w:World}{M:Nat->Prop}{D:Nat}{T:Tab}(h:bF w M D T):bF w (fun q=>M q/\ ∃c E f,w.heap[q]?=some (.cells c E f)) D T:=by
 obtain⟨v,cs,h1,h2,h3,h4,h5⟩:=h.out;refine⟨h.ok,⟨h.dot,_,_,_,h1⟩,v,cs,h1,h2,h3,fun q hq=>⟨h4 q hq,h2.isCells (by omega) hq⟩,fun i lv hl q hq=>⟨h5 i lv hl q hq,?_⟩⟩;have hi:i<T.length:=(by have:=(μ.1 hl).1;have:=h3.1;omega);obtain⟨_,_,lv',e,d⟩:=h3.2 i _ (ι hi);rw[hl]at e
 injection e with e
 subst e;exact d.isCells (by omega) hq
theorem lJ.past {w w':World}{S:Nat->Prop}{n0:Nat}{B:Option Nat}{Ts:Tabs}{pm:Nat->Nat}(h:lJ w n0 B Ts pm)(hk:ε S w w')(hS: ∀q,S q-> ∀c E f,w.heap[q]?≠some (.cells c E f)):lJ w' n0 B Ts pm:=
 ⟨fun i T hT=>⟨(h.tab i T hT).1,((h.tab i T hT).2.Zw.kept hk (fun q hs hm=>by obtain⟨_,c,E,f,hc⟩:=hm;exact hS q hs c E f hc)).mono (fun _ hq=>hq.1)⟩,h.inj⟩
theorem Ji {w:World}{n E size k:Nat}{v:Value}{xs:List Value}(h:w.ownsRow n E size v k xs){q:Nat}(hq:v.ownBlock=some q): ∃c f,w.heap[q]?=some (.cells c E f):=by
 rcases h.2 with⟨e,_⟩|⟨g,cap,cur,e,_,hg,_⟩
 ·rw[e]at hq;cases hq
 ·rw[e]at hq
  cases hq;exact⟨_,_,hg⟩
theorem eH.afA {nodes:List JN}{Ts Us:Tabs}(h:eH nodes Ts)(hu:eH nodes Us)(pm:Nat->Nat):rp pm Ts=rp pm Us:=by
 apply List.ext_getElem?;intro i;by_cases hi:i<Ts.length
 ·obtain⟨t,ht⟩: ∃t,Ts[i]?=some t:=⟨_,ι hi⟩
  obtain⟨u,hu'⟩: ∃u,Us[i]?=some u:=⟨_,ι (by rw[hu.len,<-h.len];exact hi)⟩;rw[wY ht,wY hu']
  cases t with
  |some T=>
   obtain⟨U,hU⟩:=h.CX hu ht;rw[hu']at hU
   injection hU with hU
   subst hU;rfl
  |none=>
   cases u with
   |none=>rfl
   |some U=>
    obtain⟨T,hT⟩:=hu.CX h hu';rw[ht]at hT
    injection hT with hT
    cases hT
 ·rw[abA (by rw[rQ];omega),abA (by rw[rQ,hu.len,<-h.len];omega)]
theorem eH.adG {nodes:List JN}{Ts Us:Tabs}(h:eH nodes Ts)(hu:eH nodes Us){pm:Nat->Nat}{q:Nat}(hq:uj Us pm q):uj Ts pm q:=by obtain⟨i,T,hT,rfl⟩:=hq;obtain⟨U,hU⟩:=hu.CX h hT;exact⟨i,U,hU,rfl⟩
structure jL (w1:World)(n0 bd m br:Nat)(j:Jb)(nv tv:Value)(pi:Nat->Nat×Nat)(pr:Nat->Nat)(TI TR:Tabs)(w:World):Prop where
 okI:eH j.nodes TI
 okR:eH j.nodes TR
 par:aH j.par
 DZ:gI w1 nv j.nodes
 TJ:w.heap[bd]?=some (.cells #[.int .i64 j.par,nv,.map (some m)] 140 (0,0))
 tx:dN w (fun q=> ¬uj TR pr q) m TI pi
 nt:rH w1.heap.size TI pi
 O5:w.heap[br]?=some (.cells #[.int .i64 j.par,nv,tv] 90 (0,0))
 row:w.ownsRow n0 46 1 tv TR.length (rp pr TR)
 yZ:lJ w w1.heap.size none TR pr
 kp:ε η w1 w
section
variable {w1 w w':World} {n0 bd m br:Nat} {j:Jb} {nv tv:Value} {pi:Nat->Nat×Nat} {pr:Nat->Nat} {TI TR T2:Tabs}
theorem jL.idl (h:jL w1 n0 bd m br j nv tv pi pr TI TR w):vM w bd m j TI pi:=⟨⟨nv,h.TJ,h.DZ.pure h.kp⟩,h.par,h.tx.at_⟩
theorem jL.ahx (h:jL w1 n0 bd m br j nv tv pi pr TI TR w):ZF w br j TR tv pr:=⟨nv,n0,h.O5,h.DZ.pure h.kp,h.row,⟨fun i T hT=>(h.yZ.tab i T hT).2.mono (fun _ _=>trivial),h.yZ.inj⟩⟩
theorem jL.pure (h:jL w1 n0 bd m br j nv tv pi pr TI TR w)(hk:ε η w w'):jL w1 n0 bd m br j nv tv pi pr TI TR w':=
 ⟨h.okI,h.okR,h.par,h.DZ,hk.heap h.TJ id,h.tx.pure hk,h.nt,hk.heap h.O5 id,hk.owns h.row (fun _ _ h=>h),h.yZ.pure hk,h.kp.trans hk⟩
theorem jL.ah6 (h:jL w1 n0 bd m br j nv tv pi pr TI TR w){key val:Int}{e:Ending}(hq:VZ (fun q=> ¬uj TR pr q) w bd m j TI pi key val e w')(h2:(iF j.nodes TI key val).2=T2)(hT:eH j.nodes T2):
 (∃v,e= .returned v/\Reads w' 3 v (recs (iF j.nodes TI key val).1)/\ ∀q,Value.blk v=some q-> ¬uj TR pr q)/\ε (nH TI pi) w w'/\jL w1 n0 bd m br j nv tv pi pr T2 TR w':=by
 obtain⟨v,e1,e2,e3,_,hk,e5⟩:=hq;rw[h2]at e5;have hno: ∀{q:Nat}{c E f},w.heap[q]?=some (.cells c E f)-> ¬nH TI pi q:=fun hc hm=>h.tx.at_.zk hm _ _ _ hc;refine⟨⟨v,e1,e2,fun q hq hs=>by have:=e3 q hq;have:=(h.yZ.TS hs).2;omega⟩,hk,⟨hT,h.okR,h.par,h.DZ,hk.heap h.TJ (hno h.TJ),e5.mono (fun q hq _ hs=>?_),h.okI.newT hT h.nt,hk.heap h.O5 (hno h.O5),hk.owns h.row (fun q hq=>?_),h.yZ.past hk (fun q hs c E f hc=>hno hc hs),h.kp.maps h.nt hk⟩⟩
 ·rcases hq with hq|hq
  ·exact hq hs
  ·have:=(h.yZ.TS hs).2;omega
 ·obtain⟨c,f,hc⟩:=Ji h.row hq
  exact hno hc
theorem jL.ah5 (h:jL w1 n0 bd m br j nv tv pi pr TI TR w){key val:Int}{e:Ending}(hq:QK w1 w j TR pr key val e w')(h2:(iF j.nodes TR key val).2=T2)(hT:eH j.nodes T2):
 (∃v,e= .returned v/\Reads w' 3 v (recs (iF j.nodes TR key val).1))/\ε (uj TR pr) w w'/\jL w1 n0 bd m br j nv tv pi pr TI T2 w':=by
 obtain⟨v,e1,e2,_,e4,hk⟩:=hq;rw[h2]at e4;refine⟨⟨v,e1,e2⟩,hk,⟨h.okI,hT,h.par,h.DZ,hk.heap h.TJ (h.yZ.notS h.TJ (by decide)),?_,h.nt,hk.heap h.O5 (h.yZ.notS h.O5 (by decide)),?_,e4,h.kp.new hk (fun q hq hs=>by have:=(h.yZ.TS hs).1;omega)⟩⟩
 ·refine(h.tx.abN (fun k hs hn=>hn hs) (fun hs=>?_) hk).mono (fun q hq _ hs=>hq (h.okR.adG hT hs))
  obtain⟨l,⟨L,clock,h1,_⟩,_⟩:=h.tx.at_.map;obtain⟨i,T,hT2,e⟩:=hs;obtain⟨v,cs,h3,_⟩:=(h.yZ.tab i T hT2).2.out;rw[e,h1.1]at h3;cases h3
 ·have:=hk.owns h.row (fun q hq=>by obtain⟨c,f,hc⟩:=Ji h.row hq;exact h.yZ.notS hc (by decide))
  rw[hT.len,<-h.okR.len,hT.afA h.okR];exact this
end
theorem jL.start {w1 w2 w3:World}{j:Jb}{v:Value}{Ts:Tabs}{bi mi:Nat}{pi:Nat->Nat×Nat}{br mr:Nat}{tv:Value}{pr:Nat->Nat}(hT:eH j.nodes Ts)(hn:gI w1 v j.nodes)(hpar:aH j.par)(hob:w2.heap[bi]?=some (.cells #[.int .i64 j.par,v,.map (some mi)] 140 (0,0)))
 (htx:dN w2 (up w1.heap.size) mi Ts pi) (hnt:rH w1.heap.size Ts pi) (k2:ε η w1 w2) (Vt:w3.heap[br]?=some (.cells #[.int .i64 j.par,v,tv] 90 (0,0))) (hbr:w2.heap.size<=br) (hrow:w3.ownsRow (br+1) 46 1 tv Ts.length (rp pr Ts)) (hm:br<mr) (htb:iV w3 (up mr) Ts pr) (k3:ε η w2 w3):
 jL w1 (br+1) bi mi br j v tv pi pr Ts Ts w3:=by
 have hup: ∀i T,Ts[i]?=some (some T)->mr<=pr i:=fun i T hi=>(htb.tab i T hi).dot;have hs:=k2.size;refine⟨hT,hT,hpar,hn,k3.heap hob id,(htx.mono (fun q _ hq hs=>?_)).pure k3,hnt,Vt,hrow,⟨fun i T hi=>⟨by have:=hup i T hi;omega,(htb.tab i T hi).mono (fun _ _ h=>by cases h)⟩,htb.inj⟩,k2.trans k3⟩;obtain⟨i,T,hi,rfl⟩:=hs;have:=hup i T hi;omega
end
section
open Go Go.RowKit
attribute [local irreducible] cZ iC
theorem oU.cell {w:World}{base k c:Nat}{a:Option Addr}{M:List (List Rec)}(h:oU w base (.slice a k c) M){i:Nat}{L:List Rec}(hL:M[i]?=some L):
 ∃g u n,a=some ⟨g,0,none⟩/\k=M.length/\k<=c/\c<=maxLen/\w.cell? ⟨g,i,none⟩=some u/\w.ownsRow base 68 3 u n (recs L):=by
 obtain⟨ms,h1,h2⟩:=h;obtain⟨u,n,a1,a2⟩:=h2 i L hL;have hi:=(μ.1 hL).1;have hm:=h1.1
 rcases h1.2 with⟨_,e⟩|⟨g,cap,cur,e,_,_,hc1,hc2,_⟩
 ·omega
 ·injection e with e1 e2 e3
  subst e1 e2 e3;exact⟨g,u,n,rfl,rfl,hc1,hc2,by rw[h1.cellAt i (by omega)];exact a1,a2⟩
theorem TB {w:World}{base base' e size n:Nat}{v:Value}{xs:List Value}(h:w.ownsRow base e size v n xs)(hb:base'<=base):w.ownsRow base' e size v n xs:=
 ⟨h.1,h.2.imp id fun⟨g,cap,cur,e1,e2,rest⟩=>⟨g,cap,cur,e1,ω hb e2,rest⟩⟩
theorem X9 (j:Jb)(b n0:Nat)(nv tv:Value)(Ts:Tabs)(pm:Nat->Nat)(key val:Int)(wb w:World)(hkb:ε η wb w)(hob:w.heap[b]?=some (.cells #[.int .i64 j.par,nv,tv] 90 (0,0)))(hn:gI wb nv j.nodes)
 (hrow:w.ownsRow n0 46 1 tv Ts.length (rp pm Ts)) (htb:lJ w wb.heap.size none Ts pm) (hj:gu j=true) (hR:JR j.nodes) (hT:eH j.nodes Ts) (hk:aH key) (hv:aH val):
 Calls Tryz.prog 28 #[.pointer (some ⟨b,0,none⟩),.int .i64 key,.int .i64 val] w (QK wb w j Ts pm key val):=by
 have hrec:bQ ⟨1,key,val⟩:=⟨.small (by simp) (by simp),hk,hv⟩;obtain⟨na,cap,rfl,h1,h2,h3⟩:=hn.at;obtain⟨ta,tc,rfl⟩:=au hrow;have h12:2<=j.nodes.length/\j.nodes.length<=12:=(by have:=(nU hj).1;unfold eF at this;simp only[Bool.or_eq_false_iff,decide_eq_false_iff_not]at this;omega);obtain⟨h12,h13⟩:=h12;have x1:w.cell? ⟨b,1,none⟩=some (.slice na j.nodes.length cap):=ζ hob rfl;have FO:=γ (Kw hj hR hT hrec rfl);have hnb: ¬uj Ts pm b:=htb.notS hob (by decide);have hbl:b<w.heap.size:=(κ.1 hob).1;have H:=γ (θ hkb (θ hob (θ h3 (θ hrow (θ htb (θ hj (θ hT hrec)))))));unfold maxLen at h2;clear hkb hob hn h3 hrow htb hj hR hT hrec;go_enter Tryz.func28,Tryz.ntmps28;go_wp2_with fail;go_loopg [7,8] j.nodes.length (fun g vo vi wr=> ∃k:Nat,k<=j.nodes.length/\vi= .int .i64 (k:Int)/\j.nodes.length-k<=g/\oU wr w.heap.size vo (gV j.nodes ⟨1,key,val⟩ Ts k).1/\(∃a c,vo= .slice a k c)/\lJ wr wb.heap.size vo.ownBlock (gV j.nodes ⟨1,key,val⟩ Ts k).2 pm/\ε (uj Ts pm) w wr)
 case atStart=>exact⟨0,by omega,rfl,by omega,⟨[],World.ownsRow_nil _ _ _ _,fun i L h=>by simp[gV]at h⟩,⟨_,_,rfl⟩,H.o.2.2.2.2.1,ε.refl _ _⟩
 case round=>
  obtain⟨k,hkn,rfl,hg,hmd,⟨ma,mc,rfl⟩,htb,hkp⟩:=hrel;obtain⟨wo,rfl⟩: ∃wo:World,wo=wr:=⟨_,rfl⟩;have kwb:ε η wb wo:=H.o.1.new hkp (fun q hq hs=>by have:=(H.o.2.2.2.2.1.TS hs).1;omega);have ob:=hkp.heap H.o.2.1 hnb;have x1:wo.cell? ⟨b,1,none⟩=some (.slice na j.nodes.length cap):=ζ ob rfl;have x2:wo.cell? ⟨b,2,none⟩=some (.slice ta Ts.length tc):=ζ ob rfl;have hbw:b<wo.heap.size:=block_lt_of_cell x1;have hww:=hkp.size;have hF:=FO.o k hkn;by_cases hlt:k<j.nodes.length
  ·obtain⟨d,hd⟩: ∃d,j.nodes[k]?=some d:=⟨_,ι hlt⟩
   obtain⟨nb,off,pi,ci,p,cap',rfl,hc,hjn⟩:=H.o.2.2.1 k d hd;obtain⟨c0,c1,c2,c3,c4,c5,c6⟩:=hc.kept kwb id;have Qa:=PI H.o.2.2.2.2.2.1 H.o.2.2.2.2.2.2.2 rfl hd hF;have hstep:gV j.nodes ⟨1,key,val⟩ Ts (k+1)=_:=yO hd ⟨1,key,val⟩ (gV j.nodes ⟨1,key,val⟩ Ts k);have hmay:=qB H.o.2.2.2.2.2.1 hd;obtain⟨st,hst⟩: ∃st,gV j.nodes ⟨1,key,val⟩ Ts k=st:=⟨_,rfl⟩;rw[hst]at hmd htb Qa hstep hF;have hTl:=H.o.2.2.2.2.2.2.1.len;obtain⟨tk,htk⟩: ∃tk,Ts[k]?=some tk:=⟨_,ι (by omega)⟩;obtain⟨gb,rfl,-,-,ht2,-,-,-⟩:=zO H.o.2.2.2.1 htk;have hgS: ¬uj Ts pm gb:=by
    rcases H.o.2.2.2.1.2 with⟨e,_⟩|⟨g,_,cur,e,_,hg,_⟩
    ·cases e
    ·injection e with e1 _ _
     injection e1 with e1
     injection e1 with e1
     subst e1;exact H.o.2.2.2.2.1.notS hg (by decide)
   have z0:=hkp.cell (p:=⟨gb,k,none⟩) hgS (by
    obtain⟨gb',e,-,-,-,-,z,-⟩:=zO H.o.2.2.2.1 htk
    injection e with e
    injection e with e
    subst e
    exact z)
   unfold maxLen at ht2
   have SK:=γ (show(stateful d.kind=true-> ∃T,st.2[k]?=some (some T)/\tk.isSome=true)/\(stateful d.kind=false->st.2.getD k none=none/\tk=none)from by
    refine⟨fun hs=>?_,fun hs=>?_⟩
    ·obtain⟨T,h1,_⟩:=hF.tabs.has k d hd hs
     obtain⟨U,h2,_⟩:=H.o.2.2.2.2.2.2.1.has k d hd hs;rw[htk]at h2
     injection h2 with h2
     exact⟨T,h1,by rw[h2];rfl⟩
    ·have h1:=hF.tabs.not k d hd hs
     have h2:=H.o.2.2.2.2.2.2.1.not k d hd hs;rw[htk]at h2
     injection h2 with h2
     exact⟨by rw[σ,h1];rfl,h2⟩)
   obtain⟨W1,hW1⟩:=acf ((wo.alloc (.cells (bG d pi ci p cap') 42)).alloc (.cells #[.int .i64 1,.int .i64 key,.int .i64 val] 68));have kA:ε η wo W1:=(by rw[<-hW1];exact(δ.alloc _).alloc _);have nB:W1.heap[wo.heap.size]?=some (.cells (bG d pi ci p cap') 42 (0,0)):=(by rw[<-hW1];exact((ε.refl η _).alloc _).heap (heap_alloc_new _ _) id);have I9:Reads W1 3 (.slice (some ⟨wo.heap.size+1,0,none⟩) 1 1) (recs [(⟨1,key,val⟩:Rec)]):=(by rw[<-hW1];have:=Reads.lit (wo.alloc (.cells (bG d pi ci p cap') 42)) [.int .i64 1,.int .i64 key,.int .i64 val] 68 3 1 rfl (by unfold maxLen;omega);rwa[World.size_alloc]at this);have hW1':(wo.alloc (.cells #[.string d.uid,.int .u8 d.kind,.slice pi d.ins.length ci,.int .u8 d.x.op,.int .i64 d.x.n,.slice p d.x.args.length cap',.int .i64 d.n] 42)).alloc (.cells #[.int .i64 1,.int .i64 key,.int .i64 val] 68)=W1:=hW1;have hs1:wo.heap.size<W1.heap.size:=(κ.1 nB).1;have G:=γ (θ hg (θ hmd (θ htb (θ hkp (θ hstep Qa)))));have HM:=γ hmay;have A8:=γ (θ hjn kwb);have KA:=γ (θ kA (θ nB I9));have HW1:=γ hW1';have HL:=γ hF.len;have HZ:=γ (θ x1 (θ x2 z0));have qJ:=γ (θ htk hd);clear hg hmd htb hkp hstep Qa hmay hjn kwb kA nB I9 hW1 hW1' hF x2 z0 hc hst htk hd ob;by_cases hk0:k=0
   case' pos=>
    have hin:fC ⟨1,key,val⟩ d k st.1=[⟨1,key,val⟩]:=if_pos hk0;have e0: ¬(0<k):=(by omega);have IN:=γ hin;clear hk0 hin;go_wp2_with fail;rw[HW1.o];clear c0 c1 c2 c3 c4 c5 c6 e0;obtain⟨W2,hW2⟩: ∃W2,W2=W1:=⟨_,rfl⟩;have k12:ε η W1 W2:=by rw[hW2];exact ε.refl _ _
    have X2:=γ (show Reads W2 3 (.slice (some ⟨wo.heap.size+1,0,none⟩) 1 1) (recs (fC ⟨1,key,val⟩ d k st.1))/\(∀q,Value.blk (.slice (some ⟨wo.heap.size+1,0,none⟩) 1 1)=some q->wo.heap.size<=q)from by
     rw[IN.o,hW2];exact⟨KA.o.2.2,fun q hq=>by cases hq;simp⟩)
    rw[<-hW2];clear hW2;obtain⟨ia,il,ic,hia⟩: ∃ia il ic,(Value.slice (some ⟨wo.heap.size+1,0,none⟩) 1 1)= .slice ia il ic:=⟨_,_,_,rfl⟩;rw[hia]at X2⊢;clear hia
   case' neg=>
    have hin:fC ⟨1,key,val⟩ d k st.1=ji d.kind (insOf d st.1):=if_neg hk0;have e0:0<k:=(by omega);have IN:=γ hin;have P9:=γ (G.o.2.2.2.2.2.2.2.2.2 hk0);have PS:Reads wb 1 (.slice pi d.ins.length ci) (ints d.ins):=(by obtain⟨pi',ci',p',cap2,e,_,h3,_⟩:=A8.o.1;have:=congrArg (fun a=>a[2]?) e;simp at this;obtain⟨rfl,rfl⟩:=this;exact h3);have RI:=γ PS.abT;have ahR:d.ins.length<=1000:=(by have:=HM.o.ins;omega);clear hk0 hin PS;go_wp2_with fail;rw[HW1.o];clear c0 c1 c2 c3 c4 c5 c6 e0;go_loopg [11,12] d.ins.length (fun g vr vi wq=> ∃(i:Nat)(vs:List Value),i<=d.ins.length/\vi= .int .i64 (i:Int)/\d.ins.length-i<=g/\wq.ownsRow W1.heap.size 60 1 vr i vs/\(∀(q:Nat)(u:Value),vs[q]?=some u-> ∃L,(insOf d st.1)[q]?=some L/\Reads W1 3 u (recs L))/\ε η W1 wq)
    case atStart=>exact⟨0,[],by omega,rfl,by omega,World.ownsRow_nil _ _ _ _,fun q u h=>by simp at h,ε.refl _ _⟩
    case' round=>
     obtain⟨i,vs,hin,rfl,hgi,hown,hvs,hkq⟩:=hrel;obtain⟨TF,TD,rfl⟩:=au hown;have nq:=hkq.heap KA.o.2.1 id;have m2:wr.cell? ⟨wo.heap.size,2,none⟩=some (.slice pi d.ins.length ci):=ζ nq rfl;have hsq:wo.heap.size<wr.heap.size:=block_lt_of_cell m2;by_cases hil:i<d.ins.length
     case' pos=>
      obtain⟨x,hx⟩: ∃x,d.ins[i]?=some x:=⟨_,ι hil⟩;obtain⟨hx0,hxk⟩:=HM.o.low x (ς hx);obtain⟨q,rfl⟩:=Int.eq_ofNat_of_zero_le hx0;obtain⟨bi,bV,rfl,hci⟩:=RI.o.resolve_left (fun h=>by rw[h]at hx;cases hx);have kq:ε η wo wr:=KA.o.1.trans hkq;have z1:=(A8.o.2.trans kq).cell id (hci i _ hx);obtain⟨L,hL⟩: ∃L,st.1[q]?=some L:=⟨_,ι (by rw[HL.o];omega)⟩;obtain⟨mg,u,nu,rfl,hkm,hmc1,aaU,hu,qH⟩:=(G.o.2.1.pure KA.o.1).cell hL;obtain⟨ua,uc,rfl⟩:=au qH;have hu1:=hkq.cell id hu;have hqk:q<k:=(by omega);unfold maxLen at aaU;have hul:nu=L.length:=(by have h1:=qH.1;rw[aQ]at h1;omega);subst hul;obtain⟨iw,w',g1,g2,g3⟩:=OW hown (u:= .slice ua L.length uc) rfl hkq.size (by omega);obtain⟨a2,cc2,rfl⟩:=au g2;have hLi:(insOf d st.1)[i]?=some L:=(by unfold insOf;rw[abJ,hx];simp only[Option.map_some,Int.toNat_natCast,σ,hL,Δ]);have hlen:vs.length=i:=by have:=hown.1;omega
      have Z:=γ (θ g1 (θ g2 (θ (hkq.new g3 (fun k hk hs=>by omega)) (θ hgi (show∀(q:Nat)(u:Value),(vs++[Value.slice ua L.length uc])[q]?=some u-> ∃L,(insOf d st.1)[q]?=some L/\Reads W1 3 u (recs L)from by
       intro q2 u2 hu2;by_cases hq2:q2<vs.length
       ·rw[Ω hq2]at hu2
        exact hvs q2 u2 hu2
       ·have:q2=vs.length:=by have:=(μ.1 hu2).1;simp at this;omega
        subst this;rw[Ψ (ξ _),Nat.sub_self]at hu2;cases hu2
        exact⟨L,by rw[hlen];exact hLi,Reads.aN qH⟩)))))
      clear g1 g2 g3 hkq hown hvs kq hci qH hu hLi hlen hL hgi hkm nq hx0 hxk hx;go_wp2_with (at_builtin;refine jy rfl (.tmp 44) (.tmp 53) 142 rfl _ _ _ rfl rfl Z.o.1 ?_);go_roundg (d.ins.length-(i+1))
      case rel=>exact⟨i+1,_,by omega,by go_num,ξ _,Z.o.2.1,Z.o.2.2.2.2,Z.o.2.2.1⟩
      case measure=>have:=Z.o.2.2.2.1;omega
     case' neg=>
      have hie:i=d.ins.length:=(by omega);subst hie;have hlen:vs.length=d.ins.length:=(by have:=hown.1;omega);have hr2:oq wr (.slice TF d.ins.length TD) (insOf d st.1):=(by refine⟨vs,by rw[hlen];unfold insOf;rw[List.length_map],Reads.aN hown,fun q u L hu hL=>?_⟩;obtain⟨L',h1,h2⟩:=hvs q u hu;rw[hL]at h1;cases h1;exact h2.pure hkq);have kq:ε η wo wr:=KA.o.1.trans hkq;have cg:=X5 _ d.iy _ (insOf d st.1) wr ((A8.o.1.pure (A8.o.2.trans kq)).iy) hr2 (by have:=P9.o.1;omega) (by have:=P9.o.2;omega);have m0:=ζ nq (j:=0) rfl;have m1:=ζ nq (j:=1) rfl;have m3:=ζ nq (j:=3) rfl;have m4:=ζ nq (j:=4) rfl;have m5:=ζ nq (j:=5) rfl;have m6:=ζ nq (j:=6) rfl;have KQ:=γ hkq;clear hr2 hown hvs hkq kq nq;go_wp2_with fail;(with_reducible refine cg.mono ?_);clear cg m0 m1 m2 m3 m4 m5 m6;rintro e W2 ⟨iv,rfl,tN,hblk,k2⟩;obtain⟨ia,ic,rfl⟩:=tN.slice_form;obtain⟨il,aez⟩: ∃il,(ji d.iy.kind (insOf d st.1)).length=il:=⟨_,rfl⟩;rw[aez]at tN hblk⊢;have k12:ε η W1 W2:=KQ.o.trans k2
      have X2:=γ (show Reads W2 3 (.slice ia il ic) (recs (fC ⟨1,key,val⟩ d k st.1))/\(∀q,Value.blk (.slice ia il ic)=some q->wo.heap.size<=q)from by
       rw[IN.o];exact⟨tN,fun q hq=>by have:=hblk q hq;omega⟩)
      clear hblk k2 tN aez KQ hsq;go_wp2_with fail
   all_goals
    have tJ:ε η wo W2:=KA.o.1.trans k12;have zh:=k12.heap KA.o.2.1 id;have YG:ε η W2 W2.drew:=δ.drew;have F9:ε η wo W2.drew:=tJ.trans YG;obtain⟨hrd,hrb⟩:=X2.o;have Vy:=G.o.2.1.pure F9;have Ik:=G.o.2.2.1.pure F9;have abZ:(fC ⟨1,key,val⟩ d k st.1).length<=1000:=(by have:=G.o.2.2.2.2.2.2.2.2.1;omega);have pR: ∀q,(Value.slice ma k mc).ownBlock=some q->w.heap.size<=q/\q<wo.heap.size:=fun q hq=>(by obtain⟨ms,h1,_⟩:=G.o.2.1;exact h1.lt q hq);have n0':=ζ zh (j:=0) (v:= .string d.uid) rfl;have n1':=ζ zh (j:=1) (v:= .int .u8 d.kind) rfl;have n2':=ζ zh (j:=2) (v:= .slice pi d.ins.length ci) rfl;have n3':=ζ zh (j:=3) (v:= .int .u8 d.x.op) rfl;have n4':=ζ zh (j:=4) (v:= .int .i64 d.x.n) rfl;have n5':=ζ zh (j:=5) (v:= .slice p d.x.args.length cap') rfl;have n6':=ζ zh (j:=6) (v:= .int .i64 d.n) rfl;have y2:=tJ.cell (p:=⟨b,2,none⟩) id HZ.o.2.1;have y3:=tJ.cell (p:=⟨gb,k,none⟩) id HZ.o.2.2;have hgw:gb<w.heap.size:=(H.o.2.2.2.1.lt gb rfl).2;have ah0:=H.o.2.2.2.2.2.2.1.len;have hkT:(k:Int)<(Ts.length:Int):=(by omega);have YY:=γ (θ y2 (θ y3 (θ n0' (θ n1' (θ n2' (θ n3' (θ n4' (θ n5' n6'))))))));have htake:st.1.length=k:=HL.o;clear y2 y3 n0' n1' n2' n3' n4' n5' n6' ah0 x1
    cases hst:stateful d.kind with
    |true=>
     obtain⟨T,hT,hsome⟩:=SK.o.1 hst;obtain⟨T0,hT0⟩:=Option.isSome_iff_exists.1 hsome;have P8:d.iy.kind=6\/d.iy.kind=7:=DF hst;have hDw:=H.o.2.2.2.2.1.TS ⟨k,T0,by rw[qJ.o.1,hT0],rfl⟩;have hDb: ¬pm k=b:=fun e=>hnb ⟨k,T0,by rw[qJ.o.1,hT0],e⟩;have hDg: ¬pm k=gb:=fun e=>hgS ⟨k,T0,by rw[qJ.o.1,hT0],e⟩;have cd:=aan d.iy (bG d pi ci p cap') (pm k) T (fC ⟨1,key,val⟩ d k st.1) (.slice ia il ic) wb W2.drew (A8.o.2.trans F9) hDw.1 A8.o.1.iy (hrd.pure YG) (fun q hq e=>by have:=hrb q hq;omega) (fun r hr=>G.o.2.2.2.2.2.1 r hr) abZ (Ik.tab k T hT).2.at P8
     have HS:=γ (show gV j.nodes ⟨1,key,val⟩ Ts (k+1)=(st.1++[(aJ d.iy T (fC ⟨1,key,val⟩ d k st.1)).1],st.2.set k (some (aJ d.iy T (fC ⟨1,key,val⟩ d k st.1)).2))from by
      rw[G.o.2.2.2.2.1];have e1:st.2.getD k none=some T:=by rw[σ,hT];rfl
      rw[e1];rfl)
     obtain⟨O,hO⟩: ∃O,aJ d.iy T (fC ⟨1,key,val⟩ d k st.1)=O:=⟨_,rfl⟩;rw[hO]at cd HS;have hsub:(⟨k,T0⟩:Nat×Tab).1=k:=rfl;have HP:=γ (show Ts[k]?=some (some T0)from by rw[qJ.o.1,hT0]);subst hT0;clear hst hsome hsub hO;go_wp2_with fail;refine ak [0,1,2,3,4,5,6,7,8,9,10,11,12,13] (fun W=>ε (fun q=>(Value.slice ma k mc).ownBlock=some q\/q=pm k) W2 W) (by kernel_rfl) (by kernel_rfl) rfl δ.drew ?_;simp only[abU];have q1: ¬((Value.slice ma k mc).ownBlock=some b\/b=pm k):=fun h=>h.elim (fun h=>by have:=pR b h;omega) (fun h=>hDb h.symm);have q2: ¬((Value.slice ma k mc).ownBlock=some gb\/gb=pm k):=fun h=>h.elim (fun h=>by have:=pR gb h;omega) (fun h=>hDg h.symm);have q3: ¬((Value.slice ma k mc).ownBlock=some wo.heap.size\/wo.heap.size=pm k):=fun h=>h.elim (fun h=>by have:=pR _ h;omega) (fun h=>by omega);iterate 10 (apply aj rfl rfl;(intro W hW;have o0:=hW.cell (p:=⟨b,2,none⟩) q1 YY.o.1;have o1:=hW.cell (p:=⟨gb,k,none⟩) q2 YY.o.2.1;have o2:=hW.cell q3 YY.o.2.2.1;have o3:=hW.cell q3 YY.o.2.2.2.1;have o4:=hW.cell q3 YY.o.2.2.2.2.1;have o5:=hW.cell q3 YY.o.2.2.2.2.2.1;have o6:=hW.cell q3 YY.o.2.2.2.2.2.2.1;have o7:=hW.cell q3 YY.o.2.2.2.2.2.2.2.1;have o8:=hW.cell q3 YY.o.2.2.2.2.2.2.2.2;simp only[Option.map_some]at o1;go_simp;rfl);go_frame)
     apply aA rfl rfl;intro K hK;go_wp2_with fail;(with_reducible refine cd.mono ?_);clear cd;rintro e W5 ⟨u,nu,rfl,hu,hmem,k5⟩;go_wp2_with fail;have k25:ε (one (pm k)) W2 W5:=k5.aZ;refine hK _ _ (fun _=>k25.mono (fun _ _ h=> .inr h)) ?_;clear hK;have P7:=Vy.kept k5 (fun q hq=>by unfold one at hq;omega);have PN:=Ik.turn hT k5 ((hmem _ (Ik.tab k T hT).2).mono (fun q hq=>hq.1.elim id (fun h h2=>by have:=(pR q h2).2;have:=F9.size;omega)));have hsz5:wo.heap.size<=W5.heap.size:=(by have:=tJ.size;have:=k25.size;omega);obtain⟨g,gc,W7,p1,p2,p3,p4⟩:=P7.push (TB hu (by have:=F9.size;omega)) (by omega) (by omega);have EN:=PN.grow p3 (B':=(Value.slice (some ⟨g,0,none⟩) (st.1.length+1) gc).ownBlock) (fun q hq=>by cases hq;exact p4);rw[htake]at p1 p2 EN;have D9:ε (uj Ts pm) w W7:=(((G.o.2.2.2.1.trans tJ.pure).trans (k25.mono (fun q _ hq=>⟨k,T0,HP.o,hq.symm⟩))).new p3 (fun q hq hs=>by have:=pR q hs;omega))
     have F:=γ (show oU W7 w.heap.size (.slice (some ⟨g,0,none⟩) (k+1) gc) (gV j.nodes ⟨1,key,val⟩ Ts (k+1)).1/\lJ W7 wb.heap.size (Value.slice (some ⟨g,0,none⟩) (k+1) gc).ownBlock (gV j.nodes ⟨1,key,val⟩ Ts (k+1)).2 pm/\ε (uj Ts pm) w W7 from by
      rw[HS.o];exact⟨p2,EN,D9⟩)
     have P1:=γ p1;obtain⟨ua,uc,rfl⟩:=au hu;apply aA rfl rfl;intro K hK;go_wp2_with fail;refine hK _ _ (fun _=>(k25.alloc _).mono (fun _ _ h=> .inr h)) ?_;clear hK;apply aA rfl rfl;intro K hK;refine rM (.tmp 58) (.tmp 69) 142 rfl (.slice ma k mc) (.slice (some ⟨W5.heap.size,0,none⟩) 1 1) (.slice (some ⟨g,0,none⟩) (k+1) gc) rfl rfl P1.o ?_;have k27:ε (fun q=>(Value.slice ma k mc).ownBlock=some q\/q=pm k) W2 W7:=(k25.mono (fun _ _ h=> .inr h)).trans (p3.mono (fun _ _ h=> .inl h));refine hK _ _ (fun _=>k27) ?_;clear hK;apply aj rfl rfl
     ·intro W hW;go_simp;rfl
     go_frame;refine aG (fun _=>k27) ?_;have hG:=G.o.1;clear p1 p2 p3 p4 EN D9 PN P7 hu hmem k5 k25 k27 q1 q2 q3 hrd hrb Vy Ik tJ F9 YG zh hsz5 pR;go_wp2_with fail;go_roundg (j.nodes.length-(k+1))
     case rel=>exact⟨k+1,by omega,by go_num,ξ _,F.o.1,⟨_,_,rfl⟩,F.o.2⟩
     case measure=>omega
    |false=>
     obtain⟨hT,hT0⟩:=SK.o.2 hst;have h6:d.iy.kind≠6:=fun e=>(by have:d.kind=6:=e;rw[this]at hst;cases hst);have h7:d.iy.kind≠7:=fun e=>(by have:d.kind=7:=e;rw[this]at hst;cases hst);have cd:=aao d.iy (bG d pi ci p cap') none [] (fC ⟨1,key,val⟩ d k st.1) (.slice ia il ic) W2.drew (A8.o.1.iy.pure (A8.o.2.trans F9)) (hrd.pure YG) (fun r hr=>G.o.2.2.2.2.2.1 r hr) abZ h6 h7
     have HS:=γ (show gV j.nodes ⟨1,key,val⟩ Ts (k+1)=(st.1++[(aJ d.iy [] (fC ⟨1,key,val⟩ d k st.1)).1],st.2)from by
      rw[G.o.2.2.2.2.1,hT];show(_,st.2.set k none)=_
      congr 1
      apply List.ext_getElem?;intro i;rw[List.getElem?_set];by_cases e:k=i
      ·subst e
       rw[if_pos rfl];by_cases hl:k<st.2.length
       ·rw[if_pos hl]
        rw[σ,ι hl]at hT;rw[ι hl];exact congrArg some hT.symm
       ·rw[if_neg hl,abA (by omega)]
      ·rw[if_neg e])
     obtain⟨O,hO⟩: ∃O,aJ d.iy [] (fC ⟨1,key,val⟩ d k st.1)=O:=⟨_,rfl⟩;rw[hO]at cd HS;subst hT0;clear hst hO h6 h7 hT;go_wp2_with fail;refine ak [0,1,2,3,4,5,6,7,8,9,10,11,12,13] (fun W=>ε (fun q=>(Value.slice ma k mc).ownBlock=some q) W2 W) (by kernel_rfl) (by kernel_rfl) rfl δ.drew ?_;simp only[abU];have q1: ¬(Value.slice ma k mc).ownBlock=some b:=fun h=>(by have:=pR b h;omega);have q2: ¬(Value.slice ma k mc).ownBlock=some gb:=fun h=>(by have:=pR gb h;omega);have q3: ¬(Value.slice ma k mc).ownBlock=some wo.heap.size:=fun h=>(by have:=pR _ h;omega);iterate 10 (apply aj rfl rfl;(intro W hW;have o0:=hW.cell (p:=⟨b,2,none⟩) q1 YY.o.1;have o1:=hW.cell (p:=⟨gb,k,none⟩) q2 YY.o.2.1;have o2:=hW.cell q3 YY.o.2.2.1;have o3:=hW.cell q3 YY.o.2.2.2.1;have o4:=hW.cell q3 YY.o.2.2.2.2.1;have o5:=hW.cell q3 YY.o.2.2.2.2.2.1;have o6:=hW.cell q3 YY.o.2.2.2.2.2.2.1;have o7:=hW.cell q3 YY.o.2.2.2.2.2.2.2.1;have o8:=hW.cell q3 YY.o.2.2.2.2.2.2.2.2;simp only[Option.map_none]at o1;go_simp;rfl);go_frame)
     apply aA rfl rfl;intro K hK;go_wp2_with fail;(with_reducible refine cd.mono ?_);clear cd;rintro e W5 ⟨u,nu,rfl,hu,-,k5⟩;go_wp2_with fail;have k25:ε η W2 W5:=k5.aZ;refine hK _ _ (fun _=>k25.pure) ?_;clear hK;have P7:=Vy.pure k5;have PN:=Ik.pure k5;have hsz5:wo.heap.size<=W5.heap.size:=(by have:=tJ.size;have:=k25.size;omega);obtain⟨g,gc,W7,p1,p2,p3,p4⟩:=P7.push (TB hu (by have:=F9.size;omega)) (by omega) (by omega);have EN:=PN.grow p3 (B':=(Value.slice (some ⟨g,0,none⟩) (st.1.length+1) gc).ownBlock) (fun q hq=>by cases hq;exact p4);rw[htake]at p1 p2 EN;have D9:ε (uj Ts pm) w W7:=((G.o.2.2.2.1.trans (tJ.trans k25).pure).new p3 (fun q hq hs=>by have:=pR q hs;omega))
     have F:=γ (show oU W7 w.heap.size (.slice (some ⟨g,0,none⟩) (k+1) gc) (gV j.nodes ⟨1,key,val⟩ Ts (k+1)).1/\lJ W7 wb.heap.size (Value.slice (some ⟨g,0,none⟩) (k+1) gc).ownBlock (gV j.nodes ⟨1,key,val⟩ Ts (k+1)).2 pm/\ε (uj Ts pm) w W7 from by
      rw[HS.o];exact⟨p2,EN,D9⟩)
     have P1:=γ p1;obtain⟨ua,uc,rfl⟩:=au hu;apply aA rfl rfl;intro K hK;go_wp2_with fail;refine hK _ _ (fun _=>(k25.alloc _).pure) ?_;clear hK;apply aA rfl rfl;intro K hK;refine rM (.tmp 58) (.tmp 69) 142 rfl (.slice ma k mc) (.slice (some ⟨W5.heap.size,0,none⟩) 1 1) (.slice (some ⟨g,0,none⟩) (k+1) gc) rfl rfl P1.o ?_;have k27:ε (fun q=>(Value.slice ma k mc).ownBlock=some q) W2 W7:=k25.pure.trans p3;refine hK _ _ (fun _=>k27) ?_;clear hK;apply aj rfl rfl
     ·intro W hW;go_simp;rfl
     go_frame;refine aG (fun _=>k27) ?_;have hG:=G.o.1;clear p1 p2 p3 p4 EN D9 PN P7 hu k5 k25 k27 q1 q2 q3 hrd hrb Vy Ik tJ F9 YG zh hsz5 pR;go_wp2_with fail;go_roundg (j.nodes.length-(k+1))
     case rel=>exact⟨k+1,by omega,by go_num,ξ _,F.o.1,⟨_,_,rfl⟩,F.o.2⟩
     case measure=>omega
  ·obtain rfl:k=j.nodes.length:=by omega
   obtain⟨L,hL⟩: ∃L,(gV j.nodes ⟨1,key,val⟩ Ts j.nodes.length).1[j.nodes.length-1]?=some L:=⟨_,ι (by rw[hF.len];omega)⟩;obtain⟨mg,u,nu,rfl,hkm,hmc1,aaU,hu,qH⟩:=hmd.cell hL;unfold maxLen at aaU;obtain⟨ua,uc,rfl⟩:=au qH;have Io:L.length<=1000000:=(by have h1:=(hF.rows _ L hL).few;obtain⟨d,hd⟩: ∃d,j.nodes[j.nodes.length-1]?=some d:=⟨_,ι (by omega)⟩;have h2:=(qB H.o.2.2.2.2.2.1 hd).ways;omega);have cm:=FN _ L wo (Reads.aN qH) Io;have hi1:IntKind.i64.wrap ((j.nodes.length:Int)-1)=((j.nodes.length-1:Nat):Int):=(by rw[IntWalk.i64_in _ (by omega)];omega);have hi2:((j.nodes.length-1:Nat):Int)=(j.nodes.length:Int)-1:=(by omega);have F:=γ (θ hkp (θ htb hL));clear hmd htb hkp hF hg hkm qH Io hL ob x2 kwb;go_wp2_with fail;(with_reducible refine cm.mono ?_);clear cm;rintro e W2 ⟨r,rfl,r1,r2,k2⟩
   have Z:=γ (show QK wb w j Ts pm key val (.returned r) W2 from by
    refine⟨r,rfl,?_,fun q hq=>ω hww (r2 q hq),?_,F.o.1.trans k2.pure⟩
    ·have e0:(iF j.nodes Ts key val).1=aO L:=by
      show aO _=_;rw[σ,F.o.2.2];rfl
     rw[e0];exact r1
    ·exact⟨fun i T hT=>⟨(F.o.2.1.tab i T hT).1,((F.o.2.1.tab i T hT).2.kept k2 (fun _ h=>h.elim)).mono (fun _ _ h=>by cases h)⟩,F.o.2.1.inj⟩)
   obtain⟨ra,rc,rfl,_,_⟩:=r1.len;clear r1 r2 k2;go_wp2_with fail;go_ret;exact Z.o
end
section
open Go Go.RowKit
attribute [local irreducible] cZ
theorem Rt (j:Jb)(b:Nat)(Ts:Tabs)(tv:Value)(pm:Nat->Nat)(w:World)(h:ZF w b j Ts tv pm)(hlen:Ts.length=j.nodes.length)(hsm:j.nodes.length<=1000):
 Calls Tryz.prog 30 #[.pointer (some ⟨b,0,none⟩)] w (Dt w (rO j.nodes Ts)):=by
 obtain⟨nv,bn,hob,hn,hrow,htb⟩:=h;obtain⟨na,cap,rfl,h1,h2,h3⟩:=hn.at;obtain⟨ta,tc,rfl⟩:=au hrow;have x1:w.cell? ⟨b,1,none⟩=some (.slice na j.nodes.length cap):=ζ hob rfl;have x2:w.cell? ⟨b,2,none⟩=some (.slice ta Ts.length tc):=ζ hob rfl;have hbl:b<w.heap.size:=(κ.1 hob).1;rw[hlen]at x2 hrow;have H:=γ (θ htb (θ h3 (θ hlen hrow)));clear hob hn htb h3 hlen hrow;unfold maxLen at h2;go_enter Tryz.func30,Tryz.ntmps30;go_wp2;go_loopg [3,4] j.nodes.length (fun g vo vi wr=> ∃k:Nat,k<=j.nodes.length/\vi= .int .i64 (k:Int)/\j.nodes.length-k<=g/\wr.ownsRow w.heap.size 35 2 vo (qG j.nodes Ts k).length (jc (qG j.nodes Ts k))/\ε η w wr)
 case atStart=>exact⟨0,by omega,rfl,by omega,World.ownsRow_nil _ _ _ _,ε.refl _ _⟩
 case round=>
  obtain⟨k,hkn,rfl,hg,hown,hkp⟩:=hrel;obtain⟨wo,rfl⟩: ∃wo:World,wo=wr:=⟨_,rfl⟩;obtain⟨va,vc,rfl⟩:=au hown;have x1:=hkp.cell (p:=⟨b,1,none⟩) id x1;have x2:=hkp.cell (p:=⟨b,2,none⟩) id x2;have hle:=XP j.nodes Ts k;have hbw:b<wo.heap.size:=Pe hbl hkp.size;by_cases hlt:k<j.nodes.length
  ·obtain⟨d,hd⟩: ∃d,j.nodes[k]?=some d:=⟨_,ι hlt⟩
   obtain⟨t,ht⟩: ∃t,Ts[k]?=some t:=⟨_,ι (by have:=H.o.2.2.1;omega)⟩;obtain⟨nb,off,pi,ci,p,cap',rfl,hc,hjn⟩:=H.o.2.1 k d hd;have hnl:nb<w.heap.size:=block_lt_of_cell hc.1;obtain⟨c0,-⟩:=hc.kept hkp id;have hrw:=hkp.owns H.o.2.2.2 (fun _ _ h=>h);rw[<-H.o.2.2.1]at hrw;obtain⟨gb,rfl,-,ht1,ht2,-,z0,-⟩:=zO (show wo.ownsRow bn 46 1 (.slice ta j.nodes.length tc) Ts.length (rp pm Ts)from by rw[<-H.o.2.2.1];exact hrw) ht;unfold maxLen at ht2;have hsn:=OC hd ht;have G:=γ (θ hg (θ hown (θ hkp hsn)));clear hg hown hkp hsn hc hjn hd hrw
   cases t with
   |none=>
    simp only[Option.map_none]at z0;clear ht;go_wp2_with fail;go_roundg (j.nodes.length-(k+1))
    case rel=>exact⟨k+1,by omega,by go_num,ξ _,by rw[G.o.2.2.2,show(wM (d,none)).toList=[]from rfl,List.append_nil];exact G.o.2.1,G.o.2.2.1⟩
    case measure=>have:=G.o.1;omega
   |some T=>
    simp only[Option.map_some]at z0;have HT:=γ ((H.o.1.tab k T ht).at.pure G.o.2.2.1);clear ht;have hno: ∀q,q<w.heap.size-> ¬(Value.slice va (qG j.nodes Ts k).length vc).ownBlock=some q:=fun q hq h=>(by have:=(G.o.2.1.lt _ h).1;omega);have hgl:gb<w.heap.size:=(by have:=(H.o.2.2.2.lt gb rfl).2;omega);have Y:=γ (θ x1 (θ x2 (θ c0 z0)));go_wp2_with fail;refine ak [0,1,2,3,4,5,6,7,8,9,10,11,12,13,14,15,16,17,18,19,20,21] (fun W=>ε (fun q=>(Value.slice va (qG j.nodes Ts k).length vc).ownBlock=some q) wo W) (by kernel_rfl) (by kernel_rfl) rfl δ.drew ?_;simp only[abU];iterate 17 (apply aj rfl rfl;(intro W hW;have q1:=hW.cell (p:=⟨b,1,none⟩) (hno _ hbl) Y.o.1;have q2:=hW.cell (p:=⟨b,2,none⟩) (hno _ hbl) Y.o.2.1;have q3:=hW.cell (p:=⟨nb,off+k*7,none⟩) (hno _ hnl) Y.o.2.2.1;have q4:=hW.cell (p:=⟨gb,k,none⟩) (hno _ hgl) Y.o.2.2.2;go_simp;rfl);go_frame)
    apply aA rfl rfl;intro K hK;go_wp2_with fail;(with_reducible refine(U7 _ T _ (HT.o.pure (ε.refl η wo).drew)).mono ?_);rintro e w5 ⟨rfl,k5⟩;go_wp2_with fail;have oQ:=k5.aZ;refine hK _ _ (fun _=>oQ.pure) ?_;clear hK;have hown5:=oQ.owns G.o.2.1 (fun _ _ h=>h);have Pv:=G.o.2.2.1.trans oQ;obtain⟨v6,w6,g1,g2,g3,a6,c6,rfl⟩:=Tz hown5 (d.uid,strOf (dV (uy T))) Pv.size (by omega);apply aj rfl rfl
    ·intro W hW
     go_simp;rfl
    go_frame;apply aA rfl rfl;intro K2 hK2;go_wp2_with fail;refine hK2 _ _ (fun _=>(oQ.alloc _).pure) ?_;clear hK2
    have Z:=γ (θ (show w6.ownsRow w.heap.size 35 2 (.slice a6 ((qG j.nodes Ts k).length+1) c6) (qG j.nodes Ts (k+1)).length (jc (qG j.nodes Ts (k+1))) by
     rw[G.o.2.2.2]
     simpa[wM]using g2) (Pv.new g3 (fun i hi hs=>by have:=(hown5.lt i hs).1;omega)))
    apply aA rfl rfl;intro K3 hK3;refine rM (.tmp 23) (.tmp 42) 25 rfl _ _ _ rfl rfl g1 ?_;refine hK3 _ _ (fun _=>oQ.pure.trans g3) ?_;clear hK3;apply aj rfl rfl
    ·intro W hW
     go_simp;rfl
    go_frame;refine aG (fun _=>oQ.pure.trans g3) ?_;clear g1 g2 g3 hown5 k5 Pv oQ;go_wp2_with fail;go_roundg (j.nodes.length-(k+1))
    case rel=>exact⟨k+1,by omega,by go_num,ξ _,Z.o⟩
    case measure=>have:=G.o.1;omega
  ·have e1:k=j.nodes.length:=by omega
   subst e1;have F:=γ (show Dt w (rO j.nodes Ts) (.returned (.slice va (qG j.nodes Ts j.nodes.length).length vc)) wo from⟨_,rfl,by rw[<-Tf H.o.2.2.1];exact Reads.aN hown,fun q hq=>(hown.lt q (QC hq)).1,hkp⟩);clear hown hkp hg hlt x2;go_wp2_with fail;go_ret;exact F.o
end
section
open Go Go.RowKit
section
variable {P:Program} {ops:Array Oper} {C:World->Prop} {Q:Act->World->Prop}
end
attribute [local irreducible] cZ iC H2.dX
end
section
open Go Go.RowKit
attribute [local irreducible] cZ iC H2.dX
theorem lK.DZ {w:World}{par:Int}{v:Value}{j:Jb}(h:lK w #[.int .i64 par,v] j):gI w v j.nodes:=by
 obtain⟨v',e,hn,_⟩:=h
 injection e with e
 injection e with _ e
 injection e with e
 subst e;exact hn
theorem J8 (x:List St):Qw x x=true:=decide_eq_true rfl
theorem SA (x:List Rec):Qx x x=true:=decide_eq_true rfl
theorem Sj (j:Jb)(va sv rv:Value)(l:List St)(R:List Rec)(w:World)(mx:Int)(hm:w.cell? ⟨0,0,none⟩=some (.int .i64 mx))(ha:lK w #[.int .i64 j.par,va] j)(hs:Reads w 2 sv (jc l))(hsz: ∀s∈l,s.1.size<=maxLen/\s.2.size<=maxLen)
 (hr:Reads w 3 rv (recs R)) (hR: ∀r∈R,bQ r):Calls Tryz.prog 6 #[.agg #[.int .i64 j.par,va],sv,rv] w (Gives w (.bool true)):=by
 obtain⟨Fe,yg,hva,-⟩:=ha.DZ.at;subst hva;have hjr:=ha.DZ.jr;have hpar:aH j.par:=(by obtain⟨v,_,_,hp⟩:=ha;exact hp);obtain⟨sa,scap,hsv,s1,s2,-⟩:=hs.zL;subst hsv;obtain⟨ra,rC,rfl,r1,r2,r3⟩:=hr.recAt;unfold maxLen at s2 r2;have kA:ε η w (w.alloc (.cells #[.int .i64 j.par,.slice Fe j.nodes.length yg] 24)):=δ.alloc _;have t0:(w.alloc (.cells #[.int .i64 j.par,.slice Fe j.nodes.length yg] 24)).heap[w.heap.size]?=some (.cells #[.int .i64 j.par,.slice Fe j.nodes.length yg] 24 (0,0)):=heap_alloc_new w _;obtain⟨W1,hW1⟩:=acf ((w.alloc (.cells #[.int .i64 j.par,.slice Fe j.nodes.length yg] 24)));rw[hW1]at kA t0;have p0:=ζ t0 (j:=0) (v:= .int .i64 j.par) rfl;have p1:=ζ t0 (j:=1) (v:= .slice Fe j.nodes.length yg) rfl;have ch:=VB j _ _ l _ R W1 (ha.pure kA) (hs.pure kA) hsz (hr.pure kA);have BX: ∀w',ε η W1 w'->(w'.cell? ⟨w.heap.size,0,none⟩=some (.int .i64 j.par)/\w'.cell? ⟨w.heap.size,1,none⟩=some (.slice Fe j.nodes.length yg)/\w.heap.size<w'.heap.size):=fun w' k=>(by have t0:=k.heap t0 id;exact⟨ζ t0 rfl,ζ t0 rfl,(κ.1 t0).1⟩);have BX:=γ BX;have H:=γ (θ hm (θ ha (θ hs (θ hsz (θ kA (θ r3 (θ hR (θ hjr hpar))))))));clear hm ha hs hsz kA t0 hr r3 hR hjr hpar;have HW:=γ hW1;clear hW1;go_enter Tryz.func6,Tryz.ntmps6;go_wp2_with fail;rw[HW.o];clear HW;(with_reducible refine ch.mono ?_);clear ch p0 p1;rintro e w1 ⟨b1,rfl,k1,yB⟩;have K1:=γ (H.o.2.2.2.2.1.trans k1)
 cases b1 with
 |true=>have cw:=Bc w1 mx (K1.o.cell (p:=⟨0,0,none⟩) id H.o.1);clear k1 yB;go_wp2_with fail;(with_reducible refine cw.mono ?_);clear cw;rintro e wz1 ⟨rfl,kz1⟩;have F1:=γ (K1.o.trans kz1);clear kz1;go_wp2_with fail;go_ret;exact⟨rfl,F1.o⟩
 |false=>
  obtain⟨hsm,-,hl60⟩:=yB rfl;obtain⟨q0,q1,hq⟩:=BX.o w1 k1;have cl:=Jl j _ _ l w1 (H.o.2.1.pure K1.o) (H.o.2.2.1.pure K1.o) H.o.2.2.2.1;have KA:=γ k1;have HSM:=γ hsm;clear k1 yB hsm;go_wp2_with fail;(with_reducible refine cl.mono ?_);clear cl q0 q1 hq;intro e w2 hq;unfold ng at hq;have cr: ∀w2,ε η w1 w2->Calls Tryz.prog 25 #[.agg #[.int .i64 j.par,.slice Fe j.nodes.length yg],.slice sa l.length scap] w2 (jY w2 (.slice Fe j.nodes.length yg) j l):=fun w2 k=>(by have kw:=K1.o.trans k;exact X0 j _ _ l w2 (H.o.2.1.pure kw) (H.o.2.2.1.pure kw) H.o.2.2.2.1 HSM.o);have CR:=γ cr;clear cr
  cases hl:og j l with
  |error er=>rw[hl]at hq;obtain⟨rfl,hne,k2⟩:=hq;have K2:=γ k2;obtain⟨q0,q1,hq⟩:=BX.o w2 (KA.o.trans k2);have cl:=CR.o w2 k2;unfold jY at cl;rw[hl]at cl;dsimp only at cl;clear k2 hl;go_wp2_with fail;(with_reducible refine cl.mono ?_);clear cl q0 q1 hq;rintro e w3 ⟨rfl,-,k3⟩;have K3:=γ (K1.o.trans (K2.o.trans k3));have cw:=Bc w3 mx (K3.o.cell (p:=⟨0,0,none⟩) id H.o.1);have hee:(er==er)=true:=beq_self_eq_true _;clear k3;go_wp2_with fail;(with_reducible refine cw.mono ?_);clear cw;rintro e w4 ⟨rfl,k4⟩;have F4:=γ (K3.o.trans k4);clear k4;go_wp2_with fail;go_ret;exact⟨rfl,F4.o⟩
  |ok Ts0=>
   rw[hl]at hq;obtain⟨bi,mi,pi,rfl,hob,hbi,hn,hpar,hmi,htx,hnt,k2⟩:=hq;obtain⟨hok,hT0⟩:=TU hl;obtain⟨q0,q1,hq⟩:=BX.o w2 (KA.o.trans k2);have cl:=CR.o w2 k2;unfold jY at cl;rw[hl]at cl;dsimp only at cl;have L2:=γ (θ hob (θ htx (θ hnt (θ k2 (θ hT0 hok)))));clear hob hbi hn hpar hmi htx hnt k2 hT0 hok hl;go_wp2_with fail;(with_reducible refine cl.mono ?_);clear cl q0 q1 hq;rintro e w3 ⟨br,tv,pr,mr,rfl,Vt,hbr,hrow,hB,hm,-,htb,k3⟩;have S3:=γ (jL.start L2.o.2.2.2.2.1 (H.o.2.1.pure K1.o).DZ H.o.2.2.2.2.2.2.2.2 L2.o.1 L2.o.2.1 L2.o.2.2.1 L2.o.2.2.2.1 Vt hbr hrow hm htb k3);have hok:=L2.o.2.2.2.2.2;have fU:=γ hok;clear Vt hbr hrow hB hm htb k3 L2 CR BX HSM KA hok;go_wp2_with fail;go_loopg [42] R.length (fun g vi wr=> ∃(k:Nat)(Ts:Tabs),k<=R.length/\vi= .int .i64 (k:Int)/\R.length-k<=g/\jL w1 (br+1) bi mi br j (.slice Fe j.nodes.length yg) tv pi pr Ts Ts wr)
   case atStart=>exact⟨0,Ts0,by omega,rfl,by omega,S3.o⟩
   case round=>
    obtain⟨k,Ts,hkl,rfl,hg,hb⟩:=hrel;by_cases hlt:k<R.length
    ·obtain⟨r,hrk⟩: ∃r,R[k]?=some r:=⟨_,ι hlt⟩
     obtain⟨b,off,rfl,hc⟩:=H.o.2.2.2.2.2.1.resolve_left (fun h=>by rw[h]at hlt;simp at hlt);obtain⟨c0,c1,c2⟩:=(hc k r hrk).pure (K1.o.trans hb.kp);have hro:=H.o.2.2.2.2.2.2.1 r (ς hrk);have fo:=EW fU.o H.o.2.2.2.2.2.2.2.1 hb.okI hro.key hro.val;obtain⟨T2,O,hO,hT2⟩: ∃T2 O,(iF j.nodes Ts r.key r.val).1=O/\(iF j.nodes Ts r.key r.val).2=T2:=⟨_,_,rfl,rfl⟩;rw[hO,hT2]at fo;have ka:ε η wr (wr.alloc (.cells #[.int .i64 r.pos,.int .i64 r.key,.int .i64 r.val] 68)):=δ.alloc _;have nB:(wr.alloc (.cells #[.int .i64 r.pos,.int .i64 r.key,.int .i64 r.val] 68)).heap[wr.heap.size]?=some (.cells #[.int .i64 r.pos,.int .i64 r.key,.int .i64 r.val] 68 (0,0)):=heap_alloc_new _ _;obtain⟨WA,zn⟩:=acf (wr.alloc (.cells #[.int .i64 r.pos,.int .i64 r.key,.int .i64 r.val] 68));rw[zn]at ka nB;have hbD:=hb.pure (ka.trans (ε.refl η WA).drew);have cf:=JE (fun q=> ¬uj Ts pr q) j bi mi Ts pi r.key r.val WA.drew hbD.idl hbD.tx fU.o H.o.2.2.2.2.2.2.2.1 hbD.okI hro.key hro.val;have X:=γ (show WA.cell? ⟨wr.heap.size,1,none⟩=some (.int .i64 r.key)/\WA.cell? ⟨wr.heap.size,2,none⟩=some (.int .i64 r.val)from⟨ζ nB rfl,ζ nB rfl⟩);have aeV: ∀q,nH Ts pi q->q<wr.heap.size:=fun q hq=>hb.tx.at_.Ic hq;have aeP: ∀q,uj Ts pr q->q<wr.heap.size:=fun q hq=>(hb.yZ.TS hq).2;have G:=γ (θ hg (θ hbD (θ fo (θ hro (θ hO (θ hT2 (θ aeV aeP)))))));clear hg hb hc hrk hro fo ka nB hbD hO hT2 aeV aeP;go_wp2_with fail;refine ak [0,1,2,3,4,6,7,8,9,10,5,11,12,13] (fun W=>ε (fun q=>q<wr.heap.size) WA W) (by kernel_rfl) (by kernel_rfl) rfl δ.drew ?_;simp only[abU];iterate 10 (apply aj rfl rfl;(intro W hW;have o0:=hW.cell (p:=⟨wr.heap.size,1,none⟩) (fun h=>Nat.lt_irrefl _ h) X.o.1;have o1:=hW.cell (p:=⟨wr.heap.size,2,none⟩) (fun h=>Nat.lt_irrefl _ h) X.o.2;go_simp;rfl);go_frame)
     apply aA rfl rfl;intro K hK;go_wp2_with fail;(with_reducible refine cf.mono ?_);clear cf;intro e W5 hq;obtain⟨⟨v1,rfl,hv1,hn1⟩,k5,hb5⟩:=G.o.2.1.ah6 hq G.o.2.2.2.2.2.1 G.o.2.2.1.1;clear hq;rw[G.o.2.2.2.2.1]at hv1;obtain⟨a1,cp1,rfl,_,_⟩:=hv1.len;have cf2:=X9 j br (br+1) _ tv Ts pr r.key r.val w1 W5 hb5.kp hb5.O5 hb5.DZ hb5.row hb5.yZ fU.o H.o.2.2.2.2.2.2.2.1 hb5.okR G.o.2.2.2.1.key G.o.2.2.2.1.val;have oQ:ε (fun q=>q<wr.heap.size) WA W5:=(δ.drew).trans (k5.mono (fun q _ h=>G.o.2.2.2.2.2.2.1 q h));have Z5:=γ (θ hv1 (θ hn1 (θ hb5 oQ)));clear hv1 hn1 hb5 k5 oQ;go_wp2_with fail;refine hK _ _ (fun _=>Z5.o.2.2.2) ?_;clear hK;apply aA rfl rfl;intro K hK;go_wp2_with fail;(with_reducible refine cf2.mono ?_);clear cf2;intro e W6 hq;obtain⟨⟨v2,rfl,hv2⟩,k6,hb6⟩:=Z5.o.2.2.1.ah5 hq G.o.2.2.2.2.2.1 G.o.2.2.1.1;clear hq;rw[G.o.2.2.2.2.1]at hv2;obtain⟨a2,cp2,rfl,_,_⟩:=hv2.len;have ce:=EY _ _ O O W6 (Z5.o.1.kept k6 (fun q hq=>Z5.o.2.1 q hq)) hv2;rw[SA]at ce;have Jr:ε (fun q=>q<wr.heap.size) WA W6:=Z5.o.2.2.2.trans (k6.mono (fun q _ h=>G.o.2.2.2.2.2.2.2 q h));have Z6:=γ (θ hb6 Jr);clear hv2 hb6 k6 Jr;go_wp2_with fail;refine hK _ _ (fun _=>Z6.o.2) ?_;clear hK;apply aA rfl rfl;intro K hK;go_wp2_with fail;(with_reducible refine ce.mono ?_);clear ce;rintro e W7 ⟨rfl,k7⟩;have Z7:=γ (θ (Z6.o.1.pure k7) (Z6.o.2.trans k7.pure));clear k7;go_wp2_with fail;refine hK _ _ (fun _=>Z7.o.2) ?_;clear hK;apply aj rfl rfl
     ·intro W hW;go_simp;rfl
     go_frame;refine aG (fun _=>Z7.o.2) ?_;clear c0 c1 c2;go_wp2_with fail;go_roundg (R.length-(k+1))
     case rel=>exact⟨k+1,T2,by omega,by go_num,ξ _,Z7.o.1⟩
     case measure=>have:=G.o.1;omega
    ·have hlen:Ts.length=j.nodes.length:=hb.okI.len
     have Il:j.nodes.length<=1000:=(by have:=(nU fU.o).1;unfold eF at this;simp only[Bool.or_eq_false_iff,decide_eq_false_iff_not]at this;omega);have cs:=UO j bi mi Ts pi wr hb.idl hlen Il;have HB:=γ hb;have HN:=γ (θ hlen Il);clear hb hlen Il;go_wp2_with fail;(with_reducible refine cs.mono ?_);clear cs;rintro e w4 ⟨v4,rfl,hv4,-,k4⟩;have cs:=Rt j br Ts tv pr w4 (HB.o.pure k4).ahx HN.o.1 HN.o.2;have K4:=γ (θ hv4 k4);obtain⟨xa,xc,rfl,x1,x2,-⟩:=hv4.zL;unfold maxLen at x2;clear hv4 k4;go_wp2_with fail;(with_reducible refine cs.mono ?_);clear cs;rintro e w5 ⟨v5,rfl,hv5,-,k5⟩;have ce:=ada _ _ _ _ w5 (K4.o.1.pure k5) hv5;rw[J8]at ce;have K5:=γ (K1.o.trans (HB.o.kp.trans (K4.o.2.trans k5)));obtain⟨ya,yc,rfl,y1,y2,-⟩:=hv5.zL;unfold maxLen at y2;clear hv5 k5;go_wp2_with fail;(with_reducible refine ce.mono ?_);clear ce;rintro e w6 ⟨rfl,k6⟩;have K6:=γ (K5.o.trans k6);have cw:=Bc w6 mx (K6.o.cell (p:=⟨0,0,none⟩) id H.o.1);clear k6;go_wp2_with fail;(with_reducible refine cw.mono ?_);clear cw;rintro e w7 ⟨rfl,k7⟩;have F:=γ (K6.o.trans k7);clear k7;go_wp2_with fail;go_ret;exact⟨rfl,F.o⟩
end
