/- ideal.Feed: its walk. -/
import Derived.Test.YtopeleenlcnkkaaGreatDoorX37
set_option linter.unusedVariables false
set_option linter.unusedSimpArgs false
set_option maxHeartbeats 4000000
set_option maxRecDepth 100000
namespace Go.Proofs.YtopeleenlcnkkaaGreatDoor
open Go Go.RowKit
attribute [local irreducible] bU
theorem GL (M:Nat->Prop)(j:Jb)(b m:Nat)(Ts:Tabs)(pm:Nat->Nat×Nat)(key val:Int)(w:World)(h:rV w b m j Ts pm)(hX:bV w M m Ts pm)(hj:bK j=true)(hR:JR j.nodes)(hT:dF j.nodes Ts)(hk:aI key)(hv:aI val):
 Calls Tryz.prog 23 #[.pointer (some ⟨b,0,none⟩), .int .i64 key, .int .i64 val] w (aap M w b m j Ts pm key val):=by
 have hrec:aU ⟨1,key,val⟩:=⟨.small (by simp) (by simp),hk,hv⟩
 obtain⟨⟨nv,hob,hn⟩,hpar,htb⟩:=h
 obtain⟨na,cap,rfl,h1,h2,h3⟩:=hn.at
 have h12:2<=j.nodes.length/\j.nodes.length<=12:=by
  have:=(kR hj).1
  unfold fZ at this
  simp only[Bool.or_eq_false_iff,decide_eq_false_iff_not]at this
  omega
 obtain⟨h12,h13⟩:=h12
 have x1:w.cell? ⟨b,1,none⟩=some (.slice na j.nodes.length cap):=cells_at hob rfl
 have x2:w.cell? ⟨b,2,none⟩=some (.map (some m)):=cells_at hob rfl
 have hbl:b<w.heap.size:=(Array.getElem?_eq_some_iff.1 hob).1
 have hml:=htb.lt
 obtain⟨W1,hmk,ZJ,k1⟩:=XK w j.nodes.length (by omega)
 have FO:=Lib.hid (Sm hj hR hT hrec rfl)
 have HJR:=Lib.hid hR
 have hnb: ¬lQ Ts pm b:=fun hs=>htb.uw hs _ _ _ hob
 have hnm: ¬lQ Ts pm m:=by
  rintro⟨i,T,hi,e⟩
  exact(htb.tab i T hi).2 e
 have y1:=k1.cell (fun h=>h) x1
 have y2:=k1.cell (fun h=>h) x2
 have H:=Lib.hid (And.intro hob (And.intro hn (And.intro hpar (And.intro htb (And.intro ZJ (And.intro k1 (And.intro hnb (And.intro hnm (And.intro (hX.of (mb:=w.heap.size) (Nat.le_refl _)) (And.intro h3 (And.intro hj (And.intro hrec hT))))))))))))
 clear hob hn hpar htb ZJ k1 hnb hnm h3 hj hR hT hX
 unfold maxLen at h2
 go_enter Tryz.func23,Tryz.ntmps23
 go_wp2
 clear x1 x2 hmk
 go_loopg [25] j.nodes.length (fun g vi wr=> ∃k:Nat,k<=j.nodes.length/\vi= .int .i64 (k:Int)/\j.nodes.length-k<=g/\je wr w.heap.size j.nodes.length (oO j.nodes ⟨1,key,val⟩ Ts k).1/\bV wr (fun q=>(M q\/w.heap.size<=q)/\q≠w.heap.size) m (oO j.nodes ⟨1,key,val⟩ Ts k).2 pm/\Kept (fun q=>lQ Ts pm q\/q=w.heap.size) W1 wr)
 case atStart=>exact⟨0,by omega,rfl,by omega,H.out.2.2.2.2.1,H.out.2.2.2.2.2.2.2.2.1.pure H.out.2.2.2.2.2.1,Kept.refl _ _⟩
 case round=>
  obtain⟨k,hkn,rfl,hg,hmd,htx,hkp⟩:=hrel
  obtain⟨wo,rfl⟩: ∃wo:World,wo=wr:=⟨_,rfl⟩
  have kw:Kept (lQ Ts pm) w wo:=H.out.2.2.2.2.2.1.pure.new hkp (fun i hi hs=>by rcases hs with hs|hs;exact hs;omega)
  have y1:=hkp.cell (p:=⟨b,1,none⟩) (by rintro(h|h);exact H.out.2.2.2.2.2.2.1 h;simp only at h;omega) y1
  have y2:=hkp.cell (p:=⟨b,2,none⟩) (by rintro(h|h);exact H.out.2.2.2.2.2.2.1 h;simp only at h;omega) y2
  have pI:=hmd.lt
  by_cases hlt:k<j.nodes.length
  ·obtain⟨d,hd⟩: ∃d,j.nodes[k]?=some d:=⟨_,List.getElem?_eq_getElem hlt⟩
   obtain⟨nb,off,pi,ci,p,cap',rfl,hc,hjn⟩:=H.out.2.2.2.2.2.2.2.2.2.1 k d hd
   have hjw:nG wo (bF d pi ci p cap') d:=hjn.kept kw (fun q hq=>H.out.2.2.2.1.uw hq)
   obtain⟨c0,c1,c2,c3,c4,c5,c6⟩:=hc.kept kw (fun hs=>by
    have:=H.out.2.2.2.1.uw hs
    have c0:=hc.c0
    unfold World.cell? at c0
    split at c0
    ·rename_i e;exact this _ _ _ e
    ·cases c0)
   have kA:Kept none' wo (wo.alloc (.cells (bF d pi ci p cap') 97)):=(Kept.refl _ _).alloc _
   have nB:(wo.alloc (.cells (bF d pi ci p cap') 97)).heap[wo.heap.size]?=some (.cells (bF d pi ci p cap') 97 (0,0)):=heap_alloc_new _ _
   have hF:=FO.out k (Nat.le_of_lt hlt)
   have VK:=Vz H.out.2.2.2.2.2.2.2.2.2.2.1 H.out.2.2.2.2.2.2.2.2.2.2.2.1 rfl hd hF
   have hstep:oO j.nodes ⟨1,key,val⟩ Ts (k+1)=_:=BZ hd ⟨1,key,val⟩ (oO j.nodes ⟨1,key,val⟩ Ts k)
   have hmay:=uh H.out.2.2.2.2.2.2.2.2.2.2.1 hd
   have hbw:b<wo.heap.size:=Nat.lt_of_lt_of_le hbl kw.size
   have hltI:(k:Int)<(j.nodes.length:Int):=by omega
   obtain⟨st,hst⟩: ∃st,oO j.nodes ⟨1,key,val⟩ Ts k=st:=⟨_,rfl⟩
   rw[hst]at hmd htx VK hstep hF
   have htl:st.2.length=j.nodes.length:=hF.tabs.len
   have HL:=Lib.hid hF.len
   have G5:=Lib.hid htl
   have HTB:=Lib.hid (show∀T,st.2.getD k none=some T->st.2[k]?=some (some T)from fun T h=>by
    rw[List.getD_eq_getElem?_getD]at h
    cases e:st.2[k]? with
    |none=>rw[e]at h;cases h
    |some t=>rw[e]at h;exact congrArg some h)
   have HPL:=Lib.hid (show st.2.getD k none=none->jB d.lZ.kind from fun h=>by
    cases hs:stateful d.kind with
    |true=>
     obtain⟨T,hT,_⟩:=hF.tabs.has k d hd hs
     rw[List.getD_eq_getElem?_getD,hT]at h;cases h
    |false=>
     unfold stateful at hs
     simp at hs
     exact hs)
   have MP:=Lib.hid (show∀T,st.2.getD k none=some T->lQ Ts pm (pm k).2 from fun T h=>by
    have hs:=hF.tabs.not k d hd
    have hst2:stateful d.kind=true:=by
     cases e:stateful d.kind with
     |true=>rfl
     |false=>have:=hs e;rw[HTB.out T h]at this;cases this
    obtain⟨U,hU,_⟩:=H.out.2.2.2.2.2.2.2.2.2.2.2.2.has k d hd hst2
    exact⟨k,U,hU,rfl⟩)
   have GH:=Lib.hid hg
   have MD:=Lib.hid hmd
   have TX:=Lib.hid htx
   have KP:=Lib.hid hkp
   have KA:=Lib.hid kA
   have NB:=Lib.hid nB
   have HS:=Lib.hid hstep
   have JW:=Lib.hid hjw
   have IO:=Lib.hid VK
   have HM:=Lib.hid hmay
   have hkA:b<(wo.alloc (.cells (bF d pi ci p cap') 97)).heap.size:=Nat.lt_of_lt_of_le hbw kA.size
   clear hg hmd htx hkp hstep VK hmay hF htl hjw hc hjn hst kw
   by_cases hk0:k=0
   ·have hin:jQ ⟨1,key,val⟩ d k st.1=[⟨1,key,val⟩]:=if_pos hk0
    have e0: ¬(0<k):=by omega
    have IN:=Lib.hid hin
    clear hin hk0 kA nB
    go_wp2_with fail
    obtain⟨W2,hW2⟩: ∃W2,(wo.alloc (.cells (bF d pi ci p cap') 97)).alloc (.cells #[.int .i64 1, .int .i64 key, .int .i64 val] 44)=W2:=⟨_,rfl⟩
    have kA2:Kept none' (wo.alloc (.cells (bF d pi ci p cap') 97)) W2:=by rw[<-hW2];exact(Kept.refl _ _).alloc _
    have kB:Kept none' wo W2:=KA.out.trans kA2
    have n2:=kA2.heap NB.out (fun h=>h)
    have hrd:Reads W2 3 (.slice (some ⟨wo.heap.size+1,0,none⟩) 1 1) (recs (jQ ⟨1,key,val⟩ d k st.1)):=by
     rw[IN.out,<-hW2]
     have:=Reads.lit (wo.alloc (.cells (bF d pi ci p cap') 97)) [.int .i64 1, .int .i64 key, .int .i64 val] 44 3 1 rfl (by unfold maxLen;omega)
     rwa[World.size_alloc]at this
    have acT:((wo.alloc (.cells #[.string d.uid, .int .u8 d.kind, .slice pi d.ins.length ci, .int .u8 d.x.op, .int .i64 d.x.n, .slice p d.x.args.length cap', .int .i64 d.n] 97)).alloc (.cells #[.int .i64 1, .int .i64 key, .int .i64 val] 44))=W2:=hW2
    try rw[acT]
    clear c0 c1 c2 c3 c4 c5 c6 e0
    clear hW2 acT kA2 hkA
    have YB1:=kB.cell (p:=⟨b,1,none⟩) (fun h=>h) y1
    have Xe:=kB.cell (p:=⟨b,2,none⟩) (fun h=>h) y2
    have Vf:=MD.out.pure kB
    have Um:=TX.out.pure kB
    have kD:Kept none' W2 W2.drew:=(Kept.refl _ _).drew
    have hmB:m<W2.heap.size:=Nat.lt_of_lt_of_le hml (Nat.le_trans (Nat.le_trans H.out.2.2.2.2.2.1.size KP.out.size) kB.size)
    have afE:wo.heap.size<W2.heap.size:=(Array.getElem?_eq_some_iff.1 n2).1
    have afz:b<W2.heap.size:=Nat.lt_of_lt_of_le hbw kB.size
    have Nk:w.heap.size<W2.heap.size:=Nat.lt_of_lt_of_le pI kB.size
    have KB:=Lib.hid kB
    have Xh:=Lib.hid Vf
    have sW:=Lib.hid Um
    have RD:=Lib.hid hrd
    have N2:=Lib.hid n2
    have KD:=Lib.hid kD
    clear kB Vf Um hrd n2 kD y1 y2
    cases hst:st.2.getD k none with
    |none=>
     have hpl:=Lib.hid (HPL.out hst)
     have hout:=Lib.hid (show st.2.set k ((st.2.getD k none).map fun _=>(aN d.lZ ((st.2.getD k none).getD []) (jQ ⟨1,key,val⟩ d k st.1)).2)=st.2 by
      have hk':st.2[k]?=some none:=by
       rw[List.getD_eq_getElem?_getD]at hst
       cases e:st.2[k]? with
       |none=>have:=List.getElem?_eq_none_iff.1 e;have:=G5.out;omega
       |some t=>rw[e]at hst;rw[show t=none from hst]
      rw[hst]
      apply List.ext_getElem?
      intro i
      by_cases hi:k=i
      ·subst hi
       rw[hk']
       exact List.getElem?_set_self (by rw[G5.out];exact hlt)
      ·rw[List.getElem?_set_ne hi])
     have HG:=Lib.hid hst
     clear hst
     refine ak [0,1,2,3,4,5,6,7,8,9,10,11,12] (fun W=>Kept none' W2 W) (by kernel_rfl) (by kernel_rfl) rfl KD.out ?_
     simp only[List.map_cons,List.map_nil,List.getElem?_toArray,List.getElem?_cons_zero,List.getElem?_cons_succ,Option.getD_some]
     iterate 10 (apply aj rfl rfl;(intro W hW;have q2:=hW.cell (p:=⟨b,2,none⟩) (fun h=>h) Xe;have nW:=hW.heap N2.out (fun h=>h);have m0:=cells_at nW (j:=0) rfl;have m1:=cells_at nW (j:=1) rfl;have m2:=cells_at nW (j:=2) rfl;have m3:=cells_at nW (j:=3) rfl;have m4:=cells_at nW (j:=4) rfl;have m5:=cells_at nW (j:=5) rfl;have m6:=cells_at nW (j:=6) rfl;have hlk:=sW.out.at_.look1 hW (fun h=>h) k (by rw[G5.out];exact hlt);rw[HG.out]at hlk;simp only[jP,Option.map_none,Option.getD_none]at hlk;clear nW;go_simp;rfl);go_frame)
     apply aA rfl rfl
     intro K hK
     go_wp2_with fail
     (with_reducible refine(FD _ d.lZ (.pointer none) _ _ _ ((JW.out.lZ.pure KB.out).pure KD.out) hpl.out (RD.out.pure KD.out) IO.out.1 (by have:=IO.out.2.2.2.1;omega) ⟨_,rfl⟩).mono ?_)
     rintro e w5 ⟨v,rfl,hv,hvb,k5⟩
     obtain⟨va,vc,rfl⟩:=hv.slice_form
     go_wp2_with fail
     refine hK _ _ (fun _=>KD.out.trans k5) ?_
     clear hK
     apply aj rfl rfl
     ·intro W hW;go_simp;rfl
     go_frame
     have kk:=KD.out.trans k5
     have md5:=Xh.out.pure kk
     obtain⟨⟨u5,hu5⟩,hf5⟩:=md5.free hlt
     have s5:=md5.store (by rw[HL.out];exact hlt) hv (fun q hq=>Nat.lt_of_lt_of_le Nk (hvb q hq))
     rw[HL.out]at s5
     have Z:=Lib.hid (And.intro s5 (And.intro ((sW.out.pure kk).store (fun h=>h.2 rfl) (by omega) s5.2) ((KP.out.new (KB.out.trans kk) (fun _ _ h=>h.elim)).new s5.2 (fun i hi hs=> .inr hs))))
     clear s5 kk md5 hv hvb k5
     apply aA rfl rfl
     intro K2 hK2
     go_wp2_with fail
     refine hK2 _ _ (fun h=>absurd rfl h) (iK (by kernel_rfl) ?_)
     clear hK2
     go_wp2_with fail
     go_roundg (j.nodes.length-(k+1))
     case rel=>exact⟨k+1,by omega,by go_num,Nat.le_refl _,by rw[HS.out];simp only[HG.out,Option.getD_none];exact Z.out.1.1,by rw[HS.out];show bV _ _ _ (st.2.set k _) pm;rw[hout.out];exact Z.out.2.1,Z.out.2.2⟩
     case measure=>have:=GH.out;omega
    |some T=>
     have wC:=HTB.out T hst
     have hq:=(sW.out.at_.tab k T wC).2
     have VE:(pm k).2≠b:=fun e=>(sW.out.at_.tab k T wC).1.jK _ _ _ (e▸(KB.out.heap (KP.out.heap (H.out.2.2.2.2.2.1.heap H.out.1 (fun h=>h)) (by rintro(h|h);exact H.out.2.2.2.2.2.2.1 h;exact absurd h (by omega))) (fun h=>h)))
     have Qb:(pm k).2≠wo.heap.size:=fun e=>(sW.out.at_.tab k T wC).1.jK _ _ _ (e▸N2.out)
     have HG:=Lib.hid hst
     have G6:=Lib.hid wC
     have HQ:=Lib.hid (And.intro hq (And.intro VE Qb))
     clear hst wC hq VE Qb
     refine ak [0,1,2,3,4,5,6,7,8,9,10,11,12] (fun W=>Kept (one (pm k).2) W2 W) (by kernel_rfl) (by kernel_rfl) rfl KD.out.pure ?_
     simp only[List.map_cons,List.map_nil,List.getElem?_toArray,List.getElem?_cons_zero,List.getElem?_cons_succ,Option.getD_some]
     iterate 10 (apply aj rfl rfl;(intro W hW;have q2:=hW.cell (p:=⟨b,2,none⟩) (fun h=>HQ.out.2.1 h.symm) Xe;have nW:=hW.heap N2.out (fun h=>HQ.out.2.2 h.symm);have m0:=cells_at nW (j:=0) rfl;have m1:=cells_at nW (j:=1) rfl;have m2:=cells_at nW (j:=2) rfl;have m3:=cells_at nW (j:=3) rfl;have m4:=cells_at nW (j:=4) rfl;have m5:=cells_at nW (j:=5) rfl;have m6:=cells_at nW (j:=6) rfl;have hlk:=sW.out.at_.look1 hW (fun h=>HQ.out.1 h.symm) k (by rw[G5.out];exact hlt);rw[HG.out]at hlk;simp only[jP,Option.map_some,Option.getD_some]at hlk;clear nW;go_simp;rfl);go_frame)
     apply aA rfl rfl
     intro K hK
     go_wp2_with fail
     (with_reducible refine(Qo _ d.lZ (pm k).1 (pm k).2 T (fun q=>(M q\/w.heap.size<=q)/\q≠w.heap.size) _ _ _ ((JW.out.lZ.pure KB.out).pure KD.out) (RD.out.pure KD.out) IO.out.1 (by have:=IO.out.2.2.2.1;omega) ((sW.out.out k T G6.out).pure KD.out)).mono ?_)
     rintro e w5 ⟨v,rfl,hv,hvb,VD,k5⟩
     obtain⟨va,vc,rfl⟩:=hv.slice_form
     go_wp2_with fail
     refine hK _ _ (fun _=>KD.out.pure.trans k5) ?_
     clear hK
     apply aj rfl rfl
     ·intro W hW;go_simp;rfl
     go_frame
     have kk:Kept (one (pm k).2) W2 w5:=KD.out.pure.trans k5
     have afC:(pm k).2<w.heap.size:=H.out.2.2.2.1.P5 (MP.out T HG.out)
     have md5:=Xh.out.fH kk (fun q hq=>by unfold one at hq;omega)
     obtain⟨⟨u5,hu5⟩,hf5⟩:=md5.free hlt
     have s5:=md5.store (by rw[HL.out];exact hlt) hv (fun q hq=>Nat.lt_of_lt_of_le Nk (hvb q hq))
     rw[HL.out]at s5
     have Un:=sW.out.turn G6.out kk (VD.mono (fun q hq _=>by rcases hq with hq|hq;exact hq;exact⟨.inr (by have:W2.drew.heap.size=W2.heap.size:=rfl;omega),by have:W2.drew.heap.size=W2.heap.size:=rfl;omega⟩))
     have Z:=Lib.hid (And.intro s5 (And.intro (Un.store (fun h=>h.2 rfl) (by omega) s5.2) (((KP.out.new KB.out (fun _ _ h=>h.elim)).new kk (fun i hi hs=> .inl (by unfold one at hs;rw[hs];exact MP.out T HG.out))).new s5.2 (fun i hi hs=> .inr hs))))
     clear s5 kk md5 hv hvb k5 Un VD
     apply aA rfl rfl
     intro K2 hK2
     go_wp2_with fail
     refine hK2 _ _ (fun h=>absurd rfl h) (iK (by kernel_rfl) ?_)
     clear hK2
     go_wp2_with fail
     go_roundg (j.nodes.length-(k+1))
     case rel=>exact⟨k+1,by omega,by go_num,Nat.le_refl _,by rw[HS.out];simp only[HG.out,Option.getD_some];exact Z.out.1.1,by rw[HS.out];simp only[HG.out,Option.getD_some,Option.map_some];exact Z.out.2.1,Z.out.2.2⟩
     case measure=>have:=GH.out;omega
   ·have hin:jQ ⟨1,key,val⟩ d k st.1=jR d.kind (insOf d st.1):=if_neg hk0
    have e0:0<k:=by omega
    have IN:=Lib.hid hin
    have HK0:=Lib.hid hk0
    have acy:=Lib.hid (IO.out.2.2.2.2 hk0)
    have ZH:Reads wo 1 (.slice pi d.ins.length ci) (ints d.ins):=by
     obtain⟨pi',ci',p',cap2,e,_,h3,_⟩:=JW.out
     have:=congrArg (fun a=>a[2]?) e
     simp at this
     obtain⟨rfl,rfl⟩:=this
     exact h3
    have RI:=Lib.hid ZH.adJ
    have hlci:d.ins.length<=1000:=by have:=HM.out.ins;omega
    clear hin hk0 kA nB ZH
    go_wp2_with fail
    clear c0 c1 c2 c3 c4 c5 c6 e0
    obtain⟨WA,Ar⟩: ∃WA,(wo.alloc (.cells (bF d pi ci p cap') 97)).alloc (.cells #[.int .i64 1, .int .i64 key, .int .i64 val] 44)=WA:=⟨_,rfl⟩
    have Aq:((wo.alloc (.cells #[.string d.uid, .int .u8 d.kind, .slice pi d.ins.length ci, .int .u8 d.x.op, .int .i64 d.x.n, .slice p d.x.args.length cap', .int .i64 d.n] 97)).alloc (.cells #[.int .i64 1, .int .i64 key, .int .i64 val] 44))=WA:=Ar
    have kA2:Kept none' (wo.alloc (.cells (bF d pi ci p cap') 97)) WA:=by rw[<-Ar];exact(Kept.refl _ _).alloc _
    have kA3:=KA.out.trans kA2
    have n3:=kA2.heap NB.out (fun h=>h)
    clear KA NB hkA
    have KA:=Lib.hid kA3
    have NB:=Lib.hid n3
    try rw[Aq]
    clear Ar Aq kA2 kA3 n3
    go_loopg [11,45] d.ins.length (fun g vr vi wq=> ∃(i:Nat)(vs:List Value),i<=d.ins.length/\vi= .int .i64 (i:Int)/\d.ins.length-i<=g/\wq.ownsRow WA.heap.size 42 1 vr i vs/\(∀(q:Nat)(u:Value),vs[q]?=some u-> ∃L,(insOf d st.1)[q]?=some L/\Reads WA 3 u (recs L))/\Kept none' WA wq)
    case atStart=>exact⟨0,[],by omega,rfl,by omega,World.ownsRow_nil _ _ _ _,fun q u h=>by simp at h,Kept.refl _ _⟩
    case round=>
     obtain⟨i,vs,hin,rfl,hgi,hown,hvs,hkq⟩:=hrel
     obtain⟨Zp,Zo,rfl⟩:=ay hown
     by_cases hil:i<d.ins.length
     ·obtain⟨x,hx⟩: ∃x,d.ins[i]?=some x:=⟨_,List.getElem?_eq_getElem hil⟩
      obtain⟨hx0,hxk⟩:=HM.out.low x (List.mem_of_getElem? hx)
      obtain⟨q,rfl⟩:=Int.eq_ofNat_of_zero_le hx0
      obtain⟨bi,X4,rfl,hci⟩:=RI.out.resolve_left (fun h=>by rw[h]at hx;cases hx)
      have kq:Kept none' wo wr:=KA.out.trans hkq
      have z0:=kq.cell (fun h=>h) (hci i _ hx)
      obtain⟨L,hL⟩: ∃L,st.1[q]?=some L:=⟨_,List.getElem?_eq_getElem (by rw[HL.out];omega)⟩
      obtain⟨u,hu,BU,hub⟩:=(MD.out.pure kq).cell (by rw[HL.out];omega) hL
      obtain⟨ua,uc,rfl⟩:=BU.slice_form
      obtain⟨u0,hu0,ab9,_⟩:=(MD.out.pure KA.out).cell (by rw[HL.out];omega) hL
      have Qb:(q:Int)<(j.nodes.length:Int):=by omega
      obtain⟨dS,w',g1,g2,g3⟩:=XT hown (u:= .slice ua L.length uc) rfl hkq.size (by omega)
      obtain⟨a2,cc2,rfl⟩:=ay g2
      have hLi:(insOf d st.1)[i]?=some L:=by
       unfold insOf
       rw[List.getElem?_map,hx]
       simp only[Option.map_some,Int.toNat_natCast,List.getD_eq_getElem?_getD,hL,Option.getD_some]
      have hlen:vs.length=i:=by have:=hown.1;omega
      have Z:=Lib.hid (And.intro g1 (And.intro g2 (And.intro (hkq.new g3 (fun k hk hs=>by omega)) (And.intro hgi (show∀(q:Nat)(u:Value),(vs++[Value.slice ua L.length uc])[q]?=some u-> ∃L,(insOf d st.1)[q]?=some L/\Reads WA 3 u (recs L)from by
       intro q2 u2 hu2
       by_cases hq2:q2<vs.length
       ·rw[List.getElem?_append_left hq2]at hu2
        exact hvs q2 u2 hu2
       ·have:q2=vs.length:=by have:=(List.getElem?_eq_some_iff.1 hu2).1;simp at this;omega
        subst this
        rw[List.getElem?_append_right (Nat.le_refl _),Nat.sub_self]at hu2
        cases hu2
        refine⟨L,by rw[hlen];exact hLi,?_⟩
        have he:some u0=some (Value.slice ua L.length uc):=by rw[<-hu,<-hkq.cell (fun h=>h) hu0]
        cases he
        exact ab9)))))
      clear g1 g2 g3 hkq hown hvs kq hci BU hub hu0 ab9 hLi hlen hL hgi
      go_wp2_with (at_builtin;refine gZ rfl (.tmp 49) (.tmp 54) 105 rfl _ _ _ rfl rfl Z.out.1 ?_)
      go_roundg (d.ins.length-(i+1))
      case rel=>exact⟨i+1,_,by omega,by go_num,Nat.le_refl _,Z.out.2.1,Z.out.2.2.2.2,Z.out.2.2.1⟩
      case measure=>have:=Z.out.2.2.2.1;omega
     ·have hie:i=d.ins.length:=by omega
      subst hie
      have hlen:vs.length=d.ins.length:=by have:=hown.1;omega
      have hr2:mJ wr (.slice Zp d.ins.length Zo) (insOf d st.1):=by
       refine⟨vs,by rw[hlen];unfold insOf;rw[List.length_map],Reads.aZ hown,fun q u L hu hL=>?_⟩
       obtain⟨L',h1,h2⟩:=hvs q u hu
       rw[hL]at h1
       cases h1
       exact h2.pure hkq
      have kq:Kept none' wo wr:=KA.out.trans hkq
      have cg:=YR _ d.lZ _ (insOf d st.1) wr (JW.out.lZ.pure kq) hr2 (by have:=acy.out.1;omega) (by have:=acy.out.2;omega)
      have nq:=hkq.heap NB.out (fun h=>h)
      have m0:=cells_at nq (j:=0) rfl
      have m1:=cells_at nq (j:=1) rfl
      have m2:=cells_at nq (j:=2) rfl
      have m3:=cells_at nq (j:=3) rfl
      have m4:=cells_at nq (j:=4) rfl
      have m5:=cells_at nq (j:=5) rfl
      have m6:=cells_at nq (j:=6) rfl
      have KQ:=Lib.hid (And.intro kq nq)
      clear hr2 hown hvs hkq kq nq
      go_wp2_with fail
      (with_reducible refine cg.mono ?_)
      clear cg m0 m1 m2 m3 m4 m5 m6
      rintro e W2 ⟨iv,rfl,YD,hblk,k2⟩
      obtain⟨iva,ivc,rfl⟩:=YD.slice_form
      have kB:Kept none' wo W2:=KQ.out.1.trans k2
      have n2:=k2.heap KQ.out.2 (fun h=>h)
      have hrd:Reads W2 3 (.slice iva (jR d.lZ.kind (insOf d st.1)).length ivc) (recs (jQ ⟨1,key,val⟩ d k st.1)):=by rw[IN.out];exact YD
      clear hblk k2 YD
      go_wp2_with fail
      have YB1:=kB.cell (p:=⟨b,1,none⟩) (fun h=>h) y1
      have Xe:=kB.cell (p:=⟨b,2,none⟩) (fun h=>h) y2
      have Vf:=MD.out.pure kB
      have Um:=TX.out.pure kB
      have kD:Kept none' W2 W2.drew:=(Kept.refl _ _).drew
      have hmB:m<W2.heap.size:=Nat.lt_of_lt_of_le hml (Nat.le_trans (Nat.le_trans H.out.2.2.2.2.2.1.size KP.out.size) kB.size)
      have afE:wo.heap.size<W2.heap.size:=(Array.getElem?_eq_some_iff.1 n2).1
      have afz:b<W2.heap.size:=Nat.lt_of_lt_of_le hbw kB.size
      have Nk:w.heap.size<W2.heap.size:=Nat.lt_of_lt_of_le pI kB.size
      have KB:=Lib.hid kB
      have Xh:=Lib.hid Vf
      have sW:=Lib.hid Um
      have RD:=Lib.hid hrd
      have N2:=Lib.hid n2
      have KD:=Lib.hid kD
      clear kB Vf Um hrd n2 kD y1 y2
      cases hst:st.2.getD k none with
      |none=>
       have hpl:=Lib.hid (HPL.out hst)
       have hout:=Lib.hid (show st.2.set k ((st.2.getD k none).map fun _=>(aN d.lZ ((st.2.getD k none).getD []) (jQ ⟨1,key,val⟩ d k st.1)).2)=st.2 by
        have hk':st.2[k]?=some none:=by
         rw[List.getD_eq_getElem?_getD]at hst
         cases e:st.2[k]? with
         |none=>have:=List.getElem?_eq_none_iff.1 e;have:=G5.out;omega
         |some t=>rw[e]at hst;rw[show t=none from hst]
        rw[hst]
        apply List.ext_getElem?
        intro i
        by_cases hi:k=i
        ·subst hi
         rw[hk']
         exact List.getElem?_set_self (by rw[G5.out];exact hlt)
        ·rw[List.getElem?_set_ne hi])
       have HG:=Lib.hid hst
       clear hst
       refine ak [0,1,2,3,4,5,6,7,8,9,10,11,12] (fun W=>Kept none' W2 W) (by kernel_rfl) (by kernel_rfl) rfl KD.out ?_
       simp only[List.map_cons,List.map_nil,List.getElem?_toArray,List.getElem?_cons_zero,List.getElem?_cons_succ,Option.getD_some]
       iterate 10 (apply aj rfl rfl;(intro W hW;have q2:=hW.cell (p:=⟨b,2,none⟩) (fun h=>h) Xe;have nW:=hW.heap N2.out (fun h=>h);have m0:=cells_at nW (j:=0) rfl;have m1:=cells_at nW (j:=1) rfl;have m2:=cells_at nW (j:=2) rfl;have m3:=cells_at nW (j:=3) rfl;have m4:=cells_at nW (j:=4) rfl;have m5:=cells_at nW (j:=5) rfl;have m6:=cells_at nW (j:=6) rfl;have hlk:=sW.out.at_.look1 hW (fun h=>h) k (by rw[G5.out];exact hlt);rw[HG.out]at hlk;simp only[jP,Option.map_none,Option.getD_none]at hlk;clear nW;go_simp;rfl);go_frame)
       apply aA rfl rfl
       intro K hK
       go_wp2_with fail
       (with_reducible refine(FD _ d.lZ (.pointer none) _ _ _ ((JW.out.lZ.pure KB.out).pure KD.out) hpl.out (RD.out.pure KD.out) IO.out.1 (by have:=IO.out.2.2.2.1;omega) ⟨_,rfl⟩).mono ?_)
       rintro e w5 ⟨v,rfl,hv,hvb,k5⟩
       obtain⟨va,vc,rfl⟩:=hv.slice_form
       go_wp2_with fail
       refine hK _ _ (fun _=>KD.out.trans k5) ?_
       clear hK
       apply aj rfl rfl
       ·intro W hW;go_simp;rfl
       go_frame
       have kk:=KD.out.trans k5
       have md5:=Xh.out.pure kk
       obtain⟨⟨u5,hu5⟩,hf5⟩:=md5.free hlt
       have s5:=md5.store (by rw[HL.out];exact hlt) hv (fun q hq=>Nat.lt_of_lt_of_le Nk (hvb q hq))
       rw[HL.out]at s5
       have Z:=Lib.hid (And.intro s5 (And.intro ((sW.out.pure kk).store (fun h=>h.2 rfl) (by omega) s5.2) ((KP.out.new (KB.out.trans kk) (fun _ _ h=>h.elim)).new s5.2 (fun i hi hs=> .inr hs))))
       clear s5 kk md5 hv hvb k5
       apply aA rfl rfl
       intro K2 hK2
       go_wp2_with fail
       refine hK2 _ _ (fun h=>absurd rfl h) (iK (by kernel_rfl) ?_)
       clear hK2
       go_wp2_with fail
       go_roundg (j.nodes.length-(k+1))
       case rel=>exact⟨k+1,by omega,by go_num,Nat.le_refl _,by rw[HS.out];simp only[HG.out,Option.getD_none];exact Z.out.1.1,by rw[HS.out];show bV _ _ _ (st.2.set k _) pm;rw[hout.out];exact Z.out.2.1,Z.out.2.2⟩
       case measure=>have:=GH.out;omega
      |some T=>
       have wC:=HTB.out T hst
       have hq:=(sW.out.at_.tab k T wC).2
       have VE:(pm k).2≠b:=fun e=>(sW.out.at_.tab k T wC).1.jK _ _ _ (e▸(KB.out.heap (KP.out.heap (H.out.2.2.2.2.2.1.heap H.out.1 (fun h=>h)) (by rintro(h|h);exact H.out.2.2.2.2.2.2.1 h;exact absurd h (by omega))) (fun h=>h)))
       have Qb:(pm k).2≠wo.heap.size:=fun e=>(sW.out.at_.tab k T wC).1.jK _ _ _ (e▸N2.out)
       have HG:=Lib.hid hst
       have G6:=Lib.hid wC
       have HQ:=Lib.hid (And.intro hq (And.intro VE Qb))
       clear hst wC hq VE Qb
       refine ak [0,1,2,3,4,5,6,7,8,9,10,11,12] (fun W=>Kept (one (pm k).2) W2 W) (by kernel_rfl) (by kernel_rfl) rfl KD.out.pure ?_
       simp only[List.map_cons,List.map_nil,List.getElem?_toArray,List.getElem?_cons_zero,List.getElem?_cons_succ,Option.getD_some]
       iterate 10 (apply aj rfl rfl;(intro W hW;have q2:=hW.cell (p:=⟨b,2,none⟩) (fun h=>HQ.out.2.1 h.symm) Xe;have nW:=hW.heap N2.out (fun h=>HQ.out.2.2 h.symm);have m0:=cells_at nW (j:=0) rfl;have m1:=cells_at nW (j:=1) rfl;have m2:=cells_at nW (j:=2) rfl;have m3:=cells_at nW (j:=3) rfl;have m4:=cells_at nW (j:=4) rfl;have m5:=cells_at nW (j:=5) rfl;have m6:=cells_at nW (j:=6) rfl;have hlk:=sW.out.at_.look1 hW (fun h=>HQ.out.1 h.symm) k (by rw[G5.out];exact hlt);rw[HG.out]at hlk;simp only[jP,Option.map_some,Option.getD_some]at hlk;clear nW;go_simp;rfl);go_frame)
       apply aA rfl rfl
       intro K hK
       go_wp2_with fail
       (with_reducible refine(Qo _ d.lZ (pm k).1 (pm k).2 T (fun q=>(M q\/w.heap.size<=q)/\q≠w.heap.size) _ _ _ ((JW.out.lZ.pure KB.out).pure KD.out) (RD.out.pure KD.out) IO.out.1 (by have:=IO.out.2.2.2.1;omega) ((sW.out.out k T G6.out).pure KD.out)).mono ?_)
       rintro e w5 ⟨v,rfl,hv,hvb,VD,k5⟩
       obtain⟨va,vc,rfl⟩:=hv.slice_form
       go_wp2_with fail
       refine hK _ _ (fun _=>KD.out.pure.trans k5) ?_
       clear hK
       apply aj rfl rfl
       ·intro W hW;go_simp;rfl
       go_frame
       have kk:Kept (one (pm k).2) W2 w5:=KD.out.pure.trans k5
       have afC:(pm k).2<w.heap.size:=H.out.2.2.2.1.P5 (MP.out T HG.out)
       have md5:=Xh.out.fH kk (fun q hq=>by unfold one at hq;omega)
       obtain⟨⟨u5,hu5⟩,hf5⟩:=md5.free hlt
       have s5:=md5.store (by rw[HL.out];exact hlt) hv (fun q hq=>Nat.lt_of_lt_of_le Nk (hvb q hq))
       rw[HL.out]at s5
       have Un:=sW.out.turn G6.out kk (VD.mono (fun q hq _=>by rcases hq with hq|hq;exact hq;exact⟨.inr (by have:W2.drew.heap.size=W2.heap.size:=rfl;omega),by have:W2.drew.heap.size=W2.heap.size:=rfl;omega⟩))
       have Z:=Lib.hid (And.intro s5 (And.intro (Un.store (fun h=>h.2 rfl) (by omega) s5.2) (((KP.out.new KB.out (fun _ _ h=>h.elim)).new kk (fun i hi hs=> .inl (by unfold one at hs;rw[hs];exact MP.out T HG.out))).new s5.2 (fun i hi hs=> .inr hs))))
       clear s5 kk md5 hv hvb k5 Un VD
       apply aA rfl rfl
       intro K2 hK2
       go_wp2_with fail
       refine hK2 _ _ (fun h=>absurd rfl h) (iK (by kernel_rfl) ?_)
       clear hK2
       go_wp2_with fail
       go_roundg (j.nodes.length-(k+1))
       case rel=>exact⟨k+1,by omega,by go_num,Nat.le_refl _,by rw[HS.out];simp only[HG.out,Option.getD_some];exact Z.out.1.1,by rw[HS.out];simp only[HG.out,Option.getD_some,Option.map_some];exact Z.out.2.1,Z.out.2.2⟩
       case measure=>have:=GH.out;omega
  ·have e1:k=j.nodes.length:=by omega
   subst e1
   have hF:=FO.out j.nodes.length (Nat.le_refl _)
   obtain⟨n1,hn1⟩: ∃n1,j.nodes.length=n1+1:=⟨j.nodes.length-1,by omega⟩
   obtain⟨L,hL⟩: ∃L,(oO j.nodes ⟨1,key,val⟩ Ts j.nodes.length).1[n1]?=some L:=⟨_,List.getElem?_eq_getElem (by rw[hF.len];omega)⟩
   obtain⟨u,hu,BU,hub⟩:=hmd.cell (by rw[hF.len];omega) hL
   obtain⟨ua,uc,rfl⟩:=BU.slice_form
   have hfeed:(fU j.nodes Ts key val).1=dM L:=by
    unfold fU
    simp only
    rw[show j.nodes.length-1=n1 by omega,List.getD_eq_getElem?_getD,hL]
    rfl
   have hfew:L.length<=64:=by
    have:=(uZ H.out.2.2.2.2.2.2.2.2.2.2.1 HJR.out H.out.2.2.2.2.2.2.2.2.2.2.2.2 hrec.key hrec.val).2.2.2
    rw[hfeed,mQ]at this
    exact this
   have cm:=merge_any _ [L] _ (mJ.one BU) (by simp;omega)
   rw[show([L]:List (List Rec)).flatten=L by simp]at cm
   have F:=Lib.hid (show∀v w',Kept none' wo w'->Reads w' 3 v (recs (dM L))->(∀q,Value.blk v=some q->wo.heap.size<=q)->aap M w b m j Ts pm key val (.returned v) w' from fun v w' hk h1 h2=>
    ⟨v,rfl,by rw[hfeed];exact h1,fun q hq=>Nat.le_trans (Nat.le_of_lt pI) (h2 q hq),⟨⟨_,hk.heap (kw.heap H.out.1 H.out.2.2.2.2.2.2.1) (fun h=>h),(H.out.2.1.kept kw (fun q hq=>H.out.2.2.2.1.uw hq)).pure hk⟩,H.out.2.2.1,htx.at_.pure hk⟩,kw.new hk (fun _ _ h=>h.elim),(htx.pure hk).mono (fun k hk _=>hk.1)⟩)
   have ew:IntKind.i64.wrap ((j.nodes.length:Int)-1)=(n1:Int):=by rw[IntKind.wrap_i64];omega
   have ew2:((j.nodes.length:Int)-1)=(n1:Int):=by omega
   have hn2:(n1:Int)<(j.nodes.length:Int):=by omega
   clear hg hmd htx hkp kw hF BU hub hL hfeed
   go_wp2_with fail
   (with_reducible refine cm.mono ?_)
   clear cm
   rintro e w2 ⟨v,rfl,hv,hvb,k2⟩
   have F2:=Lib.hid (F.out v w2 (((Kept.refl none' wo).alloc _).trans k2) hv (fun q hq=>by have:=hvb q hq;rw[World.size_alloc]at this;omega))
   obtain⟨va,vc,rfl⟩:=hv.slice_form
   clear hv hvb k2 F
   go_wp2_with fail
   go_ret
   exact F2.out
end Go.Proofs.YtopeleenlcnkkaaGreatDoor
