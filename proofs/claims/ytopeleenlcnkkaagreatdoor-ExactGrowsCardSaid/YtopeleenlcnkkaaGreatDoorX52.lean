/- The law ExactGrows: what a course comes to grows at its end alone. -/
import Derived.Test.YtopeleenlcnkkaaGreatDoorX46
set_option linter.unusedVariables false
set_option linter.unusedSimpArgs false
set_option maxHeartbeats 4000000
set_option maxRecDepth 100000
namespace Go.Proofs.YtopeleenlcnkkaaGreatDoor
open Go Go.RowKit
attribute [local irreducible] bU dL H2.cZ
theorem UN {first:Jb}{ts:List Turn}{l:List (Int×Int)}{n:Nat}(hn:n<=l.length){r:Now×List Rec}(h:gG first ts l n= .ok r): ∃s M,gG first ts l l.length= .ok (s,r.2++M):=by
 obtain⟨_,_,hc,_⟩:=Gi h
 exact⟨_,_,by rw[E8 hn hc,h]⟩
theorem OG (O M:List Rec){k:Nat}(hk:k<2): ∃l m,(eF O)[k]?=some l/\(eF (O++M))[k]?=some (l++m):=by
 unfold eF
 rw[o8,o8]
 match k,hk with
 |0,_=>exact⟨_,_,rfl,rfl⟩
 |1,_=>exact⟨_,_,rfl,rfl⟩
def adV (w:World)(r:Except Int (Now×List Rec))(e:Ending)(w':World):Prop:= ∃v n er,e= .returned (.tuple #[.slice v n n, .int .i64 er])/\(er=0↔ ∃x,r= .ok x)/\Kept none' w w'
theorem Bz.v {w w':World}{r:Except Int (Now×List Rec)}{e:Ending}(h:Bz w r e w'):adV w r e w':=by
 unfold Bz at h
 cases r with
 |error er=>
  obtain⟨he,hne,k⟩:=h
  exact⟨none,0,er,he,⟨fun h=>absurd h hne,fun⟨x,h⟩=>by cases h⟩,k⟩
 |ok x=>
  obtain⟨B,V,he,_,_,k,_⟩:=h
  exact⟨_,2,0,he,⟨fun _=>⟨x,rfl⟩,fun _=>rfl⟩,k⟩
theorem Ol (j:Jb)(a:Array Value)(tv rv:Value)(ts:List Turn)(R:List Rec)(at_:Int)(w:World)(mx:Int)(hm:w.cell? ⟨0,0,none⟩=some (.int .i64 mx))(h:bZ w a j)(ht:dB w tv ts)(hr:Reads w 3 rv (recs R))(hR: ∀r∈R,aU r):
 Calls Tryz.prog 13 #[.agg a,tv,rv, .int .i64 at_] w (Gives w (.bool true)):=by
 have hJ:=h
 obtain⟨v,rfl,hn,hp⟩:=h
 obtain⟨na,cap,rfl,h1,h2,h3⟩:=hn.at
 have kA:Kept none' w (w.alloc (.cells #[.int .i64 j.par, .slice na j.nodes.length cap] 24)):=(Kept.refl _ _).alloc _
 have tA:(w.alloc (.cells #[.int .i64 j.par, .slice na j.nodes.length cap] 24)).heap[w.heap.size]?=some (.cells #[.int .i64 j.par, .slice na j.nodes.length cap] 24 (0,0)):=heap_alloc_new _ _
 obtain⟨W0,hW0⟩: ∃W0,w.alloc (.cells #[.int .i64 j.par, .slice na j.nodes.length cap] 24)=W0:=⟨_,rfl⟩
 have ch:=yU j _ tv ts rv R W0 (by rw[<-hW0];exact hJ.pure kA) (by rw[<-hW0];exact ht.pure kA) (by rw[<-hW0];exact hr.pure kA)
 rw[hW0]at kA tA
 have x0:=cells_at tA (j:=0) (v:= .int .i64 j.par) rfl
 have x1:=cells_at tA (j:=1) (v:= .slice na j.nodes.length cap) rfl
 obtain⟨ra,nC,rfl,r1,r2,-⟩:=hr.recAt
 have HT:=ht
 obtain⟨ta,nP,Em,t1,t2,-⟩:=ht
 subst Em
 unfold maxLen at r2
 have H:=Lib.hid (And.intro hJ (And.intro hr (And.intro HT (And.intro hR (And.intro kA tA)))))
 have HM:=Lib.hid hm
 clear hJ hr hm hR kA tA h3 hn hp HT
 go_enter Tryz.func13,Tryz.ntmps13
 go_wp2_with fail
 clear hW0
 (with_reducible refine ch.mono ?_)
 clear ch
 rintro e w1 ⟨b,rfl,k1,hbn⟩
 cases b with
 |true=>
  have cw:=bI w1 mx ((H.out.2.2.2.2.1.trans k1).cell (p:=⟨0,0,none⟩) (fun h=>h) HM.out)
  have KW8:=Lib.hid (H.out.2.2.2.2.1.trans k1)
  clear k1 x0 x1 hbn
  go_wp2_with fail
  (with_reducible refine cw.mono ?_)
  clear cw
  rintro e wz8 ⟨rfl,kz8⟩
  have F8:=Lib.hid (KW8.out.trans kz8)
  clear kz8
  go_wp2_with fail
  go_ret
  exact⟨rfl,F8.out⟩
 |false=>
  have yY:R.length<=60:=(hbn rfl).2
  clear hbn
  by_cases hp1:at_<0
  ·skip
   have cw:=bI w1 mx ((H.out.2.2.2.2.1.trans k1).cell (p:=⟨0,0,none⟩) (fun h=>h) HM.out)
   have KW9:=Lib.hid (H.out.2.2.2.2.1.trans k1)
   clear k1 x0 x1
   go_wp2_with fail
   (with_reducible refine cw.mono ?_)
   clear cw
   rintro e wz9 ⟨rfl,kz9⟩
   have F9:=Lib.hid (KW9.out.trans kz9)
   clear kz9
   go_wp2_with fail
   go_ret
   exact⟨rfl,F9.out⟩
  by_cases hp2:(R.length:Int)<at_
  ·skip
   have cw:=bI w1 mx ((H.out.2.2.2.2.1.trans k1).cell (p:=⟨0,0,none⟩) (fun h=>h) HM.out)
   have af6:=Lib.hid (H.out.2.2.2.2.1.trans k1)
   clear k1 x0 x1
   go_wp2_with fail
   (with_reducible refine cw.mono ?_)
   clear cw
   rintro e wz10 ⟨rfl,abK⟩
   have F10:=Lib.hid (af6.out.trans abK)
   clear abK
   go_wp2_with fail
   go_ret
   exact⟨rfl,F10.out⟩
  obtain⟨n,rfl⟩:=Int.eq_ofNat_of_zero_le (show 0<=at_ by omega)
  have x0:=k1.cell (p:=⟨w.heap.size,0,none⟩) (fun h=>h) x0
  have x1:=k1.cell (p:=⟨w.heap.size,1,none⟩) (fun h=>h) x1
  have hB:w.heap.size<w1.heap.size:=by have:=block_lt_of_cell x0;simpa using this
  have wu:=H.out.2.2.2.2.1.trans k1
  have co:=pF j (.slice na j.nodes.length cap) (.slice ta ts.length nP) _ ts R (n:Int) w1 (H.out.1.pure wu) (H.out.2.2.1.pure wu) (H.out.2.1.pure wu) H.out.2.2.2.1 yY
  have K1:=Lib.hid wu
  clear k1 wu
  go_wp2_with fail
  (with_reducible refine co.mono ?_)
  clear co
  intro e w2 hq
  obtain⟨v1,n1,e1,rfl,he1,k2⟩:=hq.v
  have Q1:=Lib.hid (And.intro hq he1)
  have x0:=k2.cell (p:=⟨w.heap.size,0,none⟩) (fun h=>h) x0
  have x1:=k2.cell (p:=⟨w.heap.size,1,none⟩) (fun h=>h) x1
  have hB:w.heap.size<w2.heap.size:=by have:=block_lt_of_cell x0;simpa using this
  have qK:=K1.out.trans k2
  have co:=pF j (.slice na j.nodes.length cap) (.slice ta ts.length nP) _ ts R (R.length:Int) w2 (H.out.1.pure qK) (H.out.2.2.1.pure qK) (H.out.2.1.pure qK) H.out.2.2.2.1 yY
  have K2:=Lib.hid qK
  clear k2 qK hq he1
  go_wp2_with fail
  (with_reducible refine co.mono ?_)
  clear co x0 x1
  intro e w3 hq
  obtain⟨v2,n2,e2,rfl,he2,k3⟩:=hq.v
  have K3:=Lib.hid (K2.out.trans k3)
  by_cases hz1:e1=0
  ·subst hz1
   obtain⟨r,hr⟩:=Q1.out.2.1 rfl
   obtain⟨s,M,hr2⟩:=UN (n:=n) (by rw[List.length_map];omega) hr
   rw[List.length_map]at hr2
   have hz2:e2=0:=he2.2 ⟨_,hr2⟩
   subst hz2
   have q1:=Q1.out.1
   rw[hr]at q1
   rw[hr2]at hq
   obtain⟨B1,V1,he,ho1,-,-,-⟩:=q1
   injection he with he
   injection he with he
   simp only[Array.mk.injEq,List.cons.injEq,Value.slice.injEq,and_true]at he
   obtain⟨rfl,rfl,-⟩:=he
   obtain⟨B2,V2,he,ho2,-,-,-⟩:=hq
   injection he with he
   injection he with he
   simp only[Array.mk.injEq,List.cons.injEq,Value.slice.injEq,and_true]at he
   obtain⟨rfl,rfl,-⟩:=he
   have G:=Lib.hid (And.intro (ho1.pure k3) ho2)
   clear ho1 ho2 k3 he2 hr hr2
   go_wp2_with fail
   go_loopg [65] 2 (fun g vi wr=> ∃k:Nat,k<=2/\vi= .int .i64 (k:Int)/\2-k<=g/\Kept none' w3 wr)
   case atStart=>exact⟨0,by omega,rfl,by omega,Kept.refl _ _⟩
   case round=>
    obtain⟨wk,rfl⟩: ∃wk:World,wk=wr:=⟨_,rfl⟩
    obtain⟨k,hkl,rfl,hg,hkp⟩:=hrel
    by_cases hlt:k<2
    ·obtain⟨l,m,hl,hlm⟩:=OG r.2 M hlt
     have o1:=G.out.1.pure hkp
     have o2:=G.out.2.pure hkp
     obtain⟨u1,hu1⟩: ∃u,V1[k]?=some u:=⟨_,List.getElem?_eq_getElem (by rw[o1.len];exact(List.getElem?_eq_some_iff.1 hl).1)⟩
     obtain⟨u2,hu2⟩: ∃u,V2[k]?=some u:=⟨_,List.getElem?_eq_getElem (by rw[o2.len];exact(List.getElem?_eq_some_iff.1 hlm).1)⟩
     have w1':=o1.own k u1 l hu1 hl
     have w2':=o2.own k u2 (l++m) hu2 hlm
     obtain⟨a1,c1,hv1,l1,l2,l3⟩:=(Reads.aZ w1').Hq
     obtain⟨a2,c2,hv2,m1,m2,m3⟩:=(Reads.aZ w2').Hq
     obtain⟨L2,hL2⟩: ∃L2,(l++m).length=L2:=⟨_,rfl⟩
     have hle:l.length<=L2:=by rw[<-hL2,List.length_append];omega
     rw[hL2]at hv2 m1
     subst hv1 hv2
     unfold maxLen at l2 m2
     have y1:=cells_at o1.blk (j:=k) (v:= .slice a1 l.length c1) (by simpa using hu1)
     have y2:=cells_at o2.blk (j:=k) (v:= .slice a2 L2 c2) (by simpa using hu2)
     have hk2:(k:Int)<2:=by omega
     have hk3: ¬(2:Int)<=(k:Int):=by omega
     have hl3: ¬((L2:Int)<(l.length:Int)):=by omega
     have Z:=Lib.hid (And.intro hg (And.intro hkp (And.intro y2 (And.intro l3 (And.intro m3 hL2)))))
     clear hg hkp o1 o2 hu1 hu2 w1' w2' hl hlm l3 m3 hL2
     go_wp2_with fail
     refine ak [0,1,2,3,4,5,6,7,8,9,10,11,12,13,14,15,16] (fun W=>Kept none' wk W) (by kernel_rfl) (by kernel_rfl) rfl (Kept.refl _ _).drew ?_
     simp only[List.map_cons,List.map_nil,List.getElem?_toArray,List.getElem?_cons_zero,List.getElem?_cons_succ,Option.getD_some]
     iterate 3 (apply aj rfl rfl;(intro W hW;go_simp;rfl);go_frame)
     refine aj (v:= .bool false) rfl rfl (by intro W hW;go_simp;try(simp;try omega)) ?_
     go_frame
     iterate 11 (apply aj rfl rfl;(intro W hW;have q1:=hW.cell (p:=⟨B1,k,none⟩) (fun h=>h) y1;have q2:=hW.cell (p:=⟨B2,k,none⟩) (fun h=>h) y2;go_simp;rfl);go_frame)
     refine aj (v:= .bool false) rfl rfl (by intro W hW;go_simp;try(simp;try omega)) ?_
     go_frame
     apply aj rfl rfl
     ·intro W hW;go_simp;rfl
     go_frame
     refine aG (fun _=>(Kept.refl _ _).drew) ?_
     have y1:wk.drew.cell? ⟨B1,k,none⟩=some (.slice a1 l.length c1):=y1
     clear y2
     go_wp2_with fail
     clear y1
     go_loopg [90] l.length (fun g vi wr=> ∃i:Nat,i<=l.length/\vi= .int .i64 (i:Int)/\l.length-i<=g/\Kept none' wk wr)
     case atStart=>exact⟨0,by omega,rfl,by omega,(Kept.refl _ _).drew⟩
     case round=>
      obtain⟨wi,rfl⟩: ∃wi:World,wi=wr:=⟨_,rfl⟩
      obtain⟨i,hil,rfl,hgi,hki⟩:=hrel
      by_cases Fv:i<l.length
      ·obtain⟨x,hx⟩: ∃x,l[i]?=some x:=⟨_,List.getElem?_eq_getElem Fv⟩
       obtain⟨b1,f1,rfl,hc⟩:=Z.out.2.2.2.1.resolve_left (fun h=>by rw[h]at Fv;simp at Fv)
       obtain⟨b2,f2,rfl,hd⟩:=Z.out.2.2.2.2.1.resolve_left (fun h=>by have h2:=(List.append_eq_nil_iff.1 h).1;rw[h2]at Fv;simp at Fv)
       have hxm:(l++m)[i]?=some x:=by rw[List.getElem?_append_left Fv];exact hx
       have c0:=hki.cell (fun h=>h) (hc i x hx).1
       have c1':=hki.cell (fun h=>h) (hc i x hx).2
       have ka:Kept none' wi (wi.alloc (.cells #[.int .i64 x.1, .int .i64 x.2] 80)):=(Kept.refl _ _).alloc _
       have xB:=heap_alloc_new wi (.cells #[.int .i64 x.1, .int .i64 x.2] 80)
       obtain⟨W6,nJ⟩: ∃W6,wi.alloc (.cells #[.int .i64 x.1, .int .i64 x.2] 80)=W6:=⟨_,rfl⟩
       rw[nJ]at ka xB
       have z0:=cells_at xB (j:=0) (v:= .int .i64 x.1) rfl
       have z1:=cells_at xB (j:=1) (v:= .int .i64 x.2) rfl
       have k6:=hki.trans ka
       have q0:=k6.cell (fun h=>h) (hd i x hxm).1
       have q1:=k6.cell (fun h=>h) (hd i x hxm).2
       have q2:=k6.cell (fun h=>h) Z.out.2.2.1
       have hi2:i<L2:=by omega
       have Y:=Lib.hid (And.intro hgi k6)
       clear hgi hki hc hd hxm hx ka xB k6
       go_wp2_with fail
       try rw[nJ]
       clear nJ c0 c1'
       refine ak [0,1,2,3,4,5,6,7,8] (fun W=>Kept none' W6 W) (by kernel_rfl) (by kernel_rfl) rfl (Kept.refl _ _).drew ?_
       simp only[List.map_cons,List.map_nil,List.getElem?_toArray,List.getElem?_cons_zero,List.getElem?_cons_succ,Option.getD_some]
       iterate 8 (apply aj rfl rfl;(intro W hW;have e0:=hW.cell (fun h=>h) z0;have e1:=hW.cell (fun h=>h) z1;have e2:=hW.cell (fun h=>h) q0;have e3:=hW.cell (fun h=>h) q1;have e4:=hW.cell (fun h=>h) q2;go_simp;rfl);go_frame)
       refine aj (v:= .bool false) rfl rfl (by intro W hW;go_simp;try simp) ?_
       go_frame
       refine aG (fun _=>(Kept.refl _ _).drew) ?_
       clear z0 z1 q0 q1 q2
       go_wp2_with fail
       go_roundg (l.length-(i+1))
       case rel=>exact⟨i+1,by omega,by go_num,Nat.le_refl _,Y.out.2.drew⟩
       case measure=>have:=Y.out.1;omega
      ·have Y:=Lib.hid (Z.out.2.1.trans hki)
       clear hki hgi
       go_wp2_with fail
       go_roundg (2-(k+1))
       case rel=>exact⟨k+1,by omega,by go_num,Nat.le_refl _,Y.out⟩
       case measure=>have:=Z.out.1;omega
    ·skip
     have cw:=bI wk mx ((K3.out.trans hkp).cell (p:=⟨0,0,none⟩) (fun h=>h) HM.out)
     have af2:=Lib.hid (K3.out.trans hkp)
     clear hkp hg
     go_wp2_with fail
     (with_reducible refine cw.mono ?_)
     clear cw
     rintro e wz13 ⟨rfl,abH⟩
     have F13:=Lib.hid (af2.out.trans abH)
     clear abH
     go_wp2_with fail
     go_ret
     exact⟨rfl,F13.out⟩
  ·have hf2:True:=trivial
   clear hq he2 k3
   by_cases hz2:e2=0
   ·skip
    have cw:=bI w3 mx ((K3.out).cell (p:=⟨0,0,none⟩) (fun h=>h) HM.out)
    have af5:=Lib.hid (K3.out)
    clear hf2
    go_wp2_with fail
    (with_reducible refine cw.mono ?_)
    clear cw
    rintro e wz11 ⟨rfl,abJ⟩
    have F11:=Lib.hid (af5.out.trans abJ)
    clear abJ
    go_wp2_with fail
    go_ret
    exact⟨rfl,F11.out⟩
   ·have hb1:(e1 !=0)=true:=by simp[hz1]
    have hb2:(e2==0)=false:=by simp[hz2]
    have cw:=bI w3 mx ((K3.out).cell (p:=⟨0,0,none⟩) (fun h=>h) HM.out)
    have af4:=Lib.hid (K3.out)
    clear hf2
    go_wp2_with fail
    (with_reducible refine cw.mono ?_)
    clear cw
    rintro e wz12 ⟨rfl,abI⟩
    have F12:=Lib.hid (af4.out.trans abI)
    clear abI
    go_wp2_with fail
    go_ret
    exact⟨rfl,F12.out⟩
end Go.Proofs.YtopeleenlcnkkaaGreatDoor
