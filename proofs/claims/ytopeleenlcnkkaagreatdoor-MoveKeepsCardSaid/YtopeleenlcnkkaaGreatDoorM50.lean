/- The law MoveKeeps. -/
import Derived.Test.YtopeleenlcnkkaaGreatDoorM49
set_option linter.unusedVariables false
set_option linter.unusedSimpArgs false
set_option maxHeartbeats 4000000
set_option maxRecDepth 100000
namespace Go.Proofs.YtopeleenlcnkkaaGreatDoor
open Go Go.RowKit
attribute [local irreducible] bU dW H2.dG
theorem NG (a b:Jb)(va vb rv:Value)(R:List Rec)(w:World)(mx:Int)(hm:w.cell? ⟨0,0,none⟩=some (.int .i64 mx))(ha:gI w #[.int .i64 a.par,va] a)(hb:gI w #[.int .i64 b.par,vb] b)(hr:Reads w 3 rv (recs R))(hR: ∀r∈R,bg r):
 Calls Tryz.prog 11 #[.agg #[.int .i64 a.par,va], .agg #[.int .i64 b.par,vb],rv] w (Gives w (.bool true)):=by
 obtain⟨pO,oL,hva,-⟩:=ha.zy.at
 obtain⟨vb1,qA,hvb,-⟩:=hb.zy.at
 subst hva hvb
 have hjr:=ha.zy.jr
 have Le:=And.intro ha.zy.uids hb.zy.uids
 obtain⟨ra,o7,hre,r1,r2,r3⟩:=hr.recAt
 subst hre
 unfold maxLen at r2
 have kA:Kept none' w ((w.alloc (.cells #[.int .i64 a.par, .slice pO a.nodes.length oL] 24)).alloc (.cells #[.int .i64 b.par, .slice vb1 b.nodes.length qA] 24)):=((Kept.refl _ _).alloc _).alloc _
 have t0:((w.alloc (.cells #[.int .i64 a.par, .slice pO a.nodes.length oL] 24)).alloc (.cells #[.int .i64 b.par, .slice vb1 b.nodes.length qA] 24)).heap[w.heap.size]?=some (.cells #[.int .i64 a.par, .slice pO a.nodes.length oL] 24 (0,0)):=((Kept.refl none' _).alloc _).heap (heap_alloc_new w _) (fun h=>h)
 have t1:((w.alloc (.cells #[.int .i64 a.par, .slice pO a.nodes.length oL] 24)).alloc (.cells #[.int .i64 b.par, .slice vb1 b.nodes.length qA] 24)).heap[w.heap.size+1]?=some (.cells #[.int .i64 b.par, .slice vb1 b.nodes.length qA] 24 (0,0)):=by
  have:=heap_alloc_new (w.alloc (.cells #[.int .i64 a.par, .slice pO a.nodes.length oL] 24)) (.cells #[.int .i64 b.par, .slice vb1 b.nodes.length qA] 24)
  rwa[World.size_alloc]at this
 obtain⟨W1,hW1⟩: ∃W1,((w.alloc (.cells #[.int .i64 a.par, .slice pO a.nodes.length oL] 24)).alloc (.cells #[.int .i64 b.par, .slice vb1 b.nodes.length qA] 24))=W1:=⟨_,rfl⟩
 rw[hW1]at kA t0 t1
 have p0:=cells_at t0 (j:=0) (v:= .int .i64 a.par) rfl
 have p1:=cells_at t0 (j:=1) (v:= .slice pO a.nodes.length oL) rfl
 have ch:=zM a _ (.slice none 0 0) [] _ R W1 (ha.pure kA) (Reads.nil _ 2) (fun s hs=>by cases hs) (hr.pure kA)
 have H:=Lib.hid (And.intro hm (And.intro ha (And.intro hb (And.intro hr (And.intro hR (And.intro hjr (And.intro kA (And.intro t0 (And.intro t1 (And.intro r3 Le))))))))))
 clear hm ha hb hr hR hjr kA t0 t1 r3 Le
 have HW:=Lib.hid hW1
 clear hW1
 go_enter Tryz.func11,Tryz.ntmps11
 go_wp2_with fail
 rw[HW.out]
 clear HW
 (with_reducible refine ch.mono ?_)
 clear ch p0 p1
 rintro e w1 ⟨b1,rfl,k1⟩
 have t0:=k1.heap H.out.2.2.2.2.2.2.2.1 (fun h=>h)
 have t1:=k1.heap H.out.2.2.2.2.2.2.2.2.1 (fun h=>h)
 have p0:=cells_at t0 (j:=0) (v:= .int .i64 a.par) rfl
 have p1:=cells_at t0 (j:=1) (v:= .slice pO a.nodes.length oL) rfl
 have r0:=cells_at t1 (j:=0) (v:= .int .i64 b.par) rfl
 have r1:=cells_at t1 (j:=1) (v:= .slice vb1 b.nodes.length qA) rfl
 have hsz:w.heap.size+1<w1.heap.size:=(Array.getElem?_eq_some_iff.1 t1).1
 have hszA:w.heap.size<w1.heap.size:=by omega
 clear t0 t1
 cases b1 with
 |true=>
  have cw:=oK w1 mx ((H.out.2.2.2.2.2.2.1.trans k1).cell (p:=⟨0,0,none⟩) (fun h=>h) H.out.1)
  have KW7:=Lib.hid (H.out.2.2.2.2.2.2.1.trans k1)
  clear k1 p0 p1 r0 r1
  go_wp2_with fail
  (with_reducible refine cw.mono ?_)
  clear cw
  rintro e wz7 ⟨rfl,kz7⟩
  have F7:=Lib.hid (KW7.out.trans kz7)
  clear kz7
  go_wp2_with fail
  go_ret
  exact⟨rfl,F7.out⟩
 |false=>
  have ch:=zM b _ (.slice none 0 0) [] (.slice none 0 0) [] w1 (H.out.2.2.1.pure (H.out.2.2.2.2.2.2.1.trans k1)) (Reads.nil _ 2) (fun s hs=>by cases hs) (Reads.nil _ 3)
  have K1:=Lib.hid k1
  clear k1
  go_wp2_with fail
  (with_reducible refine ch.mono ?_)
  clear ch p0 p1 r0 r1
  rintro e w2 ⟨b2,rfl,k2⟩
  cases b2 with
  |true=>
   have cw:=oK w2 mx ((H.out.2.2.2.2.2.2.1.trans (K1.out.trans k2)).cell (p:=⟨0,0,none⟩) (fun h=>h) H.out.1)
   have KW8:=Lib.hid (H.out.2.2.2.2.2.2.1.trans (K1.out.trans k2))
   clear k2
   go_wp2_with fail
   (with_reducible refine cw.mono ?_)
   clear cw
   rintro e wz8 ⟨rfl,kz8⟩
   have F8:=Lib.hid (KW8.out.trans kz8)
   clear kz8
   go_wp2_with fail
   go_ret
   exact⟨rfl,F8.out⟩
  |false=>
   have kx:=K1.out.trans k2
   have t0:=kx.heap H.out.2.2.2.2.2.2.2.1 (fun h=>h)
   have t1:=kx.heap H.out.2.2.2.2.2.2.2.2.1 (fun h=>h)
   have p0:=cells_at t0 (j:=0) (v:= .int .i64 a.par) rfl
   have p1:=cells_at t0 (j:=1) (v:= .slice pO a.nodes.length oL) rfl
   have r0:=cells_at t1 (j:=0) (v:= .int .i64 b.par) rfl
   have r1:=cells_at t1 (j:=1) (v:= .slice vb1 b.nodes.length qA) rfl
   have hsz:w.heap.size+1<w2.heap.size:=(Array.getElem?_eq_some_iff.1 t1).1
   have hszA:w.heap.size<w2.heap.size:=by omega
   clear t0 t1
   have cn:=BK a _ w2 (H.out.2.1.pure (H.out.2.2.2.2.2.2.1.trans kx))
   have K2:=Lib.hid kx
   clear k2 kx
   go_wp2_with fail
   (with_reducible refine cn.mono ?_)
   clear cn p0 p1 r0 r1
   intro e w3 hq
   unfold iI at hq
   cases hl:dH a []with
   |error er=>
    rw[hl]at hq
    obtain⟨rfl,hne,k3⟩:=hq
    clear hl
    have cw:=oK w3 mx ((H.out.2.2.2.2.2.2.1.trans (K2.out.trans k3)).cell (p:=⟨0,0,none⟩) (fun h=>h) H.out.1)
    have KW9:=Lib.hid (H.out.2.2.2.2.2.2.1.trans (K2.out.trans k3))
    clear k3
    go_wp2_with fail
    (with_reducible refine cw.mono ?_)
    clear cw
    rintro e wz9 ⟨rfl,kz9⟩
    have F9:=Lib.hid (KW9.out.trans kz9)
    clear kz9
    go_wp2_with fail
    go_ret
    exact⟨rfl,F9.out⟩
   |ok Ts0=>
    rw[hl]at hq
    obtain⟨bd,md,sQ,rfl,hi,UE,hnt,k3⟩:=hq
    obtain⟨hok,hT0⟩:=xH hl
    have hsm:=sD hok
    have rD:=eG.of hi UE hnt
    have kx:=K2.out.trans k3
    have hwd:W1.heap.size<=w2.heap.size:=K2.out.size
    have HI:=Lib.hid (And.intro hok (And.intro hT0 (And.intro rD (And.intro hwd (And.intro hi kx)))))
    clear hi UE hnt hok hT0 rD kx k3 hl hwd
    go_wp2_with fail
    go_loopg [47] R.length (fun g vi wr=> ∃(k:Nat)(Ts:Tabs),k<=R.length/\vi= .int .i64 (k:Int)/\R.length-k<=g/\bK wr bd md a Ts sQ/\bY a.nodes Ts/\Kept none' W1 wr)
    case atStart=>exact⟨0,Ts0,by omega,rfl,by omega,HI.out.2.2.2.2.1,HI.out.2.1,HI.out.2.2.2.2.2⟩
    case round=>
     obtain⟨k,Ts,hkl,rfl,hg,hi,hT,hkp⟩:=hrel
     by_cases hlt:k<R.length
     ·obtain⟨r,hrk⟩: ∃r,R[k]?=some r:=⟨_,List.getElem?_eq_getElem hlt⟩
      obtain⟨rb,roff,rfl,hc⟩:=H.out.2.2.2.2.2.2.2.2.2.1.resolve_left (fun h=>by rw[h]at hlt;simp at hlt)
      obtain⟨c0,c1,c2⟩:=(hc k r hrk).pure (H.out.2.2.2.2.2.2.1.trans hkp)
      have hro:=H.out.2.2.2.2.1 r (List.mem_of_getElem? hrk)
      have ka:Kept none' wr (wr.alloc (.cells #[.int .i64 r.pos, .int .i64 r.key, .int .i64 r.val] 44)):=(Kept.refl _ _).alloc _
      have cf:=pG a bd md Ts sQ r.key r.val _ (hi.pure ka) HI.out.1 H.out.2.2.2.2.2.1 hT hro.key hro.val
      have fo:=pI HI.out.1 H.out.2.2.2.2.2.1 hT hro.key hro.val
      have G:=Lib.hid (And.intro hg (And.intro (hkp.trans ka) (And.intro (HI.out.2.2.1.feed HI.out.2.1 hT) fo.1)))
      clear hi hkp hg hc hrk hro ka hT fo
      go_wp2_with fail
      (with_reducible refine cf.mono ?_)
      clear cf
      rintro e w3 ⟨v3,rfl,hv3,-,hi3,k3⟩
      obtain⟨va,vc,rfl⟩:=hv3.slice_form
      have Z:=Lib.hid (And.intro hi3 (G.out.2.2.1.kept HI.out.2.2.2.1 G.out.2.1 k3))
      clear hi3 hv3 k3 c0 c1 c2
      go_wp2_with fail
      go_roundg (R.length-(k+1))
      case rel=>exact⟨k+1,_,by omega,by go_num,Nat.le_refl _,Z.out.1,G.out.2.2.2,Z.out.2⟩
      case measure=>have:=G.out.1;omega
     ·have t0:=hkp.heap H.out.2.2.2.2.2.2.2.1 (fun h=>h)
      have t1:=hkp.heap H.out.2.2.2.2.2.2.2.2.1 (fun h=>h)
      have p0:=cells_at t0 (j:=0) (v:= .int .i64 a.par) rfl
      have p1:=cells_at t0 (j:=1) (v:= .slice pO a.nodes.length oL) rfl
      have r0:=cells_at t1 (j:=0) (v:= .int .i64 b.par) rfl
      have r1:=cells_at t1 (j:=1) (v:= .slice vb1 b.nodes.length qA) rfl
      have hsz:w.heap.size+1<wr.heap.size:=(Array.getElem?_eq_some_iff.1 t1).1
      have hszA:w.heap.size<wr.heap.size:=by omega
      clear t0 t1
      obtain⟨WL,rfl⟩: ∃WL,WL=wr:=⟨_,rfl⟩
      have Y1:=(QN HI.out.1 HI.out.1 rfl hT).2
      have aaU:=wJ hT H.out.2.2.2.2.2.2.2.2.2.2.1
      have aaW:(aB a.nodes Ts).length<=1000:=by have:=TB a.nodes Ts;omega
      have D1:=Lib.hid (And.intro hi (And.intro hT (And.intro hkp (And.intro Y1 (And.intro aaU aaW)))))
      clear hi hT hkp hg Y1 aaU aaW
      go_wp2_with fail
      refine ak [0,1,2,3,4,5,6,7,8,9] (fun W=>Kept none' WL W) (by kernel_rfl) (by kernel_rfl) rfl (Kept.refl _ _).drew ?_
      simp only[List.map_cons,List.map_nil,List.getElem?_toArray,List.getElem?_cons_zero,List.getElem?_cons_succ,Option.getD_some]
      iterate 3 (apply aj rfl rfl;(intro W hW;have a0:=hW.cell (p:=⟨w.heap.size,0,none⟩) (fun h=>h) p0;have a1:=hW.cell (p:=⟨w.heap.size,1,none⟩) (fun h=>h) p1;have b0:=hW.cell (p:=⟨w.heap.size+1,0,none⟩) (fun h=>h) r0;have b1:=hW.cell (p:=⟨w.heap.size+1,1,none⟩) (fun h=>h) r1;go_simp;rfl);go_frame)
      clear p0 p1 r0 r1
      apply aA rfl rfl
      intro K hK
      go_wp2_with fail
      have kd:Kept none' WL WL.drew:=(Kept.refl none' WL).drew
      (with_reducible refine(iE a bd md Ts sQ WL.drew (D1.out.1.pure ((Kept.refl none' WL).trans kd)) D1.out.2.1.len (by omega)).mono ?_)
      rintro e w4 ⟨v4,rfl,hv4,-,k4⟩
      have uf:Kept none' WL w4:=kd.trans k4
      have hv:=hv4
      obtain⟨xa,xc,Dz,x1,x2,-⟩:=hv.jM
      subst Dz
      unfold maxLen at x2
      go_wp2_with fail
      refine hK _ _ (fun _=>uf) ?_
      clear hK
      have kc:=H.out.2.2.2.2.2.2.1.trans (D1.out.2.2.1.trans ((Kept.refl none' WL).trans uf))
      have cc:=Gh a a _ _ _ (aB a.nodes Ts) w4 (H.out.2.1.pure kc) (H.out.2.1.pure kc) hv D1.out.2.2.2.2.1 D1.out.2.2.2.2.2
      clear kc hv4 hv k4 kd
      apply aA rfl rfl
      intro K hK
      go_wp2_with fail
      (with_reducible refine cc.mono ?_)
      clear cc
      intro e w5 hq
      rw[D1.out.2.2.2.1]at hq
      unfold xU at hq
      obtain⟨v5,rfl,hv5,k5⟩:=hq
      have oH:=uf.trans k5
      have aaP:=hv5
      obtain⟨ya,yc,hye,y1,y2,-⟩:=hv5.jM
      subst hye
      unfold maxLen at y2
      go_wp2_with fail
      refine hK _ _ (fun _=>oH) ?_
      clear hK
      iterate 5 (apply aj rfl rfl;(intro W hW;go_simp;rfl);go_frame)
      refine aI (fun _=>oH) ?_
      have K5:=Lib.hid (And.intro aaP oH)
      clear hv5 aaP k5 oH uf x1 x2
      have cs:=iE a bd md Ts sQ w5 (D1.out.1.pure K5.out.2) D1.out.2.1.len (by omega)
      go_wp2_with fail
      (with_reducible refine cs.mono ?_)
      clear cs
      rintro e w6 ⟨v6,rfl,hv6,-,k6⟩
      obtain⟨xa,xc,Dz,x1,x2,-⟩:=hv6.jM
      subst Dz
      unfold maxLen at x2
      have ce:=EL _ _ _ _ w6 (K5.out.1.pure k6) hv6
      rw[zZ]at ce
      have K6:=Lib.hid (K5.out.2.trans k6)
      clear hv6 k6
      go_wp2_with fail
      (with_reducible refine ce.mono ?_)
      clear ce
      rintro e w7 ⟨rfl,k7⟩
      have K7:=Lib.hid (K6.out.trans k7)
      clear k7 x1 x2 y1 y2
      have kx:=D1.out.2.2.1.trans K7.out
      have t0:=kx.heap H.out.2.2.2.2.2.2.2.1 (fun h=>h)
      have t1:=kx.heap H.out.2.2.2.2.2.2.2.2.1 (fun h=>h)
      have p0:=cells_at t0 (j:=0) (v:= .int .i64 a.par) rfl
      have p1:=cells_at t0 (j:=1) (v:= .slice pO a.nodes.length oL) rfl
      have r0:=cells_at t1 (j:=0) (v:= .int .i64 b.par) rfl
      have r1:=cells_at t1 (j:=1) (v:= .slice vb1 b.nodes.length qA) rfl
      have hsz:w.heap.size+1<w7.heap.size:=(Array.getElem?_eq_some_iff.1 t1).1
      have hszA:w.heap.size<w7.heap.size:=by omega
      clear t0 t1
      clear kx
      go_wp2_with fail
      refine ak [0,1,2,3,4,5,6,7,8,9] (fun W=>Kept none' w7 W) (by kernel_rfl) (by kernel_rfl) rfl (Kept.refl _ _).drew ?_
      simp only[List.map_cons,List.map_nil,List.getElem?_toArray,List.getElem?_cons_zero,List.getElem?_cons_succ,Option.getD_some]
      iterate 3 (apply aj rfl rfl;(intro W hW;have a0:=hW.cell (p:=⟨w.heap.size,0,none⟩) (fun h=>h) p0;have a1:=hW.cell (p:=⟨w.heap.size,1,none⟩) (fun h=>h) p1;have b0:=hW.cell (p:=⟨w.heap.size+1,0,none⟩) (fun h=>h) r0;have b1:=hW.cell (p:=⟨w.heap.size+1,1,none⟩) (fun h=>h) r1;go_simp;rfl);go_frame)
      clear p0 p1 r0 r1
      apply aA rfl rfl
      intro K hK
      go_wp2_with fail
      have kd:Kept none' w7 w7.drew:=(Kept.refl none' w7).drew
      (with_reducible refine(iE a bd md Ts sQ w7.drew (D1.out.1.pure (K7.out.trans kd)) D1.out.2.1.len (by omega)).mono ?_)
      rintro e w8 ⟨v8,rfl,DC,-,k8⟩
      have OO:Kept none' w7 w8:=kd.trans k8
      have hv:=DC
      obtain⟨xa,xc,Dz,x1,x2,-⟩:=hv.jM
      subst Dz
      unfold maxLen at x2
      go_wp2_with fail
      refine hK _ _ (fun _=>OO) ?_
      clear hK
      have kc:=H.out.2.2.2.2.2.2.1.trans (D1.out.2.2.1.trans (K7.out.trans OO))
      have cc:=Gh a b _ _ _ (aB a.nodes Ts) w8 (H.out.2.1.pure kc) (H.out.2.2.1.pure kc) hv D1.out.2.2.2.2.1 D1.out.2.2.2.2.2
      clear kc DC hv k8 kd
      apply aA rfl rfl
      intro K hK
      go_wp2_with fail
      (with_reducible refine cc.mono ?_)
      clear cc
      intro e w9 hq
      unfold xU at hq
      cases hc:lH a b (aB a.nodes Ts)with
      |error er=>
       rw[hc]at hq
       obtain⟨rfl,hne,k9⟩:=hq
       have Dw:=OO.trans k9
       go_wp2_with fail
       refine hK _ _ (fun _=>Dw) ?_
       clear hK hc
       iterate 5 (apply aj rfl rfl;(intro W hW;go_simp;rfl);go_frame)
       refine aI (fun _=>Dw) ?_
       have K9:=Lib.hid (K7.out.trans Dw)
       clear OO k9 Dw
       have cw:=oK w9 mx ((H.out.2.2.2.2.2.2.1.trans (D1.out.2.2.1.trans K9.out)).cell (p:=⟨0,0,none⟩) (fun h=>h) H.out.1)
       have aeW:=Lib.hid (H.out.2.2.2.2.2.2.1.trans (D1.out.2.2.1.trans K9.out))
       clear x1 x2
       go_wp2_with fail
       (with_reducible refine cw.mono ?_)
       clear cw
       rintro e wz10 ⟨rfl,aaz⟩
       have F10:=Lib.hid (aeW.out.trans aaz)
       clear aaz
       go_wp2_with fail
       go_ret
       exact⟨rfl,F10.out⟩
      |ok x=>
       rw[hc]at hq
       obtain⟨v9,rfl,Ld,k9⟩:=hq
       have Dw:=OO.trans k9
       have Xw:=Ld
       obtain⟨ya,yc,hye,y1,y2,-⟩:=Ld.jM
       subst hye
       unfold maxLen at y2
       go_wp2_with fail
       refine hK _ _ (fun _=>Dw) ?_
       clear hK
       iterate 5 (apply aj rfl rfl;(intro W hW;go_simp;rfl);go_frame)
       refine aI (fun _=>Dw) ?_
       obtain⟨-,Us,hlx,hxe⟩:=MF hc
       obtain⟨okb,yU⟩:=xH hlx
       have hsb:=sD okb
       have hkeep: ∀s:St,fC s.2≠[]->(s∈x↔s∈aB a.nodes Ts):=fun s hs=>Oe D1.out.2.1 hc hs
       have hzx:=wJ yU H.out.2.2.2.2.2.2.2.2.2.2.2
       rw[<-hxe]at hzx
       have hlb:=wP okb yU
       rw[<-hxe]at hlb
       have hcx: ∀s∈x,Canon s:=fun s hs=>vG yU (by rw[<-hxe];exact hs)
       have Qx:(x.map (·.1)).Nodup:=by rw[hxe];exact zh okb Us
       have K9:=Lib.hid (And.intro Xw (K7.out.trans Dw))
       have cl:=uQ b _ _ x w9 (H.out.2.2.1.pure (H.out.2.2.2.2.2.2.1.trans (D1.out.2.2.1.trans K9.out.2))) Xw hzx
       have X:=Lib.hid (And.intro hkeep (And.intro hzx (And.intro hcx Qx)))
       clear hkeep hzx hcx Qx Ld Xw k9 Dw OO hc hlx hxe okb yU hsb
       have kx:=D1.out.2.2.1.trans K9.out.2
       have t0:=kx.heap H.out.2.2.2.2.2.2.2.1 (fun h=>h)
       have t1:=kx.heap H.out.2.2.2.2.2.2.2.2.1 (fun h=>h)
       have p0:=cells_at t0 (j:=0) (v:= .int .i64 a.par) rfl
       have p1:=cells_at t0 (j:=1) (v:= .slice pO a.nodes.length oL) rfl
       have r0:=cells_at t1 (j:=0) (v:= .int .i64 b.par) rfl
       have r1:=cells_at t1 (j:=1) (v:= .slice vb1 b.nodes.length qA) rfl
       have hsz:w.heap.size+1<w9.heap.size:=(Array.getElem?_eq_some_iff.1 t1).1
       have hszA:w.heap.size<w9.heap.size:=by omega
       clear t0 t1
       clear kx
       go_wp2_with fail
       (with_reducible refine cl.mono ?_)
       clear cl p0 p1 r0 r1
       intro e w10 hq
       unfold iI at hq
       rw[hlb]at hq
       obtain⟨bu,mu,Fz,rfl,-,-,-,k10⟩:=hq
       clear hlb
       have K10:=Lib.hid (K9.out.2.trans k10)
       have HV:=Lib.hid (K9.out.1.pure k10)
       clear k10 x1 x2
       have cs:=iE a bd md Ts sQ w10 (D1.out.1.pure K10.out) D1.out.2.1.len (by omega)
       have hmm:= @run_makeMap Tryz.prog
       go_wp2_with fail
       (with_reducible refine cs.mono ?_)
       clear cs
       rintro e Aw ⟨v11,rfl,Xx,-,k11⟩
       obtain⟨xa,xc,Dz,x1,x2,-⟩:=Xx.jM
       have YB:=Xx
       subst Dz
       unfold maxLen at x2
       have HVk:=HV.out.pure k11
       obtain⟨ya',yc',er,-,-,y3⟩:=HVk.jM
       injection er with DY DX DW
       subst DY DW
       clear DX
       obtain⟨xa',xc',er,-,-,x3⟩:=YB.jM
       injection er with DY DX DW
       subst DY DW
       clear DX
       have hnS:=zh HI.out.1 Ts
       have Y:=Lib.hid (And.intro (K10.out.trans k11) (And.intro x3 (And.intro y3 hnS)))
       clear Xx YB HVk k11 x3 y3 hnS
       go_wp2_with fail
       clear hmm
       go_loopg [104] (aB a.nodes Ts).length (fun g vi wr=> ∃(k:Nat)(L:List (ByteArray×Value)),k<=(aB a.nodes Ts).length/\vi= .int .i64 (k:Int)/\(aB a.nodes Ts).length-k<=g/\MS.aQ wr Aw.heap.size L/\uD (aB a.nodes Ts) k L/\Kept none' Aw wr)
       case atStart=>exact⟨0,[],by omega,rfl,by omega,MS.aQ.made Aw,uD.none _,(Kept.refl _ _).alloc _⟩
       case round=>
        obtain⟨k,L,hkl,rfl,hg,hml,hkm,hkp⟩:=hrel
        by_cases hlt2:k<(aB a.nodes Ts).length
        ·obtain⟨s,hs⟩: ∃s,(aB a.nodes Ts)[k]?=some s:=⟨_,List.getElem?_eq_getElem hlt2⟩
         obtain⟨bs,Ew,rfl,hcs⟩:=Y.out.2.1.resolve_left (fun h=>by rw[h]at hlt2;simp at hlt2)
         have y0:=hkp.cell (fun h=>h) (hcs k s hs).1
         have y1:=hkp.cell (fun h=>h) (hcs k s hs).2
         have ka:Kept none' wr (wr.alloc (.cells #[.string s.1, .string s.2] 33)):=(Kept.refl _ _).alloc _
         obtain⟨w5,hup,zK,k5,hs5⟩:=(hml.kept ka (fun h=>h)).update (P:=Tryz.prog) Tryz.underlying60 Tryz.underlying9 s.1 (.int .i64 (k:Int))
         have G:=Lib.hid (And.intro hg (And.intro zK (And.intro (hkm.step Y.out.2.2.2 hs) ((hkp.trans ka).new k5 (fun i hi e=>by unfold one at e;omega)))))
         clear hml hkm hkp hg zK k5 hs hcs ka
         go_wp2_with fail
         go_roundg ((aB a.nodes Ts).length-(k+1))
         case rel=>exact⟨k+1,_,by omega,by go_num,Nat.le_refl _,G.out.2.1,G.out.2.2.1,G.out.2.2.2⟩
         case measure=>have:=G.out.1;omega
        ·have e1:(aB a.nodes Ts).length=k:=by omega
         rw[<-e1]at hkm
         clear e1
         obtain⟨WA,rfl⟩: ∃WA,WA=wr:=⟨_,rfl⟩
         have Z:=Lib.hid (And.intro hml (And.intro (hkm.left (x:=x)) hkp))
         clear hml hkm hkp hg
         go_wp2_with fail
         go_loopg [116] x.length (fun g vi wr=> ∃(k:Nat)(L:List (ByteArray×Value)),k<=x.length/\vi= .int .i64 (k:Int)/\x.length-k<=g/\MS.aQ wr Aw.heap.size L/\qR (aB a.nodes Ts) x k L/\Kept none' Aw wr)
         case atStart=>exact⟨0,_,by omega,rfl,by omega,Z.out.1,Z.out.2.1,Z.out.2.2⟩
         case round=>
          obtain⟨k,L,hkl,rfl,hg,hml,hlm,hkp⟩:=hrel
          obtain⟨wq,rfl⟩: ∃wq:World,wq=wr:=⟨_,rfl⟩
          by_cases hlt3:k<x.length
          ·obtain⟨t,ht⟩: ∃t,x[k]?=some t:=⟨_,List.getElem?_eq_getElem hlt3⟩
           obtain⟨bt,offt,rfl,hct⟩:=Y.out.2.2.1.resolve_left (fun h=>by rw[h]at hlt3;simp at hlt3)
           have y0:=hkp.cell (fun h=>h) (hct k t ht).1
           have y1:=hkp.cell (fun h=>h) (hct k t ht).2
           obtain⟨T,BZ,yU⟩:=X.out.2.2.1 t (List.mem_of_getElem? ht)
           have yV:fC t.2=T:=by rw[yU];exact pR BZ
           have htk:jE t.2.data.toList= .ok T []:=by rw[yU,mF,pU BZ]
           have qN:=X.out.2.1 t (List.mem_of_getElem? ht)
           have ka:Kept none' wq (wq.alloc (.cells #[.string t.1, .string t.2] 33)):=(Kept.refl _ _).alloc _
           have sB:(wq.alloc (.cells #[.string t.1, .string t.2] 33)).heap[wq.heap.size]?=some (.cells #[.string t.1, .string t.2] 33 (0,0)):=heap_alloc_new _ _
           obtain⟨W4,fO⟩: ∃W4,wq.alloc (.cells #[.string t.1, .string t.2] 33)=W4:=⟨_,rfl⟩
           rw[fO]at ka sB
           have z0:=cells_at sB (j:=0) (v:= .string t.1) rfl
           have z1:=cells_at sB (j:=1) (v:= .string t.2) rfl
           have ct:=take_any t.2 qN.2 W4
           unfold eF at ct
           rw[htk]at ct
           dsimp only at ct
           have G:=Lib.hid (And.intro hg (And.intro (hml.kept ka (fun h=>h)) (And.intro hlm (And.intro (hkp.trans ka) (And.intro sB (And.intro yV ht))))))
           clear hg hml hlm hkp ka sB yV htk yU BZ qN hct ht
           go_wp2_with fail
           try rw[fO]
           clear fO y0 y1 z0 z1
           (with_reducible refine ct.mono ?_)
           clear ct
           rintro e w5 ⟨tb,tm,rfl,tT,k5⟩
           have TF:=k5.heap G.out.2.2.2.2.1 (fun h=>h)
           have z0:=cells_at TF (j:=0) (v:= .string t.1) rfl
           have z1:=cells_at TF (j:=1) (v:= .string t.2) rfl
           have zK:=G.out.2.1.kept k5 (fun h=>h)
           have YH:=zK.lookup (P:=Tryz.prog) Tryz.underlying60 Tryz.underlying9 t.1 (Tryz.zeroValue3 w5)
           have hqs:wq.heap.size<w5.heap.size:=(Array.getElem?_eq_some_iff.1 TF).1
           have hMs:Aw.heap.size<=w5.heap.size:=(G.out.2.2.2.1.trans k5).size
           have hX0:x.length≠0:=by omega
           cases hlk:MS.look L t.1 with
           |some v=>
            obtain⟨i,s,hsi,rfl,hsame⟩:=G.out.2.2.1.found Y.out.2.2.2 X.out.1 G.out.2.2.2.2.2.2 hlk
            rw[hlk]at YH
            simp only[Option.getD_some,Option.isSome_some]at YH
            rw[G.out.2.2.2.2.2.1]at hsame
            have hil:i<(aB a.nodes Ts).length:=(List.getElem?_eq_some_iff.1 hsi).1
            obtain⟨bs,Ew,rfl,hcs⟩:=Y.out.2.1.resolve_left (fun h=>by rw[h]at hil;simp at hil)
            have y2:=((G.out.2.2.2.1.trans k5)).cell (fun h=>h) (hcs i s hsi).2
            have K5:=Lib.hid (And.intro tT (And.intro zK k5))
            clear tT zK k5 hlk hcs hsi TF
            by_cases hT0:T=[]
            ·have hTl:T.length=0:=by rw[hT0];rfl
             have HS:=Lib.hid hsame
             clear hT0 hsame
             go_wp2_with fail
             refine ak [0,1,2,3,4,5,6,7,8,9,10,11,12,13,14,15,16,17,18,19,20,21,22,23,24,25,26,27,28,29,30] (fun W=>Kept none' w5 W) (by kernel_rfl) (by kernel_rfl) rfl (Kept.refl _ _).drew ?_
             simp only[List.map_cons,List.map_nil,List.getElem?_toArray,List.getElem?_cons_zero,List.getElem?_cons_succ,Option.getD_some]
             iterate 6 (apply aj rfl rfl;(intro W hW;have q0:=hW.cell (p:=⟨wq.heap.size,0,none⟩) (fun h=>h) z0;have q1:=hW.cell (p:=⟨wq.heap.size,1,none⟩) (fun h=>h) z1;go_simp;rfl);go_frame)
             apply aA rfl rfl
             intro K hK
             go_wp2_with fail
             (with_reducible refine(lQ _ tb tm T w5.drew (K5.out.1.pure (Kept.refl none' w5).drew)).mono ?_)
             rintro e w6 ⟨v6,rfl,hown,-,k6⟩
             obtain⟨Ro,Rn,rfl⟩:=ay hown
             have hkl2:(aO T).length=T.length:=by unfold aO;rw[List.length_map]
             rw[hkl2]
             rw[hTl]
             have lJ:Kept none' w5 w6:=(Kept.refl none' w5).drew.trans k6
             clear hown hkl2
             go_wp2_with fail
             refine hK _ _ (fun _=>lJ) ?_
             clear hK
             iterate 4 (apply aj rfl rfl;(intro W hW;have q0:=hW.cell (p:=⟨wq.heap.size,0,none⟩) (fun h=>h) z0;have q1:=hW.cell (p:=⟨wq.heap.size,1,none⟩) (fun h=>h) z1;go_simp;rfl);go_frame)
             iterate 8 (apply dD rfl;go_frame)
             iterate 6 (apply aj rfl rfl;(intro W hW;have q0:=hW.cell (p:=⟨wq.heap.size,0,none⟩) (fun h=>h) z0;have q1:=hW.cell (p:=⟨wq.heap.size,1,none⟩) (fun h=>h) z1;go_simp;rfl);go_frame)
             iterate 4 (apply dD rfl;go_frame)
             iterate 2 (apply aj rfl rfl;(intro W hW;have q0:=hW.cell (p:=⟨wq.heap.size,0,none⟩) (fun h=>h) z0;have q1:=hW.cell (p:=⟨wq.heap.size,1,none⟩) (fun h=>h) z1;go_simp;rfl);go_frame)
             refine aI (fun _=>lJ) ?_
             have z0:=lJ.cell (p:=⟨wq.heap.size,0,none⟩) (fun h=>h) z0
             obtain⟨w8,hdel,zJ,k8,hs8⟩:=(K5.out.2.1.kept lJ (fun h=>h)).delete (P:=Tryz.prog) Tryz.underlying60 Tryz.underlying9 t.1
             have Z8:=Lib.hid (And.intro zJ ((G.out.2.2.2.1.trans (K5.out.2.2.trans lJ)).new k8 (fun i hi e=>by unfold one at e;omega)))
             clear zJ k8 k6 lJ z1
             go_wp2_with fail
             go_roundg (x.length-(k+1))
             case rel=>exact⟨k+1,_,by omega,by go_num,Nat.le_refl _,Z8.out.1,G.out.2.2.1.step G.out.2.2.2.2.2.2,Z8.out.2⟩
             case measure=>have:=G.out.1;omega
            ·have hTl:0<T.length:=by cases T with|nil=>exact absurd rfl hT0|cons p l=>simp
             rw[hsame hT0]at y2
             clear hT0 hsame
             go_wp2_with fail
             refine ak [0,1,2,3,4,5,6,7,8,9,10,11,12,13,14,15,16,17,18,19,20,21,22,23,24,25,26,27,28,29,30] (fun W=>Kept none' w5 W) (by kernel_rfl) (by kernel_rfl) rfl (Kept.refl _ _).drew ?_
             simp only[List.map_cons,List.map_nil,List.getElem?_toArray,List.getElem?_cons_zero,List.getElem?_cons_succ,Option.getD_some]
             iterate 6 (apply aj rfl rfl;(intro W hW;have q0:=hW.cell (p:=⟨wq.heap.size,0,none⟩) (fun h=>h) z0;have q1:=hW.cell (p:=⟨wq.heap.size,1,none⟩) (fun h=>h) z1;go_simp;rfl);go_frame)
             apply aA rfl rfl
             intro K hK
             go_wp2_with fail
             (with_reducible refine(lQ _ tb tm T w5.drew (K5.out.1.pure (Kept.refl none' w5).drew)).mono ?_)
             rintro e w6 ⟨v6,rfl,hown,-,k6⟩
             obtain⟨Ro,Rn,rfl⟩:=ay hown
             have hkl2:(aO T).length=T.length:=by unfold aO;rw[List.length_map]
             rw[hkl2]
             have lJ:Kept none' w5 w6:=(Kept.refl none' w5).drew.trans k6
             clear hown hkl2
             go_wp2_with fail
             refine hK _ _ (fun _=>lJ) ?_
             clear hK
             iterate 4 (apply aj rfl rfl;(intro W hW;have q0:=hW.cell (p:=⟨wq.heap.size,0,none⟩) (fun h=>h) z0;have q1:=hW.cell (p:=⟨wq.heap.size,1,none⟩) (fun h=>h) z1;go_simp;rfl);go_frame)
             iterate 8 (apply aj rfl rfl;(intro W hW;have q0:=hW.cell (p:=⟨wq.heap.size,0,none⟩) (fun h=>h) z0;have q1:=hW.cell (p:=⟨wq.heap.size,1,none⟩) (fun h=>h) z1;have q2:=hW.cell (fun h=>h) y2;go_simp;rfl);go_frame)
             iterate 6 (apply aj rfl rfl;(intro W hW;have q0:=hW.cell (p:=⟨wq.heap.size,0,none⟩) (fun h=>h) z0;have q1:=hW.cell (p:=⟨wq.heap.size,1,none⟩) (fun h=>h) z1;go_simp;rfl);go_frame)
             iterate 4 (apply dD rfl;go_frame)
             iterate 2 (apply aj rfl rfl;(intro W hW;have q0:=hW.cell (p:=⟨wq.heap.size,0,none⟩) (fun h=>h) z0;have q1:=hW.cell (p:=⟨wq.heap.size,1,none⟩) (fun h=>h) z1;go_simp;rfl);go_frame)
             refine aI (fun _=>lJ) ?_
             have z0:=lJ.cell (p:=⟨wq.heap.size,0,none⟩) (fun h=>h) z0
             obtain⟨w8,hdel,zJ,k8,hs8⟩:=(K5.out.2.1.kept lJ (fun h=>h)).delete (P:=Tryz.prog) Tryz.underlying60 Tryz.underlying9 t.1
             have Z8:=Lib.hid (And.intro zJ ((G.out.2.2.2.1.trans (K5.out.2.2.trans lJ)).new k8 (fun i hi e=>by unfold one at e;omega)))
             clear zJ k8 k6 lJ z1
             go_wp2_with fail
             go_roundg (x.length-(k+1))
             case rel=>exact⟨k+1,_,by omega,by go_num,Nat.le_refl _,Z8.out.1,G.out.2.2.1.step G.out.2.2.2.2.2.2,Z8.out.2⟩
             case measure=>have:=G.out.1;omega
           |none=>
            have hT0:=G.out.2.2.1.lost X.out.2.2.2 X.out.1 G.out.2.2.2.2.2.2 hlk
            rw[G.out.2.2.2.2.2.1]at hT0
            rw[hlk]at YH
            simp only[Option.getD_none,Option.isSome_none]at YH
            have hTl:T.length=0:=by rw[hT0];rfl
            have K5:=Lib.hid (And.intro tT (And.intro zK k5))
            clear tT zK k5 hlk TF hT0
            go_wp2_with fail
            refine ak [0,1,2,3,4,5,6,7,8,9,10,11,12,13,14,15,16,17,18,19,20,21,22,23,24,25,26,27,28,29,30] (fun W=>Kept none' w5 W) (by kernel_rfl) (by kernel_rfl) rfl (Kept.refl _ _).drew ?_
            simp only[List.map_cons,List.map_nil,List.getElem?_toArray,List.getElem?_cons_zero,List.getElem?_cons_succ,Option.getD_some]
            iterate 5 (apply aj rfl rfl;(intro W hW;have q0:=hW.cell (p:=⟨wq.heap.size,0,none⟩) (fun h=>h) z0;have q1:=hW.cell (p:=⟨wq.heap.size,1,none⟩) (fun h=>h) z1;go_simp;rfl);go_frame)
            iterate 4 (apply dD rfl;go_frame)
            iterate 2 (apply aj rfl rfl;(intro W hW;have q0:=hW.cell (p:=⟨wq.heap.size,0,none⟩) (fun h=>h) z0;have q1:=hW.cell (p:=⟨wq.heap.size,1,none⟩) (fun h=>h) z1;go_simp;rfl);go_frame)
            iterate 8 (apply dD rfl;go_frame)
            iterate 7 (apply aj rfl rfl;(intro W hW;have q0:=hW.cell (p:=⟨wq.heap.size,0,none⟩) (fun h=>h) z0;have q1:=hW.cell (p:=⟨wq.heap.size,1,none⟩) (fun h=>h) z1;go_simp;rfl);go_frame)
            apply aA rfl rfl
            intro K hK
            go_wp2_with fail
            (with_reducible refine(lQ _ tb tm T w5.drew (K5.out.1.pure (Kept.refl none' w5).drew)).mono ?_)
            rintro e w6 ⟨v6,rfl,hown,-,k6⟩
            obtain⟨Ro,Rn,rfl⟩:=ay hown
            have hkl2:(aO T).length=T.length:=by unfold aO;rw[List.length_map]
            rw[hkl2]
            rw[hTl]
            have lJ:Kept none' w5 w6:=(Kept.refl none' w5).drew.trans k6
            clear hown hkl2
            go_wp2_with fail
            refine hK _ _ (fun _=>lJ) ?_
            clear hK
            iterate 4 (apply aj rfl rfl;(intro W hW;have q0:=hW.cell (p:=⟨wq.heap.size,0,none⟩) (fun h=>h) z0;have q1:=hW.cell (p:=⟨wq.heap.size,1,none⟩) (fun h=>h) z1;go_simp;rfl);go_frame)
            refine aI (fun _=>lJ) ?_
            have z0:=lJ.cell (p:=⟨wq.heap.size,0,none⟩) (fun h=>h) z0
            obtain⟨w8,hdel,zJ,k8,hs8⟩:=(K5.out.2.1.kept lJ (fun h=>h)).delete (P:=Tryz.prog) Tryz.underlying60 Tryz.underlying9 t.1
            have Z8:=Lib.hid (And.intro zJ ((G.out.2.2.2.1.trans (K5.out.2.2.trans lJ)).new k8 (fun i hi e=>by unfold one at e;omega)))
            clear zJ k8 k6 lJ z1
            go_wp2_with fail
            go_roundg (x.length-(k+1))
            case rel=>exact⟨k+1,_,by omega,by go_num,Nat.le_refl _,Z8.out.1,G.out.2.2.1.step G.out.2.2.2.2.2.2,Z8.out.2⟩
            case measure=>have:=G.out.1;omega
          ·have e1:x.length=k:=by omega
           rw[<-e1]at hlm
           clear e1
           obtain⟨w20,hrun,hit,abh,hs20⟩:=hml.range (P:=Tryz.prog) Tryz.underlying60
           have I0:=Lib.hid (And.intro hit (And.intro hlm (And.intro (hkp.trans abh) hml.lt)))
           have hsW:Aw.heap.size<=wq.heap.size:=hkp.size
           clear hit hlm hkp abh hml hg
           go_wp2_with fail
           clear hrun
           go_loopg [26] L.length (fun g vi wr=> ∃left,MS.bJ wr wq.heap.size Aw.heap.size L left/\left.length=g/\Kept none' Aw wr)
           case atStart=>exact⟨L,I0.out.1,rfl,I0.out.2.2.1⟩
           case round=>
            obtain⟨left,hit,hlen,hkp⟩:=hrel
            have hnd:=hit.nodup
            have A:=Lib.hid (And.intro hlen hkp)
            clear hlen hkp
            rcases hit.next (P:=Tryz.prog) 0 with⟨rfl,hrun⟩|⟨p,left',w21,hp,hrun,hit2,hk2,hs2,hen⟩
            ·clear hit hnd
             have cw:=oK wr mx ((H.out.2.2.2.2.2.2.1.trans (D1.out.2.2.1.trans (Y.out.1.trans A.out.2))).cell (p:=⟨0,0,none⟩) (fun h=>h) H.out.1)
             have aeV:=Lib.hid (H.out.2.2.2.2.2.2.1.trans (D1.out.2.2.1.trans (Y.out.1.trans A.out.2)))
             go_wp2_with fail
             (with_reducible refine cw.mono ?_)
             clear cw
             rintro e wz11 ⟨rfl,aay⟩
             have F11:=Lib.hid (aeV.out.trans aay)
             clear aay
             go_wp2_with fail
             go_ret
             exact⟨rfl,F11.out⟩
            ·obtain⟨i,s,hsi,hpe,hT0⟩:=I0.out.2.1.rest X.out.1 (hnd.2 p (hp.mem_iff.2 List.mem_cons_self))
             obtain⟨pu,pv⟩:=p
             simp only at hpe
             subst hpe
             have hil:i<(aB a.nodes Ts).length:=(List.getElem?_eq_some_iff.1 hsi).1
             obtain⟨bs,Ew,rfl,hcs⟩:=Y.out.2.1.resolve_left (fun h=>by rw[h]at hil;simp at hil)
             have k21:Kept none' Aw w21:=A.out.2.new hk2 (fun q hq e=>by unfold one at e;omega)
             have y2:=k21.cell (fun h=>h) (hcs i s hsi).2
             obtain⟨T,BZ,yU⟩:=vG D1.out.2.1 (List.mem_of_getElem? hsi)
             have yV:fC s.2=T:=by rw[yU];exact pR BZ
             have htk:jE s.2.data.toList= .ok T []:=by rw[yU,mF,pU BZ]
             have qN:=D1.out.2.2.2.2.1 s (List.mem_of_getElem? hsi)
             rw[yV]at hT0
             have ct:=take_any s.2 qN.2 w21
             unfold eF at ct
             rw[htk]at ct
             dsimp only at ct
             have hTl:T.length=0:=by rw[hT0];rfl
             have J:=Lib.hid (And.intro hit2 (And.intro hp k21))
             clear hit2 hp k21 hT0 BZ yU yV htk qN hcs hsi hnd hit hk2 hs2
             go_wp2_with fail
             (with_reducible refine ct.mono ?_)
             clear ct y2 hrun hen
             rintro e w22 ⟨tb,tm,rfl,tT,k22⟩
             have ck:=lQ _ tb tm T w22 tT
             have K22:=Lib.hid k22
             clear tT k22
             go_wp2_with fail
             (with_reducible refine ck.mono ?_)
             clear ck
             rintro e w23 ⟨v6,rfl,hown,-,k23⟩
             obtain⟨Ro,Rn,rfl⟩:=ay hown
             have hkl2:(aO T).length=T.length:=by unfold aO;rw[List.length_map]
             rw[hkl2,hTl]
             have K23:=Lib.hid (K22.out.trans k23)
             clear hown hkl2 hTl k23
             go_wp2_with fail
             go_roundg left'.length
             case rel=>exact⟨left',J.out.1.kept K23.out (fun h=>h) (fun h=>h),rfl,J.out.2.2.trans K23.out⟩
             case measure=>have h1:=J.out.2.1.length_eq;have h2:=A.out.1;simp at h1;omega
end Go.Proofs.YtopeleenlcnkkaaGreatDoor
