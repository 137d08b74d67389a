/- The law ExactNone: a turn to the job that is there changes nothing. -/
import Derived.Test.YtopeleenlcnkkaaGreatDoorX46
set_option linter.unusedVariables false
set_option linter.unusedSimpArgs false
set_option maxHeartbeats 4000000
set_option maxRecDepth 100000
namespace Go.Proofs.YtopeleenlcnkkaaGreatDoor
open Go Go.RowKit
attribute [local irreducible] bU dL H2.cZ
theorem QC (j:Jb)(a:Array Value)(rv:Value)(R:List Rec)(at_ pr:Int)(w:World)(mx:Int)(hm:w.cell? ⟨0,0,none⟩=some (.int .i64 mx))(h:bZ w a j)(hr:Reads w 3 rv (recs R))(hR: ∀r∈R,aU r)(hpr:aI pr):
 Calls Tryz.prog 12 #[.agg a,rv, .int .i64 at_, .int .i64 pr] w (Gives w (.bool true)):=by
 have hJ:=h
 obtain⟨v,rfl,hn,hp⟩:=h
 obtain⟨na,cap,rfl,h1,h2,h3⟩:=hn.at
 have hjr:=hn.jr
 have kA:Kept none' w (w.alloc (.cells #[.int .i64 j.par, .slice na j.nodes.length cap] 24)):=(Kept.refl _ _).alloc _
 have tA:(w.alloc (.cells #[.int .i64 j.par, .slice na j.nodes.length cap] 24)).heap[w.heap.size]?=some (.cells #[.int .i64 j.par, .slice na j.nodes.length cap] 24 (0,0)):=heap_alloc_new _ _
 obtain⟨W0,hW0⟩: ∃W0,w.alloc (.cells #[.int .i64 j.par, .slice na j.nodes.length cap] 24)=W0:=⟨_,rfl⟩
 have ch:=yU j _ (.slice none 0 0) [] rv R W0 (by rw[<-hW0];exact hJ.pure kA) (dB.nil _) (by rw[<-hW0];exact hr.pure kA)
 rw[hW0]at kA tA
 have x0:=cells_at tA (j:=0) (v:= .int .i64 j.par) rfl
 have x1:=cells_at tA (j:=1) (v:= .slice na j.nodes.length cap) rfl
 obtain⟨ra,nC,rfl,r1,r2,-⟩:=hr.recAt
 unfold maxLen at r2
 have H:=Lib.hid (And.intro hJ (And.intro hr (And.intro hjr (And.intro hR (And.intro kA (And.intro tA hpr))))))
 have HM:=Lib.hid hm
 clear hJ hr hm hjr hR kA tA h3 hn hp hpr
 go_enter Tryz.func12,Tryz.ntmps12
 go_wp2_with fail
 clear hW0
 (with_reducible refine ch.mono ?_)
 clear ch
 rintro e w1 ⟨b,rfl,k1,hbn⟩
 cases b with
 |true=>
  have cw:=bI w1 mx ((H.out.2.2.2.2.1.trans k1).cell (p:=⟨0,0,none⟩) (fun h=>h) HM.out)
  have KW1:=Lib.hid (H.out.2.2.2.2.1.trans k1)
  clear k1 x0 x1 hbn
  go_wp2_with fail
  (with_reducible refine cw.mono ?_)
  clear cw
  rintro e wz1 ⟨rfl,kz1⟩
  have F1:=Lib.hid (KW1.out.trans kz1)
  clear kz1
  go_wp2_with fail
  go_ret
  exact⟨rfl,F1.out⟩
 |false=>
  have yY:R.length<=60:=(hbn rfl).2
  clear hbn
  by_cases hp1:at_<0
  ·skip
   have cw:=bI w1 mx ((H.out.2.2.2.2.1.trans k1).cell (p:=⟨0,0,none⟩) (fun h=>h) HM.out)
   have KW2:=Lib.hid (H.out.2.2.2.2.1.trans k1)
   clear k1 x0 x1
   go_wp2_with fail
   (with_reducible refine cw.mono ?_)
   clear cw
   rintro e wz2 ⟨rfl,kz2⟩
   have F2:=Lib.hid (KW2.out.trans kz2)
   clear kz2
   go_wp2_with fail
   go_ret
   exact⟨rfl,F2.out⟩
  by_cases hp2:(R.length:Int)<at_
  ·skip
   have cw:=bI w1 mx ((H.out.2.2.2.2.1.trans k1).cell (p:=⟨0,0,none⟩) (fun h=>h) HM.out)
   have KW3:=Lib.hid (H.out.2.2.2.2.1.trans k1)
   clear k1 x0 x1
   go_wp2_with fail
   (with_reducible refine cw.mono ?_)
   clear cw
   rintro e wz3 ⟨rfl,kz3⟩
   have F3:=Lib.hid (KW3.out.trans kz3)
   clear kz3
   go_wp2_with fail
   go_ret
   exact⟨rfl,F3.out⟩
  by_cases hp3:pr<1
  ·skip
   have cw:=bI w1 mx ((H.out.2.2.2.2.1.trans k1).cell (p:=⟨0,0,none⟩) (fun h=>h) HM.out)
   have KW4:=Lib.hid (H.out.2.2.2.2.1.trans k1)
   clear k1 x0 x1
   go_wp2_with fail
   (with_reducible refine cw.mono ?_)
   clear cw
   rintro e wz4 ⟨rfl,kz4⟩
   have F4:=Lib.hid (KW4.out.trans kz4)
   clear kz4
   go_wp2_with fail
   go_ret
   exact⟨rfl,F4.out⟩
  by_cases hp4:4<pr
  ·skip
   have cw:=bI w1 mx ((H.out.2.2.2.2.1.trans k1).cell (p:=⟨0,0,none⟩) (fun h=>h) HM.out)
   have KW5:=Lib.hid (H.out.2.2.2.2.1.trans k1)
   clear k1 x0 x1
   go_wp2_with fail
   (with_reducible refine cw.mono ?_)
   clear cw
   rintro e wz5 ⟨rfl,kz5⟩
   have F5:=Lib.hid (KW5.out.trans kz5)
   clear kz5
   go_wp2_with fail
   go_ret
   exact⟨rfl,F5.out⟩
  obtain⟨n,rfl⟩:=Int.eq_ofNat_of_zero_le (show 0<=at_ by omega)
  have x0:=k1.cell (p:=⟨w.heap.size,0,none⟩) (fun h=>h) x0
  have x1:=k1.cell (p:=⟨w.heap.size,1,none⟩) (fun h=>h) x1
  have hB:w.heap.size<w1.heap.size:=by have:=block_lt_of_cell x0;simpa using this
  have cm:=yT j _ w1 (H.out.1.pure (H.out.2.2.2.2.1.trans k1))
  have K1:=Lib.hid k1
  clear k1
  go_wp2_with fail
  (with_reducible refine cm.mono ?_)
  clear cm
  rintro e w2 ⟨rfl,k2⟩
  by_cases hz:(iZ j).2=0
  ·have hok:bK j=true:=by rw[uj,decide_eq_true hz]
   have qK:=H.out.2.2.2.2.1.trans (K1.out.trans k2)
   have x0:=k2.cell (p:=⟨w.heap.size,0,none⟩) (fun h=>h) x0
   have x1:=k2.cell (p:=⟨w.heap.size,1,none⟩) (fun h=>h) x1
   have hB:w.heap.size<w2.heap.size:=by have:=block_lt_of_cell x0;simpa using this
   have kB:Kept none' w2 (w2.alloc (.cells #[.int .i64 pr, .slice na j.nodes.length cap] 24)):=(Kept.refl _ _).alloc _
   have tB:=heap_alloc_new w2 (.cells #[.int .i64 pr, .slice na j.nodes.length cap] 24)
   obtain⟨W3,hW3⟩: ∃W3,w2.alloc (.cells #[.int .i64 pr, .slice na j.nodes.length cap] 24)=W3:=⟨_,rfl⟩
   rw[hW3]at kB tB
   have tY:=qK.trans kB
   have hy: ∀y∈R.map dI,aI y.1/\aI y.2:=fun y hy=>by
    obtain⟨r,hr,rfl⟩:=List.mem_map.1 hy
    exact⟨(H.out.2.2.2.1 r hr).key,(H.out.2.2.2.1 r hr).val⟩
   obtain⟨Ts,e1,e2⟩:=UM (first:=j) (k:={j with par:=pr}) (l:=R.map dI) (at_:=n) hok H.out.2.2.1 hy (by rw[List.length_map];omega) (Vx hok (by omega) (by omega)) rfl
   rw[List.length_map]at e1 e2
   obtain⟨O,hO⟩: ∃O,(dO j.nodes Ts (R.map dI)).1=O:=⟨_,rfl⟩
   rw[hO]at e1 e2
   have co:=pF j (.slice na j.nodes.length cap) (.slice none 0 0) _ [] R (R.length:Int) W3 (H.out.1.pure tY) (dB.nil _) (H.out.2.1.pure tY) H.out.2.2.2.1 yY
   rw[e1]at co
   have y0:=kB.cell (p:=⟨w.heap.size,0,none⟩) (fun h=>h) x0
   have y1:=kB.cell (p:=⟨w.heap.size,1,none⟩) (fun h=>h) x1
   have HW:=Lib.hid hW3
   have hcur:w2.heap.size<W3.heap.size:=(Array.getElem?_eq_some_iff.1 tB).1
   have G:=Lib.hid (And.intro tY (And.intro tB (And.intro e2 (And.intro y0 y1))))
   clear hW3 kB tB tY qK hy e1 e2 hO k2 hok y0 y1
   go_wp2_with fail
   rw[HW.out]
   clear HW x0 x1
   (with_reducible refine co.mono ?_)
   clear co
   rintro e w4 ⟨B1,V1,rfl,ho1,hB1,k4,-⟩
   have ho1:bY w4 W3.heap.size B1 78 V1 (eF O):=ho1
   have x0:=k4.cell (p:=⟨w.heap.size,0,none⟩) (fun h=>h) G.out.2.2.2.1
   have x1:=k4.cell (p:=⟨w.heap.size,1,none⟩) (fun h=>h) G.out.2.2.2.2
   have hB:w.heap.size<w4.heap.size:=by have:=block_lt_of_cell x0;simpa using this
   have Zj:=k4.heap G.out.2.1 (fun h=>h)
   have z0:=cells_at Zj (j:=0) (v:= .int .i64 pr) rfl
   have z1:=cells_at Zj (j:=1) (v:= .slice na j.nodes.length cap) rfl
   have hB2:w2.heap.size<w4.heap.size:=(Array.getElem?_eq_some_iff.1 Zj).1
   have kC:Kept none' w4 (w4.alloc (.cells #[.int .i64 (n:Int), .int .i64 pr, .slice na j.nodes.length cap] 75)):=(Kept.refl _ _).alloc _
   have tC:=heap_alloc_new w4 (.cells #[.int .i64 (n:Int), .int .i64 pr, .slice na j.nodes.length cap] 75)
   obtain⟨W5,nZ⟩: ∃W5,w4.alloc (.cells #[.int .i64 (n:Int), .int .i64 pr, .slice na j.nodes.length cap] 75)=W5:=⟨_,rfl⟩
   rw[nZ]at kC tC
   have Vr:=G.out.1.trans (k4.trans kC)
   have co:=pF j (.slice na j.nodes.length cap) (.slice (some ⟨w4.heap.size,0,none⟩) 1 1) _ [((n:Nat),{j with par:=pr})] R (R.length:Int) W5 (H.out.1.pure Vr) (dB.one (j:={j with par:=pr}) tC rfl ((H.out.1.pure Vr).aas H.out.2.2.2.2.2.2)) (H.out.2.1.pure Vr) H.out.2.2.2.1 yY
   rw[G.out.2.2.1]at co
   have G2:=Lib.hid (And.intro Vr (ho1.pure kC))
   have HW:=Lib.hid nZ
   clear nZ kC tC Vr ho1 hB1 k4 Zj
   go_wp2_with fail
   rw[HW.out]
   clear HW x0 x1 z0 z1
   (with_reducible refine co.mono ?_)
   clear co
   rintro e w6 ⟨B2,V2,rfl,ho2,hB2',k6,-⟩
   have ho2:bY w6 W5.heap.size B2 78 V2 (eF O):=ho2
   have G3:=Lib.hid (And.intro (G2.out.1.trans k6) (And.intro (G2.out.2.pure k6) ho2))
   clear k6 ho2 hB2'
   go_wp2_with fail
   go_loopg [85] 2 (fun g vi wr=> ∃k:Nat,k<=2/\vi= .int .i64 (k:Int)/\2-k<=g/\Kept none' w6 wr)
   case atStart=>exact⟨0,by omega,rfl,by omega,Kept.refl _ _⟩
   case round=>
    obtain⟨k,hkl,rfl,hg,hkp⟩:=hrel
    by_cases hlt:k<2
    ·obtain⟨l,hl⟩: ∃l,(eF O)[k]?=some l:=⟨_,List.getElem?_eq_getElem (by unfold eF;simpa using hlt)⟩
     have o1:=G3.out.2.1.pure hkp
     have o2:=G3.out.2.2.pure hkp
     obtain⟨u1,hu1⟩: ∃u,V1[k]?=some u:=⟨_,List.getElem?_eq_getElem (by rw[o1.len];exact(List.getElem?_eq_some_iff.1 hl).1)⟩
     obtain⟨u2,hu2⟩: ∃u,V2[k]?=some u:=⟨_,List.getElem?_eq_getElem (by rw[o2.len];exact(List.getElem?_eq_some_iff.1 hl).1)⟩
     have w1':=o1.own k u1 l hu1 hl
     have w2':=o2.own k u2 l hu2 hl
     obtain⟨a1,c1,hv1⟩:=ay w1'
     obtain⟨a2,c2,hv2⟩:=ay w2'
     subst hv1 hv2
     have y1:=cells_at o1.blk (j:=k) (v:= .slice a1 l.length c1) (by simpa using hu1)
     have y2:=cells_at o2.blk (j:=k) (v:= .slice a2 l.length c2) (by simpa using hu2)
     have ce:=Dn (.slice a1 l.length c1) (.slice a2 l.length c2) l l wr.drew ((Reads.aZ w1').pure (Kept.refl none' wr).drew) ((Reads.aZ w2').pure (Kept.refl none' wr).drew)
     rw[show zi l l=true from decide_eq_true rfl]at ce
     have hk2:(k:Int)<2:=by omega
     have Z:=Lib.hid (And.intro hg hkp)
     clear hg hkp o1 o2 hu1 hu2 w1' w2' hl
     go_wp2_with fail
     refine ak [0,1,2,3,4,5,6,7,8,9] (fun W=>Kept none' wr W) (by kernel_rfl) (by kernel_rfl) rfl (Kept.refl _ _).drew ?_
     simp only[List.map_cons,List.map_nil,List.getElem?_toArray,List.getElem?_cons_zero,List.getElem?_cons_succ,Option.getD_some]
     iterate 8 (apply aj rfl rfl;(intro W hW;have q1:=hW.cell (p:=⟨B1,k,none⟩) (fun h=>h) y1;have q2:=hW.cell (p:=⟨B2,k,none⟩) (fun h=>h) y2;go_simp;rfl);go_frame)
     clear y1 y2
     apply aA rfl rfl
     intro K hK
     go_wp2_with fail
     (with_reducible refine ce.mono ?_)
     clear ce
     rintro e w7 ⟨rfl,k7⟩
     have uK:=k7.aQ
     go_wp2_with fail
     refine hK _ _ (fun _=>uK) ?_
     clear hK
     apply aj rfl rfl
     ·intro W hW;go_simp;rfl
     go_frame
     refine aG (fun _=>uK) ?_
     have Z2:=Lib.hid (Z.out.2.trans uK)
     clear k7 uK
     go_wp2_with fail
     go_roundg (2-(k+1))
     case rel=>exact⟨k+1,by omega,by go_num,Nat.le_refl _,Z2.out⟩
     case measure=>have:=Z.out.1;omega
    ·skip
     have cw:=bI wr mx ((G3.out.1.trans hkp).cell (p:=⟨0,0,none⟩) (fun h=>h) HM.out)
     have KW7:=Lib.hid (G3.out.1.trans hkp)
     clear hkp hg
     go_wp2_with fail
     (with_reducible refine cw.mono ?_)
     clear cw
     rintro e wz7 ⟨rfl,Vq⟩
     have F7:=Lib.hid (KW7.out.trans Vq)
     clear Vq
     go_wp2_with fail
     go_ret
     exact⟨rfl,F7.out⟩
  ·skip
   have cw:=bI w2 mx ((H.out.2.2.2.2.1.trans (K1.out.trans k2)).cell (p:=⟨0,0,none⟩) (fun h=>h) HM.out)
   have KW6:=Lib.hid (H.out.2.2.2.2.1.trans (K1.out.trans k2))
   clear k2 x0 x1
   go_wp2_with fail
   (with_reducible refine cw.mono ?_)
   clear cw
   rintro e wz6 ⟨rfl,kz6⟩
   have F6:=Lib.hid (KW6.out.trans kz6)
   clear kz6
   go_wp2_with fail
   go_ret
   exact⟨rfl,F6.out⟩
end Go.Proofs.YtopeleenlcnkkaaGreatDoor
