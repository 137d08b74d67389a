/- How many bytes states have. -/
import Derived.Test.YtglbkodmmogomaaGreatDoorM51
set_option linter.unusedVariables false
set_option linter.unusedSimpArgs false
set_option maxHeartbeats 4000000
set_option maxRecDepth 100000
namespace Go.Proofs.YtglbkodmmogomaaGreatDoor
section
open Go Go.RowKit
end
section
open Go Go.RowKit
attribute [local irreducible] bH dP H2.bW
abbrev MI:ByteArray:=⟨#[114]⟩
abbrev Nu:ByteArray:=⟨#[2,10,4,0]⟩
theorem Nr (u:ByteArray)(w:World):Calls Tryz.prog 40 #[.string u, .bool true] w fun e w'=> ∃v,e= .returned v/\Reads w' 2 v (dK [(u,Nu)])/\Kept none' w w':=by
 have hlit:=Reads.lit w [.string u, .string Nu] 35 2 1 rfl (by unfold maxLen;omega)
 have HL:=Lib.hid hlit
 clear hlit
 go_enter Tryz.func40,Tryz.ntmps40
 go_wp2_with fail
 go_ret
 exact⟨_,rfl,HL.out,(Kept.refl _ _).alloc _⟩
def EJ:Jb:=⟨2,JX⟩
def Kw:Jb:=⟨2,Kv⟩
theorem KE:aN EJ Kw [(MI,Nu)]=(MI,240):=by kernel_rfl
theorem pI (w:World)(m:Int)(hm:w.cell? ⟨0,0,none⟩=some (.int .i64 m)):Calls Tryz.prog 9 #[] w (Gives w (.bool true)):=by
 have c1:=Fp Qz 2 JX w JW m hm
 have HM:=Lib.hid hm
 clear hm
 go_enter Tryz.func9,Tryz.ntmps9
 go_wp2_with fail
 (with_reducible refine c1.mono ?_)
 clear c1
 rintro e w1 ⟨va,J,lo,D,rfl,hj,hJ,k1⟩
 have hja:=hj.job
 obtain⟨ql,qj,hva⟩: ∃a c,va= .slice a 3 c:=by obtain⟨a,c,h,_⟩:=hja.uI.at;exact⟨a,c,h⟩
 subst hva
 have c2:=Fp QF 2 Kv w1 Ku m (k1.cell (p:=⟨0,0,none⟩) (fun h=>h) HM.out)
 have K1:=Lib.hid (And.intro hja k1)
 clear hja k1 hj hJ
 go_wp2_with fail
 (with_reducible refine c2.mono ?_)
 clear c2
 rintro e w2 ⟨vb,J',lo',D',rfl,hj,hJ,k2⟩
 have hjb:=hj.job
 obtain⟨vb1,qJ,hvb⟩: ∃a c,vb= .slice a 3 c:=by obtain⟨a,c,h,_⟩:=hjb.uI.at;exact⟨a,c,h⟩
 subst hvb
 have kA:Kept none' w2 ((w2.alloc (.cells #[.int .i64 2, .slice ql 3 qj] 24)).alloc (.cells #[.int .i64 2, .slice vb1 3 qJ] 24)):=((Kept.refl _ _).alloc _).alloc _
 have t0:((w2.alloc (.cells #[.int .i64 2, .slice ql 3 qj] 24)).alloc (.cells #[.int .i64 2, .slice vb1 3 qJ] 24)).heap[w2.heap.size]?=some (.cells #[.int .i64 2, .slice ql 3 qj] 24 (0,0)):=((Kept.refl none' _).alloc _).heap (heap_alloc_new w2 _) (fun h=>h)
 have t1:((w2.alloc (.cells #[.int .i64 2, .slice ql 3 qj] 24)).alloc (.cells #[.int .i64 2, .slice vb1 3 qJ] 24)).heap[w2.heap.size+1]?=some (.cells #[.int .i64 2, .slice vb1 3 qJ] 24 (0,0)):=by
  have:=heap_alloc_new (w2.alloc (.cells #[.int .i64 2, .slice ql 3 qj] 24)) (.cells #[.int .i64 2, .slice vb1 3 qJ] 24)
  rwa[World.size_alloc]at this
 obtain⟨W3,hW3⟩: ∃W3,((w2.alloc (.cells #[.int .i64 2, .slice ql 3 qj] 24)).alloc (.cells #[.int .i64 2, .slice vb1 3 qJ] 24))=W3:=⟨_,rfl⟩
 rw[hW3]at kA t0 t1
 have p0:=cells_at t0 (j:=0) (v:= .int .i64 2) rfl
 have p1:=cells_at t0 (j:=1) (v:= .slice ql 3 qj) rfl
 have r0:=cells_at t1 (j:=0) (v:= .int .i64 2) rfl
 have r1:=cells_at t1 (j:=1) (v:= .slice vb1 3 qJ) rfl
 have K2:=Lib.hid (And.intro (K1.out.1.pure (k2.trans kA)) (And.intro (hjb.pure kA) (K1.out.2.trans (k2.trans kA))))
 have HW:=Lib.hid hW3
 clear hjb k2 hj hJ kA t0 t1 hW3
 go_wp2_with fail
 rw[HW.out]
 clear HW
 refine ak [0,1,2,3,4,5,6,7,8] (fun W=>Kept none' W3 W) (by kernel_rfl) (by kernel_rfl) rfl (Kept.refl _ _).drew ?_
 simp only[List.map_cons,List.map_nil,List.getElem?_toArray,List.getElem?_cons_zero,List.getElem?_cons_succ,Option.getD_some]
 iterate 2 (apply aj rfl rfl;(intro W hW;have a0:=hW.cell (p:=⟨w2.heap.size,0,none⟩) (fun h=>h) p0;have a1:=hW.cell (p:=⟨w2.heap.size,1,none⟩) (fun h=>h) p1;have b0:=hW.cell (p:=⟨w2.heap.size+1,0,none⟩) (fun h=>h) r0;have b1:=hW.cell (p:=⟨w2.heap.size+1,1,none⟩) (fun h=>h) r1;go_simp;rfl);go_frame)
 clear p0 p1 r0 r1
 apply aB rfl rfl
 intro K hK
 go_wp2_with fail
 (with_reducible refine(Nr MI W3.drew).mono ?_)
 rintro e w4 ⟨v4,rfl,hv4,k4⟩
 have Nv:Kept none' W3 w4:=(Kept.refl none' W3).drew.trans k4
 obtain⟨VX,VW,XK,-⟩:=hv4.mV
 subst XK
 go_wp2_with fail
 refine hK _ _ (fun _=>Nv) ?_
 clear hK
 have cc:=check_any EJ Kw _ _ _ [(MI,Nu)] w4 (K2.out.1.pure Nv) (K2.out.2.1.pure Nv) hv4 (by intro s hs;simp at hs;subst hs;decide)
 rw[KE,show EJ.par=2 from rfl,show Kw.par=2 from rfl,show([(MI,Nu)]:List St).length=1 from rfl]at cc
 have K4:=Lib.hid Nv
 clear hv4 k4 Nv
 apply aB rfl rfl
 intro K hK
 go_wp2_with fail
 (with_reducible refine cc.mono ?_)
 clear cc
 rintro e w5 ⟨rfl,k5⟩
 have wB:=K4.out.trans k5
 go_wp2_with fail
 refine hK _ _ (fun _=>wB) ?_
 clear hK k5
 iterate 5 (apply aj rfl rfl;(intro W hW;go_simp;rfl);go_frame)
 refine aG (fun _=>wB) ?_
 have F:=Lib.hid (K2.out.2.2.trans wB)
 clear wB
 go_wp2_with fail
 go_ret
 exact⟨rfl,F.out⟩
theorem DW (x:List St):GL x x=true:=decide_eq_true rfl
theorem Fg (a b:Jb)(va vb sv:Value)(l:List St)(w:World)(mx:Int)(hm:w.cell? ⟨0,0,none⟩=some (.int .i64 mx))(ha:fA w #[.int .i64 a.par,va] a)(hb:fA w #[.int .i64 b.par,vb] b)(hs:Reads w 2 sv (dK l))(hsz: ∀s∈l,s.1.size<=maxLen/\s.2.size<=maxLen):
 Calls Tryz.prog 3 #[.agg #[.int .i64 a.par,va], .agg #[.int .i64 b.par,vb],sv] w (Gives w (.bool true)):=by
 obtain⟨ql,qj,hva,-⟩:=ha.uI.at
 obtain⟨vb1,qJ,hvb,-⟩:=hb.uI.at
 subst hva hvb
 obtain⟨sa,scap,hsv,s1,s2,-⟩:=hs.mV
 subst hsv
 unfold maxLen at s2
 have kA:Kept none' w ((w.alloc (.cells #[.int .i64 a.par, .slice ql a.nodes.length qj] 24)).alloc (.cells #[.int .i64 b.par, .slice vb1 b.nodes.length qJ] 24)):=((Kept.refl _ _).alloc _).alloc _
 have t0:((w.alloc (.cells #[.int .i64 a.par, .slice ql a.nodes.length qj] 24)).alloc (.cells #[.int .i64 b.par, .slice vb1 b.nodes.length qJ] 24)).heap[w.heap.size]?=some (.cells #[.int .i64 a.par, .slice ql a.nodes.length qj] 24 (0,0)):=((Kept.refl none' _).alloc _).heap (heap_alloc_new w _) (fun h=>h)
 have t1:((w.alloc (.cells #[.int .i64 a.par, .slice ql a.nodes.length qj] 24)).alloc (.cells #[.int .i64 b.par, .slice vb1 b.nodes.length qJ] 24)).heap[w.heap.size+1]?=some (.cells #[.int .i64 b.par, .slice vb1 b.nodes.length qJ] 24 (0,0)):=by
  have:=heap_alloc_new (w.alloc (.cells #[.int .i64 a.par, .slice ql a.nodes.length qj] 24)) (.cells #[.int .i64 b.par, .slice vb1 b.nodes.length qJ] 24)
  rwa[World.size_alloc]at this
 obtain⟨W1,hW1⟩: ∃W1,((w.alloc (.cells #[.int .i64 a.par, .slice ql a.nodes.length qj] 24)).alloc (.cells #[.int .i64 b.par, .slice vb1 b.nodes.length qJ] 24))=W1:=⟨_,rfl⟩
 rw[hW1]at kA t0 t1
 have p0:=cells_at t0 (j:=0) (v:= .int .i64 a.par) rfl
 have p1:=cells_at t0 (j:=1) (v:= .slice ql a.nodes.length qj) rfl
 have ch:=Au a _ _ l (.slice none 0 0) [] W1 (ha.pure kA) (hs.pure kA) hsz (Reads.nil _ 3)
 have H:=Lib.hid (And.intro hm (And.intro ha (And.intro hb (And.intro hs (And.intro hsz (And.intro kA (And.intro t0 t1)))))))
 clear hm ha hb hs hsz kA t0 t1
 have HW:=Lib.hid hW1
 clear hW1
 have BX: ∀w',Kept none' W1 w'->(w'.cell? ⟨w.heap.size,0,none⟩=some (.int .i64 a.par)/\w'.cell? ⟨w.heap.size,1,none⟩=some (.slice ql a.nodes.length qj)/\w'.cell? ⟨w.heap.size+1,0,none⟩=some (.int .i64 b.par)/\w'.cell? ⟨w.heap.size+1,1,none⟩=some (.slice vb1 b.nodes.length qJ)/\w.heap.size+1<w'.heap.size/\w.heap.size<w'.heap.size):=fun w' k=>by
  have t0:=k.heap H.out.2.2.2.2.2.2.1 (fun h=>h)
  have t1:=k.heap H.out.2.2.2.2.2.2.2 (fun h=>h)
  have hsz:w.heap.size+1<w'.heap.size:=(Array.getElem?_eq_some_iff.1 t1).1
  exact⟨cells_at t0 rfl,cells_at t0 rfl,cells_at t1 rfl,cells_at t1 rfl,hsz,by omega⟩
 have BX:=Lib.hid BX
 go_enter Tryz.func3,Tryz.ntmps3
 go_wp2_with fail
 rw[HW.out]
 clear HW
 (with_reducible refine ch.mono ?_)
 clear ch p0 p1
 rintro e w1 ⟨b1,rfl,k1,Gu⟩
 cases b1 with
 |true=>
  have cw:=pI w1 mx ((H.out.2.2.2.2.2.1.trans k1).cell (p:=⟨0,0,none⟩) (fun h=>h) H.out.1)
  have KW1:=Lib.hid (H.out.2.2.2.2.2.1.trans k1)
  clear k1 Gu
  go_wp2_with fail
  (with_reducible refine cw.mono ?_)
  clear cw
  rintro e wz1 ⟨rfl,Ws⟩
  have F1:=Lib.hid (KW1.out.trans Ws)
  clear Ws
  go_wp2_with fail
  go_ret
  exact⟨rfl,F1.out⟩
 |false=>
  obtain⟨hsa,hl40,-⟩:=Gu rfl
  obtain⟨-,-,r0,r1,hsz,hszA⟩:=BX.out w1 k1
  have ch:=Au b _ (.slice none 0 0) [] (.slice none 0 0) [] w1 (H.out.2.2.1.pure (H.out.2.2.2.2.2.1.trans k1)) (Reads.nil _ 2) (fun s hs=>by cases hs) (Reads.nil _ 3)
  have K1:=Lib.hid k1
  have Xt:=Lib.hid hsa
  clear k1 Gu hsa
  go_wp2_with fail
  (with_reducible refine ch.mono ?_)
  clear ch r0 r1 hsz hszA
  rintro e w2 ⟨b2,rfl,k2,Qd⟩
  cases b2 with
  |true=>
   have cw:=pI w2 mx ((H.out.2.2.2.2.2.1.trans (K1.out.trans k2)).cell (p:=⟨0,0,none⟩) (fun h=>h) H.out.1)
   have KW2:=Lib.hid (H.out.2.2.2.2.2.1.trans (K1.out.trans k2))
   clear k2 Qd
   go_wp2_with fail
   (with_reducible refine cw.mono ?_)
   clear cw
   rintro e wz2 ⟨rfl,Wq⟩
   have F2:=Lib.hid (KW2.out.trans Wq)
   clear Wq
   go_wp2_with fail
   go_ret
   exact⟨rfl,F2.out⟩
  |false=>
   have Xr:=Lib.hid (Qd rfl).1
   have K2:=Lib.hid (K1.out.trans k2)
   clear k2 Qd
   obtain⟨p0,p1,r0,r1,hsz,hszA⟩:=BX.out w2 K2.out
   have kw:=H.out.2.2.2.2.2.1.trans K2.out
   have cc:=check_any a b _ _ _ l w2 (H.out.2.1.pure kw) (H.out.2.2.1.pure kw) (H.out.2.2.2.1.pure kw) H.out.2.2.2.2.1
   clear kw
   go_wp2_with fail
   (with_reducible refine cc.mono ?_)
   clear cc p0 p1 r0 r1 hsz hszA
   rintro e w3 ⟨rfl,k3⟩
   have K3:=Lib.hid (K2.out.trans k3)
   clear k3 K2
   obtain⟨p0,p1,r0,r1,hsz,hszA⟩:=BX.out w3 K3.out
   have kw:=H.out.2.2.2.2.2.1.trans K3.out
   have cc:=zX a b _ _ _ l w3 (H.out.2.1.pure kw) (H.out.2.2.1.pure kw) (H.out.2.2.2.1.pure kw) H.out.2.2.2.2.1 Xt.out Xr.out
   clear kw
   obtain⟨u,hu⟩: ∃u,(aN a b l).1=u:=⟨_,rfl⟩
   obtain⟨er,her⟩: ∃er,(aN a b l).2=er:=⟨_,rfl⟩
   unfold jc at cc
   rw[hu,her]at cc⊢
   clear hu her
   go_wp2_with fail
   (with_reducible refine cc.mono ?_)
   clear cc p0 p1 r0 r1 hsz hszA
   rintro e w4 ⟨rfl,k4⟩
   have K4:=Lib.hid (K3.out.trans k4)
   clear k4 K3
   obtain⟨p0,p1,r0,r1,hsz,hszA⟩:=BX.out w4 K4.out
   have kw:=H.out.2.2.2.2.2.1.trans K4.out
   have cc:=Oi a b _ _ _ l w4 (H.out.2.1.pure kw) (H.out.2.2.1.pure kw) (H.out.2.2.2.1.pure kw) H.out.2.2.2.2.1 (by omega)
   have hee:(u.toList==u.toList)=true:=beq_self_eq_true _
   have UC:(er==er)=true:=beq_self_eq_true _
   clear kw
   go_wp2_with fail
   (with_reducible refine cc.mono ?_)
   clear cc p0 p1 r0 r1 hsz hszA hee UC
   intro e w5 hq
   unfold kR at hq
   have ck: ∀w',Kept none' W1 w'->Calls Tryz.prog 13 #[.agg #[.int .i64 a.par, .slice ql a.nodes.length qj], .agg #[.int .i64 b.par, .slice vb1 b.nodes.length qJ], .slice sa l.length scap] w' (kR w' (iW a b l)):=fun w' k=>by
    have kw:=H.out.2.2.2.2.2.1.trans k
    exact J9 a b _ _ _ l w' (H.out.2.1.pure kw) (H.out.2.2.1.pure kw) (H.out.2.2.2.1.pure kw) H.out.2.2.2.2.1 Xt.out Xr.out
   have CK:=Lib.hid ck
   clear ck
   cases hc:iW a b l with
   |error Xf=>
    rw[hc]at hq CK
    obtain⟨rfl,hne,k5⟩:=hq
    have K5:=Lib.hid (K4.out.trans k5)
    clear k5 hc hne K4
    obtain⟨p0,p1,r0,r1,hsz,hszA⟩:=BX.out w5 K5.out
    have cc:=CK.out w5 K5.out
    unfold kR at cc
    dsimp only at cc
    go_wp2_with fail
    (with_reducible refine cc.mono ?_)
    clear cc p0 p1 r0 r1 hsz hszA
    rintro e w6 ⟨rfl,-,k6⟩
    have K6:=Lib.hid (K5.out.trans k6)
    clear k6 K5
    have ce:=Jt (.slice none 0 0) (.slice none 0 0) [] [] w6 (Reads.nil _ 2) (Reads.nil _ 2)
    rw[DW]at ce
    go_wp2_with fail
    (with_reducible refine ce.mono ?_)
    clear ce
    rintro e w7 ⟨rfl,k7⟩
    have K7:=Lib.hid (H.out.2.2.2.2.2.1.trans (K6.out.trans k7))
    clear k7
    have cw:=pI w7 mx (K7.out.cell (p:=⟨0,0,none⟩) (fun h=>h) H.out.1)
    have UC:(Xf==Xf)=true:=beq_self_eq_true _
    go_wp2_with fail
    (with_reducible refine cw.mono ?_)
    clear cw
    rintro e w8 ⟨rfl,k8⟩
    have F8:=Lib.hid (K7.out.trans k8)
    clear k8
    go_wp2_with fail
    go_ret
    exact⟨rfl,F8.out⟩
   |ok x=>
    rw[hc]at hq CK
    obtain⟨v5,rfl,hv5,k5⟩:=hq
    have K5:=Lib.hid (And.intro (K4.out.trans k5) hv5)
    obtain⟨xa,xc,rfl,x1,x2,-⟩:=hv5.mV
    unfold maxLen at x2
    clear k5 hc K4 hv5
    obtain⟨p0,p1,r0,r1,hsz,hszA⟩:=BX.out w5 K5.out.1
    have cc:=CK.out w5 K5.out.1
    unfold kR at cc
    dsimp only at cc
    go_wp2_with fail
    (with_reducible refine cc.mono ?_)
    clear cc p0 p1 r0 r1 hsz hszA
    rintro e w6 ⟨v6,rfl,hv6,k6⟩
    have ce:=Jt _ _ x x w6 (K5.out.2.pure k6) hv6
    rw[DW]at ce
    obtain⟨ya,yc,rfl,y1,y2,-⟩:=hv6.mV
    unfold maxLen at y2
    have K6:=Lib.hid (K5.out.1.trans k6)
    clear k6 hv6
    go_wp2_with fail
    (with_reducible refine ce.mono ?_)
    clear ce
    rintro e w7 ⟨rfl,k7⟩
    have K7:=Lib.hid (H.out.2.2.2.2.2.1.trans (K6.out.trans k7))
    clear k7
    have cw:=pI w7 mx (K7.out.cell (p:=⟨0,0,none⟩) (fun h=>h) H.out.1)
    go_wp2_with fail
    (with_reducible refine cw.mono ?_)
    clear cw
    rintro e w8 ⟨rfl,k8⟩
    have F8:=Lib.hid (K7.out.trans k8)
    clear k8
    go_wp2_with fail
    go_ret
    exact⟨rfl,F8.out⟩
end
end Go.Proofs.YtglbkodmmogomaaGreatDoor
