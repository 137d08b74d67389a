/- The law IdealGoes: an ideal that is loaded with states goes on as the one that had them; so does a copy. -/
import Derived.Test.YtopeleenlcnkkaaGreatDoorM53
import Derived.Test.YtopeleenlcnkkaaGreatDoorM49
set_option linter.unusedVariables false
set_option linter.unusedSimpArgs false
set_option maxHeartbeats 4000000
set_option maxRecDepth 100000
namespace Go.Proofs.YtopeleenlcnkkaaGreatDoor
open Go Go.RowKit
attribute [local irreducible] bU dW H2.dG
theorem UN (j:Jb)(a:Array Value)(rv:Value)(R:List Rec)(at_:Int)(w:World)(mx:Int)(hm:w.cell? ⟨0,0,none⟩=some (.int .i64 mx))(h:gI w a j)(hr:Reads w 3 rv (recs R))(hR: ∀r∈R,bg r):
 Calls Tryz.prog 10 #[.agg a,rv, .int .i64 at_] w (Gives w (.bool true)):=by
 have hJ:=h
 obtain⟨v,rfl,hn,hp⟩:=h
 obtain⟨na,cap,rfl,h1,h2,h3⟩:=hn.at
 have hjr:=hn.jr
 have Le:=hn.uids
 have kA:Kept none' w (w.alloc (.cells #[.int .i64 j.par, .slice na j.nodes.length cap] 24)):=(Kept.refl _ _).alloc _
 have tA:(w.alloc (.cells #[.int .i64 j.par, .slice na j.nodes.length cap] 24)).heap[w.heap.size]?=some (.cells #[.int .i64 j.par, .slice na j.nodes.length cap] 24 (0,0)):=heap_alloc_new _ _
 obtain⟨W0,hW0⟩: ∃W0,w.alloc (.cells #[.int .i64 j.par, .slice na j.nodes.length cap] 24)=W0:=⟨_,rfl⟩
 have ch:=zM j _ (.slice none 0 0) [] rv R W0 (by rw[<-hW0];exact hJ.pure kA) (Reads.nil _ 2) (fun s hs=>by cases hs) (by rw[<-hW0];exact hr.kept kA (fun _ _ h=>h))
 rw[hW0]at kA tA
 have x0:=cells_at tA (j:=0) (v:= .int .i64 j.par) rfl
 have x1:=cells_at tA (j:=1) (v:= .slice na j.nodes.length cap) rfl
 obtain⟨ra,o7,rfl,r1,r2,-⟩:=hr.recAt
 unfold maxLen at r2
 have H:=Lib.hid (And.intro hJ (And.intro hr (And.intro True.intro (And.intro hm (And.intro hjr (And.intro hR (And.intro kA (And.intro tA Le))))))))
 clear hJ hr hm hjr hR kA tA h3 hn hp Le
 go_enter Tryz.func10,Tryz.ntmps10
 go_wp2_with fail
 clear hW0
 (with_reducible refine ch.mono ?_)
 clear ch
 rintro e w1 ⟨b,rfl,k1⟩
 cases b with
 |true=>
  have cw:=sK w1 mx ((H.out.2.2.2.2.2.2.1.trans k1).cell (p:=⟨0,0,none⟩) (fun h=>h) H.out.2.2.2.1)
  have KW1:=Lib.hid (H.out.2.2.2.2.2.2.1.trans k1)
  clear k1 x0 x1
  go_wp2_with fail
  (with_reducible refine cw.mono ?_)
  clear cw
  rintro e wz1 ⟨rfl,kz1⟩
  have F1:=Lib.hid (KW1.out.trans kz1)
  clear kz1
  go_wp2_with fail
  go_ret
  exact⟨rfl,F1.out⟩
 |false=>
  by_cases hp1:at_<0
  ·have cw:=sK w1 mx ((H.out.2.2.2.2.2.2.1.trans k1).cell (p:=⟨0,0,none⟩) (fun h=>h) H.out.2.2.2.1)
   have KW2:=Lib.hid (H.out.2.2.2.2.2.2.1.trans k1)
   clear k1 x0 x1
   go_wp2_with fail
   (with_reducible refine cw.mono ?_)
   clear cw
   rintro e wz2 ⟨rfl,kz2⟩
   have F2:=Lib.hid (KW2.out.trans kz2)
   clear kz2
   go_wp2_with fail
   go_ret
   exact⟨rfl,F2.out⟩
  by_cases hp2:(R.length:Int)<at_
  ·have cw:=sK w1 mx ((H.out.2.2.2.2.2.2.1.trans k1).cell (p:=⟨0,0,none⟩) (fun h=>h) H.out.2.2.2.1)
   have KW3:=Lib.hid (H.out.2.2.2.2.2.2.1.trans k1)
   clear k1 x0 x1
   go_wp2_with fail
   (with_reducible refine cw.mono ?_)
   clear cw
   rintro e wz3 ⟨rfl,kz3⟩
   have F3:=Lib.hid (KW3.out.trans kz3)
   clear kz3
   go_wp2_with fail
   go_ret
   exact⟨rfl,F3.out⟩
  obtain⟨n,rfl⟩:=Int.eq_ofNat_of_zero_le (show 0<=at_ by omega)
  have hnR:n<=R.length:=by omega
  have x0:=k1.cell (p:=⟨w.heap.size,0,none⟩) (fun h=>h) x0
  have x1:=k1.cell (p:=⟨w.heap.size,1,none⟩) (fun h=>h) x1
  have hB:w.heap.size<w1.heap.size:=by have:=block_lt_of_cell x0;simpa using this
  have cn:=BK j _ w1 (H.out.1.pure (H.out.2.2.2.2.2.2.1.trans k1))
  have K1:=Lib.hid k1
  clear k1
  go_wp2_with fail
  (with_reducible refine cn.mono ?_)
  clear cn
  intro e w2 hq
  clear x0 x1
  unfold iI at hq
  cases hl:dH j []with
  |error er=>
   rw[hl]at hq
   obtain⟨rfl,hne,k2⟩:=hq
   clear hl
   have cw:=sK w2 mx ((H.out.2.2.2.2.2.2.1.trans (K1.out.trans k2)).cell (p:=⟨0,0,none⟩) (fun h=>h) H.out.2.2.2.1)
   have KW4:=Lib.hid (H.out.2.2.2.2.2.2.1.trans (K1.out.trans k2))
   clear k2
   go_wp2_with fail
   (with_reducible refine cw.mono ?_)
   clear cw
   rintro e wz4 ⟨rfl,kz4⟩
   have F4:=Lib.hid (KW4.out.trans kz4)
   clear kz4
   go_wp2_with fail
   go_ret
   exact⟨rfl,F4.out⟩
  |ok Ts0=>
   rw[hl]at hq
   obtain⟨bd,md,sQ,rfl,hi,UE,hnt,k2⟩:=hq
   obtain⟨hok,hT0⟩:=xH hl
   have hsm:=sD hok
   have rD:=eG.of hi UE hnt
   have kx:=K1.out.trans k2
   have hwd:W0.heap.size<=w1.heap.size:=K1.out.size
   have s1:=Oo (H.out.2.1.pure (H.out.2.2.2.2.2.2.1.trans kx)) hnR
   have hs1:=s1.1
   obtain⟨ra',rc',er,-,-,r3⟩:=(Oo H.out.2.1 hnR).2.recAt
   injection er with DY DX DW
   subst DY DW
   clear DX
   have hlt1:(R.take n).length=n:=by rw[List.length_take];omega
   have HI:=Lib.hid (And.intro hok (And.intro hT0 (And.intro rD (And.intro hwd (And.intro r3 (And.intro hi kx))))))
   have HS1:=Lib.hid s1.2
   clear hi UE hnt hok hT0 rD kx k2 hl r3 s1 hwd
   go_wp2_with fail
   clear hs1
   go_loopg [44] n (fun g vi wr=> ∃(k:Nat)(Ts:Tabs),k<=n/\vi= .int .i64 (k:Int)/\n-k<=g/\bK wr bd md j Ts sQ/\bY j.nodes Ts/\Kept none' W0 wr)
   case atStart=>exact⟨0,Ts0,by omega,rfl,by omega,HI.out.2.2.2.2.2.1,HI.out.2.1,HI.out.2.2.2.2.2.2⟩
   case round=>
    obtain⟨k,Ts,hkl,rfl,hg,hi,hT,hkp⟩:=hrel
    by_cases hlt:k<n
    ·obtain⟨r,hrk⟩: ∃r,(R.take n)[k]?=some r:=⟨_,List.getElem?_eq_getElem (by omega)⟩
     obtain⟨rb,roff,rfl,hc⟩:=HI.out.2.2.2.2.1.resolve_left (fun h=>by rw[h]at hlt1;simp at hlt1;omega)
     obtain⟨c0,c1,c2⟩:=(hc k r hrk).pure (H.out.2.2.2.2.2.2.1.trans hkp)
     have hro:=H.out.2.2.2.2.2.1 r (List.mem_of_mem_take (List.mem_of_getElem? hrk))
     have ka:Kept none' wr (wr.alloc (.cells #[.int .i64 r.pos, .int .i64 r.key, .int .i64 r.val] 44)):=(Kept.refl _ _).alloc _
     have cf:=pG j bd md Ts sQ r.key r.val _ (hi.pure ka) HI.out.1 H.out.2.2.2.2.1 hT hro.key hro.val
     have fo:=pI HI.out.1 H.out.2.2.2.2.1 hT hro.key hro.val
     have G:=Lib.hid (And.intro hg (And.intro (hkp.trans ka) (And.intro (HI.out.2.2.1.feed HI.out.2.1 hT) fo.1)))
     clear hi hkp hg hc hrk hro ka hT fo
     go_wp2_with fail
     (with_reducible refine cf.mono ?_)
     clear cf
     rintro e w3 ⟨v3,rfl,hv3,-,hi3,k3⟩
     obtain⟨va,vc,rfl⟩:=hv3.slice_form
     have Z:=Lib.hid (And.intro hi3 (G.out.2.2.1.kept HI.out.2.2.2.1 G.out.2.1 k3))
     clear hi3 hv3 k3 c0 c1 c2
     go_wp2_with fail
     go_roundg (n-(k+1))
     case rel=>exact⟨k+1,_,by omega,by go_num,Nat.le_refl _,Z.out.1,G.out.2.2.2,Z.out.2⟩
     case measure=>have:=G.out.1;omega
    ·have tw:=hkp.heap H.out.2.2.2.2.2.2.2.1 (fun h=>h)
     have x0:=cells_at tw (j:=0) (v:= .int .i64 j.par) rfl
     have x1:=cells_at tw (j:=1) (v:= .slice na j.nodes.length cap) rfl
     have hB:w.heap.size<wr.heap.size:=by have:=block_lt_of_cell x0;simpa using this
     obtain⟨WL,rfl⟩: ∃WL,WL=wr:=⟨_,rfl⟩
     have D1:=Lib.hid (And.intro hi (And.intro hT hkp))
     clear hi hT hkp hg tw
     go_wp2_with fail
     refine ak [0,1,2,3,4,5,6,7,8] (fun W=>Kept none' WL W) (by kernel_rfl) (by kernel_rfl) rfl (Kept.refl _ _).drew ?_
     simp only[List.map_cons,List.map_nil,List.getElem?_toArray,List.getElem?_cons_zero,List.getElem?_cons_succ,Option.getD_some]
     iterate 2 (apply aj rfl rfl;(intro W hW;have q0:=hW.cell (p:=⟨w.heap.size,0,none⟩) (fun h=>h) x0;have q1:=hW.cell (p:=⟨w.heap.size,1,none⟩) (fun h=>h) x1;go_simp;rfl);go_frame)
     clear x0 x1
     have kd:Kept none' WL WL.drew:=(Kept.refl none' WL).drew
     apply aA rfl rfl
     intro K hK
     go_wp2_with fail
     (with_reducible refine(iE j bd md Ts sQ WL.drew (D1.out.1.pure kd) D1.out.2.1.len (by omega)).mono ?_)
     rintro e w4 ⟨v4,rfl,hv4,-,k4⟩
     have uf:=kd.trans k4
     have cl:=uQ j _ v4 (aB j.nodes Ts) w4 (H.out.1.pure (H.out.2.2.2.2.2.2.1.trans (D1.out.2.2.trans uf))) hv4 (wJ D1.out.2.1 H.out.2.2.2.2.2.2.2.2)
     obtain⟨sa,sc,Dz,-⟩:=hv4.jM
     subst Dz
     clear hv4 k4
     go_wp2_with fail
     refine hK _ _ (fun _=>uf) ?_
     clear hK
     apply aA rfl rfl
     intro K hK
     go_wp2_with fail
     (with_reducible refine cl.mono ?_)
     clear cl
     intro e w5 hq
     unfold iI at hq
     rw[wP HI.out.1 D1.out.2.1]at hq
     obtain⟨bu,mu,Fz,rfl,hiu,hmu,hnu,k5⟩:=hq
     have oH:=uf.trans k5
     go_wp2_with fail
     refine hK _ _ (fun _=>oH) ?_
     clear hK
     iterate 5 (apply aj rfl rfl;(intro W hW;go_simp;rfl);go_frame)
     refine aI (fun _=>oH) ?_
     have cc:=Vm j bd md Ts sQ w5 (D1.out.1.pure oH) D1.out.2.1
     have D2:=Lib.hid (And.intro hiu (And.intro (eG.of hiu hmu hnu) (And.intro oH (And.intro uf.size (And.intro hmu hnu)))))
     clear hiu hmu hnu oH k5 uf kd
     go_wp2_with fail
     (with_reducible refine cc.mono ?_)
     clear cc
     rintro e w6 ⟨bc,mc,KG,rfl,hic,hmc,hnc,k6⟩
     have s2:=Oq (H.out.2.1.pure (H.out.2.2.2.2.2.2.1.trans (D1.out.2.2.trans (D2.out.2.2.1.trans k6)))) hnR
     obtain⟨dv,hs2,hd2⟩:=s2
     obtain⟨da,dc,hde,d1,d2,d3⟩:=hd2.recAt
     subst hde
     unfold maxLen at d2
     obtain⟨N,hN⟩: ∃N,(R.drop n).length=N:=⟨_,rfl⟩
     rw[hN]at hs2 hd2 d1
     have HN:=Lib.hid hN
     clear hN
     have D3:=Lib.hid (And.intro hic (And.intro (eG.of hic hmc hnc) (And.intro (D1.out.2.2.trans (D2.out.2.2.1.trans k6)) (And.intro hd2 (And.intro k6 (And.intro d3 True.intro))))))
     have HS2:=Lib.hid hs2
     clear hic hmc hnc k6 hd2 d3
     go_wp2_with fail
     clear hs2
     have MV:=Lib.hid (eG.of D1.out.1 HI.out.2.2.1.m1 (HI.out.2.2.1.feed HI.out.2.1 D1.out.2.1).t1)
     go_loopg [70] N (fun g vi wq=> ∃(k:Nat),k<=N/\vi= .int .i64 (k:Int)/\N-k<=g/\bK wq bd md j Ts sQ/\bK wq bu mu j (jA j.nodes Ts (((R.drop n).take k).map jl)).2 Fz/\bK wq bc mc j (jA j.nodes Ts (((R.drop n).take k).map jl)).2 KG/\Reads wq 3 (.slice da N dc) (recs (R.drop n))/\Kept none' W0 wq)
     case atStart=>exact⟨0,by omega,rfl,by omega,D1.out.1.pure (D2.out.2.2.1.trans D3.out.2.2.2.2.1),D2.out.1.pure D3.out.2.2.2.2.1,D3.out.1,D3.out.2.2.2.1,D3.out.2.2.1⟩
     case round=>
      obtain⟨k,hkl,rfl,hg,hid,hiu,hic,hrd,hkp⟩:=hrel
      obtain⟨wq,rfl⟩: ∃wq:World,wq=wr:=⟨_,rfl⟩
      have jh:=(zT HI.out.1 H.out.2.2.2.2.1 (((R.drop n).take k).map jl) Ts D1.out.2.1 (yA (fun r hr=>H.out.2.2.2.2.2.1 r (List.mem_of_mem_drop hr)) k)).1
      by_cases hlt2:k<N
      ·have XA:=hrd.recAt
       obtain⟨r,hrk⟩: ∃r,(R.drop n)[k]?=some r:=⟨_,List.getElem?_eq_getElem (by rw[HN.out];exact hlt2)⟩
       obtain⟨da',dc',er,-,-,o3⟩:=XA
       injection er with DY DX DW
       subst DY DW
       clear DX
       obtain⟨rb,roff,rfl,hc⟩:=o3.resolve_left (fun h=>by have h9:=HN.out;rw[h]at h9;simp at h9;omega)
       obtain⟨e0,e1,e2⟩:=hc k r hrk
       have hro:=H.out.2.2.2.2.2.1 r (List.mem_of_mem_drop (List.mem_of_getElem? hrk))
       have hstep:=LK j.nodes Ts hrk
       have YM:=(zT HI.out.1 H.out.2.2.2.2.1 (((R.drop n).take (k+1)).map jl) Ts D1.out.2.1 (yA (fun r hr=>H.out.2.2.2.2.2.1 r (List.mem_of_mem_drop hr)) (k+1))).1
       have ka:Kept none' wq (wq.alloc (.cells #[.int .i64 r.pos, .int .i64 r.key, .int .i64 r.val] 44)):=(Kept.refl _ _).alloc _
       have rB:(wq.alloc (.cells #[.int .i64 r.pos, .int .i64 r.key, .int .i64 r.val] 44)).heap[wq.heap.size]?=some (.cells #[.int .i64 r.pos, .int .i64 r.key, .int .i64 r.val] 44 (0,0)):=heap_alloc_new _ _
       obtain⟨Us,UJ⟩: ∃Us,(jA j.nodes Ts (((R.drop n).take k).map jl)).2=Us:=⟨_,rfl⟩
       rw[UJ]at hiu hic jh hstep
       obtain⟨W7,LG⟩: ∃W7,wq.alloc (.cells #[.int .i64 r.pos, .int .i64 r.key, .int .i64 r.val] 44)=W7:=⟨_,rfl⟩
       rw[LG]at ka rB
       have XG:=hic.pure ka
       have abl:=hiu.pure ka
       have rU:=D2.out.2.1.feed D1.out.2.1 jh
       have rC:=D3.out.2.1.feed D1.out.2.1 jh
       have fo:=pI HI.out.1 H.out.2.2.2.2.1 jh hro.key hro.val
       have y1:=cells_at rB (j:=1) (v:= .int .i64 r.key) rfl
       have y2:=cells_at rB (j:=2) (v:= .int .i64 r.val) rfl
       have cf:=pG j bc mc Us KG r.key r.val W7 XG HI.out.1 H.out.2.2.2.2.1 jh hro.key hro.val
       have L:=Lib.hid (And.intro hg (And.intro XG (And.intro abl (And.intro (hid.pure ka) (And.intro rU (And.intro rC (And.intro jh (And.intro hro (And.intro fo (And.intro (hrd.pure ka) (And.intro (hkp.trans ka) (And.intro rB (And.intro hstep YM)))))))))))))
       clear hg XG abl hid hiu hic rU rC jh hro fo hrd hkp rB hstep ka hrk hc o3 UJ YM
       go_wp2_with fail
       try rw[LG]
       clear LG e0 e1 e2
       (with_reducible refine cf.mono ?_)
       clear cf
       rintro e w8 ⟨v8,rfl,DC,-,abr,k8⟩
       obtain⟨va,vc,rfl⟩:=DC.slice_form
       have hno: ¬jg Us KG wq.heap.size:=fun hs=>L.out.2.1.tabs.pX hs _ _ _ L.out.2.2.2.2.2.2.2.2.2.2.2.1
       have y1:=k8.cell (p:=⟨wq.heap.size,1,none⟩) hno y1
       have y2:=k8.cell (p:=⟨wq.heap.size,2,none⟩) hno y2
       have EI:WL.heap.size<=w4.heap.size:=D2.out.2.2.2.1
       have EJ:w4.heap.size<=w5.heap.size:=Nat.le_of_lt (Nat.lt_of_le_of_lt D2.out.2.2.2.2.1 D2.out.1.tabs.lt)
       have XE:=bK.beside L.out.2.2.1 L.out.2.2.2.2.1 L.out.2.1 L.out.2.2.2.2.2.1 (.inl (Nat.le_refl _)) k8
       have Lr:=bK.beside L.out.2.2.2.1 MV.out L.out.2.1 L.out.2.2.2.2.2.1 (.inl (by omega)) k8
       have aa4:=L.out.2.2.2.2.2.2.2.2.2.1.beside (by omega) L.out.2.1 k8
       have hk8:=L.out.2.2.2.2.2.1.kept (w0:=W0) (by have:=HI.out.2.2.2.1;have:=MV.out.m1;have:=MV.out.m2;omega) L.out.2.2.2.2.2.2.2.2.2.2.1 k8
       have cf:=pG j bu mu Us Fz r.key r.val w8 XE HI.out.1 H.out.2.2.2.2.1 L.out.2.2.2.2.2.2.1 L.out.2.2.2.2.2.2.2.1.key L.out.2.2.2.2.2.2.2.1.val
       have M:=Lib.hid (And.intro DC (And.intro abr (And.intro XE (And.intro Lr (And.intro aa4 (And.intro hk8 (And.intro EI EJ)))))))
       clear DC abr XE Lr aa4 hk8 k8 hno EI EJ
       have hq8:wq.heap.size<w8.heap.size:=by have:=block_lt_of_cell y1;simpa using this
       go_wp2_with fail
       (with_reducible refine cf.mono ?_)
       clear cf y1 y2
       rintro e w9 ⟨v9,rfl,Ld,-,abm,k9⟩
       obtain⟨ua,uc,rfl⟩:=Ld.slice_form
       have abq:=bK.beside M.out.2.1 (L.out.2.2.2.2.2.1.feed L.out.2.2.2.2.2.2.1 L.out.2.2.2.2.2.2.2.2.1.1) M.out.2.2.1 L.out.2.2.2.2.1 (.inr (Nat.le_refl _)) k9
       have abp:=bK.beside M.out.2.2.2.1 MV.out M.out.2.2.1 L.out.2.2.2.2.1 (.inl M.out.2.2.2.2.2.2.1) k9
       have aa3:=M.out.2.2.2.2.1.beside (by omega) M.out.2.2.1 k9
       have aaO:=M.out.1.beside (by omega) M.out.2.2.1 k9
       have hk9:=L.out.2.2.2.2.1.kept (w0:=W0) (by have:=HI.out.2.2.2.1;have:=MV.out.m1;have:=MV.out.m2;have:=M.out.2.2.2.2.2.2.1;omega) M.out.2.2.2.2.2.1 k9
       have ce:=Cc _ _ _ _ w9 Ld aaO
       rw[XZ]at ce
       have NN:=Lib.hid (And.intro abm (And.intro abq (And.intro abp (And.intro aa3 hk9))))
       clear Ld abm abq abp aa3 aaO hk9 k9
       go_wp2_with fail
       (with_reducible refine ce.mono ?_)
       clear ce
       rintro e w10 ⟨rfl,k10⟩
       have F:=Lib.hid (show bK w10 bd md j Ts sQ/\bK w10 bu mu j (jA j.nodes Ts (((R.drop n).take (k+1)).map jl)).2 Fz/\bK w10 bc mc j (jA j.nodes Ts (((R.drop n).take (k+1)).map jl)).2 KG/\Reads w10 3 (.slice (some ⟨rb,roff,none⟩) N dc) (recs (R.drop n))/\Kept none' W0 w10 from by
        rw[L.out.2.2.2.2.2.2.2.2.2.2.2.2.1]
        exact⟨NN.out.2.2.1.pure k10,NN.out.1.pure k10,NN.out.2.1.pure k10,NN.out.2.2.2.1.pure k10,NN.out.2.2.2.2.trans k10⟩)
       clear k10
       go_wp2_with fail
       go_roundg (N-(k+1))
       case rel=>exact⟨k+1,by omega,by go_num,Nat.le_refl _,F.out.1,F.out.2.1,F.out.2.2.1,F.out.2.2.2.1,F.out.2.2.2.2⟩
       case measure=>have:=L.out.1;omega
      ·have e1:N=k:=by omega
       subst e1
       obtain⟨dv,hs3,hd3⟩:=Oq (H.out.2.1.pure (H.out.2.2.2.2.2.2.1.trans hkp)) hnR
       obtain⟨da3,dc3,aeJ,g1,g2,-⟩:=hd3.recAt
       subst aeJ
       unfold maxLen at g2
       rw[HN.out]at hs3 hd3 g1
       obtain⟨Uf,hUf⟩: ∃Uf,(jA j.nodes Ts (((R.drop n).take N).map jl)).2=Uf:=⟨_,rfl⟩
       rw[hUf]at hiu hic jh
       have E:=Lib.hid (And.intro hiu (And.intro hic (And.intro jh (And.intro hid (And.intro hd3 (And.intro hkp hUf))))))
       clear hiu hic jh hid hd3 hkp hg hrd hUf
       go_wp2_with fail
       clear hs3
       go_loopg [94] N (fun g vi wq=> ∃(k:Nat),k<=N/\vi= .int .i64 (k:Int)/\N-k<=g/\bK wq bd md j (jA j.nodes Ts (((R.drop n).take k).map jl)).2 sQ/\bK wq bu mu j Uf Fz/\bK wq bc mc j Uf KG/\Reads wq 3 (.slice da3 N dc3) (recs (R.drop n))/\Kept none' W0 wq)
       case atStart=>exact⟨0,by omega,rfl,by omega,E.out.2.2.2.1,E.out.1,E.out.2.1,E.out.2.2.2.2.1,E.out.2.2.2.2.2.1⟩
       case round=>
        obtain⟨k,hkl,rfl,hg,hid,hiu,hic,hrd,hkp⟩:=hrel
        obtain⟨wq,rfl⟩: ∃wq:World,wq=wr:=⟨_,rfl⟩
        have jh:=(zT HI.out.1 H.out.2.2.2.2.1 (((R.drop n).take k).map jl) Ts D1.out.2.1 (yA (fun r hr=>H.out.2.2.2.2.2.1 r (List.mem_of_mem_drop hr)) k)).1
        have EI:WL.heap.size<=w4.heap.size:=D2.out.2.2.2.1
        have EJ:w4.heap.size<=w5.heap.size:=Nat.le_of_lt (Nat.lt_of_le_of_lt D2.out.2.2.2.2.1 D2.out.1.tabs.lt)
        have rU:=D2.out.2.1.feed D1.out.2.1 E.out.2.2.1
        have rC:=D3.out.2.1.feed D1.out.2.1 E.out.2.2.1
        by_cases hlt2:k<N
        ·have XA:=hrd.recAt
         obtain⟨r,hrk⟩: ∃r,(R.drop n)[k]?=some r:=⟨_,List.getElem?_eq_getElem (by rw[HN.out];exact hlt2)⟩
         obtain⟨da',dc',er,-,-,o3⟩:=XA
         injection er with DY DX DW
         subst DY DW
         clear DX
         obtain⟨rb,roff,rfl,hc⟩:=o3.resolve_left (fun h=>by have h9:=HN.out;rw[h]at h9;simp at h9;omega)
         obtain⟨e0,e1,e2⟩:=hc k r hrk
         have hro:=H.out.2.2.2.2.2.1 r (List.mem_of_mem_drop (List.mem_of_getElem? hrk))
         have hstep:=LK j.nodes Ts hrk
         have YM:=(zT HI.out.1 H.out.2.2.2.2.1 (((R.drop n).take (k+1)).map jl) Ts D1.out.2.1 (yA (fun r hr=>H.out.2.2.2.2.2.1 r (List.mem_of_mem_drop hr)) (k+1))).1
         have ka:Kept none' wq (wq.alloc (.cells #[.int .i64 r.pos, .int .i64 r.key, .int .i64 r.val] 44)):=(Kept.refl _ _).alloc _
         have rB:(wq.alloc (.cells #[.int .i64 r.pos, .int .i64 r.key, .int .i64 r.val] 44)).heap[wq.heap.size]?=some (.cells #[.int .i64 r.pos, .int .i64 r.key, .int .i64 r.val] 44 (0,0)):=heap_alloc_new _ _
         obtain⟨Us,UJ⟩: ∃Us,(jA j.nodes Ts (((R.drop n).take k).map jl)).2=Us:=⟨_,rfl⟩
         rw[UJ]at hid jh hstep
         have XF:=hid.pure ka
         have rD:=MV.out.feed D1.out.2.1 jh
         have fo:=pI HI.out.1 H.out.2.2.2.2.1 jh hro.key hro.val
         have cf:=pG j bd md Us sQ r.key r.val _ XF HI.out.1 H.out.2.2.2.2.1 jh hro.key hro.val
         have L:=Lib.hid (And.intro hg (And.intro XF (And.intro (hiu.pure ka) (And.intro (hic.pure ka) (And.intro rD (And.intro rU (And.intro rC (And.intro (hrd.pure ka) (And.intro (hkp.trans ka) (And.intro hstep (And.intro EI EJ)))))))))))
         clear hg XF hid hiu hic rD rU rC jh hro fo hrd hkp rB hstep ka hrk hc o3 UJ EI EJ YM
         go_wp2_with fail
         (with_reducible refine cf.mono ?_)
         clear cf e0 e1 e2
         rintro e w8 ⟨v8,rfl,DC,-,Lr,k8⟩
         obtain⟨va,vc,rfl⟩:=DC.slice_form
         have F:=Lib.hid (show bK w8 bd md j (jA j.nodes Ts (((R.drop n).take (k+1)).map jl)).2 sQ/\bK w8 bu mu j Uf Fz/\bK w8 bc mc j Uf KG/\Reads w8 3 (.slice (some ⟨rb,roff,none⟩) N dc3) (recs (R.drop n))/\Kept none' W0 w8 from by
          rw[L.out.2.2.2.2.2.2.2.2.2.1]
          exact⟨Lr,bK.beside L.out.2.2.1 L.out.2.2.2.2.2.1 L.out.2.1 L.out.2.2.2.2.1 (.inr L.out.2.2.2.2.2.2.2.2.2.2.1) k8,bK.beside L.out.2.2.2.1 L.out.2.2.2.2.2.2.1 L.out.2.1 L.out.2.2.2.2.1 (.inr (Nat.le_trans L.out.2.2.2.2.2.2.2.2.2.2.1 L.out.2.2.2.2.2.2.2.2.2.2.2)) k8,
           L.out.2.2.2.2.2.2.2.1.beside (by omega) L.out.2.1 k8,L.out.2.2.2.2.1.kept (w0:=W0) HI.out.2.2.2.1 L.out.2.2.2.2.2.2.2.2.1 k8⟩)
         clear DC Lr k8
         go_wp2_with fail
         go_roundg (N-(k+1))
         case rel=>exact⟨k+1,by omega,by go_num,Nat.le_refl _,F.out.1,F.out.2.1,F.out.2.2.1,F.out.2.2.2.1,F.out.2.2.2.2⟩
         case measure=>have:=L.out.1;omega
        ·have e1:N=k:=by omega
         subst e1
         rw[E.out.2.2.2.2.2.2]at hid jh
         have Q:=Lib.hid (And.intro hid (And.intro hiu (And.intro hic hkp)))
         clear hg hid hiu hic hrd hkp jh rU rC EI EJ
         have cs:=iE j bd md Uf sQ wq Q.out.1 E.out.2.2.1.len (by omega)
         go_wp2_with fail
         (with_reducible refine cs.mono ?_)
         clear cs
         rintro e x1 ⟨s1,rfl,hs1,-,kk1⟩
         obtain⟨a1,c1,he1,-⟩:=hs1.jM
         subst he1
         have Q1:=Lib.hid (And.intro hs1 kk1)
         clear hs1 kk1
         have cs:=iE j bu mu Uf Fz x1 (Q.out.2.1.pure Q1.out.2) E.out.2.2.1.len (by omega)
         go_wp2_with fail
         (with_reducible refine cs.mono ?_)
         clear cs
         rintro e x2 ⟨s2,rfl,hs2,-,OM⟩
         obtain⟨a2,c2,he2,-⟩:=hs2.jM
         subst he2
         have ce:=EL _ _ _ _ x2 (Q1.out.1.pure OM) hs2
         rw[zZ]at ce
         have Q2:=Lib.hid (Q1.out.2.trans OM)
         clear hs2 OM
         go_wp2_with fail
         (with_reducible refine ce.mono ?_)
         clear ce
         rintro e x3 ⟨rfl,kk3⟩
         have Q3:=Lib.hid (Q2.out.trans kk3)
         clear kk3
         have cs:=iE j bc mc Uf KG x3 (Q.out.2.2.1.pure Q3.out) E.out.2.2.1.len (by omega)
         go_wp2_with fail
         (with_reducible refine cs.mono ?_)
         clear cs
         rintro e x4 ⟨s4,rfl,hs4,-,kk4⟩
         obtain⟨a4,c4,he4,-⟩:=hs4.jM
         subst he4
         have Q4:=Lib.hid (And.intro hs4 (Q3.out.trans kk4))
         clear hs4 kk4
         have cs:=iE j bu mu Uf Fz x4 (Q.out.2.1.pure Q4.out.2) E.out.2.2.1.len (by omega)
         go_wp2_with fail
         (with_reducible refine cs.mono ?_)
         clear cs
         rintro e x5 ⟨s5,rfl,hs5,-,kk5⟩
         obtain⟨a5,c5,he5,-⟩:=hs5.jM
         subst he5
         have ce:=EL _ _ _ _ x5 (Q4.out.1.pure kk5) hs5
         rw[zZ]at ce
         have Q5:=Lib.hid (Q4.out.2.trans kk5)
         clear hs5 kk5
         go_wp2_with fail
         (with_reducible refine ce.mono ?_)
         clear ce
         rintro e x6 ⟨rfl,OL⟩
         have cw:=sK x6 mx ((H.out.2.2.2.2.2.2.1.trans (Q.out.2.2.2.trans (Q5.out.trans OL))).cell (p:=⟨0,0,none⟩) (fun h=>h) H.out.2.2.2.1)
         have KW5:=Lib.hid (H.out.2.2.2.2.2.2.1.trans (Q.out.2.2.2.trans (Q5.out.trans OL)))
         clear OL
         go_wp2_with fail
         (with_reducible refine cw.mono ?_)
         clear cw
         rintro e wz5 ⟨rfl,kz5⟩
         have F5:=Lib.hid (KW5.out.trans kz5)
         clear kz5
         go_wp2_with fail
         go_ret
         exact⟨rfl,F5.out⟩
end Go.Proofs.YtopeleenlcnkkaaGreatDoor
