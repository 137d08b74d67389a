/- What an expression comes to: the walk of do. -/
import Derived.Test.YtopeleenlcnkkaaGreatDoorX12
set_option linter.unusedVariables false
set_option linter.unusedSimpArgs false
set_option maxHeartbeats 1000000
set_option maxRecDepth 100000
namespace Go.Proofs.YtopeleenlcnkkaaGreatDoor
open Go Go.RowKit
attribute [local irreducible] bU
def BF (f:Nat):Prop:= ∀(x:Ex)(a:Array Value)(env:Env)(w:World),aC w a x->mO env->bg f x=true->aF f x≠0->Calls Tryz.prog 140 #[.agg a,iC env] w (Gives w (mV (aV f env x)))
structure ad2 (w W:World)(x:Ex)(p:Option Addr)(cap:Nat)(env:Env):Prop where
 kept:Kept none' w W
 d0:W.cell? ⟨w.heap.size,0,none⟩=some (.int .u8 x.op)
 d1:W.cell? ⟨w.heap.size,1,none⟩=some (.int .i64 x.n)
 d2:W.cell? ⟨w.heap.size,2,none⟩=some (.slice p x.args.length cap)
 e0:W.cell? ⟨w.heap.size+1,0,none⟩=some (.int .i64 env.key)
 e1:W.cell? ⟨w.heap.size+1,1,none⟩=some (.int .i64 env.val)
 e2:W.cell? ⟨w.heap.size+1,2,none⟩=some (.int .i64 env.acc)
theorem Bh (w:World)(x:Ex)(p:Option Addr)(cap:Nat)(env:Env):
 ad2 w ((w.alloc (.cells #[.int .u8 x.op, .int .i64 x.n, .slice p x.args.length cap] 95)).alloc (.cells #[.int .i64 env.key, .int .i64 env.val, .int .i64 env.acc] 154)) x p cap env:=
 ⟨((Kept.refl _ _).alloc _).alloc _,by simp,by simp,by simp,by simp,by simp,by simp⟩
theorem aaR (f:Nat)(x:Ex)(a:Array Value)(env:Env)(w:World)(h:aC w a x)(hop:x.op=1\/x.op=2\/x.op=3\/x.op=4):
 Calls Tryz.prog 140 #[.agg a,iC env] w (Gives w (mV (aV (f+1) env x))):=by
 obtain⟨p,cap,rfl,_,_,_,_,_,_⟩:=h.parts
 clear h
 obtain⟨op,n,args⟩:=x
 unfold iC
 simp only[Ex.op,Ex.n,Ex.args]at hop⊢
 rcases hop with rfl|rfl|rfl|rfl
 all_goals
  go_enter Tryz.func140,Tryz.ntmps140
  go_wp2_with fail
  go_ret
  exact⟨rfl,((Kept.refl _ _).alloc _).alloc _⟩
theorem ada (f:Nat)(ih:BF f)(x:Ex)(a:Array Value)(env:Env)(w:World)(h:aC w a x)(he:mO env)(y1:Ex)(ha:x.args=[y1])(hop:x.op=5)(hm:bg f y1=true)(ht:aF f y1=1):
 Calls Tryz.prog 140 #[.agg a,iC env] w (Gives w (mV (aV (f+1) env x))):=by
 obtain⟨p,cap,rfl,o0,o1,hn,h3,h4,h5⟩:=h.parts
 unfold maxLen at h4
 obtain⟨v1,hv1⟩: ∃v1,aV f env y1= .num v1:=EV.L8 ((h.DI he (i:=0) (by rw[ha];rfl) hm (by omega)).1.trans ht)
 have hres:aV (f+1) env x=EV.num (wrap64 (-v1)):=by
  obtain⟨op,n,args⟩:=x
  simp only[Ex.op,Ex.args]at hop ha
  subst hop ha
  show EV.num (wrap64 (-(aV f env y1).n))=_
  rw[hv1];rfl
 rw[hres]
 have HV:=Lib.hid (show mV (aV f env y1)= .iface 2 (.int .i64 v1)from congrArg mV hv1)
 have HM:=Lib.hid hm
 have HT:=Lib.hid (show aF f y1≠0 by omega)
 clear hv1 hres hm ht
 obtain⟨b,off,p1,cap1,rfl,q0,q1,q2,hy1⟩:=h5 0 y1 (by rw[ha];rfl)
 simp only[Nat.zero_mul,Nat.add_zero]at q0 q1 q2
 have hbx:=Bh w x (some ⟨b,off,none⟩) cap env
 unfold iC
 obtain⟨W0,hW0⟩: ∃W0,(w.alloc (.cells #[.int .u8 x.op, .int .i64 x.n, .slice (some ⟨b,off,none⟩) x.args.length cap] 95)).alloc (.cells #[.int .i64 env.key, .int .i64 env.val, .int .i64 env.acc] 154)=W0:=⟨_,rfl⟩
 rw[hW0]at hbx
 obtain⟨hk0,d0,d1,d2,e0,e1,e2⟩:=hbx
 have r0:=hk0.cell (p:=⟨b,off,none⟩) (fun h=>h) q0
 have r1:=hk0.cell (p:=⟨b,off+1,none⟩) (fun h=>h) q1
 have r2:=hk0.cell (p:=⟨b,off+2,none⟩) (fun h=>h) q2
 have hlen:(0:Int)<(x.args.length:Int):=by rw[ha];simp
 have o9:0<x.args.length:=by rw[ha];simp
 have HK:=Lib.hid hk0
 have HW0:=Lib.hid hW0
 have HY:=Lib.hid (aC.pure hk0 hy1)
 have H5:=Lib.hid h5
 have HA:=Lib.hid ha
 have HE:=Lib.hid he
 have IH:=Lib.hid ih
 clear hk0 hW0 hy1 q0 q1 q2 h5 ha he ih h
 have pG: ∀k:Int,(x.op==k)=(5==k):=fun k=>by rw[hop]
 have b1:=pG 1
 have b2:=pG 2
 have b3:=pG 3
 have b4:=pG 4
 have b5:=pG 5
 have b6:=pG 6
 simp only[show((5:Int)==1)=false by decide,show((5:Int)==2)=false by decide,show((5:Int)==3)=false by decide,show((5:Int)==4)=false by decide,show((5:Int)==5)=true by decide,show((5:Int)==6)=false by decide]at b1 b2 b3 b4 b5 b6
 clear hop pG
 have tA:=fun v w=>o7 v false w
 simp only[Bool.false_eq_true,if_false]at tA
 go_enter Tryz.func140,Tryz.ntmps140
 go_wp2_with fail
 rw[HW0.out]
 refine ak [0,1,2,3,4,5,6] (fun W=>Kept none' W0 W) (by kernel_rfl) (by kernel_rfl) rfl (Kept.refl _ _).drew ?_
 simp only[List.map_cons,List.map_nil,List.getElem?_toArray,List.getElem?_cons_zero,List.getElem?_cons_succ,Option.getD_some]
 iterate 5 (apply aj rfl rfl;(intro W hW;have z0:=hW.cell (fun h=>h) d0;have z1:=hW.cell (fun h=>h) d1;have z2:=hW.cell (fun h=>h) d2;have z3:=hW.cell (fun h=>h) r0;have z4:=hW.cell (fun h=>h) r1;have z5:=hW.cell (fun h=>h) r2;have z6:=hW.cell (fun h=>h) e0;have z7:=hW.cell (fun h=>h) e1;have z8:=hW.cell (fun h=>h) e2;go_simp;rfl);go_frame)
 apply aA rfl rfl
 intro K hK
 go_wp2_with fail
 have c:=IH.out y1 _ env W0.drew (aC.pure (Kept.refl _ _).drew HY.out) HE.out HM.out HT.out
 (with_reducible refine c.mono ?_)
 clear c
 rintro e W1 ⟨rfl,k1⟩
 have k1':Kept none' W0 W1:=k1.aQ
 clear k1
 rw[HV.out]
 go_wp2_with fail
 refine hK _ _ (fun _=>k1') ?_
 clear hK
 (apply aj rfl rfl;(intro W hW;go_simp;rfl);go_frame)
 refine aG (fun _=>k1') ?_
 have d0:=k1'.cell (p:=⟨w.heap.size,0,none⟩) (fun h=>h) d0
 have d1:=k1'.cell (p:=⟨w.heap.size,1,none⟩) (fun h=>h) d1
 have d2:=k1'.cell (p:=⟨w.heap.size,2,none⟩) (fun h=>h) d2
 have e0:=k1'.cell (p:=⟨w.heap.size+1,0,none⟩) (fun h=>h) e0
 have e1:=k1'.cell (p:=⟨w.heap.size+1,1,none⟩) (fun h=>h) e1
 have e2:=k1'.cell (p:=⟨w.heap.size+1,2,none⟩) (fun h=>h) e2
 have K1:=Lib.hid (HK.out.trans k1')
 clear k1'
 go_wp2_with fail
 go_ret
 exact⟨rfl,K1.out⟩
theorem ac9 (f:Nat)(ih:BF f)(x:Ex)(a:Array Value)(env:Env)(w:World)(h:aC w a x)(he:mO env)(y1:Ex)(ha:x.args=[y1])(hop:x.op=6)(hm:bg f y1=true)(ht:aF f y1=2):
 Calls Tryz.prog 140 #[.agg a,iC env] w (Gives w (mV (aV (f+1) env x))):=by
 obtain⟨p,cap,rfl,o0,o1,hn,h3,h4,h5⟩:=h.parts
 unfold maxLen at h4
 obtain⟨v1,hv1⟩: ∃v1,aV f env y1= .jE v1:=EV.PN ((h.DI he (i:=0) (by rw[ha];rfl) hm (by omega)).1.trans ht)
 have hres:aV (f+1) env x=EV.jE (!v1):=by
  obtain⟨op,n,args⟩:=x
  simp only[Ex.op,Ex.args]at hop ha
  subst hop ha
  show EV.jE (!(aV f env y1).b)=_
  rw[hv1];rfl
 rw[hres]
 have HV:=Lib.hid (show mV (aV f env y1)= .iface 4 (.bool v1)from congrArg mV hv1)
 have HM:=Lib.hid hm
 have HT:=Lib.hid (show aF f y1≠0 by omega)
 clear hv1 hres hm ht
 obtain⟨b,off,p1,cap1,rfl,q0,q1,q2,hy1⟩:=h5 0 y1 (by rw[ha];rfl)
 simp only[Nat.zero_mul,Nat.add_zero]at q0 q1 q2
 have hbx:=Bh w x (some ⟨b,off,none⟩) cap env
 unfold iC
 obtain⟨W0,hW0⟩: ∃W0,(w.alloc (.cells #[.int .u8 x.op, .int .i64 x.n, .slice (some ⟨b,off,none⟩) x.args.length cap] 95)).alloc (.cells #[.int .i64 env.key, .int .i64 env.val, .int .i64 env.acc] 154)=W0:=⟨_,rfl⟩
 rw[hW0]at hbx
 obtain⟨hk0,d0,d1,d2,e0,e1,e2⟩:=hbx
 have r0:=hk0.cell (p:=⟨b,off,none⟩) (fun h=>h) q0
 have r1:=hk0.cell (p:=⟨b,off+1,none⟩) (fun h=>h) q1
 have r2:=hk0.cell (p:=⟨b,off+2,none⟩) (fun h=>h) q2
 have hlen:(0:Int)<(x.args.length:Int):=by rw[ha];simp
 have o9:0<x.args.length:=by rw[ha];simp
 have HK:=Lib.hid hk0
 have HW0:=Lib.hid hW0
 have HY:=Lib.hid (aC.pure hk0 hy1)
 have H5:=Lib.hid h5
 have HA:=Lib.hid ha
 have HE:=Lib.hid he
 have IH:=Lib.hid ih
 clear hk0 hW0 hy1 q0 q1 q2 h5 ha he ih h
 have pG: ∀k:Int,(x.op==k)=(6==k):=fun k=>by rw[hop]
 have b1:=pG 1
 have b2:=pG 2
 have b3:=pG 3
 have b4:=pG 4
 have b5:=pG 5
 have b6:=pG 6
 simp only[show((6:Int)==1)=false by decide,show((6:Int)==2)=false by decide,show((6:Int)==3)=false by decide,show((6:Int)==4)=false by decide,show((6:Int)==5)=false by decide,show((6:Int)==6)=true by decide]at b1 b2 b3 b4 b5 b6
 clear hop pG
 have tA:=fun v w=>AU v false w
 simp only[Bool.false_eq_true,if_false]at tA
 go_enter Tryz.func140,Tryz.ntmps140
 go_wp2_with fail
 rw[HW0.out]
 refine ak [0,1,2,3,4,5,6] (fun W=>Kept none' W0 W) (by kernel_rfl) (by kernel_rfl) rfl (Kept.refl _ _).drew ?_
 simp only[List.map_cons,List.map_nil,List.getElem?_toArray,List.getElem?_cons_zero,List.getElem?_cons_succ,Option.getD_some]
 iterate 5 (apply aj rfl rfl;(intro W hW;have z0:=hW.cell (fun h=>h) d0;have z1:=hW.cell (fun h=>h) d1;have z2:=hW.cell (fun h=>h) d2;have z3:=hW.cell (fun h=>h) r0;have z4:=hW.cell (fun h=>h) r1;have z5:=hW.cell (fun h=>h) r2;have z6:=hW.cell (fun h=>h) e0;have z7:=hW.cell (fun h=>h) e1;have z8:=hW.cell (fun h=>h) e2;go_simp;rfl);go_frame)
 apply aA rfl rfl
 intro K hK
 go_wp2_with fail
 have c:=IH.out y1 _ env W0.drew (aC.pure (Kept.refl _ _).drew HY.out) HE.out HM.out HT.out
 (with_reducible refine c.mono ?_)
 clear c
 rintro e W1 ⟨rfl,k1⟩
 have k1':Kept none' W0 W1:=k1.aQ
 clear k1
 rw[HV.out]
 go_wp2_with fail
 refine hK _ _ (fun _=>k1') ?_
 clear hK
 (apply aj rfl rfl;(intro W hW;go_simp;rfl);go_frame)
 refine aG (fun _=>k1') ?_
 have d0:=k1'.cell (p:=⟨w.heap.size,0,none⟩) (fun h=>h) d0
 have d1:=k1'.cell (p:=⟨w.heap.size,1,none⟩) (fun h=>h) d1
 have d2:=k1'.cell (p:=⟨w.heap.size,2,none⟩) (fun h=>h) d2
 have e0:=k1'.cell (p:=⟨w.heap.size+1,0,none⟩) (fun h=>h) e0
 have e1:=k1'.cell (p:=⟨w.heap.size+1,1,none⟩) (fun h=>h) e1
 have e2:=k1'.cell (p:=⟨w.heap.size+1,2,none⟩) (fun h=>h) e2
 have K1:=Lib.hid (HK.out.trans k1')
 clear k1'
 go_wp2_with fail
 go_ret
 exact⟨rfl,K1.out⟩
theorem ac8 (f:Nat)(ih:BF f)(x:Ex)(a:Array Value)(env:Env)(w:World)(h:aC w a x)(he:mO env)(y1 y2:Ex)(ha:x.args=[y1,y2])(hop:7<=x.op/\x.op<=17)(hm:bg f y1=true)(ht:aF f y1≠0)(hm2:bg f y2=true)(ht2:aF f y2≠0)(h2:aae x.op (aV f env y1) (aV f env y2)):
 Calls Tryz.prog 140 #[.agg a,iC env] w (Gives w (mV (aV (f+1) env x))):=by
 obtain⟨p,cap,rfl,o0,o1,hn,h3,h4,h5⟩:=h.parts
 unfold maxLen at h4
 have hres:aV (f+1) env x=iy x.op (aV f env y1) (aV f env y2):=by
  obtain⟨op,n,args⟩:=x
  simp only[Ex.op,Ex.args]at hop ha
  subst ha
  simp only[aV]
  rw[if_neg (by omega),if_neg (by omega),if_neg (by omega),if_neg (by omega),if_neg (by omega),if_neg (by omega),if_neg (by omega)]
  rfl
 rw[hres]
 have HM:=Lib.hid hm
 have HT:=Lib.hid ht
 have jM:=Lib.hid hm2
 have HT2:=Lib.hid ht2
 have H2:=Lib.hid h2
 clear hres hm ht hm2 ht2 h2
 obtain⟨b,off,p1,cap1,rfl,q0,q1,q2,hy1⟩:=h5 0 y1 (by rw[ha];rfl)
 simp only[Nat.zero_mul,Nat.add_zero]at q0 q1 q2
 have hbx:=Bh w x (some ⟨b,off,none⟩) cap env
 unfold iC
 obtain⟨W0,hW0⟩: ∃W0,(w.alloc (.cells #[.int .u8 x.op, .int .i64 x.n, .slice (some ⟨b,off,none⟩) x.args.length cap] 95)).alloc (.cells #[.int .i64 env.key, .int .i64 env.val, .int .i64 env.acc] 154)=W0:=⟨_,rfl⟩
 rw[hW0]at hbx
 obtain⟨hk0,d0,d1,d2,e0,e1,e2⟩:=hbx
 have r0:=hk0.cell (p:=⟨b,off,none⟩) (fun h=>h) q0
 have r1:=hk0.cell (p:=⟨b,off+1,none⟩) (fun h=>h) q1
 have r2:=hk0.cell (p:=⟨b,off+2,none⟩) (fun h=>h) q2
 have hlen:(0:Int)<(x.args.length:Int):=by rw[ha];simp
 have o9:0<x.args.length:=by rw[ha];simp
 have HK:=Lib.hid hk0
 have HW0:=Lib.hid hW0
 have HY:=Lib.hid (aC.pure hk0 hy1)
 have H5:=Lib.hid h5
 have HA:=Lib.hid ha
 have HE:=Lib.hid he
 have IH:=Lib.hid ih
 clear hk0 hW0 hy1 q0 q1 q2 h5 ha he ih h
 have hlen1:(1:Int)<(x.args.length:Int):=by have:=HA.out;rw[this];simp
 have VJ:1<x.args.length:=by have:=HA.out;rw[this];simp
 have b1:(x.op==1)=false:=by simp;omega
 have b2:(x.op==2)=false:=by simp;omega
 have b3:(x.op==3)=false:=by simp;omega
 have b4:(x.op==4)=false:=by simp;omega
 have b5:(x.op==5)=false:=by simp;omega
 have b6:(x.op==6)=false:=by simp;omega
 have b7:(x.op==18)=false:=by simp;omega
 clear hop
 go_enter Tryz.func140,Tryz.ntmps140
 go_wp2_with fail
 rw[HW0.out]
 refine ak [0,1,2,3,4,5,6] (fun W=>Kept none' W0 W) (by kernel_rfl) (by kernel_rfl) rfl (Kept.refl _ _).drew ?_
 simp only[List.map_cons,List.map_nil,List.getElem?_toArray,List.getElem?_cons_zero,List.getElem?_cons_succ,Option.getD_some]
 iterate 5 (apply aj rfl rfl;(intro W hW;have z0:=hW.cell (fun h=>h) d0;have z1:=hW.cell (fun h=>h) d1;have z2:=hW.cell (fun h=>h) d2;have z3:=hW.cell (fun h=>h) r0;have z4:=hW.cell (fun h=>h) r1;have z5:=hW.cell (fun h=>h) r2;have z6:=hW.cell (fun h=>h) e0;have z7:=hW.cell (fun h=>h) e1;have z8:=hW.cell (fun h=>h) e2;go_simp;rfl);go_frame)
 apply aA rfl rfl
 intro K hK
 go_wp2_with fail
 have c:=IH.out y1 _ env W0.drew (aC.pure (Kept.refl _ _).drew HY.out) HE.out HM.out HT.out
 (with_reducible refine c.mono ?_)
 clear c
 rintro e W1 ⟨rfl,k1⟩
 have k1':Kept none' W0 W1:=k1.aQ
 clear k1
 go_wp2_with fail
 refine hK _ _ (fun _=>k1') ?_
 clear hK
 (apply aj rfl rfl;(intro W hW;go_simp;rfl);go_frame)
 refine aG (fun _=>k1') ?_
 have d0:=k1'.cell (p:=⟨w.heap.size,0,none⟩) (fun h=>h) d0
 have d1:=k1'.cell (p:=⟨w.heap.size,1,none⟩) (fun h=>h) d1
 have d2:=k1'.cell (p:=⟨w.heap.size,2,none⟩) (fun h=>h) d2
 have e0:=k1'.cell (p:=⟨w.heap.size+1,0,none⟩) (fun h=>h) e0
 have e1:=k1'.cell (p:=⟨w.heap.size+1,1,none⟩) (fun h=>h) e1
 have e2:=k1'.cell (p:=⟨w.heap.size+1,2,none⟩) (fun h=>h) e2
 have K1:=Lib.hid (HK.out.trans k1')
 clear k1'
 obtain⟨b2,off2,p2,cap2,hb2,q0,q1,q2,hy2⟩:=H5.out 1 y2 (by rw[HA.out];rfl)
 cases hb2
 have r0:=K1.out.cell (p:=⟨b,off+1*3,none⟩) (fun h=>h) q0
 have r1:=K1.out.cell (p:=⟨b,off+1*3+1,none⟩) (fun h=>h) q1
 have r2:=K1.out.cell (p:=⟨b,off+1*3+2,none⟩) (fun h=>h) q2
 have Xi:=Lib.hid (aC.pure K1.out hy2)
 simp only[Nat.one_mul,Nat.add_assoc,Nat.reduceAdd]at r0 r1 r2
 clear q0 q1 q2 hy2
 go_wp2_with fail
 refine ak [0,1,2,3,4,5,6,7,8,9,10] (fun W=>Kept none' W1 W) (by kernel_rfl) (by kernel_rfl) rfl (Kept.refl _ _).drew ?_
 simp only[List.map_cons,List.map_nil,List.getElem?_toArray,List.getElem?_cons_zero,List.getElem?_cons_succ,Option.getD_some]
 iterate 8 (apply aj rfl rfl;(intro W hW;have z0:=hW.cell (fun h=>h) d0;have z1:=hW.cell (fun h=>h) d1;have z2:=hW.cell (fun h=>h) d2;have z3:=hW.cell (fun h=>h) r0;have z4:=hW.cell (fun h=>h) r1;have z5:=hW.cell (fun h=>h) r2;have z6:=hW.cell (fun h=>h) e0;have z7:=hW.cell (fun h=>h) e1;have z8:=hW.cell (fun h=>h) e2;go_simp;rfl);go_frame)
 apply aA rfl rfl
 intro K hK
 go_wp2_with fail
 have c:=IH.out y2 _ env W1.drew (aC.pure (Kept.refl _ _).drew Xi.out) HE.out jM.out HT2.out
 (with_reducible refine c.mono ?_)
 clear c
 rintro e W2 ⟨rfl,k2⟩
 have k2':Kept none' W1 W2:=k2.aQ
 clear k2
 go_wp2_with fail
 refine hK _ _ (fun _=>k2') ?_
 clear hK
 apply aA rfl rfl
 intro K hK
 go_wp2_with fail
 (with_reducible refine(two_any x.op _ _ _ H2.out).mono ?_)
 rintro e W3 ⟨rfl,k3⟩
 have dQ:Kept none' W1 W3:=k2'.trans k3
 clear k2' k3
 go_wp2_with fail
 refine hK _ _ (fun _=>dQ) ?_
 clear hK
 (apply aj rfl rfl;(intro W hW;go_simp;rfl);go_frame)
 refine aG (fun _=>dQ) ?_
 go_wp2_with fail
 go_ret
 exact⟨rfl,K1.out.trans dQ⟩
theorem Sz (f:Nat)(ih:BF f)(x:Ex)(a:Array Value)(env:Env)(w:World)(h:aC w a x)(he:mO env)(y1 y2 y3:Ex)(ha:x.args=[y1,y2,y3])(hop:x.op=18)(hm:bg f y1=true)(ht:aF f y1≠0)(hm2:bg f y2=true)(ht2:aF f y2≠0)(hv1:aV f env y1= .jE true):
 Calls Tryz.prog 140 #[.agg a,iC env] w (Gives w (mV (aV (f+1) env x))):=by
 obtain⟨p,cap,rfl,o0,o1,hn,h3,h4,h5⟩:=h.parts
 unfold maxLen at h4
 have hres:aV (f+1) env x=aV f env y2:=by
  obtain⟨op,n,args⟩:=x
  simp only[Ex.op,Ex.args]at hop ha
  subst hop ha
  show(if(aV f env y1).b then aV f env y2 else aV f env y3)=_
  rw[hv1];rfl
 rw[hres]
 have HM:=Lib.hid hm
 have HT:=Lib.hid ht
 have jM:=Lib.hid hm2
 have HT2:=Lib.hid ht2
 have HV:=Lib.hid (show mV (aV f env y1)= .iface 4 (.bool true)from congrArg mV hv1)
 clear hres hm ht hm2 ht2 hv1
 obtain⟨b,off,p1,cap1,rfl,q0,q1,q2,hy1⟩:=h5 0 y1 (by rw[ha];rfl)
 simp only[Nat.zero_mul,Nat.add_zero]at q0 q1 q2
 have hbx:=Bh w x (some ⟨b,off,none⟩) cap env
 unfold iC
 obtain⟨W0,hW0⟩: ∃W0,(w.alloc (.cells #[.int .u8 x.op, .int .i64 x.n, .slice (some ⟨b,off,none⟩) x.args.length cap] 95)).alloc (.cells #[.int .i64 env.key, .int .i64 env.val, .int .i64 env.acc] 154)=W0:=⟨_,rfl⟩
 rw[hW0]at hbx
 obtain⟨hk0,d0,d1,d2,e0,e1,e2⟩:=hbx
 have r0:=hk0.cell (p:=⟨b,off,none⟩) (fun h=>h) q0
 have r1:=hk0.cell (p:=⟨b,off+1,none⟩) (fun h=>h) q1
 have r2:=hk0.cell (p:=⟨b,off+2,none⟩) (fun h=>h) q2
 have hlen:(0:Int)<(x.args.length:Int):=by rw[ha];simp
 have o9:0<x.args.length:=by rw[ha];simp
 have HK:=Lib.hid hk0
 have HW0:=Lib.hid hW0
 have HY:=Lib.hid (aC.pure hk0 hy1)
 have H5:=Lib.hid h5
 have HA:=Lib.hid ha
 have HE:=Lib.hid he
 have IH:=Lib.hid ih
 clear hk0 hW0 hy1 q0 q1 q2 h5 ha he ih h
 have hlen1:(1:Int)<(x.args.length:Int):=by have:=HA.out;rw[this];simp
 have VJ:1<x.args.length:=by have:=HA.out;rw[this];simp
 have b1:(x.op==1)=false:=by simp[hop]
 have b2:(x.op==2)=false:=by simp[hop]
 have b3:(x.op==3)=false:=by simp[hop]
 have b4:(x.op==4)=false:=by simp[hop]
 have b5:(x.op==5)=false:=by simp[hop]
 have b6:(x.op==6)=false:=by simp[hop]
 have b7:(x.op==18)=true:=by simp[hop]
 clear hop
 have tA:=fun v w=>AU v false w
 simp only[Bool.false_eq_true,if_false]at tA
 go_enter Tryz.func140,Tryz.ntmps140
 go_wp2_with fail
 rw[HW0.out]
 refine ak [0,1,2,3,4,5,6] (fun W=>Kept none' W0 W) (by kernel_rfl) (by kernel_rfl) rfl (Kept.refl _ _).drew ?_
 simp only[List.map_cons,List.map_nil,List.getElem?_toArray,List.getElem?_cons_zero,List.getElem?_cons_succ,Option.getD_some]
 iterate 5 (apply aj rfl rfl;(intro W hW;have z0:=hW.cell (fun h=>h) d0;have z1:=hW.cell (fun h=>h) d1;have z2:=hW.cell (fun h=>h) d2;have z3:=hW.cell (fun h=>h) r0;have z4:=hW.cell (fun h=>h) r1;have z5:=hW.cell (fun h=>h) r2;have z6:=hW.cell (fun h=>h) e0;have z7:=hW.cell (fun h=>h) e1;have z8:=hW.cell (fun h=>h) e2;go_simp;rfl);go_frame)
 apply aA rfl rfl
 intro K hK
 go_wp2_with fail
 have c:=IH.out y1 _ env W0.drew (aC.pure (Kept.refl _ _).drew HY.out) HE.out HM.out HT.out
 (with_reducible refine c.mono ?_)
 clear c
 rintro e W1 ⟨rfl,k1⟩
 have k1':Kept none' W0 W1:=k1.aQ
 clear k1
 rw[HV.out]
 go_wp2_with fail
 refine hK _ _ (fun _=>k1') ?_
 clear hK
 (apply aj rfl rfl;(intro W hW;go_simp;rfl);go_frame)
 refine aG (fun _=>k1') ?_
 have d0:=k1'.cell (p:=⟨w.heap.size,0,none⟩) (fun h=>h) d0
 have d1:=k1'.cell (p:=⟨w.heap.size,1,none⟩) (fun h=>h) d1
 have d2:=k1'.cell (p:=⟨w.heap.size,2,none⟩) (fun h=>h) d2
 have e0:=k1'.cell (p:=⟨w.heap.size+1,0,none⟩) (fun h=>h) e0
 have e1:=k1'.cell (p:=⟨w.heap.size+1,1,none⟩) (fun h=>h) e1
 have e2:=k1'.cell (p:=⟨w.heap.size+1,2,none⟩) (fun h=>h) e2
 have K1:=Lib.hid (HK.out.trans k1')
 clear k1'
 obtain⟨b2,off2,p2,cap2,hb2,q0,q1,q2,hy2⟩:=H5.out 1 y2 (by rw[HA.out];rfl)
 cases hb2
 have r0:=K1.out.cell (p:=⟨b,off+1*3,none⟩) (fun h=>h) q0
 have r1:=K1.out.cell (p:=⟨b,off+1*3+1,none⟩) (fun h=>h) q1
 have r2:=K1.out.cell (p:=⟨b,off+1*3+2,none⟩) (fun h=>h) q2
 have Xi:=Lib.hid (aC.pure K1.out hy2)
 simp only[Nat.one_mul,Nat.add_assoc,Nat.reduceAdd]at r0 r1 r2
 clear q0 q1 q2 hy2
 go_wp2_with fail
 refine ak [0,1,2,3,4,5,6] (fun W=>Kept none' W1 W) (by kernel_rfl) (by kernel_rfl) rfl (Kept.refl _ _).drew ?_
 simp only[List.map_cons,List.map_nil,List.getElem?_toArray,List.getElem?_cons_zero,List.getElem?_cons_succ,Option.getD_some]
 iterate 5 (apply aj rfl rfl;(intro W hW;have z0:=hW.cell (fun h=>h) d0;have z1:=hW.cell (fun h=>h) d1;have z2:=hW.cell (fun h=>h) d2;have z3:=hW.cell (fun h=>h) r0;have z4:=hW.cell (fun h=>h) r1;have z5:=hW.cell (fun h=>h) r2;have z6:=hW.cell (fun h=>h) e0;have z7:=hW.cell (fun h=>h) e1;have z8:=hW.cell (fun h=>h) e2;go_simp;rfl);go_frame)
 apply aA rfl rfl
 intro K hK
 go_wp2_with fail
 have c:=IH.out y2 _ env W1.drew (aC.pure (Kept.refl _ _).drew Xi.out) HE.out jM.out HT2.out
 (with_reducible refine c.mono ?_)
 clear c
 rintro e W2 ⟨rfl,k2⟩
 have k2':Kept none' W1 W2:=k2.aQ
 clear k2
 go_wp2_with fail
 refine hK _ _ (fun _=>k2') ?_
 clear hK
 (apply aj rfl rfl;(intro W hW;go_simp;rfl);go_frame)
 refine aG (fun _=>k2') ?_
 go_wp2_with fail
 go_ret
 exact⟨rfl,K1.out.trans k2'⟩
theorem SA (f:Nat)(ih:BF f)(x:Ex)(a:Array Value)(env:Env)(w:World)(h:aC w a x)(he:mO env)(y1 y2 y3:Ex)(ha:x.args=[y1,y2,y3])(hop:x.op=18)(hm:bg f y1=true)(ht:aF f y1≠0)(hm2:bg f y3=true)(ht2:aF f y3≠0)(hv1:aV f env y1= .jE false):
 Calls Tryz.prog 140 #[.agg a,iC env] w (Gives w (mV (aV (f+1) env x))):=by
 obtain⟨p,cap,rfl,o0,o1,hn,h3,h4,h5⟩:=h.parts
 unfold maxLen at h4
 have hres:aV (f+1) env x=aV f env y3:=by
  obtain⟨op,n,args⟩:=x
  simp only[Ex.op,Ex.args]at hop ha
  subst hop ha
  show(if(aV f env y1).b then aV f env y2 else aV f env y3)=_
  rw[hv1];rfl
 rw[hres]
 have HM:=Lib.hid hm
 have HT:=Lib.hid ht
 have jM:=Lib.hid hm2
 have HT2:=Lib.hid ht2
 have HV:=Lib.hid (show mV (aV f env y1)= .iface 4 (.bool false)from congrArg mV hv1)
 clear hres hm ht hm2 ht2 hv1
 obtain⟨b,off,p1,cap1,rfl,q0,q1,q2,hy1⟩:=h5 0 y1 (by rw[ha];rfl)
 simp only[Nat.zero_mul,Nat.add_zero]at q0 q1 q2
 have hbx:=Bh w x (some ⟨b,off,none⟩) cap env
 unfold iC
 obtain⟨W0,hW0⟩: ∃W0,(w.alloc (.cells #[.int .u8 x.op, .int .i64 x.n, .slice (some ⟨b,off,none⟩) x.args.length cap] 95)).alloc (.cells #[.int .i64 env.key, .int .i64 env.val, .int .i64 env.acc] 154)=W0:=⟨_,rfl⟩
 rw[hW0]at hbx
 obtain⟨hk0,d0,d1,d2,e0,e1,e2⟩:=hbx
 have r0:=hk0.cell (p:=⟨b,off,none⟩) (fun h=>h) q0
 have r1:=hk0.cell (p:=⟨b,off+1,none⟩) (fun h=>h) q1
 have r2:=hk0.cell (p:=⟨b,off+2,none⟩) (fun h=>h) q2
 have hlen:(0:Int)<(x.args.length:Int):=by rw[ha];simp
 have o9:0<x.args.length:=by rw[ha];simp
 have HK:=Lib.hid hk0
 have HW0:=Lib.hid hW0
 have HY:=Lib.hid (aC.pure hk0 hy1)
 have H5:=Lib.hid h5
 have HA:=Lib.hid ha
 have HE:=Lib.hid he
 have IH:=Lib.hid ih
 clear hk0 hW0 hy1 q0 q1 q2 h5 ha he ih h
 have hlen1:(2:Int)<(x.args.length:Int):=by have:=HA.out;rw[this];simp
 have VJ:2<x.args.length:=by have:=HA.out;rw[this];simp
 have b1:(x.op==1)=false:=by simp[hop]
 have b2:(x.op==2)=false:=by simp[hop]
 have b3:(x.op==3)=false:=by simp[hop]
 have b4:(x.op==4)=false:=by simp[hop]
 have b5:(x.op==5)=false:=by simp[hop]
 have b6:(x.op==6)=false:=by simp[hop]
 have b7:(x.op==18)=true:=by simp[hop]
 clear hop
 have tA:=fun v w=>AU v false w
 simp only[Bool.false_eq_true,if_false]at tA
 go_enter Tryz.func140,Tryz.ntmps140
 go_wp2_with fail
 rw[HW0.out]
 refine ak [0,1,2,3,4,5,6] (fun W=>Kept none' W0 W) (by kernel_rfl) (by kernel_rfl) rfl (Kept.refl _ _).drew ?_
 simp only[List.map_cons,List.map_nil,List.getElem?_toArray,List.getElem?_cons_zero,List.getElem?_cons_succ,Option.getD_some]
 iterate 5 (apply aj rfl rfl;(intro W hW;have z0:=hW.cell (fun h=>h) d0;have z1:=hW.cell (fun h=>h) d1;have z2:=hW.cell (fun h=>h) d2;have z3:=hW.cell (fun h=>h) r0;have z4:=hW.cell (fun h=>h) r1;have z5:=hW.cell (fun h=>h) r2;have z6:=hW.cell (fun h=>h) e0;have z7:=hW.cell (fun h=>h) e1;have z8:=hW.cell (fun h=>h) e2;go_simp;rfl);go_frame)
 apply aA rfl rfl
 intro K hK
 go_wp2_with fail
 have c:=IH.out y1 _ env W0.drew (aC.pure (Kept.refl _ _).drew HY.out) HE.out HM.out HT.out
 (with_reducible refine c.mono ?_)
 clear c
 rintro e W1 ⟨rfl,k1⟩
 have k1':Kept none' W0 W1:=k1.aQ
 clear k1
 rw[HV.out]
 go_wp2_with fail
 refine hK _ _ (fun _=>k1') ?_
 clear hK
 (apply aj rfl rfl;(intro W hW;go_simp;rfl);go_frame)
 refine aG (fun _=>k1') ?_
 have d0:=k1'.cell (p:=⟨w.heap.size,0,none⟩) (fun h=>h) d0
 have d1:=k1'.cell (p:=⟨w.heap.size,1,none⟩) (fun h=>h) d1
 have d2:=k1'.cell (p:=⟨w.heap.size,2,none⟩) (fun h=>h) d2
 have e0:=k1'.cell (p:=⟨w.heap.size+1,0,none⟩) (fun h=>h) e0
 have e1:=k1'.cell (p:=⟨w.heap.size+1,1,none⟩) (fun h=>h) e1
 have e2:=k1'.cell (p:=⟨w.heap.size+1,2,none⟩) (fun h=>h) e2
 have K1:=Lib.hid (HK.out.trans k1')
 clear k1'
 obtain⟨b2,off2,p2,cap2,hb2,q0,q1,q2,hy2⟩:=H5.out 2 y3 (by rw[HA.out];rfl)
 cases hb2
 have r0:=K1.out.cell (p:=⟨b,off+2*3,none⟩) (fun h=>h) q0
 have r1:=K1.out.cell (p:=⟨b,off+2*3+1,none⟩) (fun h=>h) q1
 have r2:=K1.out.cell (p:=⟨b,off+2*3+2,none⟩) (fun h=>h) q2
 have Xi:=Lib.hid (aC.pure K1.out hy2)
 simp only[Nat.reduceMul,Nat.add_assoc,Nat.reduceAdd]at r0 r1 r2
 clear q0 q1 q2 hy2
 go_wp2_with fail
 refine ak [0,1,2,3,4,5,6] (fun W=>Kept none' W1 W) (by kernel_rfl) (by kernel_rfl) rfl (Kept.refl _ _).drew ?_
 simp only[List.map_cons,List.map_nil,List.getElem?_toArray,List.getElem?_cons_zero,List.getElem?_cons_succ,Option.getD_some]
 iterate 5 (apply aj rfl rfl;(intro W hW;have z0:=hW.cell (fun h=>h) d0;have z1:=hW.cell (fun h=>h) d1;have z2:=hW.cell (fun h=>h) d2;have z3:=hW.cell (fun h=>h) r0;have z4:=hW.cell (fun h=>h) r1;have z5:=hW.cell (fun h=>h) r2;have z6:=hW.cell (fun h=>h) e0;have z7:=hW.cell (fun h=>h) e1;have z8:=hW.cell (fun h=>h) e2;go_simp;rfl);go_frame)
 apply aA rfl rfl
 intro K hK
 go_wp2_with fail
 have c:=IH.out y3 _ env W1.drew (aC.pure (Kept.refl _ _).drew Xi.out) HE.out jM.out HT2.out
 (with_reducible refine c.mono ?_)
 clear c
 rintro e W2 ⟨rfl,k2⟩
 have k2':Kept none' W1 W2:=k2.aQ
 clear k2
 go_wp2_with fail
 refine hK _ _ (fun _=>k2') ?_
 clear hK
 (apply aj rfl rfl;(intro W hW;go_simp;rfl);go_frame)
 refine aG (fun _=>k2') ?_
 go_wp2_with fail
 go_ret
 exact⟨rfl,K1.out.trans k2'⟩
theorem WJ: ∀f,BF f
 |0=>fun x a env w h he hm ht=>by cases x;cases hm
 |f+1=>fun x a env w h he hm ht=>by
  have ih:=WJ f
  rcases NK hm ht with⟨_,hop⟩|⟨y1,ha,m1,⟨hop,t1,_⟩|⟨hop,t1,_⟩⟩|⟨y1,y2,ha,m1,m2,hh⟩|⟨y1,y2,y3,ha,m1,m2,m3,hop,t1,t2,t3⟩
  ·exact aaR f x a env w h hop
  ·exact ada f ih x a env w h he y1 ha hop m1 t1
  ·exact ac9 f ih x a env w h he y1 ha hop m1 t1
  ·have n1:aF f y1≠0:=by omega
   have n2:aF f y2≠0:=by omega
   have s1:=h.DI he (i:=0) (by rw[ha];rfl) m1 n1
   have s2:=h.DI he (i:=1) (by rw[ha];rfl) m2 n2
   refine ac8 f ih x a env w h he y1 y2 ha (by omega) m1 n1 m2 n2 ?_
   rcases hh with⟨hop,t1,t2,_⟩|⟨hop,t1,t2,_⟩|⟨hop,t1,t2,_⟩
   ·exact .inl ⟨by omega,s1.1.trans t1,s2.1.trans t2,s1.2,s2.2⟩
   ·exact .inl ⟨by omega,s1.1.trans t1,s2.1.trans t2,s1.2,s2.2⟩
   ·exact .inr ⟨hop,s1.1.trans t1,s2.1.trans t2⟩
  ·have n1:aF f y1≠0:=by omega
   have s1:=h.DI he (i:=0) (by rw[ha];rfl) m1 n1
   obtain⟨v,hv⟩:=EV.PN (s1.1.trans t1)
   cases v with
   |true=>exact Sz f ih x a env w h he y1 y2 y3 ha hop m1 n1 m2 (by omega) hv
   |false=>exact SA f ih x a env w h he y1 y2 y3 ha hop m1 n1 m3 (by omega) hv
theorem MK {x:Ex}(h:Dl x=true):oJ x=(aF 16 x,0)/\bg 16 x=true/\aF 16 x≠0:=by
 unfold Dl at h
 simp only[Bool.and_eq_true,bne_iff_ne,ne_eq]at h
 exact⟨by unfold oJ;rw[if_neg (by rw[h.1];simp),if_neg h.2],h.1,h.2⟩
theorem Yj {x:Ex}(h:Dl x=false): ∃n:Int,oJ x=(0,n)/\n≠0:=by
 unfold Dl at h
 simp only[Bool.and_eq_false_iff,bne_eq_false_iff_eq]at h
 unfold oJ
 by_cases hm:bg 16 x=false
 ·exact⟨2,by rw[if_pos hm],by omega⟩
 ·have ht:aF 16 x=0:=by rcases h with h|h;exact absurd h hm;exact h
  exact⟨91,by rw[if_neg hm,if_pos ht],by omega⟩
def DoQ (w:World)(x:Ex)(env:Env)(e:Ending)(w':World):Prop:=
 ∃ty er:Int,e= .returned (.tuple #[.agg #[.int .u8 ty, .int .i64 (dK x env), .bool (sS x env)], .int .i64 er])/\Kept none' w w'
theorem Wv (v:EV):(∃n,v= .num n)\/ ∃b,v= .jE b:=by cases v with|num n=>exact .inl ⟨n,rfl⟩|jE b=>exact .inr ⟨b,rfl⟩
theorem Xo (x:Ex)(a:Array Value)(env:Env)(w:World)(h:aC w a x)(he:mO env):Calls Tryz.prog 115 #[.agg a,iC env] w (DoQ w x env):=by
 obtain⟨p,cap,rfl,o0,o1,hn,h3,h4,h5⟩:=h.parts
 have H:=Lib.hid h
 have HE:=Lib.hid he
 clear h h5 he
 obtain⟨W0,hW0⟩: ∃W0,((w.alloc (.cells #[.int .u8 x.op, .int .i64 x.n, .slice p x.args.length cap] 95)).alloc (.cells #[.int .i64 env.key, .int .i64 env.val, .int .i64 env.acc] 154)).alloc (.cells #[.int .u8 0, .int .i64 0, .bool false] 192)=W0:=⟨_,rfl⟩
 have hk0:Kept none' w W0:=by rw[<-hW0];exact(((Kept.refl _ _).alloc _).alloc _).alloc _
 have hbx:=Bh w x p cap env
 have kx:Kept none' ((w.alloc (.cells #[.int .u8 x.op, .int .i64 x.n, .slice p x.args.length cap] 95)).alloc (.cells #[.int .i64 env.key, .int .i64 env.val, .int .i64 env.acc] 154)) _:=(Kept.refl _ _).alloc (.cells #[.int .u8 0, .int .i64 0, .bool false] 192)
 have d0:W0.cell? ⟨w.heap.size,0,none⟩=some (.int .u8 x.op):=by rw[<-hW0];exact kx.cell (fun h=>h) hbx.d0
 have d1:W0.cell? ⟨w.heap.size,1,none⟩=some (.int .i64 x.n):=by rw[<-hW0];exact kx.cell (fun h=>h) hbx.d1
 have d2:W0.cell? ⟨w.heap.size,2,none⟩=some (.slice p x.args.length cap):=by rw[<-hW0];exact kx.cell (fun h=>h) hbx.d2
 have e0:W0.cell? ⟨w.heap.size+1,0,none⟩=some (.int .i64 env.key):=by rw[<-hW0];exact kx.cell (fun h=>h) hbx.e0
 have e1:W0.cell? ⟨w.heap.size+1,1,none⟩=some (.int .i64 env.val):=by rw[<-hW0];exact kx.cell (fun h=>h) hbx.e1
 have e2:W0.cell? ⟨w.heap.size+1,2,none⟩=some (.int .i64 env.acc):=by rw[<-hW0];exact kx.cell (fun h=>h) hbx.e2
 have hB:W0.heap[w.heap.size+1+1]?=some (.cells #[.int .u8 0, .int .i64 0, .bool false] 192 (0,0)):=by
  rw[<-hW0]
  have:=heap_alloc_new ((w.alloc (.cells #[.int .u8 x.op, .int .i64 x.n, .slice p x.args.length cap] 95)).alloc (.cells #[.int .i64 env.key, .int .i64 env.val, .int .i64 env.acc] 154)) (.cells #[.int .u8 0, .int .i64 0, .bool false] 192)
  simpa[World.size_alloc]using this
 have HK:=Lib.hid hk0
 have HW0:=Lib.hid hW0
 have HB:=Lib.hid hB
 clear hk0 hW0 hB hbx kx
 go_enter Tryz.func115,Tryz.ntmps115
 go_wp2_with fail
 rw[HW0.out]
 have c:=Ed x _ W0 (aC.pure HK.out H.out)
 (with_reducible refine c.mono ?_)
 clear c
 rintro e W1 ⟨rfl,k1⟩
 have d0:=k1.cell (p:=⟨w.heap.size,0,none⟩) (fun h=>h) d0
 have d1:=k1.cell (p:=⟨w.heap.size,1,none⟩) (fun h=>h) d1
 have d2:=k1.cell (p:=⟨w.heap.size,2,none⟩) (fun h=>h) d2
 have e0:=k1.cell (p:=⟨w.heap.size+1,0,none⟩) (fun h=>h) e0
 have e1:=k1.cell (p:=⟨w.heap.size+1,1,none⟩) (fun h=>h) e1
 have e2:=k1.cell (p:=⟨w.heap.size+1,2,none⟩) (fun h=>h) e2
 have hB1:=k1.heap HB.out (fun h=>h)
 have tJ:=Lib.hid (HK.out.trans k1)
 clear k1
 cases hok:Dl x with
 |false=>
  obtain⟨n,hr,hn0⟩:=Yj hok
  rw[hr]
  have hnB:(n !=0)=true:=by simp[hn0]
  have z0:W1.cell? ⟨w.heap.size+1+1,0,none⟩=some (.int .u8 0):=cells_at hB1 rfl
  have z1:W1.cell? ⟨w.heap.size+1+1,1,none⟩=some (.int .i64 0):=cells_at hB1 rfl
  have z2:W1.cell? ⟨w.heap.size+1+1,2,none⟩=some (.bool false):=cells_at hB1 rfl
  have f0:=free_at hB1 0
  have f1:=free_at hB1 1
  have f2:=free_at hB1 2
  have F:DoQ w x env (.returned (.tuple #[.agg #[.int .u8 0, .int .i64 0, .bool false], .int .i64 n])) (((W1.setCell ⟨w.heap.size+1+1,0,none⟩ (.int .u8 0)).setCell ⟨w.heap.size+1+1,1,none⟩ (.int .i64 0)).setCell ⟨w.heap.size+1+1,2,none⟩ (.bool false)):=by
   refine⟨0,n,by unfold dK sS;rw[hok];rfl,?_⟩
   exact((tJ.out.setCell (p:=⟨w.heap.size+1+1,0,none⟩) (.inr (by simp;omega)) _).setCell (p:=⟨w.heap.size+1+1,1,none⟩) (.inr (by simp;omega)) _).setCell (p:=⟨w.heap.size+1+1,2,none⟩) (.inr (by simp;omega)) _
  have F':=Lib.hid F
  clear F hok hr hn0 hB1
  go_wp2_with fail
  refine bodyPost_ret (v:= .tuple #[.agg #[.int .u8 0, .int .i64 0, .bool false], .int .i64 n]) (by simp[results,Tryz.results115,go_sem,z0,z1,z2]) rfl F'.out
 |true=>
  obtain⟨hr,hm,ht⟩:=MK hok
  have hty:=Bf HE.out 16 x _ H.out hm ht
  rw[hr]
  have jg:=Lib.hid (And.intro hok (And.intro hm (And.intro ht hty)))
  have HB1:=Lib.hid hB1
  clear hok hr hm ht hty hB1
  go_wp2_with fail
  have c:=WJ 16 x _ env W1 (aC.pure tJ.out H.out) HE.out jg.out.2.1 jg.out.2.2.1
  (with_reducible refine c.mono ?_)
  clear c
  rintro e W2 ⟨rfl,k2⟩
  have hB2:=k2.heap HB1.out (fun h=>h)
  have z0:W2.cell? ⟨w.heap.size+1+1,0,none⟩=some (.int .u8 0):=cells_at hB2 rfl
  have z1:W2.cell? ⟨w.heap.size+1+1,1,none⟩=some (.int .i64 0):=cells_at hB2 rfl
  have z2:W2.cell? ⟨w.heap.size+1+1,2,none⟩=some (.bool false):=cells_at hB2 rfl
  have f0:=free_at hB2 0
  have f1:=free_at hB2 1
  have f2:=free_at hB2 2
  have HK2:=Lib.hid (tJ.out.trans k2)
  clear k2 hB2
  have fin: ∀(n:Int)(b:Bool),(aV 16 env x).n=n->(aV 16 env x).b=b->DoQ w x env (.returned (.tuple #[.agg #[.int .u8 (aF 16 x), .int .i64 n, .bool b], .int .i64 0])) (((W2.setCell ⟨w.heap.size+1+1,0,none⟩ (.int .u8 (aF 16 x))).setCell ⟨w.heap.size+1+1,1,none⟩ (.int .i64 n)).setCell ⟨w.heap.size+1+1,2,none⟩ (.bool b)):=by
   intro n b hn hb
   refine⟨aF 16 x,0,by unfold dK sS;rw[jg.out.1,hn,hb];rfl,?_⟩
   exact((HK2.out.setCell (p:=⟨w.heap.size+1+1,0,none⟩) (.inr (by simp;omega)) _).setCell (p:=⟨w.heap.size+1+1,1,none⟩) (.inr (by simp;omega)) _).setCell (p:=⟨w.heap.size+1+1,2,none⟩) (.inr (by simp;omega)) _
  rcases Wv (aV 16 env x)with⟨n,hv⟩|⟨b,hv⟩
  ·have F':=Lib.hid (fin n false (by rw[hv];rfl) (by rw[hv];rfl))
   rw[show mV (aV 16 env x)= .iface 2 (.int .i64 n)from congrArg mV hv]
   have t1:=fun v w=>o7 v true w
   have t2:=abx
   simp only[if_true]at t1
   clear fin hv
   go_wp2_with fail
   refine bodyPost_ret (v:= .tuple #[.agg #[.int .u8 (aF 16 x), .int .i64 n, .bool false], .int .i64 0]) (by simp[results,Tryz.results115,go_sem,z0,z1,z2]) rfl F'.out
  ·have F':=Lib.hid (fin 0 b (by rw[hv];rfl) (by rw[hv];rfl))
   rw[show mV (aV 16 env x)= .iface 4 (.bool b)from congrArg mV hv]
   have t1:=fun v w=>AU v true w
   have t2:=Vd
   simp only[if_true]at t1
   clear fin hv
   go_wp2_with fail
   refine bodyPost_ret (v:= .tuple #[.agg #[.int .u8 (aF 16 x), .int .i64 0, .bool b], .int .i64 0]) (by simp[results,Tryz.results115,go_sem,z0,z1,z2]) rfl F'.out
theorem Bc (x:Ex)(a:Array Value)(env:Env)(w:World)(h:aC w a x)(he:mO env):Calls Tryz.prog 80 #[.agg a,iC env] w (Gives w (.int .i64 (dK x env))):=by
 obtain⟨p,cap,rfl,o0,o1,hn,h3,h4,h5⟩:=h.parts
 have H:=Lib.hid h
 have HE:=Lib.hid he
 clear h h5 he
 go_enter Tryz.func80,Tryz.ntmps80
 go_wp2_with fail
 have k0:Kept none' w ((w.alloc (.cells #[.int .u8 x.op, .int .i64 x.n, .slice p x.args.length cap] 95)).alloc (.cells #[.int .i64 env.key, .int .i64 env.val, .int .i64 env.acc] 154)):=((Kept.refl _ _).alloc _).alloc _
 have c:=Xo x _ env _ (aC.pure k0 H.out) HE.out
 (with_reducible refine c.mono ?_)
 clear c
 rintro e W2 ⟨ty,er,rfl,k2⟩
 have K:=Lib.hid (k0.trans k2)
 clear k0 k2
 go_wp2_with fail
 go_ret
 exact⟨rfl,K.out.alloc _⟩
theorem Y9 (x:Ex)(a:Array Value)(env:Env)(w:World)(h:aC w a x)(he:mO env):Calls Tryz.prog 83 #[.agg a,iC env] w (Gives w (.bool (sS x env))):=by
 obtain⟨p,cap,rfl,o0,o1,hn,h3,h4,h5⟩:=h.parts
 have H:=Lib.hid h
 have HE:=Lib.hid he
 clear h h5 he
 go_enter Tryz.func83,Tryz.ntmps83
 go_wp2_with fail
 have k0:Kept none' w ((w.alloc (.cells #[.int .u8 x.op, .int .i64 x.n, .slice p x.args.length cap] 95)).alloc (.cells #[.int .i64 env.key, .int .i64 env.val, .int .i64 env.acc] 154)):=((Kept.refl _ _).alloc _).alloc _
 have c:=Xo x _ env _ (aC.pure k0 H.out) HE.out
 (with_reducible refine c.mono ?_)
 clear c
 rintro e W2 ⟨ty,er,rfl,k2⟩
 have K:=Lib.hid (k0.trans k2)
 clear k0 k2
 go_wp2_with fail
 go_ret
 exact⟨rfl,K.out.alloc _⟩
theorem AA {w:World}{x:Ex}{a:Array Value}{env:Env}(h:aC w a x)(he:mO env):aI (dK x env):=by
 unfold dK
 split
 ·rename_i hok
  obtain⟨_,hm,ht⟩:=MK hok
  exact(Bf he 16 x a h hm ht).2
 ·exact dY
end Go.Proofs.YtopeleenlcnkkaaGreatDoor
