/- exact.Outs and exact.States: what a course comes to. -/
import Derived.Test.YtopeleenlcnkkaaGreatDoorX45
set_option linter.unusedVariables false
set_option linter.unusedSimpArgs false
set_option maxHeartbeats 2000000
set_option maxRecDepth 100000
namespace Go.Proofs.YtopeleenlcnkkaaGreatDoor
section
open Go Go.RowKit
attribute [local irreducible] bU dL H2.cZ
def Bz (w:World)(r:Except Int (Now×List Rec))(e:Ending)(w':World):Prop:=
 match r with
 | .error er=>e= .returned (.tuple #[.slice none 0 0, .int .i64 er])/\er≠0/\Kept none' w w'
 | .ok r=> ∃B V,e= .returned (.tuple #[.slice (some ⟨B,0,none⟩) 2 2, .int .i64 0])/\bY w' w.heap.size B 78 V (eF r.2)/\w.heap.size<=B/\Kept none' w w'/\r.2.length<=3840
theorem bY.base {w:World}{b b' B E:Nat}{V:List Value}{O:List (List dV)}(h:bY w b B E V O)(hb:b'<=b):bY w b' B E V O:=
 ⟨h.blk,h.len,fun i v o hv ho=>jF (h.own i v o hv ho) hb,h.dist,h.ne⟩
theorem pF (first:Jb)(fv tv lv:Value)(ts:List Turn)(L:List Rec)(end_:Int)(w:World)(hj:bZ w #[.int .i64 first.par,fv] first)(ht:dB w tv ts)(hl:Reads w 3 lv (recs L))(hL: ∀r∈L,aU r)(hlen:L.length<=60):
 Calls Tryz.prog 35 #[.agg #[.int .i64 first.par,fv],tv,lv, .int .i64 end_] w (Bz w (gG first ts (L.map dI) end_)):=by
 obtain⟨na,bW,hfv,-⟩:=hj.lM.at
 have HT:=ht
 obtain⟨ta,nP,Em,-⟩:=ht
 obtain⟨la,Yh,hlv,-⟩:=hl.recAt
 subst hfv Em hlv
 have kA:Kept none' w (w.alloc (.cells #[.int .i64 first.par, .slice na first.nodes.length bW] 24)):=(Kept.refl _ _).alloc _
 have cr:=run_any first _ _ _ ts L end_ w _ kA hj HT (hl.pure kA) hL hlen
 have KA:=Lib.hid kA
 clear kA hj HT hl hL hlen
 go_enter Tryz.func35,Tryz.ntmps35
 go_wp2_with fail
 (with_reducible refine cr.mono ?_)
 clear cr
 intro e w2 hq
 unfold xG at hq
 cases hr:gG first ts (L.map dI) end_ with
 |error er=>
  rw[hr]at hq
  obtain⟨rfl,hne,k2⟩:=hq
  have F:=Lib.hid (show Bz w (.error er) (.returned (.tuple #[.slice none 0 0, .int .i64 er])) (w2.alloc (.cells #[.int .i64 0, .slice none 0 0] 24))from⟨rfl,hne,(KA.out.trans k2).alloc _⟩)
  have HR:=Lib.hid hr
  clear hr hne k2
  go_wp2_with fail
  go_ret2
  rw[HR.out]
  exact F.out
 |ok r=>
  rw[hr]at hq
  obtain⟨nv,bi,mi,pm,B,V,rfl,hjb,-,-,-,-,-,-,-,-,-,ho,hB,k2,hlen'⟩:=hq
  obtain⟨nb,eY,Nb,-⟩:=hjb.lM.at
  subst Nb
  have F:=Lib.hid (show Bz w (.ok r) (.returned (.tuple #[.slice (some ⟨B,0,none⟩) 2 2, .int .i64 0])) (w2.alloc (.cells #[.int .i64 r.1.1.par, .slice nb r.1.1.nodes.length eY] 24))from
   ⟨B,V,rfl,(ho.base KA.out.size).pure ((Kept.refl _ _).alloc _),Nat.le_trans KA.out.size hB,(KA.out.trans k2).alloc _,hlen'⟩)
  have HR:=Lib.hid hr
  clear hr ho hB k2 hjb
  go_wp2_with fail
  go_ret2
  rw[HR.out]
  exact F.out
def FI (wj w:World)(r:Except Int (Now×List Rec))(e:Ending)(w':World):Prop:=
 match r with
 | .error er=>e= .returned (.tuple #[.agg #[.int .i64 0, .slice none 0 0], .slice none 0 0, .int .i64 er])/\er≠0/\Kept none' w w'
 | .ok r=> ∃nv v,e= .returned (.tuple #[.agg #[.int .i64 r.1.1.par,nv],v, .int .i64 0])/\bZ wj #[.int .i64 r.1.1.par,nv] r.1.1/\bK r.1.1=true/\dF r.1.1.nodes r.1.2/\Reads w' 2 v (gX (aS r.1.1.nodes r.1.2))/\Kept none' w w'
theorem Oy (first:Jb)(fv tv lv:Value)(ts:List Turn)(L:List Rec)(end_:Int)(wj w:World)(kj:Kept none' wj w)(hj:bZ wj #[.int .i64 first.par,fv] first)(ht:dB wj tv ts)(hl:Reads w 3 lv (recs L))(hL: ∀r∈L,aU r)(hlen:L.length<=60):
 Calls Tryz.prog 37 #[.agg #[.int .i64 first.par,fv],tv,lv, .int .i64 end_] w (FI wj w (gG first ts (L.map dI) end_)):=by
 obtain⟨na,bW,hfv,-⟩:=hj.lM.at
 have HT:=ht
 obtain⟨ta,nP,Em,-⟩:=ht
 obtain⟨la,Yh,hlv,-⟩:=hl.recAt
 subst hfv Em hlv
 have kA:Kept none' w ((w.alloc (.cells #[.int .i64 first.par, .slice na first.nodes.length bW] 24)).alloc (.cells #[.int .i64 0, .slice none 0 0] 24)):=((Kept.refl _ _).alloc _).alloc _
 have a1:((w.alloc (.cells #[.int .i64 first.par, .slice na first.nodes.length bW] 24)).alloc (.cells #[.int .i64 0, .slice none 0 0] 24)).heap[w.heap.size+1]?=some (.cells #[.int .i64 0, .slice none 0 0] 24 (0,0)):=by
  have:=heap_alloc_new (w.alloc (.cells #[.int .i64 first.par, .slice na first.nodes.length bW] 24)) (.cells #[.int .i64 0, .slice none 0 0] 24)
  rwa[World.size_alloc]at this
 have a0:((w.alloc (.cells #[.int .i64 first.par, .slice na first.nodes.length bW] 24)).alloc (.cells #[.int .i64 0, .slice none 0 0] 24)).heap[w.heap.size]?=some (.cells #[.int .i64 first.par, .slice na first.nodes.length bW] 24 (0,0)):=((Kept.refl none' _).alloc _).heap (heap_alloc_new w _) (fun h=>h)
 obtain⟨W1,hW1⟩: ∃W1,(w.alloc (.cells #[.int .i64 first.par, .slice na first.nodes.length bW] 24)).alloc (.cells #[.int .i64 0, .slice none 0 0] 24)=W1:=⟨_,rfl⟩
 rw[hW1]at kA a0 a1
 have cr:=run_any first _ _ _ ts L end_ wj W1 (kj.trans kA) hj HT (hl.pure kA) hL hlen
 have c0:=cells_at a0 (j:=0) (v:= .int .i64 first.par) rfl
 have c1:=cells_at a0 (j:=1) (v:= .slice na first.nodes.length bW) rfl
 have KA:=Lib.hid (And.intro kA a1)
 have KJ:=Lib.hid kj
 clear kA hj HT hl hL hlen a0 a1 kj
 go_enter Tryz.func37,Tryz.ntmps37
 go_wp2_with fail
 try rw[hW1]
 clear hW1 c0 c1
 (with_reducible refine cr.mono ?_)
 clear cr
 intro e w2 hq
 unfold xG at hq
 cases hr:gG first ts (L.map dI) end_ with
 |error er=>
  rw[hr]at hq
  obtain⟨rfl,hne,k2⟩:=hq
  have k23:Kept none' w2 (w2.alloc (.cells #[.int .i64 0, .slice none 0 0] 24)):=(Kept.refl _ _).alloc _
  have gT:=heap_alloc_new w2 (.cells #[.int .i64 0, .slice none 0 0] 24)
  have g8:=(k2.trans k23).heap KA.out.2 (fun h=>h)
  obtain⟨W3,hW3⟩: ∃W3,w2.alloc (.cells #[.int .i64 0, .slice none 0 0] 24)=W3:=⟨_,rfl⟩
  rw[hW3]at k23 gT g8
  have xZ: ¬w2.heap.size=w.heap.size+1:=fun h=>by
   have:=(Array.getElem?_eq_some_iff.1 KA.out.2).1
   have:=k2.size
   omega
  have y0:=cells_at gT (j:=0) (v:= .int .i64 0) rfl
  have y1:=cells_at gT (j:=1) (v:= .slice none 0 0) rfl
  have cs:=DK W3.drew
  have G:=Lib.hid (And.intro (KA.out.1.trans (k2.trans k23)) (And.intro g8 (And.intro hr hne)))
  clear k2 k23 gT g8 hr hne
  have HW:=Lib.hid hW3
  clear hW3
  go_wp2_with fail
  rw[HW.out]
  clear HW
  refine ak [0,1,3,2,4,5,6] (fun W=>Kept (one (w.heap.size+1)) W3 W) (by kernel_rfl) (by kernel_rfl) rfl (Kept.refl _ _).drew ?_
  simp only[List.map_cons,List.map_nil,List.getElem?_toArray,List.getElem?_cons_zero,List.getElem?_cons_succ,Option.getD_some]
  iterate 3 (apply aj rfl rfl;(intro W hW;have z0:=hW.cell (p:=⟨w2.heap.size,0,none⟩) xZ y0;have z1:=hW.cell (p:=⟨w2.heap.size,1,none⟩) xZ y1;go_simp;rfl);go_frame)
  clear y0 y1
  apply aA rfl rfl
  intro K hK
  go_wp2_with fail
  (with_reducible refine cs.mono ?_)
  clear cs
  rintro e w4 ⟨rfl,hw4⟩
  have k34:Kept none' W3 w4:=by rw[hw4];exact(Kept.refl none' W3).drew
  clear hw4
  go_wp2_with fail
  refine hK _ _ (fun _=>k34.pure) ?_
  clear hK
  have yc:=k34.heap G.out.2.1 (fun h=>h)
  have x0:=cells_at yc (j:=0) (v:= .int .i64 0) rfl
  have x1:=cells_at yc (j:=1) (v:= .slice none 0 0) rfl
  have f0:=free_at yc 0
  have f1:=free_at yc 1
  obtain⟨q0,q1,kE⟩:=jG (w:=w) yc (G.out.1.trans k34) (by omega) (.int .i64 0) (.slice none 0 0)
  have kS:Kept (one (w.heap.size+1)) w4 ((w4.setCell ⟨w.heap.size+1,0,none⟩ (.int .i64 0)).setCell ⟨w.heap.size+1,1,none⟩ (.slice none 0 0)):=((Kept.refl (one (w.heap.size+1)) _).setCell (p:=⟨w.heap.size+1,0,none⟩) (.inl rfl) _).setCell (p:=⟨w.heap.size+1,1,none⟩) (.inl rfl) _
  have F:=Lib.hid (show FI wj w (.error er) (.returned (.tuple #[.agg #[.int .i64 0, .slice none 0 0],(.slice none 0 0), .int .i64 er])) ((w4.setCell ⟨w.heap.size+1,0,none⟩ (.int .i64 0)).setCell ⟨w.heap.size+1,1,none⟩ (.slice none 0 0))from⟨rfl,G.out.2.2.2,kE⟩)
  have Q:=Lib.hid (And.intro q0 (And.intro q1 (k34.pure.trans kS)))
  clear q0 q1 kE kS k34 yc
  apply aA rfl rfl
  intro K hK
  go_wp2_with fail
  refine hK _ _ (fun _=>Q.out.2.2) ?_
  clear hK
  iterate 2 (apply aj rfl rfl;(intro W hW;go_simp;rfl);go_frame)
  refine aG (fun _=>Q.out.2.2) ?_
  go_wp2_with fail
  refine bodyPost_ret (v:= .tuple #[.agg #[.int .i64 0, .slice none 0 0],(.slice none 0 0), .int .i64 er]) (by have q0:((w4.setCell ⟨w.heap.size+1,0,none⟩ (.int .i64 0)).setCell ⟨w.heap.size+1,1,none⟩ (.slice none 0 0)).cell? ⟨w.heap.size+1,0,none⟩=_:=Q.out.1;have q1:((w4.setCell ⟨w.heap.size+1,0,none⟩ (.int .i64 0)).setCell ⟨w.heap.size+1,1,none⟩ (.slice none 0 0)).cell? ⟨w.heap.size+1,1,none⟩=_:=Q.out.2.1;simp[results,Tryz.results37,go_sem,q0,q1]) rfl (by rw[G.out.2.2.1];exact F.out)
 |ok r=>
  rw[hr]at hq
  obtain⟨nv,bi,mi,pm,B,V,rfl,hjb,hok,hT,hob,htx,-,-,-,-,-,-,-,k2,-⟩:=hq
  obtain⟨nb,eY,Nb,-⟩:=hjb.lM.at
  subst Nb
  have k23:Kept none' w2 (w2.alloc (.cells #[.int .i64 r.1.1.par, .slice nb r.1.1.nodes.length eY] 24)):=(Kept.refl _ _).alloc _
  have gT:=heap_alloc_new w2 (.cells #[.int .i64 r.1.1.par, .slice nb r.1.1.nodes.length eY] 24)
  have g8:=(k2.trans k23).heap KA.out.2 (fun h=>h)
  obtain⟨W3,hW3⟩: ∃W3,w2.alloc (.cells #[.int .i64 r.1.1.par, .slice nb r.1.1.nodes.length eY] 24)=W3:=⟨_,rfl⟩
  rw[hW3]at k23 gT g8
  have xZ: ¬w2.heap.size=w.heap.size+1:=fun h=>by
   have:=(Array.getElem?_eq_some_iff.1 KA.out.2).1
   have:=k2.size
   omega
  have y0:=cells_at gT (j:=0) (v:= .int .i64 r.1.1.par) rfl
  have y1:=cells_at gT (j:=1) (v:= .slice nb r.1.1.nodes.length eY) rfl
  have cs:=yH r.1.1 bi mi r.1.2 pm W3.drew ⟨⟨_,k23.drew.heap hob (fun h=>h),((hjb.lM.pure (KJ.out.trans KA.out.1)).pure (k2.trans k23)).pure (Kept.refl none' _).drew⟩,hjb.r64,htx.at_.pure k23.drew⟩ hT.len (by have:=xg hok;omega)
  have G:=Lib.hid (And.intro (KA.out.1.trans (k2.trans k23)) (And.intro g8 (And.intro hr (And.intro hjb (And.intro hok hT)))))
  clear k2 k23 gT g8 hr hjb hok hT hob htx
  have HW:=Lib.hid hW3
  clear hW3
  go_wp2_with fail
  rw[HW.out]
  clear HW
  refine ak [0,1,3,2,4,5,6] (fun W=>Kept (one (w.heap.size+1)) W3 W) (by kernel_rfl) (by kernel_rfl) rfl (Kept.refl _ _).drew ?_
  simp only[List.map_cons,List.map_nil,List.getElem?_toArray,List.getElem?_cons_zero,List.getElem?_cons_succ,Option.getD_some]
  iterate 3 (apply aj rfl rfl;(intro W hW;have z0:=hW.cell (p:=⟨w2.heap.size,0,none⟩) xZ y0;have z1:=hW.cell (p:=⟨w2.heap.size,1,none⟩) xZ y1;go_simp;rfl);go_frame)
  clear y0 y1
  apply aA rfl rfl
  intro K hK
  go_wp2_with fail
  (with_reducible refine cs.mono ?_)
  clear cs
  rintro e w4 ⟨v4,rfl,hv4,hb4,k4⟩
  have afw:=hv4
  obtain⟨va,vc,rfl,-⟩:=afw.yI
  have k34:=k4.aQ
  go_wp2_with fail
  refine hK _ _ (fun _=>k34.pure) ?_
  clear hK
  have yc:=k34.heap G.out.2.1 (fun h=>h)
  have x0:=cells_at yc (j:=0) (v:= .int .i64 0) rfl
  have x1:=cells_at yc (j:=1) (v:= .slice none 0 0) rfl
  have f0:=free_at yc 0
  have f1:=free_at yc 1
  obtain⟨q0,q1,kE⟩:=jG (w:=w) yc (G.out.1.trans k34) (by omega) (.int .i64 r.1.1.par) (.slice nb r.1.1.nodes.length eY)
  have kS:Kept (one (w.heap.size+1)) w4 ((w4.setCell ⟨w.heap.size+1,0,none⟩ (.int .i64 r.1.1.par)).setCell ⟨w.heap.size+1,1,none⟩ (.slice nb r.1.1.nodes.length eY)):=((Kept.refl (one (w.heap.size+1)) _).setCell (p:=⟨w.heap.size+1,0,none⟩) (.inl rfl) _).setCell (p:=⟨w.heap.size+1,1,none⟩) (.inl rfl) _
  have F:=Lib.hid (show FI wj w (.ok r) (.returned (.tuple #[.agg #[.int .i64 r.1.1.par, .slice nb r.1.1.nodes.length eY],(.slice va (aS r.1.1.nodes r.1.2).length vc), .int .i64 0])) ((w4.setCell ⟨w.heap.size+1,0,none⟩ (.int .i64 r.1.1.par)).setCell ⟨w.heap.size+1,1,none⟩ (.slice nb r.1.1.nodes.length eY))from
   ⟨_,_,rfl,G.out.2.2.2.1,G.out.2.2.2.2.1,G.out.2.2.2.2.2,hv4.kept kS (fun q hq (h:q=w.heap.size+1)=>by have:=hb4 q hq;have:=(Array.getElem?_eq_some_iff.1 G.out.2.1).1;have:W3.drew.heap.size=W3.heap.size:=rfl;omega),kE⟩)
  have Q:=Lib.hid (And.intro q0 (And.intro q1 (k34.pure.trans kS)))
  clear q0 q1 kE kS k34 yc hv4 hb4 k4
  apply aA rfl rfl
  intro K hK
  go_wp2_with fail
  refine hK _ _ (fun _=>Q.out.2.2) ?_
  clear hK
  iterate 2 (apply aj rfl rfl;(intro W hW;go_simp;rfl);go_frame)
  refine aG (fun _=>Q.out.2.2) ?_
  go_wp2_with fail
  refine bodyPost_ret (v:= .tuple #[.agg #[.int .i64 r.1.1.par, .slice nb r.1.1.nodes.length eY],(.slice va (aS r.1.1.nodes r.1.2).length vc), .int .i64 0]) (by have q0:((w4.setCell ⟨w.heap.size+1,0,none⟩ (.int .i64 r.1.1.par)).setCell ⟨w.heap.size+1,1,none⟩ (.slice nb r.1.1.nodes.length eY)).cell? ⟨w.heap.size+1,0,none⟩=_:=Q.out.1;have q1:((w4.setCell ⟨w.heap.size+1,0,none⟩ (.int .i64 r.1.1.par)).setCell ⟨w.heap.size+1,1,none⟩ (.slice nb r.1.1.nodes.length eY)).cell? ⟨w.heap.size+1,1,none⟩=_:=Q.out.2.1;simp[results,Tryz.results37,go_sem,q0,q1]) rfl (by rw[G.out.2.2.1];exact F.out)
end
section
open Go Go.RowKit
attribute [local irreducible] bU
def zi (xs ys:List dV):Bool:=decide (xs=ys)
theorem QO {xs ys:List dV}{k:Nat}{x y:dV}(h:xs.take k=ys.take k)(hx:xs[k]?=some x)(hy:ys[k]?=some y)(e:x=y):xs.take (k+1)=ys.take (k+1):=by
 rw[List.take_add_one,List.take_add_one,h,hx,hy,e]
theorem Wx {xs ys:List dV}(h:xs.length≠ys.length):zi xs ys=false:=decide_eq_false (fun e=>h (by rw[e]))
theorem YX {xs ys:List dV}{k:Nat}{x y:dV}(hx:xs[k]?=some x)(hy:ys[k]?=some y)(h:x≠y):zi xs ys=false:=
 decide_eq_false (fun e=>by rw[e,hy]at hx;cases hx;exact h rfl)
theorem Sv {xs ys:List dV}{k:Nat}(h:xs.take k=ys.take k)(hk:xs.length<=k)(hl:xs.length=ys.length):zi xs ys=true:=
 decide_eq_true (by rw[List.take_of_length_le hk,List.take_of_length_le (by omega)]at h;exact h)
theorem Dn (a b:Value)(xs ys:List dV)(w:World)(ha:Reads w 2 a (oQ xs))(hb:Reads w 2 b (oQ ys)):
 Calls Tryz.prog 36 #[a,b] w (Gives w (.bool (zi xs ys))):=by
 obtain⟨pa,ca,rfl,a1,a2,a3⟩:=ha.Hq
 obtain⟨pb,cb,rfl,b1,b2,b3⟩:=hb.Hq
 unfold maxLen at a2 b2
 clear ha hb
 by_cases hl:xs.length=ys.length
 ·have hne:(((xs.length:Nat):Int) !=((ys.length:Nat):Int))=false:=by rw[hl];simp
  have A3:=Lib.hid a3
  have B3:=Lib.hid b3
  have HL:=Lib.hid hl
  clear a3 b3 hl
  go_enter Tryz.func36,Tryz.ntmps36
  go_wp2
  go_loopw [13] (fun i wr=> ∃k:Nat,k<=xs.length/\i= .int .i64 k/\xs.take k=ys.take k/\Kept none' w wr) (fun i _=>xs.length-(intOf i).toNat)
  case atStart=>exact⟨0,by omega,rfl,by simp,Kept.refl _ _⟩
  case round=>
   obtain⟨k,hk,rfl,ht,hkp⟩:=hrel
   have HT:=Lib.hid ht
   clear ht
   by_cases hlt:k<xs.length
   ·obtain⟨x,hx⟩: ∃x,xs[k]?=some x:=⟨_,List.getElem?_eq_getElem hlt⟩
    obtain⟨y,hy⟩: ∃y,ys[k]?=some y:=⟨_,List.getElem?_eq_getElem (by rw[<-HL.out];exact hlt)⟩
    obtain⟨b0,off,rfl,hc⟩:=A3.out.resolve_left (fun h=>by rw[h]at hlt;simp at hlt)
    obtain⟨b1,off1,rfl,hd⟩:=B3.out.resolve_left (fun h=>by rw[h]at hy;simp at hy)
    have x0:=hkp.cell (p:=⟨b0,off+k*2,none⟩) (fun h=>h) (hc k x hx).1
    have x1:=hkp.cell (p:=⟨b0,off+k*2+1,none⟩) (fun h=>h) (hc k x hx).2
    have y0:=hkp.cell (p:=⟨b1,off1+k*2,none⟩) (fun h=>h) (hd k y hy).1
    have y1:=hkp.cell (p:=⟨b1,off1+k*2+1,none⟩) (fun h=>h) (hd k y hy).2
    have HX:=Lib.hid (And.intro hx hy)
    have hlt2:k<ys.length:=by rw[<-HL.out];exact hlt
    clear hc hd hx hy A3 B3
    go_wp2_with fail
    refine ak [0,1,2,3,4,5,6,7,8] (fun W=>Kept none' wr W) (by kernel_rfl) (by kernel_rfl) rfl (Kept.refl _ _).drew ?_
    simp only[List.map_cons,List.map_nil,List.getElem?_toArray,List.getElem?_cons_zero,List.getElem?_cons_succ,Option.getD_some]
    iterate 8 (apply aj rfl rfl;(intro W hW;have c0:=hW.cell (p:=⟨b0,off+k*2,none⟩) (fun h=>h) x0;have c1:=hW.cell (p:=⟨b0,off+k*2+1,none⟩) (fun h=>h) x1;have d0:=hW.cell (p:=⟨b1,off1+k*2,none⟩) (fun h=>h) y0;have d1:=hW.cell (p:=⟨b1,off1+k*2+1,none⟩) (fun h=>h) y1;go_simp;rfl);go_frame)
    refine aj (v:= .bool (decide (x≠y))) rfl rfl ?_ ?_
    ·intro W hW
     go_simp
     by_cases hxy:x=y
     ·subst hxy;simp
     ·have: ¬(x.1=y.1/\x.2=y.2):=fun h=>hxy (Prod.ext h.1 h.2)
      simp[hxy]
      intro h1 h2
      exact this ⟨h1,h2⟩
    go_frame
    refine aG (fun _=>(Kept.refl _ _).drew) ?_
    clear x0 x1 y0 y1
    by_cases hxy:x=y
    ·have hf:decide (x≠y)=false:=by simp[hxy]
     rw[hf]
     have GZ:=Lib.hid hxy
     clear hxy hf
     go_wp2_with fail
     go_roundw
     case rel=>exact⟨k+1,by omega,by go_num,QO HT.out HX.out.1 HX.out.2 GZ.out,hkp.drew⟩
     case measure=>simp[intOf];omega
    ·have hf:decide (x≠y)=true:=by simp[hxy]
     rw[hf]
     have GZ:=Lib.hid hxy
     clear hxy hf
     go_wp2_with fail
     go_ret
     exact⟨dZ (YX HX.out.1 HX.out.2 GZ.out).symm,hkp.drew⟩
   ·go_wp2_with fail
    go_ret
    exact⟨dZ (Sv HT.out (by omega) HL.out).symm,hkp⟩
 ·have hne:(((xs.length:Nat):Int) !=((ys.length:Nat):Int))=true:=by simp;omega
  have HL:=Lib.hid hl
  clear a3 b3 hl
  go_enter Tryz.func36,Tryz.ntmps36
  go_wp2
  go_ret
  exact⟨dZ (Wx HL.out).symm,Kept.refl _ _⟩
end
section
open Go Go.RowKit
attribute [local irreducible] bU dL H2.cZ
def Le:Jb:=⟨2,QV⟩
def Ea:Jb:=⟨1,Rt⟩
def aaj (w:World)(e:Ending)(w':World):Prop:= ∃v,e= .returned (.agg #[.int .i64 1,v])/\bZ w' #[.int .i64 1,v] Ea/\Kept none' w w'
theorem Yg (w:World)(m:Int)(hm:w.cell? ⟨0,0,none⟩=some (.int .i64 m)):Calls Tryz.prog 63 #[] w (aaj w):=by
 have kA:Kept none' w (w.alloc (.cells #[.int .i64 0, .slice none 0 0] 24)):=(Kept.refl _ _).alloc _
 have a0:=heap_alloc_new w (.cells #[.int .i64 0, .slice none 0 0] 24)
 obtain⟨W1,hW1⟩: ∃W1,w.alloc (.cells #[.int .i64 0, .slice none 0 0] 24)=W1:=⟨_,rfl⟩
 rw[hW1]at kA a0
 have c1:=MC Zt 1 Rt W1 Rq m (kA.cell (p:=⟨0,0,none⟩) (fun h=>h) hm)
 have KA:=Lib.hid (And.intro kA a0)
 clear kA a0 hm
 go_enter Tryz.func63,Tryz.ntmps63
 go_wp2_with fail
 try rw[hW1]
 clear hW1
 (with_reducible refine c1.mono ?_)
 clear c1
 rintro e w1 ⟨va,J,lo,D,rfl,hj,hJ,k1⟩
 have hja:=hj.job
 obtain⟨Pq,Ii,hva⟩: ∃a c,va= .slice a 3 c:=by obtain⟨a,c,h,_⟩:=hja.lM.at;exact⟨a,c,h⟩
 subst hva
 have t0:=k1.heap KA.out.2 (fun h=>h)
 have hsz:w.heap.size<W1.heap.size:=(Array.getElem?_eq_some_iff.1 KA.out.2).1
 have f0:=cells_at t0 (j:=0) (v:= .int .i64 0) rfl
 have f1:=cells_at t0 (j:=1) (v:= .slice none 0 0) rfl
 have g0:=free_at t0 0
 have g1:=free_at t0 1
 obtain⟨q0,q1,kE⟩:=jG (w:=w) t0 (KA.out.1.trans k1) (Nat.le_refl _) (.int .i64 1) (.slice Pq 3 Ii)
 have kS:Kept (one w.heap.size) w1 ((w1.setCell ⟨w.heap.size,0,none⟩ (.int .i64 1)).setCell ⟨w.heap.size,1,none⟩ (.slice Pq 3 Ii)):=((Kept.refl (one w.heap.size) _).setCell (p:=⟨w.heap.size,0,none⟩) (.inl rfl) _).setCell (p:=⟨w.heap.size,1,none⟩) (.inl rfl) _
 have hj2:=hj.fH kS (fun q hq=>by
  unfold one at hq
  have h1:=hj.lt
  refine⟨by omega,fun e=>?_,fun hD=>?_⟩
  ·obtain⟨cs,hr,_⟩:=hj.row
   have:=(hr.lt q e).1
   omega
  ·have:=(hj.dd q hD).1;omega)
 have F:=Lib.hid (show aaj w (.returned (.agg #[.int .i64 1, .slice Pq 3 Ii])) ((w1.setCell ⟨w.heap.size,0,none⟩ (.int .i64 1)).setCell ⟨w.heap.size,1,none⟩ (.slice Pq 3 Ii))from⟨_,rfl,hj2.job,kE⟩)
 have Q:=Lib.hid (And.intro q0 q1)
 clear q0 q1 kE kS hj2 hja hj hJ t0 k1
 go_wp2_with fail
 refine bodyPost_ret (v:= .agg #[.int .i64 1, .slice Pq 3 Ii]) (by simp[results,Tryz.results63,go_sem,Q.out.1,Q.out.2]) rfl F.out
theorem both_any (w:World):Calls Tryz.prog 64 #[] w fun e w'=> ∃v,e= .returned v/\Reads w' 3 v (recs bothR)/\Kept none' w w':=by
 have hlit:=Reads.lit w (recs bothR) 86 3 2 rfl (by unfold maxLen;omega)
 have HL:=Lib.hid hlit
 clear hlit
 go_enter Tryz.func64,Tryz.ntmps64
 go_wp2_with fail
 go_ret
 exact⟨_,rfl,HL.out,(Kept.refl _ _).alloc _⟩
theorem NU:gG Le [(1,Ea)] (bothR.map dI) 2= .ok ((Ea,[none,some [(5,-2,[])],none]),[⟨1,5,2⟩,⟨1,5,-2⟩]):=by kernel_rfl
theorem O7:eF [⟨1,5,2⟩,⟨1,5,-2⟩]=[[],[(5,2),(5,-2)]]:=by kernel_rfl
theorem dB.one {w:World}{B E:Nat}{c par:Int}{va:Value}{j:Jb}(h:w.heap[B]?=some (.cells #[.int .i64 c, .int .i64 par,va] E (0,0)))(hp:par=j.par)(hj:bZ w #[.int .i64 j.par,va] j):dB w (.slice (some ⟨B,0,none⟩) 1 1) [(c,j)]:=by
 subst hp
 refine⟨_,1,rfl,Nat.le_refl _,by unfold maxLen;omega, .inr ⟨B,0,rfl,fun i t ht=>?_⟩⟩
 match i with
 |0=>
  cases ht
  exact⟨va,cells_at h (j:=0) rfl,cells_at h (j:=1) rfl,cells_at h (j:=2) rfl,hj⟩
 |i+1=>cases ht
theorem bI (w:World)(m:Int)(hm:w.cell? ⟨0,0,none⟩=some (.int .i64 m)):Calls Tryz.prog 33 #[] w (Gives w (.bool true)):=by
 have c1:=MC Zk 2 QV w QU m hm
 have HM:=Lib.hid hm
 clear hm
 go_enter Tryz.func33,Tryz.ntmps33
 go_wp2_with fail
 (with_reducible refine c1.mono ?_)
 clear c1
 rintro e w1 ⟨va,J,lo,D,rfl,hj,hJ,k1⟩
 have hja:=hj.job
 obtain⟨Pq,Ii,hva⟩: ∃a c,va= .slice a 3 c:=by obtain⟨a,c,h,_⟩:=hja.lM.at;exact⟨a,c,h⟩
 subst hva
 have c2:=Yg w1 m (k1.cell (p:=⟨0,0,none⟩) (fun h=>h) HM.out)
 have K1:=Lib.hid (And.intro hja k1)
 clear hja k1 hj hJ
 go_wp2_with fail
 (with_reducible refine c2.mono ?_)
 clear c2
 rintro e w2 ⟨vb,rfl,hjb,k2⟩
 obtain⟨vb1,vb2,hvb⟩: ∃a c,vb= .slice a 3 c:=by obtain⟨a,c,h,_⟩:=hjb.lM.at;exact⟨a,c,h⟩
 subst hvb
 have kA:Kept none' w2 (w2.alloc (.cells #[.int .i64 1, .int .i64 1, .slice vb1 3 vb2] 75)):=(Kept.refl _ _).alloc _
 have tB:=heap_alloc_new w2 (.cells #[.int .i64 1, .int .i64 1, .slice vb1 3 vb2] 75)
 obtain⟨W3,hW3⟩: ∃W3,w2.alloc (.cells #[.int .i64 1, .int .i64 1, .slice vb1 3 vb2] 75)=W3:=⟨_,rfl⟩
 rw[hW3]at kA tB
 have c3:=both_any W3
 have K2:=Lib.hid (And.intro (K1.out.1.pure (k2.trans kA)) (And.intro (dB.one (j:=Ea) tB rfl (hjb.pure kA)) (K1.out.2.trans (k2.trans kA))))
 clear hjb k2 kA tB
 go_wp2_with fail
 try rw[hW3]
 (with_reducible refine c3.mono ?_)
 clear c3
 rintro e w4 ⟨v4,rfl,hv4,k4⟩
 obtain⟨v4a,v4c,RJ,-⟩:=hv4.recAt
 have RJ:v4= .slice v4a 2 v4c:=RJ
 subst RJ
 have co:=pF Le _ _ _ [(1,Ea)] bothR 2 w4 (K2.out.1.pure k4) (K2.out.2.1.pure k4) hv4 Y8 (by decide)
 rw[NU,show Le.par=2 from rfl]at co
 have K4:=Lib.hid (K2.out.2.2.trans k4)
 have hs3:w2.heap.size<W3.heap.size:=by rw[<-hW3];simp
 clear hv4 k4 hW3 RJ
 go_wp2_with fail
 (with_reducible refine co.mono ?_)
 clear co
 rintro e w5 ⟨B,V,rfl,ho,hB,k5,-⟩
 rw[O7]at ho
 obtain⟨u,hu⟩: ∃u,V[1]?=some u:=⟨_,List.getElem?_eq_getElem (by rw[ho.len];decide)⟩
 have hown:=ho.own 1 u _ hu rfl
 obtain⟨ua,uc,hue⟩:=ay hown
 subst hue
 have y:=cells_at ho.blk (j:=1) (v:= .slice ua ([(5,2),(5,-2)]:List dV).length uc) (by simpa using hu)
 have y:w5.cell? ⟨B,1,none⟩=some (.slice ua 2 uc):=y
 have kB:Kept none' w5 (w5.alloc (.cells #[.int .i64 5, .int .i64 2, .int .i64 5, .int .i64 (-2)] 80)):=(Kept.refl _ _).alloc _
 have hlit:=Reads.lit w5 (oQ [(5,2),(5,-2)]) 80 2 2 rfl (by unfold maxLen;omega)
 have ce:=Dn (.slice ua 2 uc) (.slice (some ⟨w5.heap.size,0,none⟩) 2 2) [(5,2),(5,-2)] [(5,2),(5,-2)] _ ((Reads.aZ hown).pure kB) hlit
 rw[show zi [(5,2),(5,-2)] [(5,2),(5,-2)]=true from by decide]at ce
 have K5:=Lib.hid (K4.out.trans (k5.trans kB))
 clear ho hB k5 hu hown kB hlit
 go_wp2_with fail
 (with_reducible refine ce.mono ?_)
 clear ce y
 rintro e w6 ⟨rfl,k6⟩
 have F:=Lib.hid (K5.out.trans k6)
 clear k6
 go_wp2_with fail
 go_ret
 exact⟨rfl,F.out⟩
def adT (w:World)(n m:Nat)(e:Ending)(w':World):Prop:= ∃b:Bool,e= .returned (.bool b)/\Kept none' w w'/\(b=false->n<=10/\m<=60)
theorem yU (j:Jb)(a:Array Value)(tv:Value)(ts:List Turn)(rv:Value)(R:List Rec)(w:World)(h:bZ w a j)(ht:dB w tv ts)(hr:Reads w 3 rv (recs R)):
 Calls Tryz.prog 32 #[.agg a,tv,rv] w (adT w ts.length R.length):=by
 have hJ:=h
 obtain⟨v,rfl,hn,hp⟩:=h
 obtain⟨na,cap,rfl,h1,h2,h3⟩:=hn.at
 obtain⟨sa,scap,rfl,s1,s2,s3⟩:=ht
 obtain⟨ra,nC,rfl,r1,r2,r3⟩:=hr.recAt
 unfold maxLen at h2 s2 r2
 have kA:Kept none' w (w.alloc (.cells #[.int .i64 j.par, .slice na j.nodes.length cap] 24)):=(Kept.refl _ _).alloc _
 have tA:(w.alloc (.cells #[.int .i64 j.par, .slice na j.nodes.length cap] 24)).heap[w.heap.size]?=some (.cells #[.int .i64 j.par, .slice na j.nodes.length cap] 24 (0,0)):=heap_alloc_new _ _
 have H3:=Lib.hid (And.intro hJ s3)
 have KA:=Lib.hid (And.intro kA tA)
 clear h3 hn hp kA hJ s3 hr r3 tA
 go_enter Tryz.func32,Tryz.ntmps32
 go_wp2_with fail
 obtain⟨W0,hW0⟩: ∃W0,w.alloc (.cells #[.int .i64 j.par, .slice na j.nodes.length cap] 24)=W0:=⟨_,rfl⟩
 rw[hW0]at KA⊢
 clear hW0
 go_loopg [11] ts.length (fun g vi wr=> ∃k:Nat,k<=ts.length/\vi= .int .i64 (k:Int)/\ts.length-k<=g/\Kept none' W0 wr)
 case atStart=>exact⟨0,by omega,rfl,by omega,Kept.refl _ _⟩
 case round=>
  obtain⟨k,hkl,rfl,hg,hkp⟩:=hrel
  by_cases hlt:k<ts.length
  ·obtain⟨t,ht⟩: ∃t,ts[k]?=some t:=⟨_,List.getElem?_eq_getElem hlt⟩
   obtain⟨bs,L6,rfl,hcs⟩:=H3.out.2.resolve_left (fun h=>by rw[h]at hlt;simp at hlt)
   have kw:=KA.out.1.trans hkp
   obtain⟨va,d0,d1,d2,hjt⟩:=hcs k t ht
   have hjt:bZ w #[.int .i64 t.2.par,va] t.2:=hjt
   have y0:=kw.cell (fun h=>h) d0
   have y1:=kw.cell (fun h=>h) d1
   have y2:=kw.cell (fun h=>h) d2
   have ka:Kept none' wr (wr.alloc (.cells #[.int .i64 t.1, .int .i64 t.2.par,va] 75)):=(Kept.refl _ _).alloc _
   have sB:(wr.alloc (.cells #[.int .i64 t.1, .int .i64 t.2.par,va] 75)).heap[wr.heap.size]?=some (.cells #[.int .i64 t.1, .int .i64 t.2.par,va] 75 (0,0)):=heap_alloc_new _ _
   obtain⟨oZ,cap2,hva,-⟩:=hjt.lM.at
   have ch:=BX t.2 _ (wr.alloc (.cells #[.int .i64 t.1, .int .i64 t.2.par,va] 75)) (hjt.pure (kw.trans ka))
   subst hva
   have G:=Lib.hid (And.intro hg (hkp.trans ka))
   clear hg hkp kw hcs ht hjt ka d0 d1 d2 sB
   go_wp2_with fail
   (with_reducible refine ch.mono ?_)
   clear ch y0 y1 y2
   rintro e w5 ⟨b1,rfl,k5⟩
   have G2:=Lib.hid (G.out.2.trans k5)
   clear k5
   cases b1 with
   |true=>
    go_wp2_with fail
    go_ret
    exact⟨true,rfl,KA.out.1.trans G2.out,fun h=>by cases h⟩
   |false=>
    go_wp2_with fail
    go_roundg (ts.length-(k+1))
    case rel=>exact⟨k+1,by omega,by go_num,Nat.le_refl _,G2.out⟩
    case measure=>have:=G.out.1;omega
  ·have tw:=hkp.heap KA.out.2 (fun h=>h)
   have x0:=cells_at tw (j:=0) rfl
   have x1:=cells_at tw (j:=1) rfl
   have hB:w.heap.size<wr.heap.size:=(Array.getElem?_eq_some_iff.1 tw).1
   have ch:=BX j _ wr (H3.out.1.pure (KA.out.1.trans hkp))
   have G:=Lib.hid (KA.out.1.trans hkp)
   clear hkp hg tw
   go_wp2_with fail
   (with_reducible refine ch.mono ?_)
   clear ch x0 x1
   rintro e w5 ⟨b1,rfl,k5⟩
   have G2:=Lib.hid (G.out.trans k5)
   clear k5
   cases b1 with
   |true=>
    go_wp2_with fail
    go_ret
    exact⟨true,rfl,G2.out,fun h=>by cases h⟩
   |false=>
    by_cases q1:10<ts.length
    ·go_wp2_with fail
     go_ret
     exact⟨true,rfl,G2.out,fun h=>by cases h⟩
    ·go_wp2_with fail
     go_ret
     refine⟨_,rfl,G2.out,fun hb=>?_⟩
     have hb':(decide (10<(ts.length:Int))||decide (60<(R.length:Int)))=false:=hb
     rw[Bool.or_eq_false_iff,decide_eq_false_iff_not,decide_eq_false_iff_not]at hb'
     omega
theorem Tryz.info75: ∃i z,Tryz.prog.info? 75=some i/\i.zero=some z/\i.size=3/\i.bytes=40/\z.cells.size=3:=by
 have h:(Tryz.prog.info? 75).map (fun i=>(i.zero,i.size,i.bytes))=some (some (.agg #[.int .i64 0, .int .i64 0, .slice none 0 0]),3,40):=by kernel_rfl
 obtain⟨i,hi,h⟩:=Option.map_eq_some_iff.1 h
 simp only[Prod.mk.injEq]at h
 exact⟨i,_,hi,h.1,h.2.1,h.2.2,by rfl⟩
theorem U3 {w:World}{base n:Nat}{va:Value}{cs:List Value}(h:w.ownsRow base 75 3 va n cs)(x y z:Value)(hx:x.oneCell'=true)(hy:y.oneCell'=true)(hz':z.oneCell'=true)(hb:base<=w.heap.size)(hn:n<=100000):
 ∃dS w',(Builtin.append_ #[76,76] 76 #[va, .slice (some ⟨w.heap.size,0,none⟩) 1 1]).run Tryz.prog (w.alloc (.cells #[x,y,z] 75))= .ok dS w'/\w'.ownsRow base 75 3 dS (n+1) (cs++[x,y,z])/\
  Kept (fun q=>va.ownBlock=some q) w w'/\ ∃a c,dS= .slice a (n+1) c:=by
 obtain⟨i,zz,hi,hz,hs,hby,hzs⟩:=Tryz.info75
 have kA:Kept none' w (w.alloc (.cells #[x,y,z] 75)):=(Kept.refl _ _).alloc _
 have hr:=Reads.lit w [x,y,z] 75 3 1 rfl (by unfold maxLen;omega)
 have hl:cs.length=n*3:=h.1
 obtain⟨v',n',w',b1,b2,b3,b4,_⟩:=aW (P:=Tryz.prog) base 76 76 75 i zz 3 40 Tryz.underlying76 hi hz hs hby hzs (by omega) (kA.owns h (fun _ _ h=>h)) hr (by intro u hu;simp at hu;rcases hu with rfl|rfl|rfl<;>assumption)
  (by simp;omega) (by simp;unfold maxLen;omega) (by have:=kA.size;omega)
 have hn':n'=n+1:=by simp at b3;omega
 subst hn'
 refine⟨v',w',b1,b2,kA.pure.trans (Kept.grown b4 (fun k hk _=>hk)),?_⟩
 obtain⟨a,c,e⟩:=ay b2
 exact⟨a,c,e⟩
def sU (w:World)(cs:List Value)(ts:List Turn):Prop:= ∀(i:Nat)(t:Turn),ts[i]?=some t-> ∃va,cs[i*3]?=some (.int .i64 t.1)/\cs[i*3+1]?=some (.int .i64 t.2.par)/\cs[i*3+2]?=some va/\bZ w #[.int .i64 t.2.par,va] t.2
theorem sU.snoc {w:World}{cs:List Value}{ts:List Turn}{t:Turn}{va:Value}(h:sU w cs ts)(hl:cs.length=ts.length*3)(hj:bZ w #[.int .i64 t.2.par,va] t.2):sU w (cs++[.int .i64 t.1, .int .i64 t.2.par,va]) (ts++[t]):=fun i u hu=>by
 by_cases hi:i<ts.length
 ·rw[List.getElem?_append_left hi]at hu
  obtain⟨dS,h1,h2,h3,h4⟩:=h i u hu
  refine⟨dS,?_,?_,?_,h4⟩
  ·rw[List.getElem?_append_left (by omega)];exact h1
  ·rw[List.getElem?_append_left (by omega)];exact h2
  ·rw[List.getElem?_append_left (by omega)];exact h3
 ·have hlt:=(List.getElem?_eq_some_iff.1 hu).1
  rw[List.length_append,List.length_singleton]at hlt
  have hi':i=ts.length:=by omega
  subst hi'
  rw[List.getElem?_append_right (Nat.le_refl _),Nat.sub_self]at hu
  cases hu
  refine⟨va,?_,?_,?_,hj⟩
  ·rw[List.getElem?_append_right (by omega),hl,Nat.sub_self];rfl
  ·rw[List.getElem?_append_right (by omega),hl,show ts.length*3+1-ts.length*3=1 by omega];rfl
  ·rw[List.getElem?_append_right (by omega),hl,show ts.length*3+2-ts.length*3=2 by omega];rfl
theorem sU.at_ {w w':World}{v:Value}{cs:List Value}{ts:List Turn}(h:sU w cs ts)(hr:Reads w' 3 v cs)(hk:Kept none' w w')(hl:cs.length=ts.length*3):dB w' v ts:=by
 obtain⟨a,n,cap,rfl,h1,h2,h3,h4⟩:=hr
 have hn:n=ts.length:=by omega
 subst hn
 refine⟨a,cap,rfl,h1,h2,?_⟩
 rcases h4 with h4|⟨b,off,rfl,h4⟩
 ·left
  rw[h4]at hl
  exact List.eq_nil_of_length_eq_zero (by simp only[List.length_nil]at hl;omega)
 ·refine .inr ⟨b,off,rfl,fun i t ht=>?_⟩
  obtain⟨va,e1,e2,e3,e4⟩:=h i t ht
  have g1:=h4 _ _ e1
  have g2:=h4 _ _ e2
  have g3:=h4 _ _ e3
  rw[<-Nat.add_assoc]at g2 g3
  exact⟨va,g1,g2,g3,e4.pure hk⟩
theorem AB {e e':Int}: ∀{l:List Turn}{a:Int},bM e a l=true->(∀t∈l,t.1<=e')->bM e' a l=true
 |[],_,_,_=>rfl
 |t::l,a,h,hs=>by
  unfold bM at h⊢
  simp only[Bool.and_eq_true,decide_eq_true_eq]at h⊢
  exact⟨⟨h.1.1,hs t (by simp)⟩,AB h.2 (fun u hu=>hs u (by simp[hu]))⟩
theorem Q5 {first:Jb}{ts:List Turn}{l:List (Int×Int)}{n:Nat}(hn:n<=l.length){x:Now×List Rec}(h:gG first ts l l.length= .ok x)(hs: ∀t∈ts,t.1<=(n:Int)):
 ∃r,gG first ts l n= .ok r/\x.2=r.2++(dO r.1.1.nodes r.1.2 (l.drop n)).1:=by
 obtain⟨_,_,hc,_⟩:=Gi h
 have hon:=E8 (first:=first) hn (AB hc hs)
 rw[h]at hon
 cases hr:gG first ts l n with
 |error e=>rw[hr]at hon;cases hon
 |ok r=>
  rw[hr]at hon
  injection hon with hon
  exact⟨r,rfl,by rw[hon]⟩
structure qI (w wr:World)(base B:Nat)(V:List Value)(j:Jb)(Ts:Tabs)(o:List Rec)(nv:Value)(bi mi:Nat)(pm:Nat->Nat×Nat):Prop where
 kept:Kept none' w wr
 i:wr.heap[bi]?=some (.cells #[.int .i64 j.par,nv, .map (some mi)] 101 (0,0))
 jb:bZ w #[.int .i64 j.par,nv] j
 ok:bK j=true
 tk:dF j.nodes Ts
 tabs:bV wr (fun q=> ¬bP B V q) mi Ts pm
 nb: ¬bP B V bi
 nm: ¬bP B V mi
 nt:oV w.heap.size Ts pm
 out:bY wr base B 78 V (eF o)
 gw:w.heap.size<=base
 gb:base<=B
theorem qI.pure {w wr w':World}{base B:Nat}{V:List Value}{j:Jb}{Ts:Tabs}{o:List Rec}{nv:Value}{bi mi:Nat}{pm:Nat->Nat×Nat}(h:qI w wr base B V j Ts o nv bi mi pm)(hk:Kept none' wr w'):qI w w' base B V j Ts o nv bi mi pm:=
 ⟨h.kept.trans hk,hk.heap h.i (fun h=>h),h.jb,h.ok,h.tk,h.tabs.pure hk,h.nb,h.nm,h.nt,h.out.pure hk,h.gw,h.gb⟩
theorem qI.fed {w wr w':World}{base B:Nat}{V:List Value}{j:Jb}{Ts T2:Tabs}{o:List Rec}{nv:Value}{bi mi:Nat}{pm:Nat->Nat×Nat}(h:qI w wr base B V j Ts o nv bi mi pm)(hk:Kept (lQ Ts pm) wr w')
 (hx:bV w' (fun q=> ¬bP B V q\/wr.heap.size<=q) mi T2 pm) (hT:dF j.nodes T2):qI w w' base B V j T2 o nv bi mi pm:=by
 have no: ∀{q:Nat}{c:Array Value}{T:TypeId}{f:Nat×Nat},wr.heap[q]?=some (.cells c T f)-> ¬lQ Ts pm q:=fun hc hs=>h.tabs.at_.uw hs _ _ _ hc
 exact⟨h.kept.maps h.nt hk,hk.heap h.i (no h.i),h.jb,h.ok,hT,hx.mono (fun q hq _=>hq.elim id (fun hq hF=>by have:=h.out.lt hF;omega)),h.nb,h.nm,h.tk.newT hT h.nt,
  h.out.fH hk (fun q hq=>by obtain⟨c,T,f,e⟩:=h.out.isCells hq;exact no e),h.gw,h.gb⟩
theorem qI.told {w wr w':World}{base B:Nat}{V V':List Value}{j:Jb}{Ts:Tabs}{o o':List Rec}{nv:Value}{bi mi:Nat}{pm:Nat->Nat×Nat}(h:qI w wr base B V j Ts o nv bi mi pm)(hk:Kept (bP B V) wr w')(ho:bY w' base B 78 V' (eF o'))
 (hn: ∀q,bP B V' q->bP B V q\/wr.heap.size<=q):qI w w' base B V' j Ts o' nv bi mi pm:=by
 have nF: ∀q,q<wr.heap.size-> ¬bP B V q-> ¬bP B V' q:=fun q hq hF h'=>(hn q h').elim hF (fun h=>by omega)
 have hbl:bi<wr.heap.size:=(Array.getElem?_eq_some_iff.1 h.i).1
 have hml:mi<wr.heap.size:=by obtain⟨l,h1,_⟩:=h.tabs.at_.map;exact h1.lt
 refine⟨h.kept.new hk (fun i hi hs=>by have:=h.out.ge h.gb hs;have:=h.gw;omega),hk.heap h.i h.nb,h.jb,h.ok,h.tk,?_,nF _ hbl h.nb,nF _ hml h.nm,h.nt,ho,h.gw,h.gb⟩
 exact((h.tabs.mono (M':=fun q=> ¬bP B V q/\ ¬bP B V' q) (fun q hq hlt=>⟨hq,nF q hlt hq⟩)).Ef (fun q hq hn=>hn.1 hq) h.nm hk).mono (fun q hq _=>hq.2)
theorem UL {w:World}{a:Option Addr}{n cap k:Nat}(hn:n<=cap)(hk:k<=n):
 (Instr.slice 49 (.slice a n cap) (some (.int .i64 (k:Int))) none none).run Tryz.prog w= .ok (.slice (if cap=k then a else a.map (·.add (k*3))) (n-k) (cap-k)) w:=by
 have hb:(Instr.sliceBounds true n cap (some (.int .i64 (k:Int))) none none).run Tryz.prog w= .ok (k,n,cap) w:=by
  simp[Instr.sliceBounds,Instr.sliceBound,asIntOf]
  intro h;omega
 have hs: ∀w:World,(sizeOf 86).run Tryz.prog w= .ok 3 w:=fun w=>by kernel_rfl
 simp only[Instr.slice,Sem.run_bind,run_underlying Tryz.underlying49,Result.andThen_ok,hb,hs,Sem.run_pure]
end
section
open Go Go.RowKit Go.ChangeShapes Go.WideShapes Go.ChangeAt Go.Deep
section
variable {H:Type} {enc:TypeId×Value->H} {w:World}
theorem DW {fuel n cap:Nat}{a:Option Addr}{x:DataW H×List MemPlace}(h:DataW.trod enc Tryz.prog w 0 (fun _=>true) true fuel 76 [.slice a n cap]=some x):
 ∃ts:List Turn,dB w (.slice a n cap) ts:=by
 obtain⟨cs,hl,hr,hel⟩:=qw (k:=3) Tryz.underlying76 (by kernel_rfl) (by omega) h
 have each: ∀i,i<n-> ∃t:Turn,∃va,(cs.drop (i*3)).take 3=[.int .i64 t.1, .int .i64 t.2.par,va]/\bZ w #[.int .i64 t.2.par,va] t.2:=by
  intro i hi
  obtain⟨m,y,hy⟩:=hel i hi
  obtain⟨v0,v1,v2,hd⟩: ∃v0 v1 v2,(cs.drop (i*3)).take 3=[v0,v1,v2]:=by
   have hlen:((cs.drop (i*3)).take 3).length=3:=by rw[List.length_take,List.length_drop];omega
   match(cs.drop (i*3)).take 3,hlen with
   |[v0,v1,v2],_=>exact⟨v0,v1,v2,rfl⟩
  rw[hd]at hy⊢
  obtain⟨xs,f1,_,_,_,hxl,hf⟩:=DataW.trod_struct Tryz.underlying75 hy
  have g0:DataW.trod enc Tryz.prog w 0 (fun _=>true) true f1 2 ([v0,v1,v2].drop 0|>.take (Tryz.prog.cellsOf 2))=xs[0]?:=hf 0 _ rfl
  have g1:DataW.trod enc Tryz.prog w 0 (fun _=>true) true f1 24 ([v0,v1,v2].drop 1|>.take (Tryz.prog.cellsOf 24))=xs[1]?:=hf 1 _ rfl
  rw[show Tryz.prog.cellsOf 2=1 by kernel_rfl]at g0
  rw[show Tryz.prog.cellsOf 24=2 by kernel_rfl]at g1
  simp only[List.drop_succ_cons,List.drop_zero,List.take_succ_cons,List.take_zero]at g0 g1
  match xs,hxl with
  |[x0,x1],_=>
   obtain⟨z0,hz0,_,hw0⟩:=DataW.trod_int Tryz.underlying2 g0
   injection hz0 with hz0 _
   subst hz0
   obtain⟨j,hj⟩:=yM g1
   have hj':=hj
   obtain⟨v,e,_,_⟩:=hj'
   have e': #[v1,v2]= #[.int .i64 j.par,v]:=e
   injection e' with e'
   injection e' with e0 e'
   injection e' with e1 _
   subst e0 e1
   exact⟨(z0,j),_,rfl,hj⟩
 have hin:Inhabited Turn:=⟨(0,⟨0,[]⟩)⟩
 obtain⟨O,hO⟩:=choose_lt each
 have htc:sU w cs ((List.range n).map O):=fun i t ht=>by
  have hlt:=(List.getElem?_eq_some_iff.1 ht).1
  rw[List.length_map,List.length_range]at hlt
  rw[List.getElem?_map,List.getElem?_range hlt]at ht
  have ht:O i=t:=Option.some.inj ht
  subst ht
  obtain⟨va,h1,h2⟩:=hO i hlt
  have g: ∀k,k<3->cs[i*3+k]?=((cs.drop (i*3)).take 3)[k]?:=fun k hk=>by rw[List.getElem?_take,if_pos hk,List.getElem?_drop]
  refine⟨va,?_,?_,?_,h2⟩
  ·have:=g 0 (by omega);rw[Nat.add_zero]at this;rw[this,h1];rfl
  ·rw[g 1 (by omega),h1];rfl
  ·rw[g 2 (by omega),h1];rfl
 exact⟨_,htc.at_ hr (Kept.refl _ _) (by rw[hl,List.length_map,List.length_range])⟩
end
end
end Go.Proofs.YtopeleenlcnkkaaGreatDoor
