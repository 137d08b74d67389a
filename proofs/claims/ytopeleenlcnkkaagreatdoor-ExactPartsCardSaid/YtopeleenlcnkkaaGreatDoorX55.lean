/- The law ExactParts: a course that goes on from its job and states comes to the same as the whole. -/
import Derived.Test.YtopeleenlcnkkaaGreatDoorX46
set_option linter.unusedVariables false
set_option linter.unusedSimpArgs false
set_option maxHeartbeats 4000000
set_option maxRecDepth 100000
namespace Go.Proofs.YtopeleenlcnkkaaGreatDoor
open Go Go.RowKit
attribute [local irreducible] bU dL H2.cZ
theorem UU {R:List Rec}{n:Nat}(hn:n<=R.length):(recs R).drop (n*3)=recs (R.drop n):=by
 have e:recs R=recs (R.take n)++recs (R.drop n):=by rw[<-wS,List.take_append_drop]
 rw[e,List.drop_left' (by rw[dH,List.length_take];omega)]
theorem Oj (j:Jb)(a:Array Value)(tv rv:Value)(ts:List Turn)(R:List Rec)(at_:Int)(w:World)(mx:Int)(hm:w.cell? ⟨0,0,none⟩=some (.int .i64 mx))(h:bZ w a j)(ht:dB w tv ts)(hr:Reads w 3 rv (recs R))(hR: ∀r∈R,aU r):
 Calls Tryz.prog 14 #[.agg a,tv,rv, .int .i64 at_] w (Gives w (.bool true)):=by
 have hJ:=h
 obtain⟨v,rfl,hn,hp⟩:=h
 obtain⟨na,cap,rfl,h1,h2,h3⟩:=hn.at
 have kA:Kept none' w (w.alloc (.cells #[.int .i64 j.par, .slice na j.nodes.length cap] 24)):=(Kept.refl _ _).alloc _
 have tA:(w.alloc (.cells #[.int .i64 j.par, .slice na j.nodes.length cap] 24)).heap[w.heap.size]?=some (.cells #[.int .i64 j.par, .slice na j.nodes.length cap] 24 (0,0)):=heap_alloc_new _ _
 obtain⟨W0,hW0⟩: ∃W0,w.alloc (.cells #[.int .i64 j.par, .slice na j.nodes.length cap] 24)=W0:=⟨_,rfl⟩
 have ch:=yU j _ tv ts rv R W0 (by rw[<-hW0];exact hJ.pure kA) (by rw[<-hW0];exact ht.pure kA) (by rw[<-hW0];exact hr.pure kA)
 rw[hW0]at kA tA
 have x0:=cells_at tA (j:=0) (v:= .int .i64 j.par) rfl
 have x1:=cells_at tA (j:=1) (v:= .slice na j.nodes.length cap) rfl
 obtain⟨ra,nC,rfl,r1,r2,-⟩:=hr.recAt
 have HT:=ht
 obtain⟨ta,nP,Em,t1,t2,t3⟩:=ht
 subst Em
 unfold maxLen at r2 t2
 have H:=Lib.hid (And.intro hJ (And.intro hr (And.intro HT (And.intro hR (And.intro kA (And.intro tA t3))))))
 have HM:=Lib.hid hm
 clear hJ hr hm hR kA tA h3 hn hp HT t3
 go_enter Tryz.func14,Tryz.ntmps14
 go_wp2_with fail
 clear hW0
 (with_reducible refine ch.mono ?_)
 clear ch
 rintro e w1 ⟨b,rfl,k1,hbn⟩
 cases b with
 |true=>
  have cw:=bI w1 mx ((H.out.2.2.2.2.1.trans k1).cell (p:=⟨0,0,none⟩) (fun h=>h) HM.out)
  have af0:=Lib.hid (H.out.2.2.2.2.1.trans k1)
  clear k1 x0 x1 hbn
  go_wp2_with fail
  (with_reducible refine cw.mono ?_)
  clear cw
  rintro e wz14 ⟨rfl,abG⟩
  have F14:=Lib.hid (af0.out.trans abG)
  clear abG
  go_wp2_with fail
  go_ret
  exact⟨rfl,F14.out⟩
 |false=>
  have yY:R.length<=60:=(hbn rfl).2
  have hts10:ts.length<=10:=(hbn rfl).1
  clear hbn
  by_cases hp1:at_<0
  ·skip
   have cw:=bI w1 mx ((H.out.2.2.2.2.1.trans k1).cell (p:=⟨0,0,none⟩) (fun h=>h) HM.out)
   have afZ:=Lib.hid (H.out.2.2.2.2.1.trans k1)
   clear k1 x0 x1
   go_wp2_with fail
   (with_reducible refine cw.mono ?_)
   clear cw
   rintro e wz15 ⟨rfl,abE⟩
   have F15:=Lib.hid (afZ.out.trans abE)
   clear abE
   go_wp2_with fail
   go_ret
   exact⟨rfl,F15.out⟩
  by_cases hp2:(R.length:Int)<at_
  ·skip
   have cw:=bI w1 mx ((H.out.2.2.2.2.1.trans k1).cell (p:=⟨0,0,none⟩) (fun h=>h) HM.out)
   have afY:=Lib.hid (H.out.2.2.2.2.1.trans k1)
   clear k1 x0 x1
   go_wp2_with fail
   (with_reducible refine cw.mono ?_)
   clear cw
   rintro e wz16 ⟨rfl,abD⟩
   have F16:=Lib.hid (afY.out.trans abD)
   clear abD
   go_wp2_with fail
   go_ret
   exact⟨rfl,F16.out⟩
  obtain⟨n,rfl⟩:=Int.eq_ofNat_of_zero_le (show 0<=at_ by omega)
  have hnR:n<=R.length:=by omega
  have x0:=k1.cell (p:=⟨w.heap.size,0,none⟩) (fun h=>h) x0
  have x1:=k1.cell (p:=⟨w.heap.size,1,none⟩) (fun h=>h) x1
  have hB:w.heap.size<w1.heap.size:=by have:=block_lt_of_cell x0;simpa using this
  have wu:=H.out.2.2.2.2.1.trans k1
  have co:=pF j (.slice na j.nodes.length cap) (.slice ta ts.length nP) _ ts R (R.length:Int) w1 (H.out.1.pure wu) (H.out.2.2.1.pure wu) (H.out.2.1.pure wu) H.out.2.2.2.1 yY
  have K1:=Lib.hid wu
  clear k1 wu
  go_wp2_with fail
  (with_reducible refine co.mono ?_)
  clear co
  intro e w2 hq
  cases hrun:gG j ts (R.map dI) R.length with
  |error er=>
   rw[hrun]at hq
   obtain⟨rfl,hne,k2⟩:=hq
   clear hrun
   have cw:=bI w2 mx ((K1.out.trans k2).cell (p:=⟨0,0,none⟩) (fun h=>h) HM.out)
   have afX:=Lib.hid (K1.out.trans k2)
   clear k2 x0 x1
   go_wp2_with fail
   (with_reducible refine cw.mono ?_)
   clear cw
   rintro e wz17 ⟨rfl,abC⟩
   have F17:=Lib.hid (afX.out.trans abC)
   clear abC
   go_wp2_with fail
   go_ret
   exact⟨rfl,F17.out⟩
  |ok x=>
   rw[hrun]at hq
   obtain⟨B1,V1,rfl,ho1,-,k2,-⟩:=hq
   have x0:=k2.cell (p:=⟨w.heap.size,0,none⟩) (fun h=>h) x0
   have x1:=k2.cell (p:=⟨w.heap.size,1,none⟩) (fun h=>h) x1
   have G:=Lib.hid (And.intro (K1.out.trans k2) (And.intro ho1 (And.intro hrun (And.intro x0 x1))))
   clear k2 ho1 hrun x0 x1 hB
   go_wp2_with fail
   go_loopg [11,55] ts.length (fun g vo vi wr=> ∃(k:Nat)(cs:List Value),k<=ts.length/\vi= .int .i64 (k:Int)/\ts.length-k<=g/\(∀t∈ts.take k,t.1<=(n:Int))/\wr.ownsRow w2.heap.size 75 3 vo k cs/\sU w cs (ts.take k)/\Kept none' w2 wr)
   case atStart=>exact⟨0,[],by omega,rfl,by omega,(fun t ht=>by simp at ht),World.ownsRow_nil _ _ _ _,(fun i t ht=>by simp at ht),Kept.refl _ _⟩
   case round=>
    obtain⟨wt,rfl⟩: ∃wt:World,wt=wr:=⟨_,rfl⟩
    obtain⟨k,cs,hkl,rfl,hg,hall,hown,htc,hkp⟩:=hrel
    obtain⟨oa,oc,rfl⟩:=ay hown
    by_cases hlt:k<ts.length
    ·obtain⟨t,ht⟩: ∃t,ts[k]?=some t:=⟨_,List.getElem?_eq_getElem hlt⟩
     obtain⟨bs,L6,rfl,hcs⟩:=H.out.2.2.2.2.2.2.resolve_left (fun h=>by rw[h]at hlt;simp at hlt)
     obtain⟨va,d0,d1,d2,hjt⟩:=hcs k t ht
     have hjt:bZ w #[.int .i64 t.2.par,va] t.2:=hjt
     obtain⟨oZ,cap2,hva,-⟩:=hjt.lM.at
     subst hva
     have kw:=G.out.1.trans hkp
     have y0:=kw.cell (fun h=>h) d0
     have y1:=kw.cell (fun h=>h) d1
     have y2:=kw.cell (fun h=>h) d2
     have ka:Kept none' wt (wt.alloc (.cells #[.int .i64 t.1, .int .i64 t.2.par, .slice oZ t.2.nodes.length cap2] 75)):=(Kept.refl _ _).alloc _
     have sB:=heap_alloc_new wt (.cells #[.int .i64 t.1, .int .i64 t.2.par, .slice oZ t.2.nodes.length cap2] 75)
     obtain⟨W4,eX⟩: ∃W4,wt.alloc (.cells #[.int .i64 t.1, .int .i64 t.2.par, .slice oZ t.2.nodes.length cap2] 75)=W4:=⟨_,rfl⟩
     rw[eX]at ka sB
     have z0:=cells_at sB (j:=0) (v:= .int .i64 t.1) rfl
     have z1:=cells_at sB (j:=1) (v:= .int .i64 t.2.par) rfl
     have z2:=cells_at sB (j:=2) (v:= .slice oZ t.2.nodes.length cap2) rfl
     have Yy:wt.heap.size<W4.heap.size:=(Array.getElem?_eq_some_iff.1 sB).1
     have htake:ts.take (k+1)=ts.take k++[t]:=by rw[List.take_add_one,ht];rfl
     by_cases hcut:(n:Int)<t.1
     ·have kz:=kw.trans ka
      clear hg hall hown htc hkp kw ka sB hcs ht d0 d1 d2 hjt htake
      have cw:=bI W4 mx (kz.cell (p:=⟨0,0,none⟩) (fun h=>h) HM.out)
      have KW:=Lib.hid kz
      have HW:=Lib.hid eX
      clear kz eX
      go_wp2_with fail
      try rw[HW.out]
      clear HW y0 y1 y2 z0 z1 z2
      (with_reducible refine cw.mono ?_)
      clear cw
      rintro e wz ⟨rfl,kz⟩
      have F:=Lib.hid (KW.out.trans kz)
      clear kz
      go_wp2_with fail
      go_ret
      exact⟨rfl,F.out⟩
     ·have hown4:=ka.owns hown (fun _ _ h=>h)
      have hcl:cs.length=(ts.take k).length*3:=by rw[List.length_take,Nat.min_eq_left hkl];exact hown.1
      obtain⟨v7,w7,g1,g2,g3,a7,c7,rfl⟩:=U3 hown4 (.int .i64 t.1) (.int .i64 t.2.par) (.slice oZ t.2.nodes.length cap2) rfl rfl rfl (by have:=hkp.size;have:=ka.size;omega) (by omega)
      have Eh:Kept none' w2 w7:=(hkp.trans ka).new g3 (fun i hi hs=>by have:=(hown.lt i hs).1;omega)
      have Z:=Lib.hid (And.intro hg (And.intro (show∀u∈ts.take (k+1),u.1<=(n:Int)from fun u hu=>by
       rw[htake]at hu
       rcases List.mem_append.1 hu with hu|hu
       ·exact hall u hu
       ·rw[List.mem_singleton.1 hu];omega) (And.intro g2 (And.intro (show sU w (cs++[.int .i64 t.1, .int .i64 t.2.par, .slice oZ t.2.nodes.length cap2]) (ts.take (k+1)) by rw[htake];exact htc.snoc hcl hjt) (And.intro Eh g1)))))
      have HW:=Lib.hid eX
      clear hg hall hown htc hkp kw ka sB hcs ht d0 d1 d2 hjt htake hown4 hcl g1 g2 g3 Eh eX
      go_wp2_with (first|(rw[HW.out])|(at_builtin;refine gZ rfl (.tmp 64) (.tmp 66) 76 rfl _ _ _ rfl rfl Z.out.2.2.2.2.2 ?_))
      go_roundg (ts.length-(k+1))
      case rel=>exact⟨k+1,_,by omega,by go_num,Nat.le_refl _,Z.out.2.1,Z.out.2.2.1,Z.out.2.2.2.1,Z.out.2.2.2.2.1⟩
      case measure=>have:=Z.out.1;omega
    ·have hkt:k=ts.length:=by omega
     subst hkt
     rw[List.take_of_length_le (Nat.le_refl _)]at hall htc
     have kw:=G.out.1.trans hkp
     have x0:=hkp.cell (p:=⟨w.heap.size,0,none⟩) (fun h=>h) G.out.2.2.2.1
     have x1:=hkp.cell (p:=⟨w.heap.size,1,none⟩) (fun h=>h) G.out.2.2.2.2
     have hB:w.heap.size<wt.heap.size:=by have:=block_lt_of_cell x0;simpa using this
     have hta:=htc.at_ (Reads.aZ hown) kw hown.1
     obtain⟨r,hrn,hx2⟩:=Q5 (first:=j) (ts:=ts) (l:=R.map dI) (n:=n) (by rw[List.length_map];omega) (by rw[List.length_map];exact G.out.2.2.1) hall
     have co:=pF j (.slice na j.nodes.length cap) (.slice oa ts.length oc) _ ts R (n:Int) wt (H.out.1.pure kw) hta (H.out.2.1.pure kw) H.out.2.2.2.1 yY
     rw[hrn]at co
     have A:=Lib.hid (And.intro kw (And.intro hta (And.intro hrn (And.intro hx2 (And.intro (G.out.2.1.pure hkp) (And.intro x0 x1))))))
     clear hg hall hown htc hkp kw hta hrn hx2
     go_wp2_with fail
     (with_reducible refine co.mono ?_)
     clear co x0 x1
     rintro e w4 ⟨B2,V2,rfl,ho2,hB2,k4,hlr⟩
     have x0:=k4.cell (p:=⟨w.heap.size,0,none⟩) (fun h=>h) A.out.2.2.2.2.2.1
     have x1:=k4.cell (p:=⟨w.heap.size,1,none⟩) (fun h=>h) A.out.2.2.2.2.2.2
     have hB:w.heap.size<w4.heap.size:=by have:=block_lt_of_cell x0;simpa using this
     have Gx:=A.out.1.trans k4
     have cst:=Oy j (.slice na j.nodes.length cap) (.slice oa ts.length oc) _ ts R (n:Int) wt w4 k4 (H.out.1.pure A.out.1) A.out.2.1 (H.out.2.1.pure Gx) H.out.2.2.2.1 yY
     rw[A.out.2.2.1]at cst
     have A4:=Lib.hid (And.intro k4 (And.intro Gx (And.intro ho2 (And.intro hB2 hlr))))
     clear k4 Gx ho2 hB2 hlr
     go_wp2_with fail
     (with_reducible refine cst.mono ?_)
     clear cst x0 x1
     rintro e w5 ⟨nv,sv,rfl,hjb,hok,hT,hv,k5⟩
     obtain⟨nb,eY,Nb,-⟩:=hjb.lM.at
     have hv':=hv
     obtain⟨va,vc,VB,-⟩:=hv'.yI
     subst Nb VB
     have kB:Kept none' w5 (w5.alloc (.cells #[.int .i64 r.1.1.par, .slice nb r.1.1.nodes.length eY] 24)):=(Kept.refl _ _).alloc _
     have tB:=heap_alloc_new w5 (.cells #[.int .i64 r.1.1.par, .slice nb r.1.1.nodes.length eY] 24)
     obtain⟨W6,nJ⟩: ∃W6,w5.alloc (.cells #[.int .i64 r.1.1.par, .slice nb r.1.1.nodes.length eY] 24)=W6:=⟨_,rfl⟩
     rw[nJ]at kB tB
     have z0:=cells_at tB (j:=0) (v:= .int .i64 r.1.1.par) rfl
     have z1:=cells_at tB (j:=1) (v:= .slice nb r.1.1.nodes.length eY) rfl
     have ab4:w5.heap.size<W6.heap.size:=(Array.getElem?_eq_some_iff.1 tB).1
     have qL:=k5.trans kB
     have cl:=vZ r.1.1 (.slice nb r.1.1.nodes.length eY) (.slice va (aS r.1.1.nodes r.1.2).length vc) (aS r.1.1.nodes r.1.2) W6 (hjb.pure (A4.out.1.trans qL)) (hv.pure kB) (wP hT hjb.lM.uids)
     unfold fA at cl
     rw[wY hok hT]at cl
     have A6:=Lib.hid (And.intro qL (And.intro hjb (And.intro hok hT)))
     have HW:=Lib.hid nJ
     clear k5 kB tB hjb hv qL hok hT nJ
     go_wp2_with fail
     try rw[HW.out]
     clear HW z0 z1
     (with_reducible refine cl.mono ?_)
     clear cl
     rintro e w7 ⟨bi,mi,pm,rfl,hob,hbi,-,-,Qc,htx,hnt,k7⟩
     have hdT:=fun W=>UL (w:=W) (a:=ra) (n:=R.length) (cap:=nC) (k:=n) r1 hnR
     have hrd:=H.out.2.1.drop hnR
     rw[UU hnR]at hrd
     obtain⟨sa,hsa⟩: ∃sa,(if nC=n then ra else ra.map (·.add (n*3)))=sa:=⟨_,rfl⟩
     rw[hsa]at hrd
     rw[hsa]at hdT
     obtain⟨L,hL⟩: ∃L,R.drop n=L:=⟨_,rfl⟩
     have hLn:R.length-n=L.length:=by rw[<-hL,List.length_drop]
     rw[hL,hLn]at hrd
     rw[hLn]at hdT
     have Eh:=A6.out.1.trans k7
     have kt7:=A4.out.1.trans Eh
     have hlt4: ∀q,bP B2 V2 q->q<w4.heap.size:=fun q hq=>A4.out.2.2.1.lt hq
     have ZE:w4.heap.size<=W6.heap.size:=A6.out.1.size
     have fd:qI wt w7 wt.heap.size B2 V2 r.1.1 r.1.2 r.2 (.slice nb r.1.1.nodes.length eY) bi mi pm:=
      ⟨kt7,hob,A6.out.2.1,A6.out.2.2.1,A6.out.2.2.2,htx.mono (fun q hq _ hb=>by have:=hlt4 q hb;unfold up at hq;omega),fun h=>by have:=hlt4 _ h;omega,fun h=>by have:=hlt4 _ h;omega,fun q T hq=>Nat.le_trans (Nat.le_trans A4.out.1.size ZE) (hnt q T hq),A4.out.2.2.1.pure Eh,Nat.le_refl _,A4.out.2.2.2.1⟩
     have acW: ∀q∈L,aU q:=fun q hq=>H.out.2.2.2.1 q (by rw[<-hL]at hq;exact List.mem_of_mem_drop hq)
     have hx2:x.2=r.2++(dO r.1.1.nodes r.1.2 (L.map dI)).1:=by
      rw[A.out.2.2.2.1,<-hL]
      simp only[List.map_drop]
     have C:=Lib.hid (And.intro fd (And.intro hrd (And.intro acW (And.intro hx2 (show L.length<=60 by rw[<-hL,List.length_drop];omega)))))
     have hL60:L.length<=60:=C.out.2.2.2.2
     clear hob hbi Qc htx hnt k7 hrd hsa hL Eh kt7 hlt4 ZE fd acW hx2 hLn
     go_wp2_with fail
     clear hdT
     go_loopg [106] L.length (fun g vi wq=> ∃(k:Nat)(V:List Value),k<=L.length/\vi= .int .i64 (k:Int)/\L.length-k<=g/\qI wt wq wt.heap.size B2 V r.1.1 (dO r.1.1.nodes r.1.2 ((L.take k).map dI)).2 (r.2++(dO r.1.1.nodes r.1.2 ((L.take k).map dI)).1) (.slice nb r.1.1.nodes.length eY) bi mi pm)
     case atStart=>exact⟨0,V2,by omega,rfl,by omega,by rw[List.take_zero];show qI wt w7 wt.heap.size B2 V2 r.1.1 r.1.2 (r.2++[]) _ bi mi pm;rw[List.append_nil];exact C.out.1⟩
     case round=>
      obtain⟨wk,rfl⟩: ∃wk:World,wk=wr:=⟨_,rfl⟩
      obtain⟨k,V,hkl,rfl,hgk,hfd⟩:=hrel
      have ko:=VW A6.out.2.2.1 A6.out.2.1.lM.jr ((L.take k).map dI) r.1.2 A6.out.2.2.2 (XZ C.out.2.2.1 k)
      by_cases hkt:k<L.length
      ·obtain⟨q,hq⟩: ∃q,L[k]?=some q:=⟨_,List.getElem?_eq_getElem hkt⟩
       have hstep:=YQ r.1.1.nodes r.1.2 hq
       obtain⟨Ts,hTs⟩: ∃Ts,(dO r.1.1.nodes r.1.2 ((L.take k).map dI)).2=Ts:=⟨_,rfl⟩
       obtain⟨A1,hA1⟩: ∃A1,(dO r.1.1.nodes r.1.2 ((L.take k).map dI)).1=A1:=⟨_,rfl⟩
       rw[hTs,hA1]at hstep hfd
       rw[hTs,hA1]at ko
       obtain⟨sa',scap',es,-,-,s3⟩:=C.out.2.1.recAt
       injection es with es1 _ es2
       subst es1 es2
       obtain⟨lb,yR,rfl,hlc⟩:=s3.resolve_left (fun h=>by rw[h]at hkt;simp at hkt)
       obtain⟨c0,c1,c2⟩:=(hlc k q hq).pure (A.out.1.trans hfd.kept)
       have hro:=C.out.2.2.1 q (List.mem_of_getElem? hq)
       have ka:Kept none' wk (wk.alloc (.cells #[.int .i64 q.pos, .int .i64 q.key, .int .i64 q.val] 86)):=(Kept.refl _ _).alloc _
       have rB:=heap_alloc_new wk (.cells #[.int .i64 q.pos, .int .i64 q.key, .int .i64 q.val] 86)
       obtain⟨w8,hw8⟩: ∃w8,wk.alloc (.cells #[.int .i64 q.pos, .int .i64 q.key, .int .i64 q.val] 86)=w8:=⟨_,rfl⟩
       rw[hw8]at ka rB
       have zC:=hfd.pure ka
       have hnb:dP w8 (.slice nb r.1.1.nodes.length eY) r.1.1.nodes:=zC.jb.lM.pure zC.kept
       have cf:=GL (fun q=> ¬bP B2 V q) r.1.1 bi mi Ts pm q.key q.val w8 ⟨⟨_,zC.i,hnb⟩,zC.jb.r64,zC.tabs.at_⟩ zC.tabs zC.ok hnb.jr zC.tk hro.key hro.val
       have fo:=uZ zC.ok hnb.jr zC.tk hro.key hro.val
       have m0:=cells_at rB (j:=0) (v:= .int .i64 q.pos) rfl
       have m1:=cells_at rB (j:=1) (v:= .int .i64 q.key) rfl
       have m2:=cells_at rB (j:=2) (v:= .int .i64 q.val) rfl
       have hwk8:wk.heap.size<w8.heap.size:=(Array.getElem?_eq_some_iff.1 rB).1
       have GG:=Lib.hid (And.intro hgk (And.intro zC (And.intro fo (And.intro hstep ko))))
       have HW:=Lib.hid hw8
       clear hgk hfd hro ka rB zC hnb fo hstep ko hq hlc hTs hA1 hw8 s3
       go_wp2_with fail
       rw[HW.out]
       clear HW
       (with_reducible refine cf.mono ?_)
       clear cf m0 m1 m2 c0 c1 c2
       rintro e w9 ⟨v9,rfl,Zz,VN,-,k9,hx9⟩
       have fo:=GG.out.2.2.1
       have hstep:=GG.out.2.2.2.1
       obtain⟨T2,O,hO,hT2⟩: ∃T2 O,(fU r.1.1.nodes Ts q.key q.val).1=O/\(fU r.1.1.nodes Ts q.key q.val).2=T2:=⟨_,_,rfl,rfl⟩
       rw[hO,hT2]at fo hstep
       rw[hO]at Zz
       rw[hT2]at hx9
       have hc3:=GG.out.2.1.fed k9 hx9 fo.1
       have YB:=Zz
       obtain⟨oa9,Dc,rfl,o1,o2,o3⟩:=Zz.recAt
       unfold maxLen at o2
       have acF: ∀b,Value.blk (.slice oa9 O.length Dc)=some b-> ¬bP B2 V b/\b<w9.heap.size:=fun b hb=>⟨fun h=>by have:=GG.out.2.1.out.lt h;have:=VN b hb;omega,YB.WY (by omega) hb⟩
       have Z:=Lib.hid (And.intro hc3 (And.intro YB (And.intro acF (And.intro fo hstep))))
       clear hc3 YB acF fo hstep k9 hx9 VN o3 hO hT2 Zz
       go_wp2_with fail
       go_loopg [117] O.length (fun g vi wq=> ∃(m:Nat)(V:List Value),m<=O.length/\vi= .int .i64 (m:Int)/\O.length-m<=g/\qI wt wq wt.heap.size B2 V r.1.1 T2 (r.2++A1++O.take m) (.slice nb r.1.1.nodes.length eY) bi mi pm/\
        Reads wq 3 (.slice oa9 O.length Dc) (recs O)/\ ∀b,Value.blk (.slice oa9 O.length Dc)=some b-> ¬bP B2 V b/\b<wq.heap.size)
       case atStart=>exact⟨0,V,by omega,rfl,by omega,by rw[List.take_zero,List.append_nil];exact Z.out.1,Z.out.2.1,Z.out.2.2.1⟩
       case round=>
        obtain⟨wq,rfl⟩: ∃wq:World,wq=wr:=⟨_,rfl⟩
        obtain⟨m,V,hml,rfl,hgm,hcq,hrd,hbl⟩:=hrel
        by_cases hmt:m<O.length
        ·obtain⟨qq,hq⟩: ∃qq,O[m]?=some qq:=⟨_,List.getElem?_eq_getElem hmt⟩
         obtain⟨oa',adF,eo,-,-,o3⟩:=hrd.recAt
         injection eo with eo1 _ eo2
         subst eo1 eo2
         obtain⟨ob,afn,rfl,hoc⟩:=o3.resolve_left (fun h=>by rw[h]at hmt;simp at hmt)
         obtain⟨d0,d1,d2⟩:=hoc m qq hq
         have ka:Kept none' wq (wq.alloc (.cells #[.int .i64 qq.pos, .int .i64 qq.key, .int .i64 qq.val] 44)):=(Kept.refl _ _).alloc _
         have sB:=heap_alloc_new wq (.cells #[.int .i64 qq.pos, .int .i64 qq.key, .int .i64 qq.val] 44)
         obtain⟨W9,Nu⟩: ∃W9,wq.alloc (.cells #[.int .i64 qq.pos, .int .i64 qq.key, .int .i64 qq.val] 44)=W9:=⟨_,rfl⟩
         rw[Nu]at ka sB
         have sN:=hcq.pure ka
         obtain⟨ph,Aj⟩: ∃ph,partOf qq.key=ph:=⟨_,rfl⟩
         have hp2:ph<2:=by rw[<-Aj];exact rZ qq.key
         have hgt:(eF (r.2++A1++O.take m))[ph]?=some (jy ph (r.2++A1++O.take m)):=by rw[<-Aj];exact DU _ _
         have hpu:=BM (r.2++A1++O.take m) qq
         rw[Aj]at hpu
         obtain⟨l,hl⟩: ∃l,jy ph (r.2++A1++O.take m)=l:=⟨_,rfl⟩
         have hll:l.length<=100000:=by
          have h1:=Gz ph (r.2++A1++O.take m)
          rw[hl,List.length_append,List.length_take]at h1
          have:=GG.out.2.2.2.2.2.2;have:=Z.out.2.2.2.1.2.2.2;have:=A4.out.2.2.2.2;rw[List.length_append,List.length_map,List.length_take]at*;omega
         rw[hl]at hgt hpu
         obtain⟨v,hv⟩: ∃v,V[ph]?=some v:=⟨_,List.getElem?_eq_getElem (by rw[sN.out.len];exact(List.getElem?_eq_some_iff.1 hgt).1)⟩
         obtain⟨va,vc,VB⟩:=ay (sN.out.own _ _ _ hv hgt)
         subst VB
         have hd1:=sN.out.pure (Kept.refl none' W9).drew
         have hbase:wt.heap.size<=W9.drew.heap.size:=sN.kept.size
         obtain⟨a,cap,w10,g1,g2,g3,g4,g5,g6⟩:=hd1.push hbase hv hgt hll (qq.key,qq.val)
         rw[hpu,List.append_assoc,show O.take m++[qq]=O.take (m+1) by rw[List.take_add_one,hq];rfl]at g4
         have yX: ∀o,W9.drew.alloc o=(W9.alloc o).drew:=fun o=>rfl
         have yV:W9.drew.heap.size=W9.heap.size:=rfl
         rw[yX,yV]at g1
         dsimp only at g1
         have y:W9.cell? ⟨B2,ph,none⟩=some (.slice va l.length vc):=cells_at sN.out.blk (by simpa using hv)
         have hno: ¬(Value.slice va l.length vc).ownBlock=some B2:=fun e=>sN.out.ne _ _ _ hv e rfl
         have Nc: ¬(Value.slice va l.length vc).ownBlock=some wq.heap.size:=fun e=>by have:=hcq.out.lt (q:=wq.heap.size) (.inr ⟨_,_,hv,e⟩);omega
         have kg:Kept (fun q0=>(Value.slice va l.length vc).ownBlock=some q0) W9 w10:=g2.aQ
         have k10:Kept (bP B2 V) W9 (w10.setCell ⟨B2,ph,none⟩ (.slice a (l.length+1) cap)):=g5.aQ
         have ws:=cells_at g3 (j:=ph) (v:= .slice va l.length vc) (by simpa using hv)
         have wf:=free_at g3 ph
         have Nr:=sN.told k10 g4 (fun q0 hq=>(g6 q0 hq).imp id (fun h=>h))
         have F:=Lib.hid (And.intro hgm (And.intro Nr (And.intro ((hrd.pure ka).kept k10 (fun b hb=>(hbl b hb).1)) (fun b hb=>(⟨fun hs=>(g6 b hs).elim (hbl b hb).1 (fun h=>by have:=(hbl b hb).2;have:=ka.size;omega),Nat.lt_of_lt_of_le (Nat.lt_of_lt_of_le (hbl b hb).2 ka.size) k10.size⟩: ¬bP B2 (V.set ph (.slice a (l.length+1) cap)) b/\b<(w10.setCell ⟨B2,ph,none⟩ (.slice a (l.length+1) cap)).heap.size)))))
         have Y:=Lib.hid (And.intro sB (And.intro y (And.intro hno (And.intro Nc kg))))
         have G1:=Lib.hid g1
         have hpI:(ph:Int)<2:=by omega
         have cp:=LU qq.key W9
         rw[Aj]at cp
         clear hgm hcq hrd hbl hoc ka sN hgt hpu hl hll hv hd1 hbase g1 g2 g3 g4 g5 g6 yX y hno Nc kg k10 Nr o3 Aj
         have z0:=cells_at sB (j:=0) (v:= .int .i64 qq.pos) rfl
         have z1:=cells_at sB (j:=1) (v:= .int .i64 qq.key) rfl
         have z2:=cells_at sB (j:=2) (v:= .int .i64 qq.val) rfl
         go_wp2_with fail
         try rw[Nu]
         clear Nu d0 d1 d2 yV
         (with_reducible refine cp.mono ?_)
         clear cp
         rintro e w11 ⟨rfl,rfl⟩
         go_wp2_with fail
         clear z0 z1 z2 sB
         refine H2.gI [0,1,2,3,4,5,6,7,8,9,10,11,12,13,14] (fun W=>Kept (fun q0=>(Value.slice va l.length vc).ownBlock=some q0) W9 W) (by kernel_rfl) (by kernel_rfl) rfl (Kept.refl _ _).drew ?_
         simp only[List.map_cons,List.map_nil,List.getElem?_toArray,List.getElem?_cons_zero,List.getElem?_cons_succ,Option.getD_some]
         iterate 11 (first|(apply H2.fB rfl rfl;(intro W;go_simp;rfl);go_frame)|(apply H2.l7 rfl rfl rfl;(intro W hW;have oW:=hW.cell (p:=⟨B2,ph,none⟩) Y.out.2.2.1 Y.out.2.1;have xW:=hW.heap Y.out.1 Y.out.2.2.2.1;have m0:=cells_at xW (j:=0) rfl;have m1:=cells_at xW (j:=1) rfl;have m2:=cells_at xW (j:=2) rfl;clear xW;go_simp;rfl);go_frame))
         apply H2.l9 rfl rfl rfl
         intro K hK
         go_wp2_with fail
         refine hK _ _ (fun _=>(Kept.refl _ _).drew.alloc _) ?_
         clear hK
         apply H2.l9 rfl rfl rfl
         intro K hK
         have ZG:=G1.out
         have he1: ∀(b:Act),b.tmps[129]?=some (Value.slice va l.length vc)->b.eval (.tmp 129)=Value.slice va l.length vc:=fun b hb=>by simp[Act.eval,Array.getD_eq_getD_getElem?,hb]
         have he2: ∀(b:Act),b.tmps[135]?=some (Value.slice (some ⟨W9.heap.size,0,none⟩) 1 1)->b.eval (.tmp 135)=Value.slice (some ⟨W9.heap.size,0,none⟩) 1 1:=fun b hb=>by simp[Act.eval,Array.getD_eq_getD_getElem?,hb]
         refine xI (.tmp 129) (.tmp 135) 78 rfl (.slice va l.length vc) (.slice (some ⟨W9.heap.size,0,none⟩) 1 1) (.slice a (l.length+1) cap) (he1 _ (by simp)) (he2 _ (by simp)) ZG ?_
         refine hK _ _ (fun _=>Y.out.2.2.2.2) ?_
         clear hK
         go_frame
         apply H2.fB rfl rfl
         ·intro W;go_simp;rfl
         go_frame
         apply H2.jH rfl rfl rfl
         intro K2 hK2
         go_wp2_with fail
         apply H2.oC
         clear ws wf
         go_wp2_with fail
         go_roundg (O.length-(m+1))
         case rel=>exact⟨m+1,_,by omega,by go_num,Nat.le_refl _,F.out.2.1,F.out.2.2.1,F.out.2.2.2⟩
         case measure=>have:=F.out.1;omega
        ·have hn2:O.take m=O:=List.take_of_length_le (by omega)
         rw[hn2,List.append_assoc]at hcq
         have F:=Lib.hid (show qI wt wq wt.heap.size B2 V r.1.1 (dO r.1.1.nodes r.1.2 ((L.take (k+1)).map dI)).2 (r.2++(dO r.1.1.nodes r.1.2 ((L.take (k+1)).map dI)).1) (.slice nb r.1.1.nodes.length eY) bi mi pm by rw[Z.out.2.2.2.2];exact hcq)
         clear hgm hcq hrd hbl
         go_wp2_with fail
         go_roundg (L.length-(k+1))
         case rel=>exact⟨k+1,V,by omega,by go_num,Nat.le_refl _,F.out⟩
         case measure=>have:=GG.out.1;omega
      ·have hk2:L.take k=L:=List.take_of_length_le (by omega)
       rw[hk2]at hfd
       rw[<-C.out.2.2.2.1]at hfd
       have o1:=A.out.2.2.2.2.1.pure hfd.kept
       have G3:=Lib.hid (And.intro (A.out.1.trans hfd.kept) (And.intro o1 hfd.out))
       clear hgk hfd o1 ko
       obtain⟨w6,rfl⟩: ∃w6:World,w6=wk:=⟨_,rfl⟩
       go_wp2_with fail
       go_loopg [142] 2 (fun g vi wr=> ∃k:Nat,k<=2/\vi= .int .i64 (k:Int)/\2-k<=g/\Kept none' w6 wr)
       case atStart=>exact⟨0,by omega,rfl,by omega,Kept.refl _ _⟩
       case round=>
        obtain⟨k,hkl,rfl,hg,hkp⟩:=hrel
        by_cases hlt:k<2
        ·obtain⟨l,hl⟩: ∃l,(eF x.2)[k]?=some l:=⟨_,List.getElem?_eq_getElem (by unfold eF;simpa using hlt)⟩
         have o1:=G3.out.2.1.pure hkp
         have o2:=G3.out.2.2.pure hkp
         obtain⟨u1,hu1⟩: ∃u,V1[k]?=some u:=⟨_,List.getElem?_eq_getElem (by rw[o1.len];exact(List.getElem?_eq_some_iff.1 hl).1)⟩
         obtain⟨u2,hu2⟩: ∃u,V[k]?=some u:=⟨_,List.getElem?_eq_getElem (by rw[o2.len];exact(List.getElem?_eq_some_iff.1 hl).1)⟩
         have w1':=o1.own k u1 l hu1 hl
         have w2':=o2.own k u2 l hu2 hl
         obtain⟨a1,c1,hv1⟩:=ay w1'
         obtain⟨a2,c2,hv2⟩:=ay w2'
         subst hv1 hv2
         have y1:=cells_at o1.blk (j:=k) (v:= .slice a1 l.length c1) (by simpa using hu1)
         have y2:=cells_at o2.blk (j:=k) (v:= .slice a2 l.length c2) (by simpa using hu2)
         have ce:=Dn (.slice a1 l.length c1) (.slice a2 l.length c2) l l wr.drew ((Reads.aZ w1').pure (Kept.refl none' wr).drew) ((Reads.aZ w2').pure (Kept.refl none' wr).drew)
         rw[show zi l l=true from decide_eq_true rfl]at ce
         have hk2:(k:Int)<2:=by omega
         have Z:=Lib.hid (And.intro hg hkp)
         clear hg hkp o1 o2 hu1 hu2 w1' w2' hl
         go_wp2_with fail
         refine ak [0,1,2,3,4,5,6,7,8,9] (fun W=>Kept none' wr W) (by kernel_rfl) (by kernel_rfl) rfl (Kept.refl _ _).drew ?_
         simp only[List.map_cons,List.map_nil,List.getElem?_toArray,List.getElem?_cons_zero,List.getElem?_cons_succ,Option.getD_some]
         iterate 8 (apply aj rfl rfl;(intro W hW;have q1:=hW.cell (p:=⟨B1,k,none⟩) (fun h=>h) y1;have q2:=hW.cell (p:=⟨B2,k,none⟩) (fun h=>h) y2;go_simp;rfl);go_frame)
         clear y1 y2
         apply aA rfl rfl
         intro K hK
         go_wp2_with fail
         (with_reducible refine ce.mono ?_)
         clear ce
         rintro e w7 ⟨rfl,k7⟩
         have uK:=k7.aQ
         go_wp2_with fail
         refine hK _ _ (fun _=>uK) ?_
         clear hK
         apply aj rfl rfl
         ·intro W hW;go_simp;rfl
         go_frame
         refine aG (fun _=>uK) ?_
         have Z2:=Lib.hid (Z.out.2.trans uK)
         clear k7 uK
         go_wp2_with fail
         go_roundg (2-(k+1))
         case rel=>exact⟨k+1,by omega,by go_num,Nat.le_refl _,Z2.out⟩
         case measure=>have:=Z.out.1;omega
        ·skip
         have cw:=bI wr mx ((G3.out.1.trans hkp).cell (p:=⟨0,0,none⟩) (fun h=>h) HM.out)
         have KW7:=Lib.hid (G3.out.1.trans hkp)
         clear hkp hg
         go_wp2_with fail
         (with_reducible refine cw.mono ?_)
         clear cw
         rintro e wz7 ⟨rfl,Vq⟩
         have F7:=Lib.hid (KW7.out.trans Vq)
         clear Vq
         go_wp2_with fail
         go_ret
         exact⟨rfl,F7.out⟩
end Go.Proofs.YtopeleenlcnkkaaGreatDoor
