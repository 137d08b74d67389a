/- The document's Load. -/
import Derived.Test.YtglbkodmmogomaaGreatDoorM40
import Derived.Test.YtglbkodmmogomaaGreatDoorM41
import Derived.Test.YtglbkodmmogomaaGreatDoorM47
import Derived.Test.YtglbkodmmogomaaGreatDoorM48
set_option linter.unusedVariables false
set_option linter.unusedSimpArgs false
set_option maxHeartbeats 4000000
set_option maxRecDepth 100000
namespace Go.Proofs.YtglbkodmmogomaaGreatDoor
open Go Go.RowKit
attribute [local irreducible] bH H2.bW
def iZ (w:World)(v:Value)(j:Jb)(l:List St)(e:Ending)(w':World):Prop:=
 match dH j l with
 | .ok Ts=> ∃b tv pm m,e= .returned (.tuple #[.pointer (some ⟨b,0,none⟩), .int .i64 0])/\w'.heap[b]?=some (.cells #[.int .i64 j.par,v,tv] 90 (0,0))/\w.heap.size<=b/\w'.ownsRow (b+1) 46 1 tv Ts.length (rp pm Ts)/\(∀q,tv.ownBlock=some q->q<m)/\b<m/\m<=w'.heap.size/\fD w' (up m) Ts pm/\Kept none' w w'
 | .error er=>e= .returned (.tuple #[.pointer none, .int .i64 er])/\er≠0/\Kept none' w w'
theorem iZ.bad {w w':World}{v:Value}{j:Jb}{l:List St}{er:Int}(h:dH j l= .error er)(hne:er≠0)(hk:Kept none' w w'):iZ w v j l (.returned (.tuple #[.pointer none, .int .i64 er])) w':=by
 unfold iZ;rw[h];exact⟨rfl,hne,hk⟩
theorem getD_some {Ts:Tabs}{i:Nat}(h:i<Ts.length):Ts[i]?=some (Ts.getD i none):=by
 rw[List.getD_eq_getElem?_getD,List.getElem?_eq_getElem h];rfl
theorem CX (j:Jb)(v:Value)(sv:Value)(l:List St)(w:World)(h:fA w #[.int .i64 j.par,v] j)(hs:Reads w 2 sv (dK l))(hsz: ∀s∈l,s.1.size<=maxLen/\s.2.size<=maxLen)(hsm:vY j):
 Calls Tryz.prog 25 #[.agg #[.int .i64 j.par,v],sv] w (iZ w v j l):=by
 have hJ:=h
 obtain⟨v0,hv0,hn,hp⟩:=h
 injection hv0 with hv0
 injection hv0 with _ hv0
 injection hv0 with hv0 _
 subst hv0
 obtain⟨na,cap,rfl,h1,h2,h3⟩:=hn.at
 obtain⟨sa,scap,rfl,s1,s2,s3⟩:=hs.mV
 unfold maxLen at h2 s2
 have hn40:=hsm.1
 obtain⟨WB,Gn⟩: ∃WB,w.alloc (.cells #[.int .i64 j.par, .slice na j.nodes.length cap] 24)=WB:=⟨_,rfl⟩
 have kA:Kept none' w WB:=by rw[<-Gn];exact(Kept.refl _ _).alloc _
 have bB:WB.heap[w.heap.size]?=some (.cells #[.int .i64 j.par, .slice na j.nodes.length cap] 24 (0,0)):=by rw[<-Gn];exact heap_alloc_new _ _
 have cm:=EU j _ WB (hJ.pure kA) (by have:=hsm.1;omega) hsm.2
 have H3:=Lib.hid (And.intro h3 (And.intro hJ (And.intro s3 (And.intro hsz hn))))
 have KA:=Lib.hid (And.intro kA bB)
 have HW:=Lib.hid Gn
 have b0:WB.cell? ⟨w.heap.size,0,none⟩=some (.int .i64 j.par):=cells_at bB rfl
 have b1:WB.cell? ⟨w.heap.size,1,none⟩=some (.slice na j.nodes.length cap):=cells_at bB rfl
 clear kA bB h3 hn hJ s3 hsz hs hsm hp Gn
 have HM:=Lib.hid (oI j)
 obtain⟨r1,hr1⟩: ∃r1,(dM j).1=r1:=⟨_,rfl⟩
 obtain⟨r2,hr2⟩: ∃r2,(dM j).2=r2:=⟨_,rfl⟩
 unfold jI at cm
 rw[hr1,hr2]at cm
 rw[hr2]at HM
 clear hr1 hr2
 go_enter Tryz.func25,Tryz.ntmps25
 go_wp2_with fail
 rw[HW.out]
 clear HW
 by_cases hz:r2=0
 ·have lW:=Lib.hid (show fU j=true by rw[HM.out];exact decide_eq_true hz)
  clear b0 b1
  go_wp2_with fail
  (with_reducible refine cm.mono ?_)
  clear cm
  rintro e W0 ⟨rfl,k2⟩
  have B0:=k2.heap KA.out.2 (fun h=>h)
  have x0:W0.cell? ⟨w.heap.size,0,none⟩=some (.int .i64 j.par):=cells_at B0 rfl
  have x1:W0.cell? ⟨w.heap.size,1,none⟩=some (.slice na j.nodes.length cap):=cells_at B0 rfl
  have K0:=Lib.hid (And.intro (KA.out.1.trans k2) B0)
  clear k2 B0
  go_wp2_with fail
  obtain⟨D,hD⟩: ∃D,W0.heap.size=D:=⟨_,rfl⟩
  obtain⟨W1,hW1⟩: ∃W1,(W0.alloc (.cells #[.int .i64 j.par, .slice na j.nodes.length cap, .slice none 0 0] 90))=W1:=⟨_,rfl⟩
  have Dw:Kept none' W0 W1:=by rw[<-hW1];exact(Kept.refl _ _).alloc _
  have dB:W1.heap[D]?=some (.cells #[.int .i64 j.par, .slice na j.nodes.length cap, .slice none 0 0] 90 (0,0)):=by rw[<-hW1,<-hD];exact heap_alloc_new _ _
  have hbd:w.heap.size<D:=by rw[<-hD];exact(Array.getElem?_eq_some_iff.1 K0.out.2).1
  have hs1:W1.heap.size=D+1:=by rw[<-hW1,<-hD];simp
  rw[hW1,hD]
  have K1:=Lib.hid (And.intro (K0.out.1.trans Dw) (And.intro (Dw.heap K0.out.2 (fun h=>h)) (And.intro dB (And.intro hbd hs1))))
  clear hW1 hD Dw dB x0 x1 K0 KA hs1 hbd
  go_loopg [9] j.nodes.length (fun g vi wr=> ∃(k:Nat)(tv:Value),k<=j.nodes.length/\vi= .int .i64 (k:Int)/\j.nodes.length-k<=g/\wr.heap[D]?=some (.cells #[.int .i64 j.par, .slice na j.nodes.length cap,tv] 90 (0,0))/\wr.ownsRow (D+1) 46 1 tv k (List.replicate k (.pointer none))/\Kept (one D) W1 wr)
  case atStart=>exact⟨0,_,by omega,rfl,by omega,K1.out.2.2.1,World.ownsRow_nil _ _ _ _,Kept.refl _ _⟩
  case round=>
   obtain⟨k,tv,hkn,rfl,hg,hob,hown,hkp⟩:=hrel
   obtain⟨ta,tc,rfl⟩:=ay hown
   have hBD: ¬one D w.heap.size:=fun e=>by have h0:=K1.out.2.2.2.1;unfold one at e;omega
   have x1:wr.cell? ⟨w.heap.size,1,none⟩=some (.slice na j.nodes.length cap):=cells_at (hkp.heap K1.out.2.1 hBD) rfl
   have xlt:w.heap.size<wr.heap.size:=block_lt_of_cell x1
   by_cases hlt:k<j.nodes.length
   ·have hno: ¬(Value.slice ta k tc).ownBlock=some D:=fun e=>by have:=(hown.lt _ e).1;omega
    have d2:wr.cell? ⟨D,2,none⟩=some (.slice ta k tc):=cells_at hob rfl
    have U8:D<wr.heap.size:=block_lt_of_cell d2
    obtain⟨g5,c5,w5,p1,p2,p3⟩:=OV hown (by have:=hkp.size;have:=K1.out.2.2.2.2;omega) (by omega)
    have KZ:=p3.heap hob hno
    have e2:w5.cell? ⟨D,2,none⟩=some (.slice ta k tc):=cells_at KZ rfl
    have ef:=free_at KZ 2
    have hst:=aS KZ 2 (.slice (some ⟨g5,0,none⟩) (k+1) c5)
    have hnew:(w5.setCell ⟨D,2,none⟩ (.slice (some ⟨g5,0,none⟩) (k+1) c5)).ownsRow (D+1) 46 1 (.slice (some ⟨g5,0,none⟩) (k+1) c5) (k+1) (List.replicate (k+1) (.pointer none)):=by
     rw[List.replicate_succ']
     exact((Kept.refl (one D) w5).setCell (p:=⟨D,2,none⟩) (.inl rfl) _).owns p2 (fun q hq e=>by have:=(p2.lt _ hq).1;unfold one at e;omega)
    have F:=Lib.hid (And.intro (show(w5.setCell ⟨D,2,none⟩ (.slice (some ⟨g5,0,none⟩) (k+1) c5)).heap[D]?=some (.cells #[.int .i64 j.par, .slice na j.nodes.length cap, .slice (some ⟨g5,0,none⟩) (k+1) c5] 90 (0,0))from by simpa using hst)
     (And.intro hnew ((hkp.new p3 (fun i hi hs=>by have:=(hown.lt _ hs).1;have:=K1.out.2.2.2.2;omega)).setCell (p:=⟨D,2,none⟩) (.inl rfl) (.slice (some ⟨g5,0,none⟩) (k+1) c5))))
    have P1:=Lib.hid p1
    have G:=Lib.hid hg
    clear hob hown hkp hg hno p1 p2 p3 KZ hst hnew
    go_wp2_with (at_builtin;refine wpList_append_run rfl (.tmp 36) (.tmp 37) 88 rfl (.slice ta k tc) (.slice (some ⟨wr.heap.size,0,none⟩) 1 1) _ rfl rfl P1.out ?_)
    go_roundg (j.nodes.length-(k+1))
    case rel=>exact⟨k+1,_,by omega,by go_num,Nat.le_refl _,F.out⟩
    case measure=>have:=G.out;omega
   ·obtain rfl:k=j.nodes.length:=by omega
    have yV:=Lib.hid (And.intro hob (And.intro (show wr.ownsRow (D+1) 46 1 (.slice ta j.nodes.length tc) (bf j.nodes).length (rp (fun _=>0) (bf j.nodes))from by
     unfold bf
     rw[Ru,List.length_replicate];exact hown) hkp))
    obtain⟨W2,hW2⟩: ∃W2:World,W2=wr:=⟨_,rfl⟩
    rw[<-hW2]at yV x1 xlt⊢
    have X1:=Lib.hid x1
    clear hob hown hkp hg hlt hW2
    go_wp2_with fail
    clear x1
    have hTB: ∀q,(Value.slice ta j.nodes.length tc).ownBlock=some q->D+1<=q/\q<W2.heap.size:=fun q hq=>yV.out.2.1.lt q hq
    have Bf:=Lib.hid hTB
    clear hTB
    go_loopg [10] l.length (fun g vi wr=> ∃(k:Nat)(Ts:Tabs)(pm:Nat->Nat),k<=l.length/\vi= .int .i64 (k:Int)/\l.length-k<=g/\bT j.nodes l (bf j.nodes)=bT j.nodes (l.drop k) Ts/\Ts.length=j.nodes.length/\wr.ownsRow (D+1) 46 1 (.slice ta j.nodes.length tc) Ts.length (rp pm Ts)/\fD wr (up W2.heap.size) Ts pm/\Kept (fun q=>(Value.slice ta j.nodes.length tc).ownBlock=some q) W2 wr)
    case atStart=>exact⟨0,bf j.nodes,fun _=>0,by omega,rfl,by omega,rfl,by simp[bf],yV.out.2.1,fD.none _ _ _ _,Kept.refl _ _⟩
    case round=>
     obtain⟨k,Ts,pm,hkl,rfl,hg,hld,htl,hown,htb,hkp⟩:=hrel
     have FY: ¬(Value.slice ta j.nodes.length tc).ownBlock=some w.heap.size:=fun e=>by have:=Bf.out _ e;have:=K1.out.2.2.2.1;omega
     have BR: ¬(Value.slice ta j.nodes.length tc).ownBlock=some D:=fun e=>by have:=Bf.out _ e;omega
     have hB2:=yV.out.2.2.heap K1.out.2.1 (fun e=>by have h0:=K1.out.2.2.2.1;unfold one at e;omega)
     have oB:=hkp.heap hB2 FY
     have oD:=hkp.heap yV.out.1 BR
     have kw:Kept none' w wr:=(K1.out.1.new yV.out.2.2 (fun i hi e=>by have h0:=K1.out.2.2.2.1;unfold one at e;omega)).new hkp (fun i hi e=>by have:=Bf.out _ e;have:=K1.out.2.2.2.1;omega)
     have hmw:=hkp.size
     have x0:wr.cell? ⟨w.heap.size,0,none⟩=some (.int .i64 j.par):=cells_at oB rfl
     have x1:wr.cell? ⟨w.heap.size,1,none⟩=some (.slice na j.nodes.length cap):=cells_at oB rfl
     have xlt:w.heap.size<wr.heap.size:=block_lt_of_cell x1
     have d2:wr.cell? ⟨D,2,none⟩=some (.slice ta j.nodes.length tc):=cells_at oD rfl
     have U8:D<wr.heap.size:=block_lt_of_cell d2
     by_cases hlt:k<l.length
     ·obtain⟨s,hs⟩: ∃s,l[k]?=some s:=⟨_,List.getElem?_eq_getElem hlt⟩
      obtain⟨bs,BG,rfl,hcs⟩:=H3.out.2.2.1.resolve_left (fun h=>by rw[h]at hlt;simp at hlt)
      have y0:=kw.cell (fun h=>h) (hcs k s hs).1
      have y1:=kw.cell (fun h=>h) (hcs k s hs).2
      have kd:Kept none' wr wr.drew:=(Kept.refl _ _).drew
      have cc:=sU j _ s.1 wr.drew (H3.out.2.1.pure (kw.trans kd))
      have hdr:=vS hs
      rw[hdr]at hld
      have lM:=H3.out.2.2.2.1 s (List.mem_of_getElem? hs)
      have G:=Lib.hid (And.intro hg (And.intro hld (And.intro htl (And.intro hown (And.intro htb (And.intro hkp (And.intro kw (And.intro oB (And.intro oD lM)))))))))
      have Y:=Lib.hid (And.intro x0 (And.intro x1 y0))
      clear hg hld htl hown htb hkp kw oB oD lM hdr hcs hs kd hB2 FY
      go_wp2_with fail
      refine ak [0,1,2,3,4,5,6,7] (fun W=>Kept none' wr W) (by kernel_rfl) (by kernel_rfl) rfl (Kept.refl _ _).drew ?_
      simp only[List.map_cons,List.map_nil,List.getElem?_toArray,List.getElem?_cons_zero,List.getElem?_cons_succ,Option.getD_some]
      iterate 6 (apply aj rfl rfl;(intro W hW;have q0:=hW.cell (fun h=>h) Y.out.1;have q1:=hW.cell (fun h=>h) Y.out.2.1;have q2:=hW.cell (fun h=>h) Y.out.2.2;go_simp;rfl);go_frame)
      apply aB rfl rfl
      intro K hK
      go_wp2_with fail
      (with_reducible refine cc.mono ?_)
      clear cc
      rintro e W3 ⟨rfl,k3⟩
      have jU:=k3.bP
      go_wp2_with fail
      refine hK _ _ (fun _=>jU) ?_
      clear hK
      apply aj rfl rfl
      ·intro W hW;go_simp;rfl
      go_frame
      refine aG (fun _=>jU) ?_
      have x1:=jU.cell (p:=⟨w.heap.size,1,none⟩) (fun h=>h) x1
      have d2:=jU.cell (p:=⟨D,2,none⟩) (fun h=>h) d2
      have y1:=jU.cell (fun h=>h) y1
      have KW:=Lib.hid (And.intro jU (And.intro (G.out.2.2.2.2.2.2.1.trans jU) (jU.owns G.out.2.2.2.1 (fun _ _ h=>h))))
      clear k3 jU x0 y0
      rcases dI j.nodes s.1 with⟨hf,-⟩|⟨i,d,hf,hd,-,hna,-⟩
      ·have F:=Lib.hid (iZ.bad (v:= .slice na j.nodes.length cap) (w:=w) (w':=W3) (iO lW.out (by rw[G.out.2.1];exact nP (.inl (by rw[hf];decide)))) (by decide) KW.out.2.1)
       rw[hf]
       clear hf
       go_wp2_with fail
       go_ret2
       exact F.out
      ·have hil:i<j.nodes.length:=(List.getElem?_eq_some_iff.1 hd).1
       have hti:=getD_some (Ts:=Ts) (i:=i) (by rw[G.out.2.2.1];exact hil)
       obtain⟨gb,rfl,-,ht1,ht2,-,z0,VQ⟩:=yg KW.out.2.2 hti
       obtain⟨b,off,pi,ci,p,cap',rfl,hc,hj⟩:=H3.out.1 i d hd
       obtain⟨c0,c1,c2,c3,c4,c5,c6⟩:=hc.kept KW.out.2.1 (fun h=>h)
       have cs:=qH d.kind W3
       have UU:=Lib.hid hna
       have HF:=Lib.hid (And.intro hf hd)
       have Vo:=Lib.hid hj
       rw[hf]
       unfold maxLen at ht2
       clear hf hd hna hj hc hti
       cases hst:stateful d.kind with
       |false=>
        rw[hst]at cs
        have F:=Lib.hid (iZ.bad (v:= .slice (some ⟨b,off,none⟩) j.nodes.length cap) (w:=w) (w':=W3) (iO lW.out (by rw[G.out.2.1];exact nP (.inr (.inl (by rw[UU.out];exact hst))))) (by decide) KW.out.2.1)
        clear hst
        go_wp2_with (go_at_call 61;refine cs.mono ?_;rintro e w' ⟨rfl,rfl⟩)
        go_ret2
        exact F.out
       |true=>
        rw[hst]at cs
        have HST:=Lib.hid hst
        clear hst
        cases hno:Ts.getD i none with
        |some T0=>
         rw[hno]at z0
         have F:=Lib.hid (iZ.bad (v:= .slice (some ⟨b,off,none⟩) j.nodes.length cap) (w:=w) (w':=W3) (iO lW.out (by rw[G.out.2.1];exact nP (.inr (.inr (by rw[HF.out.1,Int.toNat_natCast,hno];rfl))))) (by decide) KW.out.2.1)
         simp only[Option.map_some]at z0
         clear hno
         go_wp2_with (go_at_call 61;refine cs.mono ?_;rintro e w' ⟨rfl,rfl⟩)
         go_ret2
         exact F.out
        |none=>
         rw[hno]at z0
         simp only[Option.map_none]at z0
         have Xu:=Lib.hid hno
         have ct:=uY s.2 G.out.2.2.2.2.2.2.2.2.2.2 W3
         unfold dG at ct
         have hlt2:=vF (l:=l.drop (k+1)) HF.out.1 HF.out.2 HST.out Xu.out
         clear hno
         cases ht:gK s.2.data.toList with
         |err f=>
          rw[ht]at ct hlt2
          have Hf:=Lib.hid hlt2
          clear hlt2 ht
          go_wp2_with (go_at_call 61;refine cs.mono ?_;rintro e w' ⟨rfl,rfl⟩)
          (with_reducible refine ct.mono ?_)
          clear ct
          rintro e W4 ⟨rfl,hf0,k4⟩
          have F:=Lib.hid (iZ.bad (v:= .slice (some ⟨b,off,none⟩) j.nodes.length cap) (w:=w) (w':=W4) (iO lW.out (by rw[G.out.2.1];exact Hf.out)) hf0 (KW.out.2.1.trans k4))
          have hf1:(f !=0)=true:=bne_iff_ne.2 hf0
          clear k4 hf0
          go_wp2_with fail
          go_ret2
          exact F.out
         |ok T rest=>
          rw[ht]at ct hlt2
          have Hf:=Lib.hid hlt2
          clear hlt2 ht
          go_wp2_with (go_at_call 61;refine cs.mono ?_;rintro e w' ⟨rfl,rfl⟩)
          (with_reducible refine ct.mono ?_)
          clear ct cs
          rintro e W4 ⟨tb,rfl,tA,k4,tI⟩
          have Dt:=KW.out.2.1.trans k4
          have x1:=k4.cell (p:=⟨w.heap.size,1,none⟩) (fun h=>h) x1
          have d2:=k4.cell (p:=⟨D,2,none⟩) (fun h=>h) d2
          have c0:=k4.cell (fun h=>h) c0
          have c1:=k4.cell (fun h=>h) c1
          have c2:=k4.cell (fun h=>h) c2
          have c3:=k4.cell (fun h=>h) c3
          have c4:=k4.cell (fun h=>h) c4
          have c5:=k4.cell (fun h=>h) c5
          have c6:=k4.cell (fun h=>h) c6
          have cf:=CY d _ tb T W4 (Vo.out.pure Dt) tA
          have T4:=Lib.hid (And.intro tI (And.intro k4 Dt))
          clear tA tI k4 Dt z0 VQ y1
          cases hfit:dD d.kind d.n T with
          |false=>
           rw[hfit]at cf
           have F:=Lib.hid (fun w' hk=>iZ.bad (v:= .slice (some ⟨b,off,none⟩) j.nodes.length cap) (w:=w) (w':=w') (iO lW.out (by rw[G.out.2.1,Hf.out];show(if dD d.kind d.n T=true then _ else _)=_;rw[if_neg (by rw[hfit];simp)])) (show(181:Int)≠0 by decide) hk)
           clear hfit
           go_wp2_with fail
           (with_reducible refine cf.mono ?_)
           clear cf
           rintro e W5 ⟨rfl,k5⟩
           go_wp2_with fail
           go_ret2
           exact F.out _ (T4.out.2.2.trans k5)
          |true=>
           rw[hfit]at cf
           have Hg:=Lib.hid (show bT j.nodes l (bf j.nodes)=bT j.nodes (l.drop (k+1)) (Ts.set i (some T)) by rw[G.out.2.1,Hf.out];show(if dD d.kind d.n T=true then _ else _)=_;rw[if_pos hfit])
           clear hfit
           go_wp2_with fail
           (with_reducible refine cf.mono ?_)
           clear cf
           rintro e W5 ⟨rfl,k5⟩
           have QI:=KW.out.1.trans (T4.out.2.1.trans k5)
           have O4:=QI.owns G.out.2.2.2.1 (fun _ _ h=>h)
           have PW:=getD_some (Ts:=Ts) (i:=i) (by rw[G.out.2.2.1];exact hil)
           rw[Xu.out]at PW
           obtain⟨gb',e5,-,-,-,-,z5,z5f⟩:=yg O4 PW
           injection e5 with e5
           injection e5 with e5
           subst e5
           have d2:=k5.cell (p:=⟨D,2,none⟩) (fun h=>h) d2
           have hst5:=(show W5.ownsRow (D+1) 46 1 (.slice (some ⟨gb,0,none⟩) j.nodes.length tc) j.nodes.length (rp pm Ts)from by have:=O4;rwa[G.out.2.2.1]at this).stored i (.pointer (some ⟨tb,0,none⟩))
           rw[<-ER pm Ts i tb T]at hst5
           have kS:Kept (fun q=>(Value.slice (some ⟨gb,0,none⟩) j.nodes.length tc).ownBlock=some q) W5 (W5.setCell ⟨gb,i,none⟩ (.pointer (some ⟨tb,0,none⟩))):=Kept.setCell (p:=⟨gb,i,none⟩) (Kept.refl (fun q=>(Value.slice (some ⟨gb,0,none⟩) j.nodes.length tc).ownBlock=some q) _) (.inl rfl) _
           have hnq: ∀q,(Value.slice (some ⟨gb,0,none⟩) j.nodes.length tc).ownBlock=some q-> ¬up W2.heap.size q:=fun q hq hu=>by have:=(Bf.out q hq).2;unfold up at hu;omega
           have V5:=(((G.out.2.2.2.2.1.pure QI).set (i:=i) (b:=tb) ((T4.out.1.mono (fun q hq=>by have:=KW.out.1.size;unfold up;omega)).kept k5 (fun _ h=>h.elim)) (fun m U hU=>by
            have h1:=G.out.2.2.2.2.1.lt m U hU
            have h2:W3.heap.size<=tb:=T4.out.1.dot
            have:=KW.out.1.size
            omega)).kept kS hnq)
           have Z:=Lib.hid (And.intro (show(W5.setCell ⟨gb,i,none⟩ (.pointer (some ⟨tb,0,none⟩))).ownsRow (D+1) 46 1 (.slice (some ⟨gb,0,none⟩) j.nodes.length tc) (Ts.set i (some T)).length (rp (fun q=>if q=i then tb else pm q) (Ts.set i (some T)))from by rw[List.length_set,G.out.2.2.1];exact hst5.1) (And.intro V5 ((G.out.2.2.2.2.2.1.trans QI.pure).trans kS)))
           clear O4 PW hst5 kS hnq V5 QI k5 x1 c0 c1 c2 c3 c4 c5 c6
           replace z5:W5.cell? ⟨gb,i,none⟩=some (.pointer none):=z5
           go_wp2_with fail
           go_roundg (l.length-(k+1))
           case rel=>exact⟨k+1,_,_,by omega,by go_num,Nat.le_refl _,Hg.out,by rw[List.length_set];exact G.out.2.2.1,Z.out⟩
           case measure=>have:=G.out.1;omega
     ·obtain rfl:k=l.length:=by omega
      rw[List.drop_of_length_le (Nat.le_refl _)]at hld
      have Hg:=Lib.hid (vC lW.out (show bT j.nodes l (bf j.nodes)= .ok Ts by rw[hld];rfl))
      have HT:=Lib.hid (And.intro htl (And.intro hown (And.intro htb hkp)))
      clear hld htl hown htb hkp hg hlt oB oD hB2 kw FY BR x0
      go_wp2_with fail
      clear x1 d2
      have FY: ¬(Value.slice ta j.nodes.length tc).ownBlock=some w.heap.size:=fun e=>by have:=Bf.out _ e;have:=K1.out.2.2.2.1;omega
      have BR: ¬(Value.slice ta j.nodes.length tc).ownBlock=some D:=fun e=>by have:=Bf.out _ e;omega
      go_loopg [14] j.nodes.length (fun g vi wq=> ∃(k:Nat)(pm:Nat->Nat),k<=j.nodes.length/\vi= .int .i64 (k:Int)/\j.nodes.length-k<=g/\wq.ownsRow (D+1) 46 1 (.slice ta j.nodes.length tc) (fB j.nodes Ts k).length (rp pm (fB j.nodes Ts k))/\fD wq (up W2.heap.size) (fB j.nodes Ts k) pm/\Kept (fun q=>(Value.slice ta j.nodes.length tc).ownBlock=some q) W2 wq)
      case atStart=>exact⟨0,pm,by omega,rfl,by omega,by rw[qV];exact HT.out.2.1,by rw[qV];exact HT.out.2.2.1,HT.out.2.2.2⟩
      case round=>
       obtain⟨k,wU,hkn,rfl,hg,hown,htb,hkp⟩:=hrel
       obtain⟨wq,rfl⟩: ∃wq:World,wq=wr:=⟨_,rfl⟩
       have hB2:=yV.out.2.2.heap K1.out.2.1 (fun e=>by have h0:=K1.out.2.2.2.1;unfold one at e;omega)
       have oB:=hkp.heap hB2 FY
       have oD:=hkp.heap yV.out.1 BR
       have kw:Kept none' w wq:=(K1.out.1.new yV.out.2.2 (fun i hi e=>by have h0:=K1.out.2.2.2.1;unfold one at e;omega)).new hkp (fun i hi e=>by have:=Bf.out _ e;have:=K1.out.2.2.2.1;omega)
       have hmw:=hkp.size
       have x1:wq.cell? ⟨w.heap.size,1,none⟩=some (.slice na j.nodes.length cap):=cells_at oB rfl
       have xlt:w.heap.size<wq.heap.size:=block_lt_of_cell x1
       have d2:wq.cell? ⟨D,2,none⟩=some (.slice ta j.nodes.length tc):=cells_at oD rfl
       have U8:D<wq.heap.size:=block_lt_of_cell d2
       have hfl:=iT HT.out.1 hkn
       by_cases hlt:k<j.nodes.length
       ·obtain⟨d,hd⟩: ∃d,j.nodes[k]?=some d:=⟨_,List.getElem?_eq_getElem hlt⟩
        have htk:=getD_some (Ts:=fB j.nodes Ts k) (i:=k) (by rw[hfl];exact hlt)
        rw[vP HT.out.1 hkn]at htk
        obtain⟨gb,rfl,-,ht1,ht2,-,z0,VQ⟩:=yg hown htk
        obtain⟨b,off,pi,ci,p,cap',rfl,hc,hj⟩:=H3.out.1 k d hd
        obtain⟨c0,c1,c2,c3,c4,c5,c6⟩:=hc.kept kw (fun h=>h)
        have cs:=qH d.kind wq
        unfold maxLen at ht2
        have G:=Lib.hid (And.intro hg (And.intro hown (And.intro htb (And.intro hkp hd))))
        clear hg hown htb hkp hd hj hc kw oB oD hB2 htk hfl
        cases hno:Ts.getD k none with
        |some T0=>
         rw[hno]at z0
         simp only[Option.map_some]at z0
         have F:=Lib.hid (vO HT.out.1 G.out.2.2.2.2 (.inl (by rw[hno];rfl)))
         clear hno cs
         go_wp2_with fail
         go_roundg (j.nodes.length-(k+1))
         case rel=>exact⟨k+1,wU,by omega,by go_num,Nat.le_refl _,by rw[F.out];exact G.out.2.1,by rw[F.out];exact G.out.2.2.1,G.out.2.2.2.1⟩
         case measure=>have:=G.out.1;omega
        |none=>
         rw[hno]at z0
         simp only[Option.map_none]at z0
         have HN:=Lib.hid hno
         clear hno
         cases hst:stateful d.kind with
         |false=>
          rw[hst]at cs
          have F:=Lib.hid (vO HT.out.1 G.out.2.2.2.2 (.inr hst))
          clear hst
          go_wp2_with (go_at_call 61;refine cs.mono ?_;rintro e w' ⟨rfl,rfl⟩)
          go_roundg (j.nodes.length-(k+1))
          case rel=>exact⟨k+1,wU,by omega,by go_num,Nat.le_refl _,by rw[F.out];exact G.out.2.1,by rw[F.out];exact G.out.2.2.1,G.out.2.2.2.1⟩
          case measure=>have:=G.out.1;omega
         |true=>
          rw[hst]at cs
          have F:=Lib.hid (DN HT.out.1 G.out.2.2.2.2 HN.out hst)
          clear hst
          have kA:Kept none' wq (wq.alloc (.cells #[.slice none 0 0] 103)):=(Kept.refl _ _).alloc _
          have OZ:=kA.owns G.out.2.1 (fun _ _ h=>h)
          have SN:=getD_some (Ts:=fB j.nodes Ts k) (i:=k) (by rw[iT HT.out.1 hkn];exact hlt)
          rw[vP HT.out.1 hkn,HN.out]at SN
          obtain⟨gb',eA,-,-,-,-,zA,zAf⟩:=yg OZ SN
          injection eA with eA
          injection eA with eA
          subst eA
          have PY:=(show(wq.alloc (.cells #[.slice none 0 0] 103)).ownsRow (D+1) 46 1 (.slice (some ⟨gb,0,none⟩) j.nodes.length tc) j.nodes.length (rp wU (fB j.nodes Ts k))from by have:=OZ;rwa[iT HT.out.1 hkn]at this).stored k (.pointer (some ⟨wq.heap.size,0,none⟩))
          rw[<-ER wU (fB j.nodes Ts k) k wq.heap.size []]at PY
          have kS:Kept (fun q=>(Value.slice (some ⟨gb,0,none⟩) j.nodes.length tc).ownBlock=some q) (wq.alloc (.cells #[.slice none 0 0] 103)) ((wq.alloc (.cells #[.slice none 0 0] 103)).setCell ⟨gb,k,none⟩ (.pointer (some ⟨wq.heap.size,0,none⟩))):=Kept.setCell (p:=⟨gb,k,none⟩) (Kept.refl (fun q=>(Value.slice (some ⟨gb,0,none⟩) j.nodes.length tc).ownBlock=some q) _) (.inl rfl) _
          have hnq: ∀q,(Value.slice (some ⟨gb,0,none⟩) j.nodes.length tc).ownBlock=some q-> ¬up W2.heap.size q:=fun q hq hu=>by have:=(Bf.out q hq).2;unfold up at hu;omega
          have V3:=(((G.out.2.2.1.pure kA).set (i:=k) (b:=wq.heap.size) (iq.new wq hmw) (fun m U hU=>by
           have h1:=G.out.2.2.1.lt m U hU
           omega)).kept kS hnq)
          have Z:=Lib.hid (And.intro (show((wq.alloc (.cells #[.slice none 0 0] 103)).setCell ⟨gb,k,none⟩ (.pointer (some ⟨wq.heap.size,0,none⟩))).ownsRow (D+1) 46 1 (.slice (some ⟨gb,0,none⟩) j.nodes.length tc) (fB j.nodes Ts (k+1)).length (rp (fun q=>if q=k then wq.heap.size else wU q) (fB j.nodes Ts (k+1)))from by rw[F.out,List.length_set,iT HT.out.1 hkn];exact PY.1) (And.intro (show fD ((wq.alloc (.cells #[.slice none 0 0] 103)).setCell ⟨gb,k,none⟩ (.pointer (some ⟨wq.heap.size,0,none⟩))) (up W2.heap.size) (fB j.nodes Ts (k+1)) (fun q=>if q=k then wq.heap.size else wU q)from by rw[F.out];exact V3) ((G.out.2.2.2.1.trans kA.pure).trans kS)))
          have hgl:gb<wq.heap.size:=block_lt_of_cell z0
          rw[World.setCell_alloc_past _ gb k _ hgl]at Z
          clear OZ SN PY kS hnq V3
          replace zA:(wq.alloc (.cells #[.slice none 0 0] 103)).cell? ⟨gb,k,none⟩=some (.pointer none):=zA
          go_wp2_with (go_at_call 61;refine cs.mono ?_;rintro e w' ⟨rfl,rfl⟩)
          go_roundg (j.nodes.length-(k+1))
          case rel=>exact⟨k+1,_,by omega,by go_num,Nat.le_refl _,Z.out⟩
          case measure=>have:=G.out.1;omega
       ·obtain rfl:k=j.nodes.length:=by omega
        rw[DT HT.out.1]at hown htb
        have F:Hid (iZ w (.slice na j.nodes.length cap) j l (.returned (.tuple #[.pointer (some ⟨D,0,none⟩), .int .i64 0])) wq):=by
         show iZ _ _ _ _ _ _
         unfold iZ
         rw[Hg.out]
         exact⟨D,_,wU,W2.heap.size,rfl,oD,by have:=K1.out.2.2.2.1;omega,hown,fun q hq=>(Bf.out q hq).2,by have:=(Array.getElem?_eq_some_iff.1 yV.out.1).1;omega,hmw,htb,kw⟩
        clear hown htb hkp hg oB oD hB2 kw
        go_wp2_with fail
        go_ret2
        exact F.out
 ·have F:=Lib.hid (fun w' hk=>iZ.bad (v:= .slice na j.nodes.length cap) (w:=w) (w':=w') (l:=l) (Dp (show fU j=false by rw[HM.out];exact decide_eq_false hz)) (show(2:Int)≠0 by decide) hk)
  have hz1:(r2 !=0)=true:=bne_iff_ne.2 hz
  clear hz
  go_wp2_with fail
  (with_reducible refine cm.mono ?_)
  clear cm
  rintro e W0 ⟨rfl,k2⟩
  have K:=Lib.hid (KA.out.1.trans k2)
  clear k2 b0 b1
  go_wp2_with fail
  go_ret2
  exact F.out _ K.out
end Go.Proofs.YtglbkodmmogomaaGreatDoor
