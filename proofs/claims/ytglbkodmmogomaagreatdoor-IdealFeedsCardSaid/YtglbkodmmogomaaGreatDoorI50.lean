/- The document's Load. -/
import Derived.Test.YtglbkodmmogomaaGreatDoorI46
import Derived.Test.YtglbkodmmogomaaGreatDoorI49
set_option linter.unusedVariables false
set_option linter.unusedSimpArgs false
set_option maxHeartbeats 4000000
set_option maxRecDepth 100000
namespace Go.Proofs.YtglbkodmmogomaaGreatDoor
open Go Go.RowKit
attribute [local irreducible] cZ H2.dX
def jY (w:World)(v:Value)(j:Jb)(l:List St)(e:Ending)(w':World):Prop:=
 match og j l with
 | .ok Ts=> ∃b tv pm m,e= .returned (.tuple #[.pointer (some ⟨b,0,none⟩),.int .i64 0])/\w'.heap[b]?=some (.cells #[.int .i64 j.par,v,tv] 90 (0,0))/\w.heap.size<=b/\w'.ownsRow (b+1) 46 1 tv Ts.length (rp pm Ts)/\(∀q,tv.ownBlock=some q->q<m)/\b<m/\m<=w'.heap.size/\iV w' (up m) Ts pm/\ε η w w'
 | .error er=>e= .returned (.tuple #[.pointer none,.int .i64 er])/\er≠0/\ε η w w'
theorem jY.bad {w w':World}{v:Value}{j:Jb}{l:List St}{er:Int}(h:og j l= .error er)(hne:er≠0)(hk:ε η w w'):jY w v j l (.returned (.tuple #[.pointer none,.int .i64 er])) w':=by unfold jY;rw[h];exact⟨rfl,hne,hk⟩
theorem getD_some {Ts:Tabs}{i:Nat}(h:i<Ts.length):Ts[i]?=some (Ts.getD i none):=by rw[σ,ι h];rfl
theorem X0 (j:Jb)(v:Value)(sv:Value)(l:List St)(w:World)(h:lK w #[.int .i64 j.par,v] j)(hs:Reads w 2 sv (jc l))(hsz: ∀s∈l,s.1.size<=maxLen/\s.2.size<=maxLen)(hsm:abx j):
 Calls Tryz.prog 25 #[.agg #[.int .i64 j.par,v],sv] w (jY w v j l):=by
 have hJ:=h;obtain⟨v0,hv0,hn,hp⟩:=h
 injection hv0 with hv0
 injection hv0 with _ hv0
 injection hv0 with hv0 _
 subst hv0;obtain⟨na,cap,rfl,h1,h2,h3⟩:=hn.at;obtain⟨sa,scap,rfl,s1,s2,s3⟩:=hs.zL;unfold maxLen at h2 s2;have hn40:=hsm.1;obtain⟨WB,Qe⟩:=acf (w.alloc (.cells #[.int .i64 j.par,.slice na j.nodes.length cap] 24));have kA:ε η w WB:=(by rw[<-Qe];exact δ.alloc _);have bB:WB.heap[w.heap.size]?=some (.cells #[.int .i64 j.par,.slice na j.nodes.length cap] 24 (0,0)):=(by rw[<-Qe];exact heap_alloc_new _ _);have cm:=aak j _ WB (hJ.pure kA) (by have:=hsm.1;omega) hsm.2;have H3:=γ (θ h3 (θ hJ (θ s3 (θ hsz hn))));have KA:=γ (θ kA bB);have HW:=γ Qe;have b0:WB.cell? ⟨w.heap.size,0,none⟩=some (.int .i64 j.par):=ζ bB rfl;have b1:WB.cell? ⟨w.heap.size,1,none⟩=some (.slice na j.nodes.length cap):=ζ bB rfl;clear kA bB h3 hn hJ s3 hsz hs hsm hp Qe;have HM:=γ (zX j);obtain⟨r1,hr1⟩: ∃r1,(gU j).1=r1:=⟨_,rfl⟩;obtain⟨r2,hr2⟩: ∃r2,(gU j).2=r2:=⟨_,rfl⟩;unfold ou at cm;rw[hr1,hr2]at cm;rw[hr2]at HM;clear hr1 hr2;go_enter Tryz.func25,Tryz.ntmps25;go_wp2_with fail;rw[HW.o];clear HW;by_cases hz:r2=0
 ·have fU:=γ (show gu j=true by rw[HM.o];exact decide_eq_true hz)
  clear b0 b1;go_wp2_with fail;(with_reducible refine cm.mono ?_);clear cm;rintro e W0 ⟨rfl,k2⟩;have B0:=k2.heap KA.o.2 id;have x0:W0.cell? ⟨w.heap.size,0,none⟩=some (.int .i64 j.par):=ζ B0 rfl;have x1:W0.cell? ⟨w.heap.size,1,none⟩=some (.slice na j.nodes.length cap):=ζ B0 rfl;have K0:=γ (θ (KA.o.1.trans k2) B0);clear k2 B0;go_wp2_with fail;obtain⟨D,hD⟩: ∃D,W0.heap.size=D:=⟨_,rfl⟩;obtain⟨W1,hW1⟩: ∃W1,(W0.alloc (.cells #[.int .i64 j.par,.slice na j.nodes.length cap,.slice none 0 0] 90))=W1:=⟨_,rfl⟩;have Js:ε η W0 W1:=(by rw[<-hW1];exact δ.alloc _);have dB:W1.heap[D]?=some (.cells #[.int .i64 j.par,.slice na j.nodes.length cap,.slice none 0 0] 90 (0,0)):=(by rw[<-hW1,<-hD];exact heap_alloc_new _ _);have hbd:w.heap.size<D:=(by rw[<-hD];exact(κ.1 K0.o.2).1);have hs1:W1.heap.size=D+1:=(by rw[<-hW1,<-hD];simp);rw[hW1,hD];have K1:=γ (θ (K0.o.1.trans Js) (θ (Js.heap K0.o.2 id) (θ dB (θ hbd hs1))));clear hW1 hD Js dB x0 x1 K0 KA hs1 hbd;go_loopg [9] j.nodes.length (fun g vi wr=> ∃(k:Nat)(tv:Value),k<=j.nodes.length/\vi= .int .i64 (k:Int)/\j.nodes.length-k<=g/\wr.heap[D]?=some (.cells #[.int .i64 j.par,.slice na j.nodes.length cap,tv] 90 (0,0))/\wr.ownsRow (D+1) 46 1 tv k (List.replicate k (.pointer none))/\ε (one D) W1 wr)
  case atStart=>exact⟨0,_,by omega,rfl,by omega,K1.o.2.2.1,World.ownsRow_nil _ _ _ _,ε.refl _ _⟩
  case round=>
   obtain⟨k,tv,hkn,rfl,hg,hob,hown,hkp⟩:=hrel;obtain⟨ta,tc,rfl⟩:=au hown;have hBD: ¬one D w.heap.size:=fun e=>(by have h0:=K1.o.2.2.2.1;unfold one at e;omega);have x1:wr.cell? ⟨w.heap.size,1,none⟩=some (.slice na j.nodes.length cap):=ζ (hkp.heap K1.o.2.1 hBD) rfl;have xlt:w.heap.size<wr.heap.size:=block_lt_of_cell x1;by_cases hlt:k<j.nodes.length
   ·have hno: ¬(Value.slice ta k tc).ownBlock=some D:=fun e=>by have:=(hown.lt _ e).1;omega
    have d2:wr.cell? ⟨D,2,none⟩=some (.slice ta k tc):=ζ hob rfl;have dlt:D<wr.heap.size:=block_lt_of_cell d2;obtain⟨g5,c5,w5,p1,p2,p3⟩:=aaq hown (by have:=hkp.size;have:=K1.o.2.2.2.2;omega) (by omega);have Vu:=p3.heap hob hno;have e2:w5.cell? ⟨D,2,none⟩=some (.slice ta k tc):=ζ Vu rfl;have ef:=free_at Vu 2;have hst:=bD Vu 2 (.slice (some ⟨g5,0,none⟩) (k+1) c5);have hnew:(w5.setCell ⟨D,2,none⟩ (.slice (some ⟨g5,0,none⟩) (k+1) c5)).ownsRow (D+1) 46 1 (.slice (some ⟨g5,0,none⟩) (k+1) c5) (k+1) (List.replicate (k+1) (.pointer none)):=by rw[List.replicate_succ'];exact((ε.refl (one D) w5).setCell (p:=⟨D,2,none⟩) (.inl rfl) _).owns p2 (fun q hq e=>by have:=(p2.lt _ hq).1;unfold one at e;omega)
    have F:=γ (θ (show(w5.setCell ⟨D,2,none⟩ (.slice (some ⟨g5,0,none⟩) (k+1) c5)).heap[D]?=some (.cells #[.int .i64 j.par,.slice na j.nodes.length cap,.slice (some ⟨g5,0,none⟩) (k+1) c5] 90 (0,0))from by simpa using hst)
     (θ hnew ((hkp.new p3 (fun i hi hs=>by have:=(hown.lt _ hs).1;have:=K1.o.2.2.2.2;omega)).setCell (p:=⟨D,2,none⟩) (.inl rfl) (.slice (some ⟨g5,0,none⟩) (k+1) c5))))
    have P1:=γ p1;have G:=γ hg;clear hob hown hkp hg hno p1 p2 p3 Vu hst hnew;go_wp2_with (at_builtin;refine wpList_append_run rfl (.tmp 36) (.tmp 37) 88 rfl (.slice ta k tc) (.slice (some ⟨wr.heap.size,0,none⟩) 1 1) _ rfl rfl P1.o ?_);go_roundg (j.nodes.length-(k+1))
    case rel=>exact⟨k+1,_,by omega,by go_num,ξ _,F.o⟩
    case measure=>have:=G.o;omega
   ·obtain rfl:k=j.nodes.length:=by omega
    have Ej:=γ (θ hob (θ (show wr.ownsRow (D+1) 46 1 (.slice ta j.nodes.length tc) (dU j.nodes).length (rp (fun _=>0) (dU j.nodes))from by
     unfold dU
     rw[acS,List.length_replicate];exact hown) hkp))
    obtain⟨W2,hW2⟩: ∃W2:World,W2=wr:=⟨_,rfl⟩;rw[<-hW2]at Ej x1 xlt⊢;have X1:=γ x1;clear hob hown hkp hg hlt hW2;go_wp2_with fail;clear x1;have hTB: ∀q,(Value.slice ta j.nodes.length tc).ownBlock=some q->D+1<=q/\q<W2.heap.size:=fun q hq=>Ej.o.2.1.lt q hq;have zy:=γ hTB;clear hTB;go_loopg [10] l.length (fun g vi wr=> ∃(k:Nat)(Ts:Tabs)(pm:Nat->Nat),k<=l.length/\vi= .int .i64 (k:Int)/\l.length-k<=g/\jg j.nodes l (dU j.nodes)=jg j.nodes (l.drop k) Ts/\Ts.length=j.nodes.length/\wr.ownsRow (D+1) 46 1 (.slice ta j.nodes.length tc) Ts.length (rp pm Ts)/\iV wr (up W2.heap.size) Ts pm/\ε (fun q=>(Value.slice ta j.nodes.length tc).ownBlock=some q) W2 wr)
    case atStart=>exact⟨0,dU j.nodes,fun _=>0,by omega,rfl,by omega,rfl,by simp[dU],Ej.o.2.1,iV.none _ _ _ _,ε.refl _ _⟩
    case round=>
     obtain⟨k,Ts,pm,hkl,rfl,hg,hld,htl,hown,htb,hkp⟩:=hrel;have PY: ¬(Value.slice ta j.nodes.length tc).ownBlock=some w.heap.size:=fun e=>(by have:=zy.o _ e;have:=K1.o.2.2.2.1;omega);have Vx: ¬(Value.slice ta j.nodes.length tc).ownBlock=some D:=fun e=>(by have:=zy.o _ e;omega);have hB2:=Ej.o.2.2.heap K1.o.2.1 (fun e=>by have h0:=K1.o.2.2.2.1;unfold one at e;omega);have oB:=hkp.heap hB2 PY;have oD:=hkp.heap Ej.o.1 Vx;have kw:ε η w wr:=(K1.o.1.new Ej.o.2.2 (fun i hi e=>by have h0:=K1.o.2.2.2.1;unfold one at e;omega)).new hkp (fun i hi e=>by have:=zy.o _ e;have:=K1.o.2.2.2.1;omega);have hmw:=hkp.size;have x0:wr.cell? ⟨w.heap.size,0,none⟩=some (.int .i64 j.par):=ζ oB rfl;have x1:wr.cell? ⟨w.heap.size,1,none⟩=some (.slice na j.nodes.length cap):=ζ oB rfl;have xlt:w.heap.size<wr.heap.size:=block_lt_of_cell x1;have d2:wr.cell? ⟨D,2,none⟩=some (.slice ta j.nodes.length tc):=ζ oD rfl;have dlt:D<wr.heap.size:=block_lt_of_cell d2;by_cases hlt:k<l.length
     ·obtain⟨s,hs⟩: ∃s,l[k]?=some s:=⟨_,ι hlt⟩
      obtain⟨bs,adP,rfl,hcs⟩:=H3.o.2.2.1.resolve_left (fun h=>by rw[h]at hlt;simp at hlt);have y0:=kw.cell id (hcs k s hs).1;have y1:=kw.cell id (hcs k s hs).2;have kd:ε η wr wr.drew:=δ.drew;have cc:=X8 j _ s.1 wr.drew (H3.o.2.1.pure (kw.trans kd));have hdr:=EZ hs;rw[hdr]at hld;have PO:=H3.o.2.2.2.1 s (ς hs);have G:=γ (θ hg (θ hld (θ htl (θ hown (θ htb (θ hkp (θ kw (θ oB (θ oD PO)))))))));have Y:=γ (θ x0 (θ x1 y0));clear hg hld htl hown htb hkp kw oB oD PO hdr hcs hs kd hB2 PY;go_wp2_with fail;refine ak [0,1,2,3,4,5,6,7] (fun W=>ε η wr W) (by kernel_rfl) (by kernel_rfl) rfl δ.drew ?_;simp only[abU];iterate 6 (apply aj rfl rfl;(intro W hW;have q0:=hW.cell id Y.o.1;have q1:=hW.cell id Y.o.2.1;have q2:=hW.cell id Y.o.2.2;go_simp;rfl);go_frame)
      apply aA rfl rfl;intro K hK;go_wp2_with fail;(with_reducible refine cc.mono ?_);clear cc;rintro e W3 ⟨rfl,k3⟩;have dI:=k3.aZ;go_wp2_with fail;refine hK _ _ (fun _=>dI) ?_;clear hK;apply aj rfl rfl
      ·intro W hW;go_simp;rfl
      go_frame;refine aG (fun _=>dI) ?_;have x1:=dI.cell (p:=⟨w.heap.size,1,none⟩) id x1;have d2:=dI.cell (p:=⟨D,2,none⟩) id d2;have y1:=dI.cell id y1;have KW:=γ (θ dI (θ (G.o.2.2.2.2.2.2.1.trans dI) (dI.owns G.o.2.2.2.1 (fun _ _ h=>h))));clear k3 dI x0 y0
      rcases vJ j.nodes s.1 with⟨hf,-⟩|⟨i,d,hf,hd,-,hna,-⟩
      ·have F:=γ (jY.bad (v:= .slice na j.nodes.length cap) (w:=w) (w':=W3) (kG fU.o (by rw[G.o.2.1];exact rW (.inl (by rw[hf];decide)))) (by decide) KW.o.2.1)
       rw[hf];clear hf;go_wp2_with fail;go_ret2;exact F.o
      ·have hil:i<j.nodes.length:=(μ.1 hd).1
       have hti:=getD_some (Ts:=Ts) (i:=i) (by rw[G.o.2.2.1];exact hil);obtain⟨gb,rfl,-,ht1,ht2,-,z0,z0f⟩:=zO KW.o.2.2 hti;obtain⟨b,off,pi,ci,p,cap',rfl,hc,hj⟩:=H3.o.1 i d hd;obtain⟨c0,c1,c2,c3,c4,c5,c6⟩:=hc.kept KW.o.2.1 id;have cs:=wC d.kind W3;have hNA:=γ hna;have HF:=γ (θ hf hd);have A8:=γ hj;rw[hf];unfold maxLen at ht2;clear hf hd hna hj hc hti
       cases hst:stateful d.kind with
       |false=>rw[hst]at cs;have F:=γ (jY.bad (v:= .slice (some ⟨b,off,none⟩) j.nodes.length cap) (w:=w) (w':=W3) (kG fU.o (by rw[G.o.2.1];exact rW (.inr (.inl (by rw[hNA.o];exact hst))))) (by decide) KW.o.2.1);clear hst;go_wp2_with (go_at_call 61;refine cs.mono ?_;rintro e w' ⟨rfl,rfl⟩);go_ret2;exact F.o
       |true=>
        rw[hst]at cs;have HST:=γ hst;clear hst
        cases hno:Ts.getD i none with
        |some T0=>rw[hno]at z0;have F:=γ (jY.bad (v:= .slice (some ⟨b,off,none⟩) j.nodes.length cap) (w:=w) (w':=W3) (kG fU.o (by rw[G.o.2.1];exact rW (.inr (.inr (by rw[HF.o.1,Int.toNat_natCast,hno];rfl))))) (by decide) KW.o.2.1);simp only[Option.map_some]at z0;clear hno;go_wp2_with (go_at_call 61;refine cs.mono ?_;rintro e w' ⟨rfl,rfl⟩);go_ret2;exact F.o
        |none=>
         rw[hno]at z0;simp only[Option.map_none]at z0;have HNO:=γ hno;have ct:=U3 s.2 G.o.2.2.2.2.2.2.2.2.2.2 W3;unfold fQ at ct;have hlt2:=FY (l:=l.drop (k+1)) HF.o.1 HF.o.2 HST.o HNO.o;clear hno
         cases ht:mZ s.2.data.toList with
         |err f=>rw[ht]at ct hlt2;have QW:=γ hlt2;clear hlt2 ht;go_wp2_with (go_at_call 61;refine cs.mono ?_;rintro e w' ⟨rfl,rfl⟩);(with_reducible refine ct.mono ?_);clear ct;rintro e W4 ⟨rfl,hf0,k4⟩;have F:=γ (jY.bad (v:= .slice (some ⟨b,off,none⟩) j.nodes.length cap) (w:=w) (w':=W4) (kG fU.o (by rw[G.o.2.1];exact QW.o)) hf0 (KW.o.2.1.trans k4));have hf1:(f !=0)=true:=bne_iff_ne.2 hf0;clear k4 hf0;go_wp2_with fail;go_ret2;exact F.o
         |ok T rest=>
          rw[ht]at ct hlt2;have QW:=γ hlt2;clear hlt2 ht;go_wp2_with (go_at_call 61;refine cs.mono ?_;rintro e w' ⟨rfl,rfl⟩);(with_reducible refine ct.mono ?_);clear ct cs;rintro e W4 ⟨tb,rfl,tA,k4,tI⟩;have Jo:=KW.o.2.1.trans k4;have x1:=k4.cell (p:=⟨w.heap.size,1,none⟩) id x1;have d2:=k4.cell (p:=⟨D,2,none⟩) id d2;have c0:=k4.cell id c0;have c1:=k4.cell id c1;have c2:=k4.cell id c2;have c3:=k4.cell id c3;have c4:=k4.cell id c4;have c5:=k4.cell id c5;have c6:=k4.cell id c6;have cf:=X7 d _ tb T W4 (A8.o.pure Jo) tA;have T4:=γ (θ tI (θ k4 Jo));clear tA tI k4 Jo z0 z0f y1
          cases hfit:fD d.kind d.n T with
          |false=>rw[hfit]at cf;have F:=γ (fun w' hk=>jY.bad (v:= .slice (some ⟨b,off,none⟩) j.nodes.length cap) (w:=w) (w':=w') (kG fU.o (by rw[G.o.2.1,QW.o];show(if fD d.kind d.n T=true then _ else _)=_;rw[if_neg (by rw[hfit];simp)])) (show(181:Int)≠0 by decide) hk);clear hfit;go_wp2_with fail;(with_reducible refine cf.mono ?_);clear cf;rintro e W5 ⟨rfl,k5⟩;go_wp2_with fail;go_ret2;exact F.o _ (T4.o.2.2.trans k5)
          |true=>
           rw[hfit]at cf;have QX:=γ (show jg j.nodes l (dU j.nodes)=jg j.nodes (l.drop (k+1)) (Ts.set i (some T)) by rw[G.o.2.1,QW.o];show(if fD d.kind d.n T=true then _ else _)=_;rw[if_pos hfit]);clear hfit;go_wp2_with fail;(with_reducible refine cf.mono ?_);clear cf;rintro e W5 ⟨rfl,k5⟩;have kr5:=KW.o.1.trans (T4.o.2.1.trans k5);have BM:=kr5.owns G.o.2.2.2.1 (fun _ _ h=>h);have aaP:=getD_some (Ts:=Ts) (i:=i) (by rw[G.o.2.2.1];exact hil);rw[HNO.o]at aaP;obtain⟨gb',e5,-,-,-,-,z5,z5f⟩:=zO BM aaP
           injection e5 with e5
           injection e5 with e5
           subst e5;have d2:=k5.cell (p:=⟨D,2,none⟩) id d2;have hst5:=(show W5.ownsRow (D+1) 46 1 (.slice (some ⟨gb,0,none⟩) j.nodes.length tc) j.nodes.length (rp pm Ts)from by have:=BM;rwa[G.o.2.2.1]at this).stored i (.pointer (some ⟨tb,0,none⟩));rw[<-XV pm Ts i tb T]at hst5;have kS:ε (fun q=>(Value.slice (some ⟨gb,0,none⟩) j.nodes.length tc).ownBlock=some q) W5 (W5.setCell ⟨gb,i,none⟩ (.pointer (some ⟨tb,0,none⟩))):=ε.setCell (p:=⟨gb,i,none⟩) (ε.refl (fun q=>(Value.slice (some ⟨gb,0,none⟩) j.nodes.length tc).ownBlock=some q) _) (.inl rfl) _;have hnq: ∀q,(Value.slice (some ⟨gb,0,none⟩) j.nodes.length tc).ownBlock=some q-> ¬up W2.heap.size q:=fun q hq hu=>by have:=(zy.o q hq).2;unfold up at hu;omega
           have tb5:=(((G.o.2.2.2.2.1.pure kr5).set (i:=i) (b:=tb) ((T4.o.1.mono (fun q hq=>by have:=KW.o.1.size;unfold up;omega)).kept k5 (fun _ h=>h.elim)) (fun m U hU=>by
            have h1:=G.o.2.2.2.2.1.lt m U hU;have h2:W3.heap.size<=tb:=T4.o.1.dot;have:=KW.o.1.size
            omega)).kept kS hnq)
           have Z:=γ (θ (show(W5.setCell ⟨gb,i,none⟩ (.pointer (some ⟨tb,0,none⟩))).ownsRow (D+1) 46 1 (.slice (some ⟨gb,0,none⟩) j.nodes.length tc) (Ts.set i (some T)).length (rp (fun q=>if q=i then tb else pm q) (Ts.set i (some T)))from by rw[List.length_set,G.o.2.2.1];exact hst5.1) (θ tb5 ((G.o.2.2.2.2.2.1.trans kr5.pure).trans kS)));clear BM aaP hst5 kS hnq tb5 kr5 k5 x1 c0 c1 c2 c3 c4 c5 c6
           replace z5:W5.cell? ⟨gb,i,none⟩=some (.pointer none):=z5
           go_wp2_with fail;go_roundg (l.length-(k+1))
           case rel=>exact⟨k+1,_,_,by omega,by go_num,ξ _,QX.o,by rw[List.length_set];exact G.o.2.2.1,Z.o⟩
           case measure=>have:=G.o.1;omega
     ·obtain rfl:k=l.length:=by omega
      rw[List.drop_of_length_le (ξ _)]at hld;have QX:=γ (Pj fU.o (show jg j.nodes l (dU j.nodes)= .ok Ts by rw[hld];rfl));have HT:=γ (θ htl (θ hown (θ htb hkp)));clear hld htl hown htb hkp hg hlt oB oD hB2 kw PY Vx x0;go_wp2_with fail;clear x1 d2;have PY: ¬(Value.slice ta j.nodes.length tc).ownBlock=some w.heap.size:=fun e=>(by have:=zy.o _ e;have:=K1.o.2.2.2.1;omega);have Vx: ¬(Value.slice ta j.nodes.length tc).ownBlock=some D:=fun e=>(by have:=zy.o _ e;omega);go_loopg [14] j.nodes.length (fun g vi wq=> ∃(k:Nat)(pm:Nat->Nat),k<=j.nodes.length/\vi= .int .i64 (k:Int)/\j.nodes.length-k<=g/\wq.ownsRow (D+1) 46 1 (.slice ta j.nodes.length tc) (ig j.nodes Ts k).length (rp pm (ig j.nodes Ts k))/\iV wq (up W2.heap.size) (ig j.nodes Ts k) pm/\ε (fun q=>(Value.slice ta j.nodes.length tc).ownBlock=some q) W2 wq)
      case atStart=>exact⟨0,pm,by omega,rfl,by omega,by rw[wL];exact HT.o.2.1,by rw[wL];exact HT.o.2.2.1,HT.o.2.2.2⟩
      case round=>
       obtain⟨k,BI,hkn,rfl,hg,hown,htb,hkp⟩:=hrel;obtain⟨wq,rfl⟩: ∃wq:World,wq=wr:=⟨_,rfl⟩;have hB2:=Ej.o.2.2.heap K1.o.2.1 (fun e=>by have h0:=K1.o.2.2.2.1;unfold one at e;omega);have oB:=hkp.heap hB2 PY;have oD:=hkp.heap Ej.o.1 Vx;have kw:ε η w wq:=(K1.o.1.new Ej.o.2.2 (fun i hi e=>by have h0:=K1.o.2.2.2.1;unfold one at e;omega)).new hkp (fun i hi e=>by have:=zy.o _ e;have:=K1.o.2.2.2.1;omega);have hmw:=hkp.size;have x1:wq.cell? ⟨w.heap.size,1,none⟩=some (.slice na j.nodes.length cap):=ζ oB rfl;have xlt:w.heap.size<wq.heap.size:=block_lt_of_cell x1;have d2:wq.cell? ⟨D,2,none⟩=some (.slice ta j.nodes.length tc):=ζ oD rfl;have dlt:D<wq.heap.size:=block_lt_of_cell d2;have hfl:=kT HT.o.1 hkn;by_cases hlt:k<j.nodes.length
       ·obtain⟨d,hd⟩: ∃d,j.nodes[k]?=some d:=⟨_,ι hlt⟩
        have htk:=getD_some (Ts:=ig j.nodes Ts k) (i:=k) (by rw[hfl];exact hlt);rw[Af HT.o.1 hkn]at htk;obtain⟨gb,rfl,-,ht1,ht2,-,z0,z0f⟩:=zO hown htk;obtain⟨b,off,pi,ci,p,cap',rfl,hc,hj⟩:=H3.o.1 k d hd;obtain⟨c0,c1,c2,c3,c4,c5,c6⟩:=hc.kept kw id;have cs:=wC d.kind wq;unfold maxLen at ht2;have G:=γ (θ hg (θ hown (θ htb (θ hkp hd))));clear hg hown htb hkp hd hj hc kw oB oD hB2 htk hfl
        cases hno:Ts.getD k none with
        |some T0=>
         rw[hno]at z0;simp only[Option.map_some]at z0;have F:=γ (Ae HT.o.1 G.o.2.2.2.2 (.inl (by rw[hno];rfl)));clear hno cs;go_wp2_with fail;go_roundg (j.nodes.length-(k+1))
         case rel=>exact⟨k+1,BI,by omega,by go_num,ξ _,by rw[F.o];exact G.o.2.1,by rw[F.o];exact G.o.2.2.1,G.o.2.2.2.1⟩
         case measure=>have:=G.o.1;omega
        |none=>
         rw[hno]at z0;simp only[Option.map_none]at z0;have HN:=γ hno;clear hno
         cases hst:stateful d.kind with
         |false=>
          rw[hst]at cs;have F:=γ (Ae HT.o.1 G.o.2.2.2.2 (.inr hst));clear hst;go_wp2_with (go_at_call 61;refine cs.mono ?_;rintro e w' ⟨rfl,rfl⟩);go_roundg (j.nodes.length-(k+1))
          case rel=>exact⟨k+1,BI,by omega,by go_num,ξ _,by rw[F.o];exact G.o.2.1,by rw[F.o];exact G.o.2.2.1,G.o.2.2.2.1⟩
          case measure=>have:=G.o.1;omega
         |true=>
          rw[hst]at cs;have F:=γ (JC HT.o.1 G.o.2.2.2.2 HN.o hst);clear hst;have kA:ε η wq (wq.alloc (.cells #[.slice none 0 0] 103)):=δ.alloc _;have aau:=kA.owns G.o.2.1 (fun _ _ h=>h);have tiA:=getD_some (Ts:=ig j.nodes Ts k) (i:=k) (by rw[kT HT.o.1 hkn];exact hlt);rw[Af HT.o.1 hkn,HN.o]at tiA;obtain⟨gb',eA,-,-,-,-,zA,zAf⟩:=zO aau tiA
          injection eA with eA
          injection eA with eA
          subst eA;have aaQ:=(show(wq.alloc (.cells #[.slice none 0 0] 103)).ownsRow (D+1) 46 1 (.slice (some ⟨gb,0,none⟩) j.nodes.length tc) j.nodes.length (rp BI (ig j.nodes Ts k))from by have:=aau;rwa[kT HT.o.1 hkn]at this).stored k (.pointer (some ⟨wq.heap.size,0,none⟩));rw[<-XV BI (ig j.nodes Ts k) k wq.heap.size []]at aaQ;have kS:ε (fun q=>(Value.slice (some ⟨gb,0,none⟩) j.nodes.length tc).ownBlock=some q) (wq.alloc (.cells #[.slice none 0 0] 103)) ((wq.alloc (.cells #[.slice none 0 0] 103)).setCell ⟨gb,k,none⟩ (.pointer (some ⟨wq.heap.size,0,none⟩))):=ε.setCell (p:=⟨gb,k,none⟩) (ε.refl (fun q=>(Value.slice (some ⟨gb,0,none⟩) j.nodes.length tc).ownBlock=some q) _) (.inl rfl) _;have hnq: ∀q,(Value.slice (some ⟨gb,0,none⟩) j.nodes.length tc).ownBlock=some q-> ¬up W2.heap.size q:=fun q hq hu=>by have:=(zy.o q hq).2;unfold up at hu;omega
          have tbA:=(((G.o.2.2.1.pure kA).set (i:=k) (b:=wq.heap.size) (bF.new wq hmw) (fun m U hU=>by
           have h1:=G.o.2.2.1.lt m U hU
           omega)).kept kS hnq)
          have Z:=γ (θ (show((wq.alloc (.cells #[.slice none 0 0] 103)).setCell ⟨gb,k,none⟩ (.pointer (some ⟨wq.heap.size,0,none⟩))).ownsRow (D+1) 46 1 (.slice (some ⟨gb,0,none⟩) j.nodes.length tc) (ig j.nodes Ts (k+1)).length (rp (fun q=>if q=k then wq.heap.size else BI q) (ig j.nodes Ts (k+1)))from by rw[F.o,List.length_set,kT HT.o.1 hkn];exact aaQ.1) (θ (show iV ((wq.alloc (.cells #[.slice none 0 0] 103)).setCell ⟨gb,k,none⟩ (.pointer (some ⟨wq.heap.size,0,none⟩))) (up W2.heap.size) (ig j.nodes Ts (k+1)) (fun q=>if q=k then wq.heap.size else BI q)from by rw[F.o];exact tbA) ((G.o.2.2.2.1.trans kA.pure).trans kS)));have hgl:gb<wq.heap.size:=block_lt_of_cell z0;rw[World.setCell_alloc_past _ gb k _ hgl]at Z;clear aau tiA aaQ kS hnq tbA
          replace zA:(wq.alloc (.cells #[.slice none 0 0] 103)).cell? ⟨gb,k,none⟩=some (.pointer none):=zA
          go_wp2_with (go_at_call 61;refine cs.mono ?_;rintro e w' ⟨rfl,rfl⟩);go_roundg (j.nodes.length-(k+1))
          case rel=>exact⟨k+1,_,by omega,by go_num,ξ _,Z.o⟩
          case measure=>have:=G.o.1;omega
       ·obtain rfl:k=j.nodes.length:=by omega
        rw[JD HT.o.1]at hown htb;have F:ace (jY w (.slice na j.nodes.length cap) j l (.returned (.tuple #[.pointer (some ⟨D,0,none⟩),.int .i64 0])) wq):=(by show jY _ _ _ _ _ _;unfold jY;rw[QX.o];exact⟨D,_,BI,W2.heap.size,rfl,oD,by have:=K1.o.2.2.2.1;omega,hown,fun q hq=>(zy.o q hq).2,by have:=(κ.1 Ej.o.1).1;omega,hmw,htb,kw⟩);clear hown htb hkp hg oB oD hB2 kw;go_wp2_with fail;go_ret2;exact F.o
 ·have F:=γ (fun w' hk=>jY.bad (v:= .slice na j.nodes.length cap) (w:=w) (w':=w') (l:=l) (Jm (show gu j=false by rw[HM.o];exact decide_eq_false hz)) (show(2:Int)≠0 by decide) hk)
  have hz1:(r2 !=0)=true:=bne_iff_ne.2 hz;clear hz;go_wp2_with fail;(with_reducible refine cm.mono ?_);clear cm;rintro e W0 ⟨rfl,k2⟩;have K:=γ (KA.o.1.trans k2);clear k2 b0 b1;go_wp2_with fail;go_ret2;exact F.o _ K.o
