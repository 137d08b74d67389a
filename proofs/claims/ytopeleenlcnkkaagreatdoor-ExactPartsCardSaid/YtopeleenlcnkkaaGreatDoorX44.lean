/- exact.run's closure: the turns of a place. -/
import Derived.Test.YtopeleenlcnkkaaGreatDoorX43
set_option linter.unusedVariables false
set_option linter.unusedSimpArgs false
set_option maxHeartbeats 4000000
set_option maxRecDepth 100000
namespace Go.Proofs.YtopeleenlcnkkaaGreatDoor
section
open Go Go.RowKit
attribute [local irreducible] bU dL H2.cZ
def four (Be Bt Bj Bd:Nat):Nat->Prop:=fun q=>q=Be\/q=Bt\/q=Bj\/q=Bd
structure Four (n Be Bt Bj Bd:Nat):Prop where
 et:Be≠Bt
 ej:Be≠Bj
 ed:Be≠Bd
 tj:Bt≠Bj
 td:Bt≠Bd
 jd:Bj≠Bd
 ge:n<=Be
 gt:n<=Bt
 gj:n<=Bj
 gd:n<=Bd
structure rP (Wj W0 w:World)(Be Bt Bj Bd:Nat)(F:Nat->Prop)(ts:List Turn)(s:Now)(tv nv:Value)(bi mi:Nat)(pm:Nat->Nat×Nat):Prop where
 kj:Kept none' Wj W0
 kept:Kept none' W0 w
 e:w.heap[Be]?=some (.cells #[.int .i64 0] 28 (0,0))
 t:w.heap[Bt]?=some (.cells #[tv] 76 (0,0))
 j:w.heap[Bj]?=some (.cells #[.int .i64 s.1.par,nv] 24 (0,0))
 d:w.heap[Bd]?=some (.cells #[.pointer (some ⟨bi,0,none⟩)] 35 (0,0))
 i:w.heap[bi]?=some (.cells #[.int .i64 s.1.par,nv, .map (some mi)] 101 (0,0))
 tu:dB Wj tv ts
 jb:bZ Wj #[.int .i64 s.1.par,nv] s.1
 ok:bK s.1=true
 tk:dF s.1.nodes s.2
 tabs:bV w (fun q=> ¬F q) mi s.2 pm
 nb: ¬F bi
 nm: ¬F mi
 lb:W0.heap.size<=bi
 lm:W0.heap.size<=mi
 nt:oV W0.heap.size s.2 pm
def Hy (Wj W0 w:World)(Be Bt Bj Bd:Nat)(F:Nat->Prop)(R:Except Int (Now×List Turn))(e:Ending)(w':World):Prop:=
 e= .returned (.tuple #[])/\Kept (four Be Bt Bj Bd) w w'/\
  ((∃ts s tv nv bi mi pm,R= .ok (s,ts)/\rP Wj W0 w' Be Bt Bj Bd F ts s tv nv bi mi pm)\/ ∃er,R= .error er/\er≠0/\w'.heap[Be]?=some (.cells #[.int .i64 er] 28 (0,0))/\Kept none' W0 w')
def Hz (Wj W0 w:World)(Be Bt Bj Bd:Nat)(F:Nat->Prop)(at_:Int)(R:Except Int (Now×List Turn))(g:Nat)(wr:World):Prop:=
 Kept (four Be Bt Bj Bd) w wr/\
  ((∃ts s tv nv bi mi pm,cu at_ ts s=R/\ts.length<=g/\rP Wj W0 wr Be Bt Bj Bd F ts s tv nv bi mi pm)\/ ∃er,R= .error er/\er≠0/\wr.heap[Be]?=some (.cells #[.int .i64 er] 28 (0,0))/\Kept none' W0 wr)
theorem XE: ∀{l:List St}{i:Nat}{y:Value},(gX l)[i]?=some y-> ∃s,y= .string s:=fun{l} {i} {y} h=>by
 have:=List.mem_of_getElem? h
 unfold gX at this
 obtain⟨s,_,hs⟩:=List.mem_flatMap.1 this
 rcases List.mem_cons.1 hs with rfl|hs
 ·exact⟨_,rfl⟩
 ·rcases List.mem_cons.1 hs with rfl|hs
  ·exact⟨_,rfl⟩
  ·cases hs
theorem Reads.PD {S:Nat->Prop}{w w':World}{v:Value}{x:List St}(h:Reads w 2 v (gX x))(hk:Kept S w w')(hS: ∀b,S b-> ∀j s,w.cell? ⟨b,j,none⟩≠some (.string s)):Reads w' 2 v (gX x):=by
 obtain⟨a,n,cap,rfl,h1,h2,h3,h4⟩:=h
 refine⟨a,n,cap,rfl,h1,h2,h3,?_⟩
 rcases h4 with h4|⟨b,off,rfl,h4⟩
 ·exact .inl h4
 ·refine .inr ⟨b,off,rfl,fun i y hy=>?_⟩
  obtain⟨s,rfl⟩:=XE hy
  exact hk.cell (fun hb=>hS b hb _ s (h4 i _ hy)) (h4 i _ hy)
theorem aaN {w:World}{B E:Nat}{a:Value}(h:w.heap[B]?=some (.cells #[a] E (0,0)))(ha: ∀s,a≠ .string s)(j:Nat)(s:ByteArray):w.cell? ⟨B,j,none⟩≠some (.string s):=fun e=>by
 have:(#[a]:Array Value)[j]?=some (.string s):=by simpa[World.cell?,h]using e
 match j with
 |0=>simp at this;exact ha s this
 |j+1=>simp at this
theorem aaM {w:World}{B E:Nat}{a b:Value}(h:w.heap[B]?=some (.cells #[a,b] E (0,0)))(ha: ∀s,a≠ .string s)(hb: ∀s,b≠ .string s)(j:Nat)(s:ByteArray):w.cell? ⟨B,j,none⟩≠some (.string s):=fun e=>by
 have:(#[a,b]:Array Value)[j]?=some (.string s):=by simpa[World.cell?,h]using e
 match j with
 |0=>simp at this;exact ha s this
 |1=>simp at this;exact hb s this
 |j+2=>simp at this
theorem bZ.r64 {w:World}{a:Array Value}{j:Jb}(h:bZ w a j):aI j.par:=by
 obtain⟨_,_,_,h⟩:=h
 exact h
theorem QH {s:Now}{k:Jb}{c er:Int}{l:List Turn}(h:jA s.1 k (aS s.1.nodes s.2)= .error er):cu c ((c,k)::l) s= .error er:=by
 unfold cu qO
 rw[if_pos rfl,h]
theorem QG {s:Now}{k:Jb}{c er:Int}{l:List Turn}{x:List St}(h:jA s.1 k (aS s.1.nodes s.2)= .ok x)(h2:bJ k x= .error er):cu c ((c,k)::l) s= .error er:=by
 unfold cu qO
 rw[if_pos rfl,h]
 simp only[h2]
theorem Xv {s:Now}{k:Jb}{c:Int}{l:List Turn}{x:List St}{Us:Tabs}(h:jA s.1 k (aS s.1.nodes s.2)= .ok x)(h2:bJ k x= .ok Us):cu c ((c,k)::l) s=cu c l (k,Us):=by
 conv=>lhs;unfold cu qO
 rw[if_pos rfl,h]
 simp only[h2]
theorem zO {w:World}{a:Option Addr}{n cap:Nat}(hn:n<=cap)(h1:1<=n):
 (Instr.slice 76 (.slice a n cap) (some (.int .i64 1)) none none).run Tryz.prog w= .ok (.slice (if cap=1 then a else a.map (·.add 3)) (n-1) (cap-1)) w:=by
 have hb:(Instr.sliceBounds true n cap (some (.int .i64 1)) none none).run Tryz.prog w= .ok (1,n,cap) w:=by
  simp[Instr.sliceBounds,Instr.sliceBound,asIntOf]
  omega
 have hs: ∀w:World,(sizeOf 75).run Tryz.prog w= .ok 3 w:=fun w=>by kernel_rfl
 simp only[Instr.slice,Sem.run_bind,run_underlying Tryz.underlying76,Result.andThen_ok,hb,hs,Sem.run_pure]
theorem sJ {W0 w w':World}{Be Bt Bj Bd:Nat}(h4:Four W0.heap.size Be Bt Bj Bd)(h:Kept none' W0 w)(hk:Kept (four Be Bt Bj Bd) w w'):Kept none' W0 w':=
 h.new hk (fun i hi hs=>by
  have:=h4.ge;have:=h4.gt;have:=h4.gj;have:=h4.gd
  rcases hs with hs|hs|hs|hs<;>omega)
theorem Lc (at_:Int)(Wj W0:World)(Be Bt Bj Bd:Nat)(F:Nat->Prop)(ts:List Turn)(s:Now)(tv nv:Value)(bi mi:Nat)(pm:Nat->Nat×Nat)(w:World)(h4:Four W0.heap.size Be Bt Bj Bd)(hF: ∀q,four Be Bt Bj Bd q->F q)(hFl: ∀q,F q->q<w.heap.size)
 (h:rP Wj W0 w Be Bt Bj Bd F ts s tv nv bi mi pm):
 Calls Tryz.prog 110 #[.int .i64 at_, .pointer (some ⟨Be,0,none⟩), .pointer (some ⟨Bt,0,none⟩), .pointer (some ⟨Bj,0,none⟩), .pointer (some ⟨Bd,0,none⟩)] w (Hy Wj W0 w Be Bt Bj Bd F (cu at_ ts s)):=by
 obtain⟨R,hR⟩: ∃R,cu at_ ts s=R:=⟨_,rfl⟩
 have H:=Lib.hid (And.intro h4 (And.intro hF (And.intro hFl (And.intro h hR))))
 rw[hR]
 clear h4 hF hFl h hR
 go_enter Tryz.func110,Tryz.ntmps110
 go_wp2_with fail
 go_loopg [] (ts.length+1) (fun g wr=>Hz Wj W0 w Be Bt Bj Bd F at_ R g wr)
 case atStart=>exact⟨Kept.refl _ _, .inl ⟨ts,s,tv,nv,bi,mi,pm,H.out.2.2.2.2,by omega,H.out.2.2.2.1⟩⟩
 case round=>
  obtain⟨hkp,hst⟩:=hrel
  rcases hst with⟨ts,s,tv,nv,bi,mi,pm,hR,hg,hst⟩|⟨er,hR,hne,he,hk0⟩
  ·have e0:=cells_at hst.e (j:=0) (v:= .int .i64 0) rfl
   have t0:=cells_at hst.t (j:=0) (v:=tv) rfl
   cases ts with
   |nil=>
    obtain⟨a,cap,hv,-⟩:=hst.tu
    have hv:tv= .slice a 0 cap:=hv
    subst hv
    have Z:=Lib.hid (show Hy Wj W0 w Be Bt Bj Bd F R (.returned (.tuple #[])) wr from⟨rfl,hkp, .inl ⟨[],s,_,nv,bi,mi,pm,hR.symm,hst⟩⟩)
    clear hkp hst hR hg
    go_wp2_with fail
    go_end0
    exact Z.out
   |cons t l=>
    obtain⟨tc,tj⟩:=t
    obtain⟨b,off,cap,va,hv,hc1,hc2,c0,c1,c2,hjt,htl⟩:=hst.tu.cons
    have c0:Wj.cell? ⟨b,off,none⟩=some (.int .i64 tc):=c0
    have c1:Wj.cell? ⟨b,off+1,none⟩=some (.int .i64 tj.par):=c1
    have hjt:bZ Wj #[.int .i64 tj.par,va] tj:=hjt
    subst hv
    unfold maxLen at hc2
    have kw:=hst.kj.trans hst.kept
    have y0:=kw.cell (fun h=>h) c0
    by_cases heq:tc=at_
    ·subst heq
     obtain⟨na,bW,hva,-⟩:=hjt.lM.at
     obtain⟨nb,eY,hvb,-⟩:=hst.jb.lM.at
     subst hva hvb
     have HC:=Lib.hid (And.intro c1 (And.intro c2 (And.intro hjt htl)))
     have hN:dP Wj (.slice nb s.1.nodes.length eY) s.1.nodes:=hst.jb.lM
     have hsm:=xg hst.ok
     have cs:=yH s.1 bi mi s.2 pm wr.drew ⟨⟨_,hst.i,(hN.pure kw).pure (Kept.refl none' wr).drew⟩,hst.jb.r64,hst.tabs.at_.pure (Kept.refl none' wr).drew⟩ hst.tk.len (by omega)
     have G:=Lib.hid (And.intro hkp (And.intro hst (And.intro hR (And.intro hg (And.intro hN (And.intro hsm hc1))))))
     have hcell1:=cells_at hst.j (j:=0) (v:= .int .i64 s.1.par) rfl
     have hcell2:=cells_at hst.j (j:=1) (v:= .slice nb s.1.nodes.length eY) rfl
     have VL:=cells_at hst.d (j:=0) (v:= .pointer (some ⟨bi,0,none⟩)) rfl
     have y1:=kw.cell (fun h=>h) c1
     have y2:=kw.cell (fun h=>h) c2
     clear hkp hst hR hg hN hsm c0 c1 c2 hjt htl kw
     go_wp2_with fail
     refine ak [0,1,2,3,4,5,6,7,8,9,10,11,12] (fun W=>Kept none' wr W) (by kernel_rfl) (by kernel_rfl) rfl (Kept.refl _ _).drew ?_
     simp only[List.map_cons,List.map_nil,List.getElem?_toArray,List.getElem?_cons_zero,List.getElem?_cons_succ,Option.getD_some]
     iterate 6 (apply aj rfl rfl;(intro W hW;have q1:=hW.cell (fun h=>h) hcell1;have q2:=hW.cell (fun h=>h) hcell2;have q3:=hW.cell (fun h=>h) VL;have q4:=hW.cell (fun h=>h) t0;have q5:=hW.cell (fun h=>h) y1;have q6:=hW.cell (fun h=>h) y2;go_simp;rfl);go_frame)
     clear hcell1 hcell2 VL y0 y1 y2 e0 t0
     apply aA rfl rfl
     intro K hK
     go_wp2_with fail
     (with_reducible refine cs.mono ?_)
     clear cs
     rintro e w2 ⟨v2,rfl,hv2,-,k2⟩
     obtain⟨sa,sc,rfl,-⟩:=hv2.yI
     have k2':=k2.aQ
     have Ag:=(G.out.2.1.kj.trans G.out.2.1.kept).trans k2'
     have cc:=WS s.1 tj _ _ _ (aS s.1.nodes s.2) w2 (G.out.2.1.jb.pure Ag) (HC.out.2.2.1.pure Ag) hv2 (wP G.out.2.1.tk G.out.2.2.2.2.1.uids) (Nat.le_trans (UJ _ _) (by have:=G.out.2.2.2.2.2.1;omega))
     go_wp2_with fail
     refine hK _ _ (fun _=>k2') ?_
     clear hK
     apply aA rfl rfl
     intro K hK
     have K2:=Lib.hid k2'
     clear hv2 k2 k2' Ag
     go_wp2_with fail
     (with_reducible refine cc.mono ?_)
     clear cc
     intro e w3 hq
     unfold AX at hq
     have dT:=zO (a:=some ⟨b,off,none⟩) (n:=l.length+1) (cap:=cap) (w:=w3) (by omega) (by omega)
     cases hc:jA s.1 tj (aS s.1.nodes s.2)with
     |error er=>
      rw[hc]at hq
      obtain⟨rfl,hne,k3⟩:=hq
      have k23:=K2.out.trans k3
      have sE:=k23.heap G.out.2.1.e (fun h=>h)
      have fE:=free_at sE 0
      have cE:=cells_at sE (j:=0) (v:= .int .i64 0) rfl
      have tq:=Lib.hid (And.intro k23 hc)
      clear k3 k23 hc dT sE
      go_wp2_with fail
      refine hK _ _ (fun _=>tq.out.1) ?_
      clear hK
      iterate 4 (apply aj rfl rfl;(intro W hW;go_simp;rfl);go_frame)
      apply aA rfl rfl
      intro K2 hK2
      go_wp2_with fail
      refine hK2 _ _ (fun h=>absurd rfl h) (iK (by kernel_rfl) ?_)
      clear hK2 cE fE
      have sE:=tq.out.1.heap G.out.2.1.e (fun h=>h)
      have gE:(w3.setCell ⟨Be,0,none⟩ (.int .i64 er)).heap[Be]?=some (.cells #[.int .i64 er] 28 (0,0)):=by have:=aK sE 0 (.int .i64 er);simpa using this
      have kE:Kept (one Be) w3 (w3.setCell ⟨Be,0,none⟩ (.int .i64 er)):=(Kept.refl (one Be) _).setCell (p:=⟨Be,0,none⟩) (.inl rfl) _
      obtain⟨W4,eX⟩: ∃W4,w3.setCell ⟨Be,0,none⟩ (.int .i64 er)=W4:=⟨_,rfl⟩
      rw[eX]at gE kE⊢
      clear eX sE
      have gT:=kE.heap (tq.out.1.heap G.out.2.1.t (fun h=>h)) (fun h:Bt=Be=>H.out.1.et h.symm)
      have cE:=cells_at gE (j:=0) (v:= .int .i64 er) rfl
      have cT:=cells_at gT (j:=0) (v:= .slice (some ⟨b,off,none⟩) (l.length+1) cap) rfl
      have fT:=free_at gT 0
      have dT:=zO (a:=some ⟨b,off,none⟩) (n:=l.length+1) (cap:=cap) (w:=W4) (by have:=G.out.2.2.2.2.2.2;omega) (by omega)
      have k4:Kept (four Be Bt Bj Bd) wr W4:=tq.out.1.pure.trans (kE.mono (fun q _ (h:q=Be)=> .inl h))
      have Z:=Lib.hid (show∀p c,Hz Wj W0 w Be Bt Bj Bd F tc R l.length (W4.setCell ⟨Bt,0,none⟩ (.slice p l.length c))from fun p c=>by
       have k5:=k4.setCell (p:=⟨Bt,0,none⟩) (.inl (.inr (.inl rfl))) (.slice p l.length c)
       refine⟨G.out.1.trans k5, .inr ⟨er,by rw[<-G.out.2.2.1,QH tq.out.2],hne,?_,sJ H.out.1 G.out.2.1.kept k5⟩⟩
       exact((Kept.refl (one Bt) W4).setCell (p:=⟨Bt,0,none⟩) (.inl rfl) _).heap gE (fun h:Be=Bt=>H.out.1.et h))
      have HG:=Lib.hid G.out.2.2.2.1
      clear gE kE gT k4
      go_wp2_with fail
      all_goals
       go_roundg l.length
       case rel=>exact Z.out _ _
       case measure=>have:=HG.out;simp at this;omega
     |ok x=>
      rw[hc]at hq
      obtain⟨v3,rfl,hv3,k3⟩:=hq
      obtain⟨xa,xc,rfl,-⟩:=hv3.yI
      have k23:=K2.out.trans k3
      have sE:=k23.heap G.out.2.1.e (fun h=>h)
      have fE:=free_at sE 0
      have cE:=cells_at sE (j:=0) (v:= .int .i64 0) rfl
      have tq:=Lib.hid (And.intro k23 (And.intro hc hv3))
      clear k3 k23 hc dT sE hv3
      go_wp2_with fail
      refine hK _ _ (fun _=>tq.out.1) ?_
      clear hK
      iterate 4 (apply aj rfl rfl;(intro W hW;go_simp;rfl);go_frame)
      apply aA rfl rfl
      intro K2 hK2
      go_wp2_with fail
      refine hK2 _ _ (fun h=>absurd rfl h) (iK (by kernel_rfl) ?_)
      clear hK2 cE fE
      have sE:=tq.out.1.heap G.out.2.1.e (fun h=>h)
      have gE:(w3.setCell ⟨Be,0,none⟩ (.int .i64 0)).heap[Be]?=some (.cells #[.int .i64 0] 28 (0,0)):=by have:=aK sE 0 (.int .i64 0);simpa using this
      have kE:Kept (one Be) w3 (w3.setCell ⟨Be,0,none⟩ (.int .i64 0)):=(Kept.refl (one Be) _).setCell (p:=⟨Be,0,none⟩) (.inl rfl) _
      obtain⟨W4,eX⟩: ∃W4,w3.setCell ⟨Be,0,none⟩ (.int .i64 0)=W4:=⟨_,rfl⟩
      rw[eX]at gE kE⊢
      clear eX sE
      have gT:=kE.heap (tq.out.1.heap G.out.2.1.t (fun h=>h)) (fun h:Bt=Be=>H.out.1.et h.symm)
      have gJ:=kE.heap (tq.out.1.heap G.out.2.1.j (fun h=>h)) (fun h:Bj=Be=>H.out.1.ej h.symm)
      have gD:=kE.heap (tq.out.1.heap G.out.2.1.d (fun h=>h)) (fun h:Bd=Be=>H.out.1.ed h.symm)
      have cE:=cells_at gE (j:=0) (v:= .int .i64 0) rfl
      have cT:=cells_at gT (j:=0) (v:= .slice (some ⟨b,off,none⟩) (l.length+1) cap) rfl
      have cJ0:=cells_at gJ (j:=0) (v:= .int .i64 s.1.par) rfl
      have cJ1:=cells_at gJ (j:=1) (v:= .slice nb s.1.nodes.length eY) rfl
      have fJ0:=free_at gJ 0
      have fJ1:=free_at gJ 1
      have k4:Kept (four Be Bt Bj Bd) wr W4:=tq.out.1.pure.trans (kE.mono (fun q _ (h:q=Be)=> .inl h))
      have MN:=sJ H.out.1 G.out.2.1.kept k4
      have y1:=(G.out.2.1.kj.trans MN).cell (fun h=>h) HC.out.1
      have y2:=(G.out.2.1.kj.trans MN).cell (fun h=>h) HC.out.2.1
      have hv4:=tq.out.2.2.PD kE (fun q (hq:q=Be)=>by subst hq;exact aaN (tq.out.1.heap G.out.2.1.e (fun h=>h)) (fun s h=>by cases h))
      have A:=Lib.hid (And.intro gE (And.intro gT (And.intro gJ (And.intro gD (And.intro k4 (And.intro MN hv4))))))
      clear gE kE gT gJ gD k4 MN hv4
      go_wp2_with fail
      have gJ5:((W4.setCell ⟨Bj,0,none⟩ (.int .i64 tj.par)).setCell ⟨Bj,1,none⟩ (.slice na tj.nodes.length bW)).heap[Bj]?=some (.cells #[.int .i64 tj.par, .slice na tj.nodes.length bW] 24 (0,0)):=by
       have:=aK (aK A.out.2.2.1 0 (.int .i64 tj.par)) 1 (.slice na tj.nodes.length bW);simpa using this
      have MO:Kept (one Bj) W4 ((W4.setCell ⟨Bj,0,none⟩ (.int .i64 tj.par)).setCell ⟨Bj,1,none⟩ (.slice na tj.nodes.length bW)):=((Kept.refl (one Bj) _).setCell (p:=⟨Bj,0,none⟩) (.inl rfl) _).setCell (p:=⟨Bj,1,none⟩) (.inl rfl) _
      obtain⟨W5,nZ⟩: ∃W5,(W4.setCell ⟨Bj,0,none⟩ (.int .i64 tj.par)).setCell ⟨Bj,1,none⟩ (.slice na tj.nodes.length bW)=W5:=⟨_,rfl⟩
      rw[nZ]at gJ5 MO⊢
      clear nZ cE cT cJ0 cJ1 fJ0 fJ1 y1 y2
      have gE5:=MO.heap A.out.1 (fun h:Be=Bj=>H.out.1.ej h)
      have gT5:=MO.heap A.out.2.1 (fun h:Bt=Bj=>H.out.1.tj h)
      have gD5:=MO.heap A.out.2.2.2.1 (fun h:Bd=Bj=>H.out.1.jd h.symm)
      have k5:Kept (four Be Bt Bj Bd) wr W5:=A.out.2.2.2.2.1.trans (MO.mono (fun q _ (h:q=Bj)=> .inr (.inr (.inl h))))
      have kW5:=sJ H.out.1 G.out.2.1.kept k5
      have hv5:=A.out.2.2.2.2.2.2.PD MO (fun q (hq:q=Bj)=>by subst hq;exact aaM A.out.2.2.1 (fun s h=>by cases h) (fun s h=>by cases h))
      obtain⟨_,hTs,hxe⟩:=(Y7 tq.out.2.1).2
      have hxs: ∀y∈x,y.1.size<=maxLen/\y.2.size<=maxLen:=by rw[hxe];exact wP (xX ‹bJ tj _= .ok _›).2 HC.out.2.2.1.lM.uids
      have cl:=vZ tj (.slice na tj.nodes.length bW) _ x W5 (HC.out.2.2.1.pure (G.out.2.1.kj.trans kW5)) hv5 hxs
      have A5:=Lib.hid (And.intro gE5 (And.intro gT5 (And.intro gJ5 (And.intro gD5 (And.intro k5 kW5)))))
      clear gE5 gT5 gJ5 gD5 k5 kW5 hv5 MO hTs hxe hxs
      (with_reducible refine cl.mono ?_)
      clear cl
      intro e w6 hq
      unfold fA at hq
      have hsz:w.heap.size<=W5.heap.size:=(G.out.1.trans A5.out.2.2.2.2.1).size
      have Qj: ∀q,F q->q<W5.heap.size:=fun q hq=>Nat.lt_of_lt_of_le (H.out.2.2.1 q hq) hsz
      have n1: ¬Be=Bt:=H.out.1.et
      have n2: ¬Bt=Be:=fun h=>H.out.1.et h.symm
      have n3: ¬Be=Bd:=H.out.1.ed
      have n4: ¬Bd=Be:=fun h=>H.out.1.ed h.symm
      have n5: ¬Bt=Bd:=H.out.1.td
      have n6: ¬Bd=Bt:=fun h=>H.out.1.td h.symm
      have dT:=fun W=>zO (a:=some ⟨b,off,none⟩) (n:=l.length+1) (cap:=cap) (w:=W) (by have:=G.out.2.2.2.2.2.2;omega) (by omega)
      cases hl:bJ tj x with
      |error er=>
       rw[hl]at hq
       obtain⟨rfl,hne,k6⟩:=hq
       have Ez:=k6.heap A5.out.1 (fun h=>h)
       have GI:=k6.heap A5.out.2.1 (fun h=>h)
       have GK:=k6.heap A5.out.2.2.2.1 (fun h=>h)
       have cE:=cells_at Ez (j:=0) (v:= .int .i64 0) rfl
       have cT:=cells_at GI (j:=0) (v:= .slice (some ⟨b,off,none⟩) (l.length+1) cap) rfl
       have cD:=cells_at GK (j:=0) (v:= .pointer (some ⟨bi,0,none⟩)) rfl
       have fE:=free_at Ez 0
       have fT:=free_at GI 0
       have fD:=free_at GK 0
       have Z:=Lib.hid (show∀p c,Hz Wj W0 w Be Bt Bj Bd F tc R l.length (((w6.setCell ⟨Bd,0,none⟩ (.pointer none)).setCell ⟨Be,0,none⟩ (.int .i64 er)).setCell ⟨Bt,0,none⟩ (.slice p l.length c))from fun p c=>by
        have k7:=(((A5.out.2.2.2.2.1.trans k6.pure).setCell (p:=⟨Bd,0,none⟩) (.inl (.inr (.inr (.inr rfl)))) (.pointer none)).setCell (p:=⟨Be,0,none⟩) (.inl (.inl rfl)) (.int .i64 er)).setCell (p:=⟨Bt,0,none⟩) (.inl (.inr (.inl rfl))) (.slice p l.length c)
        refine⟨G.out.1.trans k7, .inr ⟨er,by rw[<-G.out.2.2.1,QG tq.out.2.1 hl],hne,?_,sJ H.out.1 G.out.2.1.kept k7⟩⟩
        have e1:=((Kept.refl (one Bd) w6).setCell (p:=⟨Bd,0,none⟩) (.inl rfl) (.pointer none)).heap Ez n3
        have e2:((w6.setCell ⟨Bd,0,none⟩ (.pointer none)).setCell ⟨Be,0,none⟩ (.int .i64 er)).heap[Be]?=some (.cells #[.int .i64 er] 28 (0,0)):=by have:=aK e1 0 (.int .i64 er);simpa using this
        exact((Kept.refl (one Bt) _).setCell (p:=⟨Bt,0,none⟩) (.inl rfl) _).heap e2 n1)
       have HG:=Lib.hid G.out.2.2.2.1
       clear Ez GI GK k6 hl Qj hsz
       go_wp2_with fail
       all_goals
        go_roundg l.length
        case rel=>exact Z.out _ _
        case measure=>have:=HG.out;simp at this;omega
      |ok Us=>
       rw[hl]at hq
       obtain⟨bj,mj,pj,rfl,hob,hbi,hnn,hpar,Qc,htx,hnt,k6⟩:=hq
       obtain⟨hok,hT0⟩:=xX hl
       have Ez:=k6.heap A5.out.1 (fun h=>h)
       have GI:=k6.heap A5.out.2.1 (fun h=>h)
       have gJ6:=k6.heap A5.out.2.2.1 (fun h=>h)
       have GK:=k6.heap A5.out.2.2.2.1 (fun h=>h)
       have cE:=cells_at Ez (j:=0) (v:= .int .i64 0) rfl
       have cT:=cells_at GI (j:=0) (v:= .slice (some ⟨b,off,none⟩) (l.length+1) cap) rfl
       have cD:=cells_at GK (j:=0) (v:= .pointer (some ⟨bi,0,none⟩)) rfl
       have fE:=free_at Ez 0
       have fT:=free_at GI 0
       have fD:=free_at GK 0
       have Z:=Lib.hid (show∀p c,dB Wj (.slice p l.length c) l->Hz Wj W0 w Be Bt Bj Bd F tc R l.length (((w6.setCell ⟨Bd,0,none⟩ (.pointer (some ⟨bj,0,none⟩))).setCell ⟨Be,0,none⟩ (.int .i64 0)).setCell ⟨Bt,0,none⟩ (.slice p l.length c))from fun p c htu=>by
        have k67:Kept (four Be Bt Bj Bd) w6 (((w6.setCell ⟨Bd,0,none⟩ (.pointer (some ⟨bj,0,none⟩))).setCell ⟨Be,0,none⟩ (.int .i64 0)).setCell ⟨Bt,0,none⟩ (.slice p l.length c)):=(((Kept.refl (four Be Bt Bj Bd) w6).setCell (p:=⟨Bd,0,none⟩) (.inl (.inr (.inr (.inr rfl)))) _).setCell (p:=⟨Be,0,none⟩) (.inl (.inl rfl)) _).setCell (p:=⟨Bt,0,none⟩) (.inl (.inr (.inl rfl))) _
        have k7:=(A5.out.2.2.2.2.1.trans k6.pure).trans k67
        have n7: ¬Bj=Bd:=H.out.1.jd
        have n8: ¬Bj=Be:=fun h=>H.out.1.ej h.symm
        have n9: ¬Bj=Bt:=fun h=>H.out.1.tj h.symm
        have hlt: ∀q,four Be Bt Bj Bd q->q<W5.heap.size:=fun q hq=>Qj q (H.out.2.1 q hq)
        have sD: ∀{q:Nat}{o:Obj},w6.heap[q]?=some o-> ¬q=Bd->(w6.setCell ⟨Bd,0,none⟩ (.pointer (some ⟨bj,0,none⟩))).heap[q]?=some o:=fun h1 h2=>((Kept.refl (one Bd) w6).setCell (p:=⟨Bd,0,none⟩) (.inl rfl) (.pointer (some ⟨bj,0,none⟩))).heap h1 h2
        have sE: ∀{q:Nat}{o:Obj},(w6.setCell ⟨Bd,0,none⟩ (.pointer (some ⟨bj,0,none⟩))).heap[q]?=some o-> ¬q=Be->((w6.setCell ⟨Bd,0,none⟩ (.pointer (some ⟨bj,0,none⟩))).setCell ⟨Be,0,none⟩ (.int .i64 0)).heap[q]?=some o:=fun h1 h2=>((Kept.refl (one Be) _).setCell (p:=⟨Be,0,none⟩) (.inl rfl) _).heap h1 h2
        have sT: ∀{q:Nat}{o:Obj},((w6.setCell ⟨Bd,0,none⟩ (.pointer (some ⟨bj,0,none⟩))).setCell ⟨Be,0,none⟩ (.int .i64 0)).heap[q]?=some o-> ¬q=Bt->(((w6.setCell ⟨Bd,0,none⟩ (.pointer (some ⟨bj,0,none⟩))).setCell ⟨Be,0,none⟩ (.int .i64 0)).setCell ⟨Bt,0,none⟩ (.slice p l.length c)).heap[q]?=some o:=fun h1 h2=>((Kept.refl (one Bt) _).setCell (p:=⟨Bt,0,none⟩) (.inl rfl) _).heap h1 h2
        have eD:(w6.setCell ⟨Bd,0,none⟩ (.pointer (some ⟨bj,0,none⟩))).heap[Bd]?=some (.cells #[.pointer (some ⟨bj,0,none⟩)] 35 (0,0)):=by have:=aK GK 0 (.pointer (some ⟨bj,0,none⟩));simpa using this
        have eE:((w6.setCell ⟨Bd,0,none⟩ (.pointer (some ⟨bj,0,none⟩))).setCell ⟨Be,0,none⟩ (.int .i64 0)).heap[Be]?=some (.cells #[.int .i64 0] 28 (0,0)):=by have:=aK (sD Ez n3) 0 (.int .i64 0);simpa using this
        have eT:(((w6.setCell ⟨Bd,0,none⟩ (.pointer (some ⟨bj,0,none⟩))).setCell ⟨Be,0,none⟩ (.int .i64 0)).setCell ⟨Bt,0,none⟩ (.slice p l.length c)).heap[Bt]?=some (.cells #[.slice p l.length c] 76 (0,0)):=by have:=aK (sE (sD GI n5) n2) 0 (.slice p l.length c);simpa using this
        have YH:W0.heap.size<=W5.heap.size:=A5.out.2.2.2.2.2.size
        refine⟨G.out.1.trans k7, .inl ⟨l,(tj,Us),_,_,bj,mj,pj,by rw[<-G.out.2.2.1,Xv tq.out.2.1 hl],Nat.le_refl _,⟨G.out.2.1.kj,sJ H.out.1 G.out.2.1.kept k7,sT eE n1,eT,sT (sE (sD gJ6 n7) n8) n9,sT (sE eD n4) n6,k67.heap hob (fun h=>by have:=hlt _ h;omega),htu,HC.out.2.2.1,hok,hT0,?_,fun h=>by have:=Qj _ h;omega,fun h=>by have:=Qj _ h;omega,Nat.le_trans YH hbi,Nat.le_trans YH Qc,fun q T hq=>Nat.le_trans YH (hnt q T hq)⟩⟩⟩
        exact(htx.Ef (fun q hq (hu:W5.heap.size<=q)=>by have:=hlt q hq;omega) (fun h=>by have:=hlt _ h;omega) k67).mono (fun q (hu:W5.heap.size<=q) _ hF=>by have:=Qj q hF;omega))
       have HG:=Lib.hid (And.intro G.out.2.2.2.1 (And.intro hc2 G.out.2.2.2.2.2.2))
       clear Ez GI gJ6 GK k6 hl Qj hsz hob hbi hnn hpar Qc htx hnt hok hT0 hc2
       by_cases hc1:cap=1
       ·subst hc1
        have h0:l=[]:=List.eq_nil_of_length_eq_zero (by have:=HG.out.2.2;omega)
        have H0:=Lib.hid h0
        have h0l:l.length=0:=by rw[h0];rfl
        clear h0
        go_wp2_with fail
        go_roundg l.length
        case rel=>
         have h0:=H0.out
         subst h0
         exact Z.out (some ⟨b,off,none⟩) 0 (HC.out.2.2.2 (some ⟨b,off,none⟩) 0 (Nat.le_refl _) (by unfold maxLen;omega) (.inl rfl))
        case measure=>have:=HG.out.1;simp at this;omega
       ·have hc1':(if cap=1 then(some ⟨b,off,none⟩:Option Addr)else(some ⟨b,off,none⟩:Option Addr).map (·.add 3))=some ⟨b,off+3,none⟩:=by rw[if_neg hc1];rfl
        rw[hc1']at dT
        clear hc1'
        go_wp2_with fail
        go_roundg l.length
        case rel=>exact Z.out _ _ (HC.out.2.2.2 (some ⟨b,off+3,none⟩) (cap-1) (by have:=HG.out.2.2;omega) (by have:=HG.out.2.1;unfold maxLen;omega) (.inr rfl))
        case measure=>have:=HG.out.1;simp at this;omega
    ·have Z:=Lib.hid (show Hy Wj W0 w Be Bt Bj Bd F R (.returned (.tuple #[])) wr from⟨rfl,hkp, .inl ⟨(tc,tj)::l,s,_,nv,bi,mi,pm,by rw[<-hR];unfold cu;rw[if_neg heq],hst⟩⟩)
     clear hkp hst hR hg c0 c1 c2 hjt htl kw
     go_wp2_with fail
     go_end0
     exact Z.out
  ·have e0:=cells_at he (j:=0) (v:= .int .i64 er) rfl
   have Z:=Lib.hid (show Hy Wj W0 w Be Bt Bj Bd F R (.returned (.tuple #[])) wr from⟨rfl,hkp, .inr ⟨er,hR,hne,he,hk0⟩⟩)
   clear hkp hR he hk0
   go_wp2_with fail
   go_end0
   exact Z.out
end
section
open Go Go.RowKit
theorem U6 {w:World}{base B E:Nat}(h:w.heap[B]?=some (.cells #[.slice none 0 0, .slice none 0 0] E (0,0))):bY w base B E [.slice none 0 0, .slice none 0 0] [[],[]]:=by
 have hall: ∀(i:Nat)(v:Value),([.slice none 0 0, .slice none 0 0]:List Value)[i]?=some v->v= .slice none 0 0:=fun i v hv=>by
  have:=List.mem_of_getElem? hv
  simpa using this
 have hal2: ∀(i:Nat)(o:List dV),([[],[]]:List (List dV))[i]?=some o->o=[]:=fun i o ho=>by
  have:=List.mem_of_getElem? ho
  simpa using this
 refine⟨h,rfl,fun i v o hv ho=>?_,fun i k v u q _ hv _ hq=>?_,fun i v q hv hq=>?_⟩
 ·rw[hall i v hv,hal2 i o ho];exact World.ownsRow_nil _ _ _ _
 ·rw[hall i v hv]at hq;cases hq
 ·rw[hall i v hv]at hq;cases hq
def eF (L:List Rec):List (List dV):=[jy 0 L,jy 1 L]
theorem Ri:eF []=[[],[]]:=rfl
theorem DU (L:List Rec)(k:Int):(eF L)[partOf k]?=some (jy (partOf k) L):=by
 have:=rZ k
 unfold eF
 rcases(show partOf k=0\/partOf k=1 by omega)with h|h<;>rw[h]<;>rfl
theorem Ej (p:Nat)(r:Rec):jy p [r]=if partOf r.key=p then[(r.key,r.val)]else[]:=by
 unfold jy
 by_cases h:partOf r.key=p<;>simp[h]
theorem BM (L:List Rec)(r:Rec):(eF L).set (partOf r.key) (jy (partOf r.key) L++[(r.key,r.val)])=eF (L++[r]):=by
 have:=rZ r.key
 unfold eF
 rw[o8,o8,Ej,Ej]
 rcases(show partOf r.key=0\/partOf r.key=1 by omega)with h|h<;>rw[h]<;>simp
end
section
open Go Go.RowKit
attribute [local irreducible] bU dL H2.cZ
theorem fA.grow {w0 w w':World}{v:Value}{j:Jb}{l:List St}{e:Ending}(h:fA w v j l e w')(hk:Kept none' w0 w):fA w0 v j l e w':=by
 unfold fA at h⊢
 split at h
 ·obtain⟨b,m,pm,h1,h2,h3,h4,h5,h6,h7,h8,h9⟩:=h
  exact⟨b,m,pm,h1,h2,Nat.le_trans hk.size h3,h4,h5,Nat.le_trans hk.size h6,h7.mono (fun q hq _=>Nat.le_trans hk.size hq),fun q T hT=>Nat.le_trans hk.size (h8 q T hT),hk.trans h9⟩
 ·exact⟨h.1,h.2.1,hk.trans h.2.2⟩
theorem fA.tuple {w w':World}{v:Value}{j:Jb}{l:List St}{e:Ending}(h:fA w v j l e w'): ∃p er,e= .returned (.tuple #[.pointer p, .int .i64 er]):=by
 unfold fA at h
 split at h
 ·obtain⟨b,m,pm,h1,_⟩:=h
  exact⟨_,_,h1⟩
 ·exact⟨_,_,h.1⟩
theorem X5 (j:Jb)(v:Value)(w:World)(h:bZ w #[.int .i64 j.par,v] j):Calls Tryz.prog 19 #[.agg #[.int .i64 j.par,v]] w (fA w v j []):=by
 obtain⟨na,cap,hv,-⟩:=h.lM.at
 subst hv
 have kA:Kept none' w (w.alloc (.cells #[.int .i64 j.par, .slice na j.nodes.length cap] 24)):=(Kept.refl _ _).alloc _
 have cl:=vZ j (.slice na j.nodes.length cap) (.slice none 0 0) [] _ (h.pure kA) (Reads.nil _ 2) (fun s hs=>by cases hs)
 have KA:=Lib.hid kA
 clear kA h
 go_enter Tryz.func19,Tryz.ntmps19
 go_wp2_with fail
 (with_reducible refine cl.mono ?_)
 clear cl
 intro e w2 hq
 obtain⟨p,er,rfl⟩:=hq.tuple
 have F:=Lib.hid (hq.grow KA.out)
 clear hq
 go_wp2_with fail
 go_ret2
 exact F.out
theorem afo (w:World):(Instr.makeSlice 71 (.int .i64 2) (.int .i64 2)).run Tryz.prog w= .ok (.slice (some ⟨w.heap.size,0,none⟩) 2 2) (w.alloc (.cells #[.slice none 0 0, .slice none 0 0] 78)):=by
 apply Eq.symm;apply Eq.symm;kernel_rfl
theorem vN (at_:Int)(Be Bt Bj Bd:Nat)(er:Int)(w:World)(he:w.heap[Be]?=some (.cells #[.int .i64 er] 28 (0,0)))(hne:er≠0):
 Calls Tryz.prog 110 #[.int .i64 at_, .pointer (some ⟨Be,0,none⟩), .pointer (some ⟨Bt,0,none⟩), .pointer (some ⟨Bj,0,none⟩), .pointer (some ⟨Bd,0,none⟩)] w fun e w'=>e= .returned (.tuple #[])/\Kept none' w w':=by
 have e0:=cells_at he (j:=0) (v:= .int .i64 er) rfl
 clear he
 go_enter Tryz.func110,Tryz.ntmps110
 go_wp2_with fail
 go_loopg [] 0 (fun g wr=>wr=w)
 case atStart=>rfl
 case round=>
  subst hrel
  go_wp2_with fail
  go_end0
  exact⟨rfl,Kept.refl _ _⟩
end
section
open Go Go.RowKit
def xw (n8 Be Bt Bj Bd B:Nat)(V:List Value):Nat->Prop:=fun q=>(four Be Bt Bj Bd q\/q=n8)\/bP B V q
structure lJ (wj w wr:World)(n8 Be Bt Bj Bd B:Nat)(V:List Value)(ts:List Turn)(s:Now)(o:List Rec)(tv nv:Value)(bi mi:Nat)(pm:Nat->Nat×Nat):Prop where
 st:rP wj w wr Be Bt Bj Bd (xw n8 Be Bt Bj Bd B V) ts s tv nv bi mi pm
 out:bY wr w.heap.size B 78 V (eF o)
 res:wr.heap[n8]?=some (.cells #[.int .i64 0, .slice none 0 0] 24 (0,0))
theorem rP.Ql {Wj W0 w:World}{Be Bt Bj Bd:Nat}{F:Nat->Prop}{ts:List Turn}{s:Now}{tv nv:Value}{bi mi:Nat}{pm:Nat->Nat×Nat}(h:rP Wj W0 w Be Bt Bj Bd F ts s tv nv bi mi pm){q:Nat}(hq:four Be Bt Bj Bd q): ∃c T f,w.heap[q]?=some (.cells c T f)/\(T=28\/T=76\/T=24\/T=35):=by
 rcases hq with rfl|rfl|rfl|rfl
 ·exact⟨_,_,_,h.e, .inl rfl⟩
 ·exact⟨_,_,_,h.t, .inr (.inl rfl)⟩
 ·exact⟨_,_,_,h.j, .inr (.inr (.inl rfl))⟩
 ·exact⟨_,_,_,h.d, .inr (.inr (.inr rfl))⟩
theorem rP.Qm {Wj W0 w:World}{Be Bt Bj Bd:Nat}{F:Nat->Prop}{ts:List Turn}{s:Now}{tv nv:Value}{bi mi:Nat}{pm:Nat->Nat×Nat}(h:rP Wj W0 w Be Bt Bj Bd F ts s tv nv bi mi pm){q:Nat}(hq:four Be Bt Bj Bd q):q<w.heap.size:=by
 obtain⟨c,T,f,h1,_⟩:=h.Ql hq
 exact(Array.getElem?_eq_some_iff.1 h1).1
theorem LY {Wj W0 w:World}{Be Bt Bj Bd B base:Nat}{F:Nat->Prop}{V:List Value}{O:List (List dV)}{ts:List Turn}{s:Now}{tv nv:Value}{bi mi:Nat}{pm:Nat->Nat×Nat}(h:rP Wj W0 w Be Bt Bj Bd F ts s tv nv bi mi pm)(ho:bY w base B 78 V O){q:Nat}(hq:bP B V q): ¬four Be Bt Bj Bd q:=fun h4=>by
 obtain⟨c,T,f,h1,h2⟩:=h.Ql h4
 obtain⟨c',T',f',h3,h5⟩:=ho.ty hq
 rw[h1]at h3
 injection h3 with h3
 injection h3 with _ h3 _
 subst h3
 rcases h2 with rfl|rfl|rfl|rfl<;>rcases h5 with h5|h5<;>exact absurd h5 (by decide)
theorem Gq {w:World}{B base n T:Nat}{V:List Value}{O:List (List dV)}{c:Array Value}{f:Nat×Nat}(ho:bY w base B 78 V O)(h:w.heap[n]?=some (.cells c T f))(h1:T≠78)(h2:T≠80): ¬bP B V n:=fun hq=>by
 obtain⟨c',T',f',h3,h5⟩:=ho.ty hq
 rw[h]at h3
 injection h3 with h3
 injection h3 with _ h3 _
 subst h3
 rcases h5 with h5|h5
 ·exact h1 h5
 ·exact h2 h5
theorem lJ.lt {wj w wr:World}{n8 Be Bt Bj Bd B:Nat}{V:List Value}{ts:List Turn}{s:Now}{o:List Rec}{tv nv:Value}{bi mi:Nat}{pm:Nat->Nat×Nat}(h:lJ wj w wr n8 Be Bt Bj Bd B V ts s o tv nv bi mi pm){q:Nat}(hq:xw n8 Be Bt Bj Bd B V q):q<wr.heap.size:=
 hq.elim (fun h4=>h4.elim (fun h4=>h.st.Qm h4) (fun e=>by rw[e];exact(Array.getElem?_eq_some_iff.1 h.res).1)) (fun ho=>h.out.lt ho)
theorem lJ.pure {wj w wr w':World}{n8 Be Bt Bj Bd B:Nat}{V:List Value}{ts:List Turn}{s:Now}{o:List Rec}{tv nv:Value}{bi mi:Nat}{pm:Nat->Nat×Nat}(h:lJ wj w wr n8 Be Bt Bj Bd B V ts s o tv nv bi mi pm)(hk:Kept none' wr w'):lJ wj w w' n8 Be Bt Bj Bd B V ts s o tv nv bi mi pm:=
 ⟨⟨h.st.kj,h.st.kept.trans hk,hk.heap h.st.e (fun h=>h),hk.heap h.st.t (fun h=>h),hk.heap h.st.j (fun h=>h),hk.heap h.st.d (fun h=>h),hk.heap h.st.i (fun h=>h),h.st.tu,h.st.jb,h.st.ok,h.st.tk,h.st.tabs.pure hk,h.st.nb,h.st.nm,h.st.lb,h.st.lm,h.st.nt⟩,h.out.pure hk,hk.heap h.res (fun h=>h)⟩
theorem lJ.turned {wj w wr w':World}{n8 Be Bt Bj Bd B:Nat}{V:List Value}{ts ts':List Turn}{s s':Now}{o:List Rec}{tv nv tv' nv':Value}{bi mi bi' mi':Nat}{pm pm':Nat->Nat×Nat}(h:lJ wj w wr n8 Be Bt Bj Bd B V ts s o tv nv bi mi pm)(h8: ¬four Be Bt Bj Bd n8)
 (hk:Kept (four Be Bt Bj Bd) wr w') (hr:rP wj w w' Be Bt Bj Bd (xw n8 Be Bt Bj Bd B V) ts' s' tv' nv' bi' mi' pm'):lJ wj w w' n8 Be Bt Bj Bd B V ts' s' o tv' nv' bi' mi' pm':=
 ⟨hr,h.out.fH hk (fun q hq=>LY h.st h.out hq),hk.heap h.res h8⟩
theorem lJ.fed {wj w wr w':World}{n8 Be Bt Bj Bd B:Nat}{V:List Value}{ts:List Turn}{s:Now}{o:List Rec}{tv nv:Value}{bi mi:Nat}{pm:Nat->Nat×Nat}{T2:Tabs}(h:lJ wj w wr n8 Be Bt Bj Bd B V ts s o tv nv bi mi pm)(hk:Kept (lQ s.2 pm) wr w')
 (hx:bV w' (fun q=> ¬xw n8 Be Bt Bj Bd B V q\/wr.heap.size<=q) mi T2 pm) (hT:dF s.1.nodes T2):lJ wj w w' n8 Be Bt Bj Bd B V ts (s.1,T2) o tv nv bi mi pm:=by
 have no: ∀{q:Nat}{c:Array Value}{T:TypeId}{f:Nat×Nat},wr.heap[q]?=some (.cells c T f)-> ¬lQ s.2 pm q:=fun hc hs=>h.st.tabs.at_.uw hs _ _ _ hc
 exact⟨⟨h.st.kj,h.st.kept.maps h.st.nt hk,hk.heap h.st.e (no h.st.e),hk.heap h.st.t (no h.st.t),hk.heap h.st.j (no h.st.j),hk.heap h.st.d (no h.st.d),hk.heap h.st.i (no h.st.i),h.st.tu,h.st.jb,h.st.ok,hT,
  hx.mono (fun q hq _=>hq.elim id (fun hq hF=>by have:=h.lt hF;omega)),h.st.nb,h.st.nm,h.st.lb,h.st.lm,h.st.tk.newT hT h.st.nt⟩,
  h.out.fH hk (fun q hq=>by obtain⟨c,T,f,e⟩:=h.out.isCells hq;exact no e),hk.heap h.res (no h.res)⟩
theorem lJ.told {wj w wr w':World}{n8 Be Bt Bj Bd B:Nat}{V V':List Value}{ts:List Turn}{s:Now}{o o':List Rec}{tv nv:Value}{bi mi:Nat}{pm:Nat->Nat×Nat}(h:lJ wj w wr n8 Be Bt Bj Bd B V ts s o tv nv bi mi pm)(gb:w.heap.size<=B)(hk:Kept (bP B V) wr w')(ho:bY w' w.heap.size B 78 V' (eF o'))
 (hn: ∀q,bP B V' q->bP B V q\/wr.heap.size<=q):lJ wj w w' n8 Be Bt Bj Bd B V' ts s o' tv nv bi mi pm:=by
 have no: ∀{q:Nat},four Be Bt Bj Bd q-> ¬bP B V q:=fun hq hs=>LY h.st h.out hs hq
 have nF: ∀q,q<wr.heap.size-> ¬xw n8 Be Bt Bj Bd B V q-> ¬xw n8 Be Bt Bj Bd B V' q:=fun q hq hF h'=>h'.elim (fun h4=>hF (.inl h4)) (fun ho'=>(hn q ho').elim (fun h=>hF (.inr h)) (fun h=>by omega))
 have hbl:bi<wr.heap.size:=(Array.getElem?_eq_some_iff.1 h.st.i).1
 have hml:mi<wr.heap.size:=by obtain⟨l,h1,_⟩:=h.st.tabs.at_.map;exact h1.lt
 refine⟨⟨h.st.kj,h.st.kept.new hk (fun i hi hs=>by have:=h.out.ge gb hs;omega),hk.heap h.st.e (no (.inl rfl)),hk.heap h.st.t (no (.inr (.inl rfl))),hk.heap h.st.j (no (.inr (.inr (.inl rfl)))),hk.heap h.st.d (no (.inr (.inr (.inr rfl)))),
  hk.heap h.st.i (fun hs=>h.st.nb (.inr hs)),h.st.tu,h.st.jb,h.st.ok,h.st.tk,?_,nF _ hbl h.st.nb,nF _ hml h.st.nm,h.st.lb,h.st.lm,h.st.nt⟩,ho,hk.heap h.res (Gq h.out h.res (by decide) (by decide))⟩
 exact((h.st.tabs.mono (M':=fun q=> ¬xw n8 Be Bt Bj Bd B V q/\ ¬xw n8 Be Bt Bj Bd B V' q) (fun q hq hlt=>⟨hq,nF q hlt hq⟩)).Ef (fun q hq hn=>hn.1 (.inr hq)) (fun hs=>h.st.nm (.inr hs)) hk).mono (fun q hq _=>hq.2)
end
section
open Go Go.RowKit
attribute [local irreducible] bU dL H2.cZ
def bothR:List Rec:=[⟨0,5,2⟩,⟨1,5,4⟩]
theorem Y8: ∀r∈bothR,aU r:=by
 intro r hr
 unfold bothR at hr
 simp at hr
 rcases hr with rfl|rfl
 ·exact⟨.small (by simp) (by simp), .small (by simp) (by simp), .small (by simp) (by simp)⟩
 ·exact⟨.small (by simp) (by simp), .small (by simp) (by simp), .small (by simp) (by simp)⟩
theorem UK {w:World}{a:Option Addr}{n cap k:Nat}(hn:n<=cap)(hk:k<=n):
 (Instr.slice 49 (.slice a n cap) none (some (.int .i64 (k:Int))) none).run Tryz.prog w= .ok (.slice a k cap) w:=by
 have hb:(Instr.sliceBounds true n cap none (some (.int .i64 (k:Int))) none).run Tryz.prog w= .ok (0,k,cap) w:=by
  simp[Instr.sliceBounds,Instr.sliceBound,asIntOf]
  intro h;omega
 have hs: ∀w:World,(sizeOf 86).run Tryz.prog w= .ok 3 w:=fun w=>by kernel_rfl
 simp only[Instr.slice,Sem.run_bind,run_underlying Tryz.underlying49,Result.andThen_ok,hb,hs,Sem.run_pure]
 cases a with
 |none=>simp
 |some a=>simp[Addr.add]
end
end Go.Proofs.YtopeleenlcnkkaaGreatDoor
