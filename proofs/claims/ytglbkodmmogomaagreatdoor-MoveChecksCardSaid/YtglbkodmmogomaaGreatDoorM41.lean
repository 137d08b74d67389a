/- The document's Take(35): its walk. -/
import Derived.Test.YtglbkodmmogomaaGreatDoorM39
set_option linter.unusedVariables false
set_option linter.unusedSimpArgs false
set_option maxHeartbeats 8000000
set_option maxRecDepth 100000
namespace Go.Proofs.YtglbkodmmogomaaGreatDoor
open Go Go.RowKit
attribute [local irreducible] bH H2.bW
theorem uY (s:ByteArray)(hs:s.size<=maxLen)(w:World):Calls Tryz.prog 16 #[.string s] w (dG w s.data.toList):=by
 go_enter Tryz.func16,Tryz.ntmps16
 go_wp2_with fail
 obtain⟨W0,hW0⟩: ∃W0,((w.alloc (.cells #[.string s, .int .i64 0] 118)).alloc (.cells #[.slice none 0 0] 103))=W0:=⟨_,rfl⟩
 have hst:lU W0 w.heap.size (Rd.ok () s.data.toList):=by
  rw[<-hW0]
  refine⟨s,?_,rfl,hs⟩
  rw[Below.heap_alloc _ _ _ (by simp)]
  exact heap_alloc_new _ _
 have hdd:tu W0 (w.heap.size+1) [] (.slice none 0 0) 0 []:=by
  refine⟨?_,World.ownsRow_nil _ _ _ _,eH.nil _,fun i lv h=>by simp at h,iy.nil⟩
  rw[<-hW0]
  have:=heap_alloc_new (w.alloc (.cells #[.string s, .int .i64 0] 118)) (.cells #[.slice none 0 0] 103)
  rwa[World.size_alloc]at this
 have k0:Kept none' w W0:=by rw[<-hW0];exact((Kept.refl _ _).alloc _).alloc _
 have hs0:W0.heap.size=w.heap.size+2:=by rw[<-hW0];simp
 rw[hW0]
 clear hW0
 obtain⟨X,hX⟩: ∃X,w.heap.size=X:=⟨_,rfl⟩
 obtain⟨D,hD⟩: ∃D,X+1=D:=⟨_,rfl⟩
 rw[hX]at hst hdd hs0⊢
 rw[hD]at hdd⊢
 have ng:=Lib.hid (show w.heap.size<=X/\X<D from⟨by omega,by omega⟩)
 have J0:=Lib.hid (And.intro hst (And.intro hdd k0))
 clear hst hdd k0 hs0 hX hD
 (with_reducible refine(zV X 320 (Rd.ok () s.data.toList) W0 J0.out.1).mono ?_)
 rintro e W2 hq
 have k2:=hq.2.2
 have J1:=Lib.hid (And.intro hq.2.1 (And.intro (J0.out.2.1.kept k2 (fun k hk=> .inl (by have:=ng.out;unfold one at hk;omega))) (J0.out.2.2.new k2 (fun i hi e=>by have:=ng.out;unfold one at e;omega))))
 obtain⟨rfl,_,_⟩:=hq
 clear J0 k2
 cases hx:numAt 0 320 (Rd.ok () s.data.toList)with
 |err f=>
  rw[hx]at J1
  have hT:gK s.data.toList= .err f:=by
   have hx':num 0 320 s.data.toList= .err f:=hx
   unfold gK
   rw[hx']
   rfl
  obtain⟨hf,s4,hs4⟩:=J1.out.1
  have F:Hid (dG w s.data.toList (.returned (.tuple #[.pointer none, .int .i64 f])) W2.drew):=by
   show dG _ _ _ _
   unfold dG
   rw[hT]
   exact⟨rfl,hf,J1.out.2.2.drew⟩
  have hf1:(f==0)=false:=beq_eq_false_iff_ne.2 hf
  have hf2:(f !=0)=true:=bne_iff_ne.2 hf
  have c0:=(bJ hs4).2.1
  simp only[bK]
  clear hx hT hf hs4
  go_wp2_with fail
  go_loopg [7] 1 (fun g vi wr=>vi= .int .i64 0/\wr=W2)
  case atStart=>exact⟨rfl,rfl⟩
  case round=>
   obtain⟨rfl,rfl⟩:=hrel
   go_wp2_with fail
   refine ak [0,1,2,3,4,5] (fun W=>Kept none' wr W) (by kernel_rfl) (by kernel_rfl) rfl (Kept.refl none' wr).drew ?_
   simp only[List.map_cons,List.map_nil,List.getElem?_toArray,List.getElem?_cons_zero,List.getElem?_cons_succ,Option.getD_some]
   iterate 6 (apply aj rfl rfl;(intro W hW;have z0:=hW.cell (fun h=>h) c0;go_simp;rfl);go_frame)
   refine aG (fun _=>(Kept.refl none' wr).drew) ?_
   go_wp2_with fail
   go_ret2
   exact F.out
 |ok n0 r0=>
  rw[hx]at J1
  have hnb:=pV (x:=Rd.ok () s.data.toList) (lo:=0) (hi:=320) (by decide)
  rw[hx]at hnb
  simp only[bK]at hnb⊢
  obtain⟨N,rfl⟩:=Int.eq_ofNat_of_zero_le hnb.1
  have hN:N<=320:=by omega
  have hT:gK s.data.toList=(bZ N [] r0).bind fun T r=>if r=[]then .ok T []else .err 21:=by
   have hx':num 0 320 s.data.toList= .ok (N:Int) r0:=hx
   unfold gK
   rw[hx']
   rfl
  have HT:=Lib.hid hT
  clear hx hnb hT
  go_wp2_with fail
  go_loopg [7] 320 (fun g vi wr=> ∃(k:Nat)(T:Tab)(r:List UInt8)(v:Value)(nv:Nat)(cs:List Value),k<=N/\vi= .int .i64 (k:Int)/\T.length=k/\lU wr X (Rd.ok () r)/\tu wr D T v nv cs/\Kept none' w wr/\bZ N [] r0=bZ (N-k) T r/\N-k<=g)
  case atStart=>exact⟨0,[],r0,_,_,_,by omega,rfl,rfl,J1.out.1,J1.out.2.1,J1.out.2.2,rfl,by omega⟩
  case round=>
   obtain⟨k,T,r,v,nv,cs,hk,rfl,hTl,hst,hdd,hkp,hrr,hg⟩:=hrel
   obtain⟨va,jY,rfl⟩:=ay hdd.rows
   have HI:=Lib.hid (And.intro hst (And.intro hdd (And.intro hkp (And.intro hrr (And.intro hg hTl)))))
   clear hst hdd hkp hrr hg hTl
   by_cases hlt:k<N
   ·go_wp2_with fail
    (with_reducible refine(pR X (Rd.ok () r) wr HI.out.1).mono ?_)
    rintro e W3 hq
    have k3:=hq.2.2
    have I3:=Lib.hid (And.intro hq.2.1 (And.intro (HI.out.2.1.kept k3 (fun k hk=> .inl (by have:=ng.out;unfold one at hk;omega))) (HI.out.2.2.1.new k3 (fun i hi e=>by have:=ng.out;unfold one at e;omega))))
    obtain⟨rfl,_,_⟩:=hq
    obtain⟨x1,hx1⟩: ∃x1,numAt aP hi64 (Rd.ok () r)=x1:=⟨_,rfl⟩
    rw[hx1]at I3⊢
    obtain⟨v1,hv1⟩: ∃v1,bK 0 x1=v1:=⟨_,rfl⟩
    rw[hv1]
    have X1:=Lib.hid (And.intro hx1 hv1)
    clear hx1 hv1 k3
    go_wp2_with fail
    (with_reducible refine(pR X x1 W3 I3.out.1).mono ?_)
    rintro e W4 hq
    have k4:=hq.2.2
    have I4:=Lib.hid (And.intro hq.2.1 (And.intro (I3.out.2.1.kept k4 (fun k hk=> .inl (by have:=ng.out;unfold one at hk;omega))) (I3.out.2.2.new k4 (fun i hi e=>by have:=ng.out;unfold one at e;omega))))
    obtain⟨rfl,_,_⟩:=hq
    obtain⟨x2,hx2⟩: ∃x2,numAt aP hi64 x1=x2:=⟨_,rfl⟩
    rw[hx2]at I4⊢
    obtain⟨v2,hv2⟩: ∃v2,bK 0 x2=v2:=⟨_,rfl⟩
    rw[hv2]
    have X2:=Lib.hid (And.intro hx2 hv2)
    clear hx2 hv2 I3 k4
    go_wp2_with fail
    obtain⟨C,hC⟩: ∃C,W4.heap.size=C:=⟨_,rfl⟩
    obtain⟨W5,xJ⟩: ∃W5,W4.alloc (.cells #[.int .i64 v2, .slice none 0 0] 109)=W5:=⟨_,rfl⟩
    have k5:Kept none' W4 W5:=by rw[<-xJ];exact(Kept.refl _ _).alloc _
    have hcb:W5.heap[C]?=some (.cells #[.int .i64 v2, .slice none 0 0] 109 (0,0)):=by rw[<-xJ,<-hC];exact heap_alloc_new _ _
    have hs5:W5.heap.size=C+1:=by rw[<-xJ,<-hC];simp
    have hXC:X<C:=by rw[<-hC];exact I4.out.1.lt
    have UY:D<C:=by rw[<-hC];exact lt_of_block I4.out.2.1.obj
    have TU:w.heap.size<=C:=by rw[<-hC];exact I4.out.2.2.size
    have hown4: ∀g,(Value.slice va nv jY).ownBlock=some g->g<C:=fun g hg=>by rw[<-hC];exact(dw I4.out.2.1.rows hg).2
    rw[xJ,hC]
    have I5:=Lib.hid (And.intro (I4.out.1.kept k5 (fun h=>h)) (And.intro I4.out.2.1 (And.intro I4.out.2.2 (And.intro hcb (And.intro hs5 (And.intro k5 hC))))))
    clear k5 hcb hs5 xJ I4
    (with_reducible refine(zV X 16 x2 W5 I5.out.1).mono ?_)
    rintro e W6 hq
    have k6:=hq.2.2
    have I6:=Lib.hid (And.intro hq.2.1 (And.intro (k6.heap I5.out.2.2.2.1 (fun h=>by unfold one at h;omega)) ((show Kept (Nz X C) W4 W5 from I5.out.2.2.2.2.2.1.pure).trans (k6.mono (fun k _ hk=> .inl hk)))))
    obtain⟨rfl,_,_⟩:=hq
    obtain⟨x3,hx3⟩: ∃x3,numAt 0 16 x2=x3:=⟨_,rfl⟩
    have hr3:=pV (x:=x2) (lo:=0) (hi:=16) (by decide)
    rw[hx3]at I6 hr3⊢
    obtain⟨M,hM⟩: ∃M:Nat,bK 0 x3=(M:Int):=⟨(bK 0 x3).toNat,by omega⟩
    rw[hM]at hr3⊢
    have X4:M<=16:=by omega
    have X3:=Lib.hid (And.intro hx3 hM)
    clear hr3 hx3 hM k6 hC
    go_wp2_with fail
    have hc0:xR W4 W6 X C v2 x3 0 (.slice none 0 0) 0 []:=by
     refine⟨?_,I6.out.2.1,World.ownsRow_nil _ _ _ _,rfl,fun ns r h=>?_,I6.out.2.2⟩
     ·exact I6.out.1.same (fun a r h=>⟨[],by rw[h];rfl⟩) (fun f h=>by rw[h];rfl)
     ·cases x3 with
      |err f=>cases h
      |ok a r'=>injection h with h1 h2
    have Vp:=Lib.hid hc0
    clear hc0 I6
    go_loopg [11] 16 (fun g vj wr2=> ∃(j n:Nat)(lv:Value)(L:List Int),j<=M/\vj= .int .i64 (j:Int)/\xR W4 wr2 X C v2 x3 j lv n L/\M-j<=g)
    case atStart=>exact⟨0,0,_,[],by omega,rfl,Vp.out,by omega⟩
    case round=>
     obtain⟨j,n,lv,L,hj,rfl,hi,hg⟩:=hrel
     have HI2:=Lib.hid (And.intro hi hg)
     clear hi hg
     by_cases hjl:j<M
     ·have c1:=(jq HI2.out.1.cell).2.1
      obtain⟨la,lc,rfl⟩:=ay HI2.out.1.own
      have KD:=Lib.hid (show Kept (fun k=>k=X\/C<k) wr wr.drew from(Kept.refl _ _).drew)
      go_wp2_with fail
      refine ak [0,1,2,3,4,5,6,7] (fun W=>Kept (fun k=>k=X\/C<k) wr W) (by kernel_rfl) (by kernel_rfl) rfl KD.out ?_
      simp only[List.map_cons,List.map_nil,List.getElem?_toArray,List.getElem?_cons_zero,List.getElem?_cons_succ,Option.getD_some]
      have Uk: ¬(C=X\/C<C):=fun h=>by rcases h with h|h<;>omega
      iterate 3 (apply aj rfl rfl;(intro W hW;have z1:=hW.cell (p:=⟨C,1,none⟩) Uk c1;go_simp;rfl);go_frame)
      apply aB rfl rfl
      intro K hK
      go_wp2_with fail
      (with_reducible refine(pR X (aU j x3) wr.drew (HI2.out.1.st.kept (Kept.refl none' wr).drew (fun h=>h))).mono ?_)
      rintro e W7 hq
      obtain⟨v7,n7,w7,f1,f2,f3,f4,f5,⟨a7,c7,rfl⟩,f6⟩:=HI2.out.1.step hXC (by omega) hq
      obtain⟨rfl,_,_⟩:=hq
      obtain⟨vv,hvv⟩: ∃vv,bK 0 (numAt aP hi64 (aU j x3))=vv:=⟨_,rfl⟩
      rw[hvv]at f1 f6⊢
      have F6:=Lib.hid f6
      have F1:=Lib.hid f1
      clear f6 f1 hvv
      go_wp2_with fail
      refine hK _ _ (fun _=>f2) ?_
      clear hK
      apply aB rfl rfl
      intro K hK
      go_wp2_with fail
      refine hK _ _ (fun _=>f2.alloc _) ?_
      clear hK
      apply aB rfl rfl
      intro K hK
      refine wp_append_run (.tmp 37) (.tmp 40) 97 rfl (.slice la n lc) (.slice (some ⟨W7.heap.size,0,none⟩) 1 1) _ rfl rfl F1.out ?_
      refine hK _ _ (fun _=>f3) ?_
      clear hK
      apply aj rfl rfl
      ·intro W hW;go_simp;rfl
      go_frame
      apply aB rfl rfl
      intro K hK
      go_wp2_with fail
      refine hK _ _ (fun h=>absurd rfl h) (nN (by kernel_rfl) ?_)
      clear hK
      go_wp2_with fail
      go_roundg (M-(j+1))
      case rel=>exact⟨j+1,n7,_,_,by omega,by go_num,F6.out,Nat.le_refl _⟩
      case measure=>have:=HI2.out.2;omega
     ·have Ux:j=M:=by omega
      subst Ux
      have KR:=Lib.hid (show Kept none' w wr from I5.out.2.2.1.new HI2.out.1.kept (fun i hi e=>by have:=ng.out;rcases e with e|e<;>omega))
      have DR:=Lib.hid (I5.out.2.1.kept HI2.out.1.kept (fun k hk=>by have:=ng.out;have:=I5.out.2.2.2.2.2.2;rcases hk with h|h;exact .inl (by omega);exact .inr (by omega)))
      have hro:=Rw X1.out.1 X2.out.1 X3.out.1 X3.out.2
      rw[X1.out.2,X2.out.2]at hro
      have eN:N-k=(N-(k+1))+1:=by omega
      cases hx4:aU j x3 with
      |err f=>
       have hst:=HI2.out.1.st
       rw[hx4]at hst
       obtain⟨hf,s4,hs4⟩:=hst
       have c0:=(bJ hs4).2.1
       have hf1:(f==0)=false:=beq_eq_false_iff_ne.2 hf
       have hf2:(f !=0)=true:=bne_iff_ne.2 hf
       have F:Hid (dG w s.data.toList (.returned (.tuple #[.pointer none, .int .i64 f])) wr.drew):=by
        show dG _ _ _ _
        unfold dG
        rw[HT.out,HI.out.2.2.2.1,eN,bZ,hro.1 f hx4]
        exact⟨rfl,hf,KR.out.drew⟩
       clear hs4 hf hro eN hx4
       go_wp2_with fail
       refine ak [0,1,2,3,4,5] (fun W=>Kept none' wr W) (by kernel_rfl) (by kernel_rfl) rfl (Kept.refl none' wr).drew ?_
       simp only[List.map_cons,List.map_nil,List.getElem?_toArray,List.getElem?_cons_zero,List.getElem?_cons_succ,Option.getD_some]
       iterate 6 (apply aj rfl rfl;(intro W hW;have z0:=hW.cell (fun h=>h) c0;go_simp;rfl);go_frame)
       refine aG (fun _=>(Kept.refl none' wr).drew) ?_
       go_wp2_with fail
       go_ret2
       exact F.out
      |ok ns r4=>
       have hst:=HI2.out.1.st
       rw[hx4]at hst
       have c0:=(bJ hst.choose_spec.1).2.1
       have f0:=(bJ hst.choose_spec.1).2.2.2
       have hEl:=lt_of_block hst.choose_spec.1
       have hrow:=hro.2 ns r4 hx4
       have hL:=HI2.out.1.val ns r4 hx4
       have RW:=Lib.hid (And.intro hst (And.intro hrow (And.intro hL eN)))
       have Qv:=Lib.hid (uF hrow).2.1
       clear hro hx4 hst hrow hL eN
       obtain⟨la,lc,hlv⟩:=ay HI2.out.1.own
       subst hlv
       have xD:=cell_of_one DR.out.obj
       have D9:=Lib.hid HI.out.2.2.2.2.2
       by_cases hkz:k=0
       ·have hk0: ¬(0:Int)<(k:Int):=by omega
        have HZ:=Lib.hid hkz
        clear hkz
        go_wp2_with fail
        (with_reducible refine(jl v1 Qv.out _).mono ?_)
        rintro e w' ⟨rfl,rfl⟩
        go_wp2_with fail
        (with_reducible refine(CW D T (grp v1) _ (DR.out.kept (Kept.refl none' wr) (fun _ h=>noneE h)).tab).mono ?_)
        rintro e WM ⟨rfl,rfl⟩
        have KB:=Lib.hid (show Kept none' wr wr from(Kept.refl none' wr))
        by_cases Gu:40<=aO T (grp v1)
        ·have zy:(40:Int)<=((aO T (grp v1):Nat):Int):=by omega
         have kK:=Lib.hid (show eX T v1=false from by rw[iM,decide_eq_false (by omega: ¬aO T (grp v1)<40),Bool.and_false])
         have hb1:=KB.out.heap RW.out.1.choose_spec.1 (fun h=>h)
         have cb:=(bJ hb1).2.1
         have fb:=(bJ hb1).2.2.2
         have NR:=lt_of_block hb1
         have cb2:=(bJ (oU (v:= .int .i64 21) hb1)).2.1
         have F:Hid (dG w s.data.toList (.returned (.tuple #[.pointer none, .int .i64 21])) (wr.setCell ⟨X,1,none⟩ (.int .i64 21)).drew):=by
          show dG _ _ _ _
          unfold dG
          rw[HT.out,HI.out.2.2.2.1,RW.out.2.2.2,bZ,RW.out.2.1]
          simp only[Rd.bind]
          rw[if_neg (by rw[kK.out];decide)]
          exact⟨rfl,by decide,((KR.out.trans KB.out).setCell (p:=⟨X,1,none⟩) (.inr (by have:=ng.out;show w.heap.size<=X;omega)) _).drew⟩
         clear hb1
         go_wp2_with fail
         obtain⟨WW,lN⟩: ∃WW,wr.setCell ⟨X,1,none⟩ (.int .i64 21)=WW:=⟨_,rfl⟩
         rw[lN]at F cb2⊢
         clear lN
         refine ak [0,1,2,3,4,5] (fun W=>Kept none' WW W) (by kernel_rfl) (by kernel_rfl) rfl (Kept.refl none' WW).drew ?_
         simp only[List.map_cons,List.map_nil,List.getElem?_toArray,List.getElem?_cons_zero,List.getElem?_cons_succ,Option.getD_some]
         iterate 6 (apply aj rfl rfl;(intro W hW;have z0:=hW.cell (fun h=>h) cb2;go_simp;rfl);go_frame)
         refine aG (fun _=>(Kept.refl none' WW).drew) ?_
         go_wp2_with fail
         go_ret2
         exact F.out
        ·have zy: ¬(40:Int)<=((aO T (grp v1):Nat):Int):=by omega
         have kK:=Lib.hid (show eX T v1=true from by rw[iM,decide_eq_true (by omega:aO T (grp v1)<40),Bool.and_true];exact by rw[D9.out,decide_eq_true HZ.out];rfl)
         have hb1:=KB.out.heap RW.out.1.choose_spec.1 (fun h=>h)
         have cb:=(bJ hb1).2.1
         have DD:=(DR.out.kept KB.out (fun _ h=>noneE h)).kept (Kept.refl none' wr).drew (fun _ h=>noneE h)
         have hcm:=jq (KB.out.heap HI2.out.1.cell (fun h=>h))
         have y0:=hcm.1
         have y1:=hcm.2.1
         have x2:=cell_of_one (DR.out.kept KB.out (fun _ h=>noneE h)).obj
         obtain⟨_,R1,R2⟩:=uF RW.out.2.1
         have hlv:Reads wr.drew 1 (.slice la n lc) (ints ns):=by
          have:=((Reads.bQ HI2.out.1.own).pure KB.out).pure (Kept.refl none' wr).drew
          rw[RW.out.2.2.1]at this
          exact this
         have Aq: ∀g,(Value.slice va nv jY).ownBlock=some g->g<C:=fun g hg=>hown4 g hg
         obtain⟨v9,n9,w9,p1,⟨a9,c9',rfl⟩,p3,p4,p5⟩:=DD.push (C:=C) hlv (fun g hg=>by have:=(uZ HI2.out.1.own hg).1;omega) Aq UY R1 R2 kK.out rfl
         have c9:=cell_of_one p4
         have f9:=free_of_one p4
         have k9:Kept (fun k=>(Value.slice va nv jY).ownBlock=some k) wr w9:=(show Kept (fun k=>(Value.slice va nv jY).ownBlock=some k) wr wr.drew from(Kept.refl _ _).drew).trans p3
         have hl9:=lt_of_block p4
         have NI:(Value.slice va nv jY).ownBlock≠some X:=fun e=>by have:=(dw I5.out.2.1.rows e).1;have:=ng.out;omega
         have F:=Lib.hid (show lU (w9.setCell ⟨D,0,none⟩ (.slice a9 n9 c9')) X (Rd.ok () r4)/\tu (w9.setCell ⟨D,0,none⟩ (.slice a9 n9 c9')) D (T++[(v1,(v2,ns))]) (.slice a9 n9 c9') n9 (cs++[.int .i64 v1, .int .i64 v2, .slice la n lc])/\Kept none' w (w9.setCell ⟨D,0,none⟩ (.slice a9 n9 c9'))from
          ⟨((show lU wr X (Rd.ok () r4)from RW.out.1).kept KB.out (fun h=>h)|>.kept k9 (fun h=>NI h)).kept (show Kept (one D) w9 (w9.setCell ⟨D,0,none⟩ (.slice a9 n9 c9'))from(Kept.refl (one D) w9).setCell (p:=⟨D,0,none⟩) (.inl rfl) _) (fun e=>by have:=ng.out;unfold one at e;omega),p5,
           ((KR.out.trans KB.out).new k9 (fun i hi e=>by have:=(dw I5.out.2.1.rows e).1;have:=ng.out;omega)).setCell (p:=⟨D,0,none⟩) (.inr (by have:=ng.out;show w.heap.size<=D;omega)) _⟩)
         have F2:=Lib.hid (show bZ N [] r0=bZ (N-(k+1)) (T++[(v1,(v2,ns))]) r4 from by
          rw[HI.out.2.2.2.1,RW.out.2.2.2,bZ,RW.out.2.1]
          simp only[Rd.bind]
          rw[if_pos kK.out])
         have K9:=Lib.hid (And.intro k9 p1)
         have NJ:(Value.slice va nv jY).ownBlock≠some D:=fun e=>by have:=(dw I5.out.2.1.rows e).1;omega
         have FT:(Value.slice va nv jY).ownBlock≠some C:=fun e=>by have:=Aq C e;omega
         have HV:=Lib.hid (And.intro NJ FT)
         clear hb1 DD hcm R1 R2 hlv Aq p1 p3 p4 p5 k9 NI NJ FT
         go_wp2_with fail
         refine H2.kG [0,1,2,3,4,5,6,7,8,9,10,11,12] (fun W=>Kept (fun k=>(Value.slice va nv jY).ownBlock=some k) wr W) (by kernel_rfl) (by kernel_rfl) rfl (Kept.refl _ wr).drew ?_
         simp only[List.map_cons,List.map_nil,List.getElem?_toArray,List.getElem?_cons_zero,List.getElem?_cons_succ,Option.getD_some]
         iterate 8 (first|(apply H2.jW rfl rfl;(intro W;go_simp;rfl);go_frame)|(apply H2.rC rfl rfl rfl;(intro W hW;have z0:=hW.cell (p:=⟨D,0,none⟩) HV.out.1 x2;have z1:=hW.cell (p:=⟨C,0,none⟩) HV.out.2 y0;have z2:=hW.cell (p:=⟨C,1,none⟩) HV.out.2 y1;go_simp;rfl);go_frame))
         apply H2.jX rfl rfl rfl
         intro K hK
         go_wp2_with fail
         refine hK _ _ (fun _=>(Kept.refl _ wr).drew.alloc _) ?_
         clear hK
         apply H2.jX rfl rfl rfl
         intro K hK
         refine wp_append_run (.tmp 89) (.tmp 93) 101 rfl (.slice va nv jY) (.slice (some ⟨wr.heap.size,0,none⟩) 1 1) _ rfl rfl K9.out.2 ?_
         refine hK _ _ (fun _=>K9.out.1) ?_
         clear hK
         iterate 2 (apply H2.jW rfl rfl;(intro W;go_simp;rfl);go_frame)
         apply H2.uo rfl rfl rfl
         intro K2 hK2
         go_wp2_with fail
         apply H2.uq
         go_wp2_with fail
         go_roundg (N-(k+1))
         case rel=>exact⟨k+1,_,r4,_,_,_,by omega,by go_num,by rw[List.length_append,HI.out.2.2.2.2.2];rfl,F.out.1,F.out.2.1,F.out.2.2,F2.out,Nat.le_refl _⟩
         case measure=>have:=HI.out.2.2.2.2.1;omega
       ·obtain⟨k',rfl⟩: ∃k',k=k'+1:=⟨k-1,by omega⟩
        have hk0:(0:Int)<(k':Int)+1:=by omega
        obtain⟨q,hq⟩: ∃q,T[k']?=some q:=⟨_,List.getElem?_eq_getElem (by rw[D9.out];omega)⟩
        have hlast:mD T=q.1:=by
         unfold mD
         rw[List.getLast?_eq_getElem?,D9.out,Nat.add_sub_cancel,hq]
        have Ug:=DR.out.ok.key q (List.mem_of_getElem? hq)
        obtain⟨tv,WL,htr⟩:=DR.out.tab.obj
        have etv:tv= .slice va nv jY:=by
         have:=WL.symm.trans DR.out.obj
         simpa using this
        subst etv
        obtain⟨pa,zl,hpe,hpc1,XQ,hpr⟩:=htr.parts
        injection hpe with e1 e2 e3
        subst e1 e2 e3
        unfold maxLen at XQ
        obtain⟨rb,ro,rfl,hrr⟩:=hpr.resolve_left (fun h=>by rw[h]at hq;cases hq)
        obtain⟨z0,z1,lq,z2,_⟩:=hrr k' q hq
        have hkl:k'<T.length:=by rw[D9.out];omega
        have HQ:=Lib.hid (And.intro hlast Ug)
        clear hlast Ug hq hrr hpr htr WL z1 z2
        go_wp2_with fail
        (with_reducible refine(Pn q.1 v1 HQ.out.2 Qv.out wr).mono ?_)
        rintro e w' ⟨rfl,rfl⟩
        by_cases hless:bD q.1 v1=true
        ·rw[hless]
         have Vl:=Lib.hid hless
         clear hless
         go_wp2_with fail
         (with_reducible refine(jl v1 Qv.out _).mono ?_)
         rintro e w' ⟨rfl,rfl⟩
         go_wp2_with fail
         (with_reducible refine(CW D T (grp v1) _ (DR.out.kept (Kept.refl none' wr) (fun _ h=>noneE h)).tab).mono ?_)
         rintro e WM ⟨rfl,rfl⟩
         have KB:=Lib.hid (show Kept none' wr wr from(Kept.refl none' wr))
         by_cases Gu:40<=aO T (grp v1)
         ·have zy:(40:Int)<=((aO T (grp v1):Nat):Int):=by omega
          have kK:=Lib.hid (show eX T v1=false from by rw[iM,decide_eq_false (by omega: ¬aO T (grp v1)<40),Bool.and_false])
          have hb1:=KB.out.heap RW.out.1.choose_spec.1 (fun h=>h)
          have cb:=(bJ hb1).2.1
          have fb:=(bJ hb1).2.2.2
          have NR:=lt_of_block hb1
          have cb2:=(bJ (oU (v:= .int .i64 21) hb1)).2.1
          have F:Hid (dG w s.data.toList (.returned (.tuple #[.pointer none, .int .i64 21])) (wr.setCell ⟨X,1,none⟩ (.int .i64 21)).drew):=by
           show dG _ _ _ _
           unfold dG
           rw[HT.out,HI.out.2.2.2.1,RW.out.2.2.2,bZ,RW.out.2.1]
           simp only[Rd.bind]
           rw[if_neg (by rw[kK.out];decide)]
           exact⟨rfl,by decide,((KR.out.trans KB.out).setCell (p:=⟨X,1,none⟩) (.inr (by have:=ng.out;show w.heap.size<=X;omega)) _).drew⟩
          clear hb1
          go_wp2_with fail
          obtain⟨WW,lN⟩: ∃WW,wr.setCell ⟨X,1,none⟩ (.int .i64 21)=WW:=⟨_,rfl⟩
          rw[lN]at F cb2⊢
          clear lN
          refine ak [0,1,2,3,4,5] (fun W=>Kept none' WW W) (by kernel_rfl) (by kernel_rfl) rfl (Kept.refl none' WW).drew ?_
          simp only[List.map_cons,List.map_nil,List.getElem?_toArray,List.getElem?_cons_zero,List.getElem?_cons_succ,Option.getD_some]
          iterate 6 (apply aj rfl rfl;(intro W hW;have z0:=hW.cell (fun h=>h) cb2;go_simp;rfl);go_frame)
          refine aG (fun _=>(Kept.refl none' WW).drew) ?_
          go_wp2_with fail
          go_ret2
          exact F.out
         ·have zy: ¬(40:Int)<=((aO T (grp v1):Nat):Int):=by omega
          have kK:=Lib.hid (show eX T v1=true from by rw[iM,decide_eq_true (by omega:aO T (grp v1)<40),Bool.and_true];exact by rw[HQ.out.1,Vl.out,Bool.or_true])
          have hb1:=KB.out.heap RW.out.1.choose_spec.1 (fun h=>h)
          have cb:=(bJ hb1).2.1
          have DD:=(DR.out.kept KB.out (fun _ h=>noneE h)).kept (Kept.refl none' wr).drew (fun _ h=>noneE h)
          have hcm:=jq (KB.out.heap HI2.out.1.cell (fun h=>h))
          have y0:=hcm.1
          have y1:=hcm.2.1
          have x2:=cell_of_one (DR.out.kept KB.out (fun _ h=>noneE h)).obj
          obtain⟨_,R1,R2⟩:=uF RW.out.2.1
          have hlv:Reads wr.drew 1 (.slice la n lc) (ints ns):=by
           have:=((Reads.bQ HI2.out.1.own).pure KB.out).pure (Kept.refl none' wr).drew
           rw[RW.out.2.2.1]at this
           exact this
          have Aq: ∀g,(Value.slice (some ⟨rb,ro,none⟩) T.length jY).ownBlock=some g->g<C:=fun g hg=>hown4 g hg
          obtain⟨v9,n9,w9,p1,⟨a9,c9',rfl⟩,p3,p4,p5⟩:=DD.push (C:=C) hlv (fun g hg=>by have:=(uZ HI2.out.1.own hg).1;omega) Aq UY R1 R2 kK.out rfl
          have c9:=cell_of_one p4
          have f9:=free_of_one p4
          have k9:Kept (fun k=>(Value.slice (some ⟨rb,ro,none⟩) T.length jY).ownBlock=some k) wr w9:=(show Kept (fun k=>(Value.slice (some ⟨rb,ro,none⟩) T.length jY).ownBlock=some k) wr wr.drew from(Kept.refl _ _).drew).trans p3
          have hl9:=lt_of_block p4
          have NI:(Value.slice (some ⟨rb,ro,none⟩) T.length jY).ownBlock≠some X:=fun e=>by have:=(dw I5.out.2.1.rows e).1;have:=ng.out;omega
          have F:=Lib.hid (show lU (w9.setCell ⟨D,0,none⟩ (.slice a9 n9 c9')) X (Rd.ok () r4)/\tu (w9.setCell ⟨D,0,none⟩ (.slice a9 n9 c9')) D (T++[(v1,(v2,ns))]) (.slice a9 n9 c9') n9 (cs++[.int .i64 v1, .int .i64 v2, .slice la n lc])/\Kept none' w (w9.setCell ⟨D,0,none⟩ (.slice a9 n9 c9'))from
           ⟨((show lU wr X (Rd.ok () r4)from RW.out.1).kept KB.out (fun h=>h)|>.kept k9 (fun h=>NI h)).kept (show Kept (one D) w9 (w9.setCell ⟨D,0,none⟩ (.slice a9 n9 c9'))from(Kept.refl (one D) w9).setCell (p:=⟨D,0,none⟩) (.inl rfl) _) (fun e=>by have:=ng.out;unfold one at e;omega),p5,
            ((KR.out.trans KB.out).new k9 (fun i hi e=>by have:=(dw I5.out.2.1.rows e).1;have:=ng.out;omega)).setCell (p:=⟨D,0,none⟩) (.inr (by have:=ng.out;show w.heap.size<=D;omega)) _⟩)
          have F2:=Lib.hid (show bZ N [] r0=bZ (N-((k'+1)+1)) (T++[(v1,(v2,ns))]) r4 from by
           rw[HI.out.2.2.2.1,RW.out.2.2.2,bZ,RW.out.2.1]
           simp only[Rd.bind]
           rw[if_pos kK.out])
          have K9:=Lib.hid (And.intro k9 p1)
          have NJ:(Value.slice (some ⟨rb,ro,none⟩) T.length jY).ownBlock≠some D:=fun e=>by have:=(dw I5.out.2.1.rows e).1;omega
          have FT:(Value.slice (some ⟨rb,ro,none⟩) T.length jY).ownBlock≠some C:=fun e=>by have:=Aq C e;omega
          have HV:=Lib.hid (And.intro NJ FT)
          clear hb1 DD hcm R1 R2 hlv Aq p1 p3 p4 p5 k9 NI NJ FT
          go_wp2_with fail
          refine H2.kG [0,1,2,3,4,5,6,7,8,9,10,11,12] (fun W=>Kept (fun k=>(Value.slice (some ⟨rb,ro,none⟩) T.length jY).ownBlock=some k) wr W) (by kernel_rfl) (by kernel_rfl) rfl (Kept.refl _ wr).drew ?_
          simp only[List.map_cons,List.map_nil,List.getElem?_toArray,List.getElem?_cons_zero,List.getElem?_cons_succ,Option.getD_some]
          iterate 8 (first|(apply H2.jW rfl rfl;(intro W;go_simp;rfl);go_frame)|(apply H2.rC rfl rfl rfl;(intro W hW;have z0:=hW.cell (p:=⟨D,0,none⟩) HV.out.1 x2;have z1:=hW.cell (p:=⟨C,0,none⟩) HV.out.2 y0;have z2:=hW.cell (p:=⟨C,1,none⟩) HV.out.2 y1;go_simp;rfl);go_frame))
          apply H2.jX rfl rfl rfl
          intro K hK
          go_wp2_with fail
          refine hK _ _ (fun _=>(Kept.refl _ wr).drew.alloc _) ?_
          clear hK
          apply H2.jX rfl rfl rfl
          intro K hK
          refine wp_append_run (.tmp 89) (.tmp 93) 101 rfl (.slice (some ⟨rb,ro,none⟩) T.length jY) (.slice (some ⟨wr.heap.size,0,none⟩) 1 1) _ rfl rfl K9.out.2 ?_
          refine hK _ _ (fun _=>K9.out.1) ?_
          clear hK
          iterate 2 (apply H2.jW rfl rfl;(intro W;go_simp;rfl);go_frame)
          apply H2.uo rfl rfl rfl
          intro K2 hK2
          go_wp2_with fail
          apply H2.uq
          go_wp2_with fail
          go_roundg (N-((k'+1)+1))
          case rel=>exact⟨(k'+1)+1,_,r4,_,_,_,by omega,by go_num,by rw[List.length_append,HI.out.2.2.2.2.2];rfl,F.out.1,F.out.2.1,F.out.2.2,F2.out,Nat.le_refl _⟩
          case measure=>have:=HI.out.2.2.2.2.1;omega
        ·have hlf:bD q.1 v1=false:=by simpa using hless
         rw[hlf]
         have kK:=Lib.hid (show eX T v1=false from by rw[iM,HQ.out.1,hlf,D9.out,decide_eq_false hkz];rfl)
         have KB:=Lib.hid (Kept.refl none' wr)
         clear hless hlf
         have hb1:=KB.out.heap RW.out.1.choose_spec.1 (fun h=>h)
         have cb:=(bJ hb1).2.1
         have fb:=(bJ hb1).2.2.2
         have NR:=lt_of_block hb1
         have cb2:=(bJ (oU (v:= .int .i64 21) hb1)).2.1
         have F:Hid (dG w s.data.toList (.returned (.tuple #[.pointer none, .int .i64 21])) (wr.setCell ⟨X,1,none⟩ (.int .i64 21)).drew):=by
          show dG _ _ _ _
          unfold dG
          rw[HT.out,HI.out.2.2.2.1,RW.out.2.2.2,bZ,RW.out.2.1]
          simp only[Rd.bind]
          rw[if_neg (by rw[kK.out];decide)]
          exact⟨rfl,by decide,((KR.out.trans KB.out).setCell (p:=⟨X,1,none⟩) (.inr (by have:=ng.out;show w.heap.size<=X;omega)) _).drew⟩
         clear hb1
         go_wp2_with fail
         obtain⟨WW,lN⟩: ∃WW,wr.setCell ⟨X,1,none⟩ (.int .i64 21)=WW:=⟨_,rfl⟩
         rw[lN]at F cb2⊢
         clear lN
         refine ak [0,1,2,3,4,5] (fun W=>Kept none' WW W) (by kernel_rfl) (by kernel_rfl) rfl (Kept.refl none' WW).drew ?_
         simp only[List.map_cons,List.map_nil,List.getElem?_toArray,List.getElem?_cons_zero,List.getElem?_cons_succ,Option.getD_some]
         iterate 6 (apply aj rfl rfl;(intro W hW;have z0:=hW.cell (fun h=>h) cb2;go_simp;rfl);go_frame)
         refine aG (fun _=>(Kept.refl none' WW).drew) ?_
         go_wp2_with fail
         go_ret2
         exact F.out
   ·have hkN:k=N:=by omega
    have hr1:bZ N [] r0= .ok T r:=by rw[HI.out.2.2.2.1,hkN,Nat.sub_self];rfl
    obtain⟨s',h1,h3,h4⟩:=HI.out.1
    obtain⟨c1,c0,f1,f0⟩:=bJ h1
    have hEl:=lt_of_block h1
    have HE:=Lib.hid (And.intro hr1 (And.intro h1 h3))
    clear h1 hr1 hkN h4
    by_cases hr:r=[]
    ·obtain rfl:s'=⟨#[]⟩:=by
      rw[hr]at h3
      cases s' with
      |mk d=>congr 1;exact Array.toList_inj.1 (by simpa using h3)
     have F:Hid (dG w s.data.toList (.returned (.tuple #[.pointer (some ⟨D,0,none⟩), .int .i64 0])) wr):=by
      show dG _ _ _ _
      unfold dG
      rw[HT.out,HE.out.1]
      simp only[Rd.bind]
      rw[if_pos hr]
      exact⟨D,rfl,HI.out.2.1.tab,HI.out.2.2.1,HI.out.2.1.Vr (by have:=ng.out;omega)⟩
     clear h3 hr
     go_wp2_with fail
     go_ret2
     exact F.out
    ·have hne:(!s'.toList.isEmpty)=true:=by
      rw[Lib.toList_data,h3]
      cases r with
      |nil=>exact absurd rfl hr
      |cons a l=>rfl
     have cb2:=(bJ (oU (v:= .int .i64 21) HE.out.2.1)).2.1
     have F:Hid (dG w s.data.toList (.returned (.tuple #[.pointer none, .int .i64 21])) (wr.setCell ⟨X,1,none⟩ (.int .i64 21)).drew):=by
      show dG _ _ _ _
      unfold dG
      rw[HT.out,HE.out.1]
      simp only[Rd.bind]
      rw[if_neg hr]
      exact⟨rfl,by decide,(HI.out.2.2.1.setCell (p:=⟨X,1,none⟩) (.inr (by have:=ng.out;show w.heap.size<=X;omega)) _).drew⟩
     clear h3 hr
     go_wp2_with fail
     obtain⟨WW,lN⟩: ∃WW,wr.setCell ⟨X,1,none⟩ (.int .i64 21)=WW:=⟨_,rfl⟩
     rw[lN]at F cb2⊢
     clear lN
     refine ak [0,1,2,3,4,5] (fun W=>Kept none' WW W) (by kernel_rfl) (by kernel_rfl) rfl (Kept.refl none' WW).drew ?_
     simp only[List.map_cons,List.map_nil,List.getElem?_toArray,List.getElem?_cons_zero,List.getElem?_cons_succ,Option.getD_some]
     iterate 6 (apply aj rfl rfl;(intro W hW;have z0:=hW.cell (fun h=>h) cb2;go_simp;rfl);go_frame)
     refine aG (fun _=>(Kept.refl none' WW).drew) ?_
     go_wp2_with fail
     go_ret2
     exact F.out
end Go.Proofs.YtglbkodmmogomaaGreatDoor
