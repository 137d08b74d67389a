/- The document's Check and Carry. -/
import Derived.Test.YtglbkodmmogomaaGreatDoorM49
import Derived.Test.YtglbkodmmogomaaGreatDoorM50
set_option linter.unusedVariables false
set_option linter.unusedSimpArgs false
set_option maxHeartbeats 8000000
set_option maxRecDepth 100000
namespace Go.Proofs.YtglbkodmmogomaaGreatDoor
open Go Go.RowKit
attribute [local irreducible] bH dP H2.bW
theorem zX (a b:Jb)(va vb sv:Value)(l:List St)(w:World)(ha:fA w #[.int .i64 a.par,va] a)(hb:fA w #[.int .i64 b.par,vb] b)(hs:Reads w 2 sv (dK l))(hsz: ∀s∈l,s.1.size<=maxLen/\s.2.size<=maxLen)(hma:vY a)(hmb:vY b):
 Calls Tryz.prog 11 #[.agg #[.int .i64 a.par,va], .agg #[.int .i64 b.par,vb],sv] w (jc w (aN a b l)):=by
 obtain⟨na,dU,rfl,na1,TD,MQ⟩:=ha.uI.at
 obtain⟨mb,dQ,rfl,mb1,TG,MS⟩:=hb.uI.at
 obtain⟨sa,scap,rfl,s1,s2,s3⟩:=hs.mV
 unfold maxLen at TD TG s2
 have kA:Kept none' w ((w.alloc (.cells #[.int .i64 a.par, .slice na a.nodes.length dU] 24)).alloc (.cells #[.int .i64 b.par, .slice mb b.nodes.length dQ] 24)):=((Kept.refl _ _).alloc _).alloc _
 have t0:((w.alloc (.cells #[.int .i64 a.par, .slice na a.nodes.length dU] 24)).alloc (.cells #[.int .i64 b.par, .slice mb b.nodes.length dQ] 24)).heap[w.heap.size]?=some (.cells #[.int .i64 a.par, .slice na a.nodes.length dU] 24 (0,0)):=((Kept.refl none' _).alloc _).heap (heap_alloc_new w _) (fun h=>h)
 have t1:((w.alloc (.cells #[.int .i64 a.par, .slice na a.nodes.length dU] 24)).alloc (.cells #[.int .i64 b.par, .slice mb b.nodes.length dQ] 24)).heap[w.heap.size+1]?=some (.cells #[.int .i64 b.par, .slice mb b.nodes.length dQ] 24 (0,0)):=by
  have:=heap_alloc_new (w.alloc (.cells #[.int .i64 a.par, .slice na a.nodes.length dU] 24)) (.cells #[.int .i64 b.par, .slice mb b.nodes.length dQ] 24)
  rwa[World.size_alloc]at this
 obtain⟨W1,hW1⟩: ∃W1,((w.alloc (.cells #[.int .i64 a.par, .slice na a.nodes.length dU] 24)).alloc (.cells #[.int .i64 b.par, .slice mb b.nodes.length dQ] 24))=W1:=⟨_,rfl⟩
 rw[hW1]at kA t0 t1
 have cl:=CX a _ _ l W1 (ha.pure kA) (hs.pure kA) hsz hma
 have H:=Lib.hid (And.intro ha (And.intro hb (And.intro hmb (And.intro hsz (And.intro kA (And.intro t0 (And.intro t1 (And.intro MQ (And.intro MS s3)))))))))
 have HW:=Lib.hid hW1
 clear ha hb hs hsz kA t0 t1 hW1 MQ MS s3 hma hmb
 go_enter Tryz.func11,Tryz.ntmps11
 go_wp2_with fail
 rw[HW.out]
 clear HW
 (with_reducible refine cl.mono ?_)
 clear cl
 intro e w2 hq
 unfold iZ at hq
 cases hl:dH a l with
 |error er=>
  rw[hl]at hq
  obtain⟨rfl,hne,k2⟩:=hq
  have F:=Lib.hid (show jc w (aN a b l) (.returned (.tuple #[.string emptyS, .int .i64 er])) w2 from⟨by unfold aN;rw[hl],H.out.2.2.2.2.1.trans k2⟩)
  have hne1:(er !=0)=true:=bne_iff_ne.2 hne
  clear hl k2 hne
  go_wp2_with fail
  go_ret2
  exact F.out
 |ok Ts=>
  rw[hl]at hq
  obtain⟨bi,tv,pm,m,rfl,-,-,-,-,-,-,-,k2⟩:=hq
  have t1:=k2.heap H.out.2.2.2.2.2.2.1 (fun h=>h)
  have r0:=cells_at t1 (j:=0) (v:= .int .i64 b.par) rfl
  have r1:=cells_at t1 (j:=1) (v:= .slice mb b.nodes.length dQ) rfl
  have hsz2:w.heap.size+1<w2.heap.size:=(Array.getElem?_eq_some_iff.1 t1).1
  have cm:=EU b _ w2 (H.out.2.1.pure (H.out.2.2.2.2.1.trans k2)) (by have:=H.out.2.2.1.1;omega) H.out.2.2.1.2
  have HM:=Lib.hid (oI b)
  have EACH:=Lib.hid (And.intro (oC hl) (Ad hl))
  have HL:=Lib.hid hl
  have K2:=Lib.hid k2
  clear hl k2 t1
  obtain⟨m1,hm1⟩: ∃m1,(dM b).1=m1:=⟨_,rfl⟩
  obtain⟨m2,hm2⟩: ∃m2,(dM b).2=m2:=⟨_,rfl⟩
  unfold jI at cm
  rw[hm1,hm2]at cm
  rw[hm2]at HM
  clear hm1 hm2
  go_wp2_with fail
  (with_reducible refine cm.mono ?_)
  clear cm r0 r1
  rintro e w3 ⟨rfl,k3⟩
  by_cases hz:m2=0
  ·subst hz
   have lW:=Lib.hid (show fU b=true by rw[HM.out];rfl)
   have K3:=Lib.hid (K2.out.trans k3)
   clear k3
   go_wp2_with fail
   go_loopg [10] l.length (fun g vi wr=> ∃(k:Nat),k<=l.length/\vi= .int .i64 (k:Int)/\l.length-k<=g/\eY a.nodes b.nodes l=eY a.nodes b.nodes (l.drop k)/\Kept none' W1 wr)
   case atStart=>exact⟨0,by omega,rfl,by omega,by rw[List.drop_zero],K3.out⟩
   case round=>
    obtain⟨k,hkl,rfl,hg,hck,hkp⟩:=hrel
    by_cases hlt:k<l.length
    ·obtain⟨s,hs⟩: ∃s,l[k]?=some s:=⟨_,List.getElem?_eq_getElem hlt⟩
     obtain⟨bs,BG,rfl,hcs⟩:=H.out.2.2.2.2.2.2.2.2.2.resolve_left (fun h=>by rw[h]at hlt;simp at hlt)
     have kw:=H.out.2.2.2.2.1.trans hkp
     have y0:=kw.cell (fun h=>h) (hcs k s hs).1
     have y1:=kw.cell (fun h=>h) (hcs k s hs).2
     obtain⟨Gh,T,rest,htk⟩:=EACH.out.1 s (List.mem_of_getElem? hs)
     have uM:bY s.2=T:=by unfold bY;rw[htk]
     have hfs:=EACH.out.2 s (List.mem_of_getElem? hs)
     have lM:=H.out.2.2.2.1 s (List.mem_of_getElem? hs)
     have hdr:=yS (a:=a.nodes) (b:=b.nodes) hs
     rw[uM]at hdr
     have ct:=uY s.2 lM.2 wr
     unfold dG at ct
     rw[htk]at ct
     dsimp only at ct
     have G:=Lib.hid (And.intro hg (And.intro hck (And.intro hkp (And.intro Gh (And.intro hdr (And.intro uM hfs))))))
     clear hg hck hkp Gh htk uM lM hdr kw hcs hs hfs
     go_wp2_with fail
     (with_reducible refine ct.mono ?_)
     clear ct
     rintro e w5 ⟨tb,rfl,tT,k5,-⟩
     have y0:=k5.cell (fun h=>h) y0
     have wu:=G.out.2.2.1.trans k5
     obtain⟨⟨tv5,Ar,FU⟩,-⟩:=(id tT:RTabAt w5 tb T)
     obtain⟨Ti,Tf,rfl,hp1,hp2,-⟩:=FU.parts
     have q5:w5.cell? ⟨tb,0,none⟩=some (.slice Ti T.length Tf):=cells_at Ar rfl
     unfold maxLen at hp2
     have K5:=Lib.hid (And.intro tT wu)
     clear tT k5 Ar FU y1
     by_cases hT0:T=[]
     ·have hTl:T.length=0:=by rw[hT0];rfl
      rw[hTl]at q5
      have HT0:=Lib.hid hT0
      clear hT0 hTl wu y0
      go_wp2_with fail
      go_roundg (l.length-(k+1))
      case rel=>exact⟨k+1,by omega,by go_num,Nat.le_refl _,by rw[G.out.2.1,G.out.2.2.2.2.1,if_pos HT0.out],K5.out.2⟩
      case measure=>have:=G.out.1;omega
     ·have hTl: ¬T.length=0:=fun h=>hT0 (List.eq_nil_of_length_eq_zero h)
      have X0:((T.length:Nat):Int)≠0:=by omega
      have hTlb:(((T.length:Nat):Int)==0)=false:=beq_eq_false_iff_ne.2 X0
      have t0:=wu.heap H.out.2.2.2.2.2.1 (fun h=>h)
      have t1:=wu.heap H.out.2.2.2.2.2.2.1 (fun h=>h)
      have p0:=cells_at t0 (j:=0) (v:= .int .i64 a.par) rfl
      have p1:=cells_at t0 (j:=1) (v:= .slice na a.nodes.length dU) rfl
      have r0:=cells_at t1 (j:=0) (v:= .int .i64 b.par) rfl
      have r1:=cells_at t1 (j:=1) (v:= .slice mb b.nodes.length dQ) rfl
      have PX:w.heap.size+1<w5.heap.size:=(Array.getElem?_eq_some_iff.1 t1).1
      have Ns:Kept none' w5 w5.drew:=(Kept.refl _ _).drew
      have Xi:=sU a _ s.1 w5.drew (H.out.1.pure ((H.out.2.2.2.2.1.trans wu).trans Ns))
      have HT0:=Lib.hid hT0
      have Y:=Lib.hid (And.intro y0 (And.intro p0 (And.intro p1 (And.intro r0 r1))))
      clear hT0 t0 t1 Ns p0 p1 r0 r1
      go_wp2_with fail
      refine ak [0,1,2,3,4,5,6,7] (fun W=>Kept none' w5 W) (by kernel_rfl) (by kernel_rfl) rfl (Kept.refl _ _).drew ?_
      simp only[List.map_cons,List.map_nil,List.getElem?_toArray,List.getElem?_cons_zero,List.getElem?_cons_succ,Option.getD_some]
      iterate 6 (apply aj rfl rfl;(intro W hW;have o0:=hW.cell (fun h=>h) Y.out.1;have o1:=hW.cell (fun h=>h) Y.out.2.1;have o2:=hW.cell (fun h=>h) Y.out.2.2.1;go_simp;rfl);go_frame)
      apply aB rfl rfl
      intro K hK
      go_wp2_with fail
      (with_reducible refine Xi.mono ?_)
      clear Xi
      rintro e w6 ⟨rfl,k6⟩
      have lK:=k6.bP
      go_wp2_with fail
      refine hK _ _ (fun _=>lK) ?_
      clear hK
      apply aj rfl rfl
      ·intro W hW;go_simp;rfl
      go_frame
      refine aG (fun _=>lK) ?_
      have rO:=wu.trans lK
      have Wy:Kept none' w6 w6.drew:=(Kept.refl _ _).drew
      have Oh:=sU b _ s.1 w6.drew (H.out.2.1.pure ((H.out.2.2.2.2.1.trans rO).trans Wy))
      have q6:=lK.cell (fun h=>h) q5
      have y6:=lK.cell (fun h=>h) y0
      have Y6:=Lib.hid (And.intro y6 (And.intro (lK.cell (fun h=>h) Y.out.2.2.2.1) (lK.cell (fun h=>h) Y.out.2.2.2.2)))
      have K6:=Lib.hid (And.intro (K5.out.1.pure lK) rO)
      clear k6 lK wu rO Wy q5 y0 y6 Y
      go_wp2_with fail
      refine ak [0,1,2,3,4,5,6,7] (fun W=>Kept none' w6 W) (by kernel_rfl) (by kernel_rfl) rfl (Kept.refl _ _).drew ?_
      simp only[List.map_cons,List.map_nil,List.getElem?_toArray,List.getElem?_cons_zero,List.getElem?_cons_succ,Option.getD_some]
      iterate 6 (apply aj rfl rfl;(intro W hW;have o0:=hW.cell (fun h=>h) Y6.out.1;have o1:=hW.cell (fun h=>h) Y6.out.2.1;have o2:=hW.cell (fun h=>h) Y6.out.2.2;go_simp;rfl);go_frame)
      apply aB rfl rfl
      intro K hK
      go_wp2_with fail
      (with_reducible refine Oh.mono ?_)
      clear Oh
      rintro e w7 ⟨rfl,k7⟩
      have wz:=k7.bP
      go_wp2_with fail
      refine hK _ _ (fun _=>wz) ?_
      clear hK
      apply aj rfl rfl
      ·intro W hW;go_simp;rfl
      go_frame
      refine aG (fun _=>wz) ?_
      have mP:=K6.out.2.trans wz
      have y7:=wz.cell (fun h=>h) Y6.out.1
      have K7:=Lib.hid (And.intro (K6.out.1.pure wz) mP)
      clear k7 wz q6 Y6
      rcases dI b.nodes s.1 with⟨hf,-⟩|⟨ib,db,hfb,hdb,-,F5,-⟩
      ·rw[hf]
       have F:=Lib.hid (show jc w (aN a b l) (.returned (.tuple #[.string s.1, .int .i64 240])) w7 from
        ⟨by rw[show aN a b l=eY a.nodes b.nodes l by unfold aN;rw[HL.out];simp only[lW.out,if_true],G.out.2.1,G.out.2.2.2.2.1,if_neg HT0.out,if_pos (by rw[hf];decide)],H.out.2.2.2.2.1.trans mP⟩)
       clear hf mP
       go_wp2_with fail
       go_ret2
       exact F.out
      ·rw[hfb]
       rcases dI a.nodes s.1 with⟨hf,-⟩|⟨ia,da,hfa,hda,-,F7,-⟩
       ·exact absurd G.out.2.2.2.1 (by rw[hf];decide)
       ·rw[hfa]
        have Qg:=zQ (b:=b.nodes) G.out.2.2.2.2.2.2 (by rw[G.out.2.2.2.2.2.1];exact HT0.out)
        rw[G.out.2.2.2.2.2.1,F5,F7]at Qg
        obtain⟨ab,dF,api,JA,ap,BZ,rfl,hac,-⟩:=H.out.2.2.2.2.2.2.2.1 ia da hda
        obtain⟨bb,ug,Jw,Jz,bp,BU,rfl,hbc,hbj⟩:=H.out.2.2.2.2.2.2.2.2.1 ib db hdb
        have hia:ia<a.nodes.length:=(List.getElem?_eq_some_iff.1 hda).1
        have hib:ib<b.nodes.length:=(List.getElem?_eq_some_iff.1 hdb).1
        obtain⟨-,c1,-⟩:=hac.kept (H.out.2.2.2.2.1.trans mP) (fun h=>h)
        obtain⟨d0,d1,d2,d3,d4,d5,d6⟩:=hbc.kept (H.out.2.2.2.2.1.trans mP) (fun h=>h)
        have t0:=mP.heap H.out.2.2.2.2.2.1 (fun h=>h)
        have t1:=mP.heap H.out.2.2.2.2.2.2.1 (fun h=>h)
        have p1:=cells_at t0 (j:=1) (v:= .slice (some ⟨ab,dF,none⟩) a.nodes.length dU) rfl
        have r1:=cells_at t1 (j:=1) (v:= .slice (some ⟨bb,ug,none⟩) b.nodes.length dQ) rfl
        have TR:Kept none' w7 w7.drew:=(Kept.refl _ _).drew
        have cf:=CY db _ tb T w7.drew (hbj.pure ((H.out.2.2.2.2.1.trans mP).trans TR)) (K7.out.1.pure TR)
        have HN:=Lib.hid (And.intro Qg (show ¬aA b.nodes s.1<0 from by rw[hfb];omega))
        have Z:=Lib.hid (And.intro p1 (And.intro r1 (And.intro c1 (And.intro d0 (And.intro d1 (And.intro d2 (And.intro d3 (And.intro d4 (And.intro d5 d6)))))))))
        have ib0: ¬((ib:Nat):Int)<0:=by omega
        clear Qg hac hbc hbj hda hdb hfb hfa t0 t1 TR p1 r1 c1 d0 d1 d2 d3 d4 d5 d6 F5 F7
        go_wp2_with fail
        refine ak [0,1,2,3,4,5,6,7,8,9,10,11,12,13,14,15,16,17,18,19,20,21,22] (fun W=>Kept none' w7 W) (by kernel_rfl) (by kernel_rfl) rfl (Kept.refl _ _).drew ?_
        simp only[List.map_cons,List.map_nil,List.getElem?_toArray,List.getElem?_cons_zero,List.getElem?_cons_succ,Option.getD_some]
        iterate 12 (apply aj rfl rfl;(intro W hW;have o0:=hW.cell (fun h=>h) Z.out.1;have o1:=hW.cell (fun h=>h) Z.out.2.1;have o2:=hW.cell (fun h=>h) Z.out.2.2.1;have o3:=hW.cell (fun h=>h) Z.out.2.2.2.2.1;go_simp;rfl);go_frame)
        by_cases hk:da.kind=db.kind
        ·have hkb:(da.kind !=db.kind)=false:=by rw[hk,bne_self_eq_false]
         iterate 2 (refine aj (v:= .bool false) rfl rfl (by intro W hW;go_simp;try simp[hk]) ?_;go_frame)
         iterate 6 (apply aj rfl rfl;(intro W hW;have o1:=hW.cell (fun h=>h) Z.out.2.1;have o2:=hW.cell (fun h=>h) Z.out.2.2.2.1;have o3:=hW.cell (fun h=>h) Z.out.2.2.2.2.1;have o4:=hW.cell (fun h=>h) Z.out.2.2.2.2.2.1;have o5:=hW.cell (fun h=>h) Z.out.2.2.2.2.2.2.1;have o6:=hW.cell (fun h=>h) Z.out.2.2.2.2.2.2.2.1;have o7:=hW.cell (fun h=>h) Z.out.2.2.2.2.2.2.2.2.1;have o8:=hW.cell (fun h=>h) Z.out.2.2.2.2.2.2.2.2.2;go_simp;rfl);go_frame)
         apply aB rfl rfl
         intro K hK
         go_wp2_with fail
         (with_reducible refine cf.mono ?_)
         clear cf
         rintro e w8 ⟨rfl,k8⟩
         have FN:=k8.bP
         go_wp2_with fail
         refine hK _ _ (fun _=>FN) ?_
         clear hK
         have Xp:=Lib.hid (K7.out.2.trans FN)
         cases hfit:dD db.kind db.n T with
         |true=>
          have HBAD:=Lib.hid (show jJ a.nodes b.nodes s=false by rw[HN.out.1,hkb,hfit];rfl)
          iterate 2 (apply aj rfl rfl;(intro W hW;go_simp;rfl);go_frame)
          refine aG (fun _=>FN) ?_
          clear k8 FN mP hfit
          go_wp2_with fail
          go_roundg (l.length-(k+1))
          case rel=>exact⟨k+1,by omega,by go_num,Nat.le_refl _,by rw[G.out.2.1,G.out.2.2.2.2.1,if_neg HT0.out,if_neg (show ¬aA b.nodes s.1<0 from by have:=HN.out.2;omega),if_neg (by rw[HBAD.out];decide)],Xp.out⟩
          case measure=>have:=G.out.1;omega
         |false=>
          have HBAD:=Lib.hid (show jJ a.nodes b.nodes s=true by rw[HN.out.1,hkb,hfit];rfl)
          iterate 2 (apply aj rfl rfl;(intro W hW;go_simp;rfl);go_frame)
          refine aG (fun _=>FN) ?_
          have F:=Lib.hid (show jc w (aN a b l) (.returned (.tuple #[.string s.1, .int .i64 241])) w8 from
           ⟨by rw[show aN a b l=eY a.nodes b.nodes l by unfold aN;rw[HL.out];simp only[lW.out,if_true],G.out.2.1,G.out.2.2.2.2.1,if_neg HT0.out,if_neg (show ¬aA b.nodes s.1<0 from by have:=HN.out.2;omega),if_pos HBAD.out],H.out.2.2.2.2.1.trans Xp.out⟩)
          have y8:=FN.cell (fun h=>h) y7
          clear k8 FN mP hfit y7
          go_wp2_with fail
          go_ret2
          exact F.out
        ·have hkb:(da.kind !=db.kind)=true:=bne_iff_ne.2 hk
         have HBAD:=Lib.hid (show jJ a.nodes b.nodes s=true by rw[HN.out.1,hkb];rfl)
         iterate 2 (refine aj (v:= .bool true) rfl rfl (by intro W hW;go_simp;try simp[hk]) ?_;go_frame)
         iterate 8 (apply aV rfl;go_frame)
         iterate 1 (apply aj rfl rfl;(intro W hW;go_simp;rfl);go_frame)
         refine aG (fun _=>(Kept.refl _ _).drew) ?_
         have F:=Lib.hid (show jc w (aN a b l) (.returned (.tuple #[.string s.1, .int .i64 241])) w7.drew from
          ⟨by rw[show aN a b l=eY a.nodes b.nodes l by unfold aN;rw[HL.out];simp only[lW.out,if_true],G.out.2.1,G.out.2.2.2.2.1,if_neg HT0.out,if_neg (show ¬aA b.nodes s.1<0 from by have:=HN.out.2;omega),if_pos HBAD.out],H.out.2.2.2.2.1.trans (K7.out.2.trans (Kept.refl _ _).drew)⟩)
         clear mP
         go_wp2_with fail
         go_ret2
         exact F.out
    ·have e1:k=l.length:=by omega
     subst e1
     rw[List.drop_of_length_le (Nat.le_refl _)]at hck
     have F:=Lib.hid (show jc w (aN a b l) (.returned (.tuple #[.string emptyS, .int .i64 0])) wr from
      ⟨by rw[show aN a b l=eY a.nodes b.nodes l by unfold aN;rw[HL.out];simp only[lW.out,if_true],hck];rfl,H.out.2.2.2.2.1.trans hkp⟩)
     clear hck hkp hg
     go_wp2_with fail
     go_ret2
     exact F.out
  ·have F:=Lib.hid (show jc w (aN a b l) (.returned (.tuple #[.string emptyS, .int .i64 2])) w3 from⟨by
    unfold aN
    rw[HL.out]
    simp only
    rw[if_neg (by rw[HM.out,decide_eq_false hz];decide)],H.out.2.2.2.2.1.trans (K2.out.trans k3)⟩)
   have hz1:(m2 !=0)=true:=bne_iff_ne.2 hz
   clear k3 hz
   go_wp2_with fail
   go_ret2
   exact F.out
theorem vY.ge {j:Jb}(h:vY j):j.nodes.length<=1000:=by have:=h.1;omega
theorem J9 (a b:Jb)(va vb sv:Value)(l:List St)(w:World)(ha:fA w #[.int .i64 a.par,va] a)(hb:fA w #[.int .i64 b.par,vb] b)(hs:Reads w 2 sv (dK l))(hsz: ∀s∈l,s.1.size<=maxLen/\s.2.size<=maxLen)(hma:vY a)(hmb:vY b):
 Calls Tryz.prog 13 #[.agg #[.int .i64 a.par,va], .agg #[.int .i64 b.par,vb],sv] w (kR w (iW a b l)):=by
 obtain⟨na,dU,hva,-⟩:=ha.uI.at
 obtain⟨mb,dQ,hvb,-⟩:=hb.uI.at
 obtain⟨sa,scap,hsv,s1,s2,s3⟩:=hs.mV
 subst hva hvb hsv
 unfold maxLen at s2
 have kA:Kept none' w ((w.alloc (.cells #[.int .i64 a.par, .slice na a.nodes.length dU] 24)).alloc (.cells #[.int .i64 b.par, .slice mb b.nodes.length dQ] 24)):=((Kept.refl _ _).alloc _).alloc _
 have t0:((w.alloc (.cells #[.int .i64 a.par, .slice na a.nodes.length dU] 24)).alloc (.cells #[.int .i64 b.par, .slice mb b.nodes.length dQ] 24)).heap[w.heap.size]?=some (.cells #[.int .i64 a.par, .slice na a.nodes.length dU] 24 (0,0)):=((Kept.refl none' _).alloc _).heap (heap_alloc_new w _) (fun h=>h)
 have t1:((w.alloc (.cells #[.int .i64 a.par, .slice na a.nodes.length dU] 24)).alloc (.cells #[.int .i64 b.par, .slice mb b.nodes.length dQ] 24)).heap[w.heap.size+1]?=some (.cells #[.int .i64 b.par, .slice mb b.nodes.length dQ] 24 (0,0)):=by
  have:=heap_alloc_new (w.alloc (.cells #[.int .i64 a.par, .slice na a.nodes.length dU] 24)) (.cells #[.int .i64 b.par, .slice mb b.nodes.length dQ] 24)
  rwa[World.size_alloc]at this
 obtain⟨W1,hW1⟩: ∃W1,((w.alloc (.cells #[.int .i64 a.par, .slice na a.nodes.length dU] 24)).alloc (.cells #[.int .i64 b.par, .slice mb b.nodes.length dQ] 24))=W1:=⟨_,rfl⟩
 rw[hW1]at kA t0 t1
 have cc:=zX a b _ _ _ l W1 (ha.pure kA) (hb.pure kA) (hs.pure kA) hsz hma hmb
 have H:=Lib.hid (And.intro hb (And.intro hsz (And.intro kA (And.intro t1 (And.intro s3 hmb)))))
 have HW:=Lib.hid hW1
 clear ha hb hs hsz kA t0 t1 hW1 s3 hma hmb
 go_enter Tryz.func13,Tryz.ntmps13
 go_wp2_with fail
 rw[HW.out]
 clear HW
 (with_reducible refine cc.mono ?_)
 clear cc
 rintro e w2 ⟨rfl,k2⟩
 by_cases hz:(aN a b l).2=0
 ·obtain⟨Us,hU,WY,hC⟩:=Lr hz
  obtain⟨Ts,hload⟩:=AV hz
  have EACH:=Lib.hid (oC hload)
  have CK:=Lib.hid (qW (a:=a.nodes) (b:=b.nodes) (l:=l) (by
   have h1:=hz
   unfold aN at h1
   rw[hload]at h1
   simp only at h1
   split at h1
   ·exact h1
   ·cases h1)).2
  rw[hz]
  have t1:=k2.heap H.out.2.2.2.1 (fun h=>h)
  have r0:=cells_at t1 (j:=0) (v:= .int .i64 b.par) rfl
  have r1:=cells_at t1 (j:=1) (v:= .slice mb b.nodes.length dQ) rfl
  have hsz1:w.heap.size+1<w2.heap.size:=(Array.getElem?_eq_some_iff.1 t1).1
  have cl:=CX b _ (.slice none 0 0) [] w2 (H.out.1.pure (H.out.2.2.1.trans k2)) (Reads.nil _ 2) (fun s hs=>by cases hs) H.out.2.2.2.2.2
  have K2:=Lib.hid (And.intro k2 (And.intro hC WY))
  clear hload hz k2 t1 hC WY
  go_wp2_with fail
  (with_reducible refine cl.mono ?_)
  clear cl r0 r1
  intro e w3 hq
  unfold iZ at hq
  rw[hU]at hq
  obtain⟨D,tv,pm,m,rfl,hob,hwD,hrow,TW,Xd,hmw,htb,k3⟩:=hq
  obtain⟨ta,tc,rfl⟩:=ay hrow
  have A8:=Lib.hid (And.intro hob (And.intro hrow (And.intro TW (And.intro Xd (And.intro hmw (And.intro htb (And.intro (K2.out.1.trans k3) hwD)))))))
  clear hU hob hrow TW Xd hmw htb k3 hwD
  go_wp2_with fail
  go_loopg [12] l.length (fun g vi wr=> ∃(k:Nat)(wV:Nat->Nat),k<=l.length/\vi= .int .i64 (k:Int)/\l.length-k<=g/\wr.ownsRow (D+1) 46 1 (.slice ta Us.length tc) (fE b.nodes (l.take k) Us).length (rp wV (fE b.nodes (l.take k) Us))/\fD wr (up m) (fE b.nodes (l.take k) Us) wV/\Kept (fun q=>(Value.slice ta Us.length tc).ownBlock=some q) w3 wr)
  case atStart=>exact⟨0,pm,by omega,rfl,by omega,A8.out.2.1,A8.out.2.2.2.2.2.1,Kept.refl _ _⟩
  case round=>
   obtain⟨k,wV,hkl,rfl,hg,hown,htb,hkp⟩:=hrel
   have BR: ¬(Value.slice ta Us.length tc).ownBlock=some D:=fun e=>by have:=(A8.out.2.1.lt _ e).1;omega
   have oD:=hkp.heap A8.out.1 BR
   have FI:Kept none' W1 wr:=A8.out.2.2.2.2.2.2.1.new hkp (fun i hi e=>by have:=(A8.out.2.1.lt _ e).1;have:=A8.out.2.2.2.2.2.2.2;have:=K2.out.1.size;omega)
   have kw:=H.out.2.2.1.trans FI
   have hmw:m<=wr.heap.size:=Nat.le_trans A8.out.2.2.2.2.1 hkp.size
   have d2:wr.cell? ⟨D,2,none⟩=some (.slice ta Us.length tc):=cells_at oD rfl
   have U8:D<wr.heap.size:=block_lt_of_cell d2
   by_cases hlt:k<l.length
   ·obtain⟨s,hs⟩: ∃s,l[k]?=some s:=⟨_,List.getElem?_eq_getElem hlt⟩
    obtain⟨bs,BG,rfl,hcs⟩:=H.out.2.2.2.2.1.resolve_left (fun h=>by rw[h]at hlt;simp at hlt)
    have y0:=kw.cell (fun h=>h) (hcs k s hs).1
    have y1:=kw.cell (fun h=>h) (hcs k s hs).2
    obtain⟨_,T,rest,htk⟩:=EACH.out s (List.mem_of_getElem? hs)
    have uM:bY s.2=T:=by unfold bY;rw[htk]
    have hfb:=CK.out s (List.mem_of_getElem? hs)
    have lM:=H.out.2.1 s (List.mem_of_getElem? hs)
    have hsn:=Mc (b:=b.nodes) hs Us
    rw[uM]at hsn hfb
    have ct:=uY s.2 lM.2 wr
    unfold dG at ct
    rw[htk]at ct
    dsimp only at ct
    have G:=Lib.hid (And.intro hg (And.intro hown (And.intro htb (And.intro hkp (And.intro hsn (And.intro FI hfb))))))
    clear hg hown htb hkp hsn htk uM lM hcs hs oD kw FI hfb
    go_wp2_with fail
    (with_reducible refine ct.mono ?_)
    clear ct
    rintro e w5 ⟨tb,rfl,tT,k5,tI⟩
    have y0:=k5.cell (fun h=>h) y0
    have d2:=k5.cell (p:=⟨D,2,none⟩) (fun h=>h) d2
    have wu:=G.out.2.2.2.2.2.1.trans k5
    obtain⟨⟨tv5,Ar,FU⟩,-⟩:=(id tT:RTabAt w5 tb T)
    obtain⟨Ti,Tf,rfl,hp1,hp2,-⟩:=FU.parts
    have q5:w5.cell? ⟨tb,0,none⟩=some (.slice Ti T.length Tf):=cells_at Ar rfl
    unfold maxLen at hp2
    have t1:=wu.heap H.out.2.2.2.1 (fun h=>h)
    have r0:=cells_at t1 (j:=0) (v:= .int .i64 b.par) rfl
    have r1:=cells_at t1 (j:=1) (v:= .slice mb b.nodes.length dQ) rfl
    have Ns:Kept none' w5 w5.drew:=(Kept.refl _ _).drew
    have Oh:=sU b _ s.1 w5.drew (H.out.1.pure ((H.out.2.2.1.trans wu).trans Ns))
    have K5:=Lib.hid (And.intro tI (And.intro k5 wu))
    have Y:=Lib.hid (And.intro y0 (And.intro r0 r1))
    clear tT tI k5 wu Ar FU y1 t1 r0 r1 y0 Ns
    go_wp2_with fail
    refine ak [0,1,2,3,4,5,6,7] (fun W=>Kept none' w5 W) (by kernel_rfl) (by kernel_rfl) rfl (Kept.refl _ _).drew ?_
    simp only[List.map_cons,List.map_nil,List.getElem?_toArray,List.getElem?_cons_zero,List.getElem?_cons_succ,Option.getD_some]
    iterate 6 (apply aj rfl rfl;(intro W hW;have o0:=hW.cell (fun h=>h) Y.out.1;have o1:=hW.cell (fun h=>h) Y.out.2.1;have o2:=hW.cell (fun h=>h) Y.out.2.2;go_simp;rfl);go_frame)
    apply aB rfl rfl
    intro K hK
    go_wp2_with fail
    (with_reducible refine Oh.mono ?_)
    clear Oh
    rintro e w6 ⟨rfl,k6⟩
    have lK:=k6.bP
    go_wp2_with fail
    refine hK _ _ (fun _=>lK) ?_
    clear hK
    apply aj rfl rfl
    ·intro W hW;go_simp;rfl
    go_frame
    refine aG (fun _=>lK) ?_
    have q6:=lK.cell (fun h=>h) q5
    have d6:=lK.cell (p:=⟨D,2,none⟩) (fun h=>h) d2
    have K6:=Lib.hid (K5.out.2.1.trans lK)
    have PX:D<w6.heap.size:=block_lt_of_cell d6
    have I6:=Lib.hid (K5.out.1.kept lK (fun _ h=>h.elim))
    clear k6 lK q5 d2 Y
    by_cases hT0:T=[]
    ·have hTl:T.length=0:=by rw[hT0];rfl
     rw[hTl]at q6
     have F:=Lib.hid (show w6.ownsRow (D+1) 46 1 (.slice ta Us.length tc) (fE b.nodes (l.take (k+1)) Us).length (rp wV (fE b.nodes (l.take (k+1)) Us))/\fD w6 (up m) (fE b.nodes (l.take (k+1)) Us) wV/\Kept (fun q=>(Value.slice ta Us.length tc).ownBlock=some q) w3 w6 from by
      rw[G.out.2.2.2.2.1,if_pos hT0];exact⟨K6.out.owns G.out.2.1 (fun _ _ h=>h),G.out.2.2.1.pure K6.out,G.out.2.2.2.1.trans K6.out.pure⟩)
     clear hT0 hTl
     go_wp2_with fail
     go_roundg (l.length-(k+1))
     case rel=>exact⟨k+1,wV,by omega,by go_num,Nat.le_refl _,F.out⟩
     case measure=>have:=G.out.1;omega
    ·have hTl:0<T.length:=Nat.pos_of_ne_zero (fun h=>hT0 (List.eq_nil_of_length_eq_zero h))
     have hlen:(fE b.nodes (l.take k) Us).length=Us.length:=tK _ _ _
     obtain⟨hfn,-⟩:=G.out.2.2.2.2.2.2 hT0
     rcases dI b.nodes s.1 with⟨hf,-⟩|⟨i,d,hf,hd,-,-,-⟩
     ·omega
     ·have hiU:i<Us.length:=by rw[K2.out.2.2];exact(List.getElem?_eq_some_iff.1 hd).1
      have O1:=K6.out.owns G.out.2.1 (fun _ _ h=>h)
      have hti:=getD_some (Ts:=fE b.nodes (l.take k) Us) (i:=i) (by rw[hlen];exact hiU)
      obtain⟨gb,rfl,-,ht1,ht2,-,z6,z6f⟩:=yg O1 hti
      unfold maxLen at ht2
      have QE:w6.ownsRow (D+1) 46 1 (.slice (some ⟨gb,0,none⟩) Us.length tc) Us.length (rp wV (fE b.nodes (l.take k) Us)):=by have:=O1;rwa[hlen]at this
      have PZ:=QE.stored i (.pointer (some ⟨tb,0,none⟩))
      rw[<-ER wV (fE b.nodes (l.take k) Us) i tb T]at PZ
      have kS:Kept (fun q=>(Value.slice (some ⟨gb,0,none⟩) Us.length tc).ownBlock=some q) w6 (w6.setCell ⟨gb,i,none⟩ (.pointer (some ⟨tb,0,none⟩))):=Kept.setCell (p:=⟨gb,i,none⟩) (Kept.refl (fun q=>(Value.slice (some ⟨gb,0,none⟩) Us.length tc).ownBlock=some q) _) (.inl rfl) _
      have hnq: ∀q,(Value.slice (some ⟨gb,0,none⟩) Us.length tc).ownBlock=some q-> ¬up m q:=fun q hq hu=>by have:=A8.out.2.2.1 q hq;unfold up at hu;omega
      have V4:=(((G.out.2.2.1.pure K6.out).set (i:=i) (b:=tb) (I6.out.mono (fun q hq=>by unfold up;omega)) (fun n U hU=>by
       have h1:=G.out.2.2.1.lt n U hU
       have h2:wr.heap.size<=tb:=I6.out.dot
       omega)).kept kS hnq)
      have hsn:=G.out.2.2.2.2.1
      rw[if_neg hT0,hf,Int.toNat_natCast]at hsn
      have F:=Lib.hid (show(w6.setCell ⟨gb,i,none⟩ (.pointer (some ⟨tb,0,none⟩))).ownsRow (D+1) 46 1 (.slice (some ⟨gb,0,none⟩) Us.length tc) (fE b.nodes (l.take (k+1)) Us).length (rp (fun q=>if q=i then tb else wV q) (fE b.nodes (l.take (k+1)) Us))/\fD (w6.setCell ⟨gb,i,none⟩ (.pointer (some ⟨tb,0,none⟩))) (up m) (fE b.nodes (l.take (k+1)) Us) (fun q=>if q=i then tb else wV q)/\Kept (fun q=>(Value.slice (some ⟨gb,0,none⟩) Us.length tc).ownBlock=some q) w3 (w6.setCell ⟨gb,i,none⟩ (.pointer (some ⟨tb,0,none⟩)))from by
       rw[hsn,List.length_set,hlen]
       exact⟨PZ.1,V4,(G.out.2.2.2.1.trans K6.out.pure).trans kS⟩)
      rw[hf]
      clear O1 QE hti PZ kS hnq V4 hsn hf hd hfn hlen hT0
      go_wp2_with fail
      go_roundg (l.length-(k+1))
      case rel=>exact⟨k+1,_,by omega,by go_num,Nat.le_refl _,F.out⟩
      case measure=>have:=G.out.1;omega
   ·have e1:k=l.length:=by omega
    subst e1
    rw[List.take_of_length_le (Nat.le_refl _)]at hown htb
    have cs:=H8 b D (fE b.nodes l Us) (.slice ta Us.length tc) wV wr ⟨_,D+1,oD,H.out.1.uI.pure kw,hown,htb.mono (fun _ _=>trivial)⟩ (by rw[tK];exact K2.out.2.2) H.out.2.2.2.2.2.ge
    have G:=Lib.hid kw
    clear hown htb hkp hg kw FI oD d2
    go_wp2_with fail
    (with_reducible refine cs.mono ?_)
    clear cs
    rintro e w4 ⟨v4,rfl,hv4,-,k4⟩
    have F:=Lib.hid (show kR w (iW a b l) (.returned (.tuple #[v4, .int .i64 0])) w4 from by
     unfold kR
     rw[K2.out.2.1]
     exact⟨_,rfl,hv4,G.out.trans k4⟩)
    obtain⟨VX,VW,rfl,-⟩:=hv4.mV
    clear hv4 k4
    go_wp2_with fail
    go_ret2
    exact F.out
 ·have F:=Lib.hid (show kR w (iW a b l) (.returned (.tuple #[.slice none 0 0, .int .i64 (aN a b l).2])) w2 from by
   unfold iW
   rw[if_pos hz]
   exact⟨rfl,hz,H.out.2.2.1.trans k2⟩)
  obtain⟨er,her⟩: ∃er,(aN a b l).2=er:=⟨_,rfl⟩
  rw[her]at hz F⊢
  have hz1:(er !=0)=true:=bne_iff_ne.2 hz
  clear k2 her hz
  go_wp2_with fail
  go_ret2
  exact F.out
end Go.Proofs.YtglbkodmmogomaaGreatDoor
