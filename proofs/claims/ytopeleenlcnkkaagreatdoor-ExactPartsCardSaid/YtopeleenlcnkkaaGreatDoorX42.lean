/- move.Check: whether states may be carried. -/
import Derived.Test.YtopeleenlcnkkaaGreatDoorX41
set_option linter.unusedVariables false
set_option linter.unusedSimpArgs false
set_option maxHeartbeats 8000000
set_option maxRecDepth 100000
namespace Go.Proofs.YtopeleenlcnkkaaGreatDoor
open Go Go.RowKit
attribute [local irreducible] bU dL H2.cZ
theorem bZ.lM {w:World}{par:Int}{v:Value}{j:Jb}(h:bZ w #[.int .i64 par,v] j):dP w v j.nodes:=by
 obtain⟨v',e,hn,_⟩:=h
 injection e with e
 injection e with _ e
 injection e with e
 subst e
 exact hn
theorem D8 {nodes:List JN}: ∀{l:List St}{Ts Us:Tabs},eG nodes l Ts= .ok Us-> ∀s∈l,0<=aO nodes s.1/\ ∃T r,lG s.2.data.toList= .ok T r
 |[],_,_,_,s,hs=>by cases hs
 |x::l,Ts,Us,h,s,hs=>by
  unfold eG at h
  split at h
  ·cases h
  ·rename_i hno
   simp only[not_or]at hno
   split at h
   ·cases h
   ·rename_i T r ht
    split at h
    ·rcases List.mem_cons.1 hs with rfl|hs
     ·exact⟨by omega,T,r,ht⟩
     ·exact D8 h s hs
    ·cases h
theorem D7 {j:Jb}{l:List St}{Ts:Tabs}(h:bJ j l= .ok Ts): ∀s∈l,0<=aO j.nodes s.1/\ ∃T r,lG s.2.data.toList= .ok T r:=by
 unfold bJ at h
 split at h
 ·cases e:eG j.nodes l (dh j.nodes)with
  |error f=>rw[e]at h;cases h
  |ok Us=>exact D8 e
 ·cases h
theorem abj {w:World}{B E:Nat}{a b c d e f g a' b' c' d' e' f' g':Value}(h:w.heap[B]?=some (.cells #[a,b,c,d,e,f,g] E (0,0))):
 (((((((w.setCell ⟨B,0,none⟩ a').setCell ⟨B,1,none⟩ b').setCell ⟨B,2,none⟩ c').setCell ⟨B,3,none⟩ d').setCell ⟨B,4,none⟩ e').setCell ⟨B,5,none⟩ f').setCell ⟨B,6,none⟩ g').heap[B]?=some (.cells #[a',b',c',d',e',f',g'] E (0,0)):=by
 have h1:=aK (aK (aK (aK (aK (aK (aK h 0 a') 1 b') 2 c') 3 d') 4 e') 5 f') 6 g'
 simpa using h1
theorem Hu {S:Nat->Prop}{w0 w:World}{B:Nat}{a b c d e f g:Value}(h:Kept S w0 w)(hB:S B\/w0.heap.size<=B):
 Kept S w0 (((((((w.setCell ⟨B,0,none⟩ a).setCell ⟨B,1,none⟩ b).setCell ⟨B,2,none⟩ c).setCell ⟨B,3,none⟩ d).setCell ⟨B,4,none⟩ e).setCell ⟨B,5,none⟩ f).setCell ⟨B,6,none⟩ g):=
 ((((((h.setCell (p:=⟨B,0,none⟩) hB _).setCell (p:=⟨B,1,none⟩) hB _).setCell (p:=⟨B,2,none⟩) hB _).setCell (p:=⟨B,3,none⟩) hB _).setCell (p:=⟨B,4,none⟩) hB _).setCell (p:=⟨B,5,none⟩) hB _).setCell (p:=⟨B,6,none⟩) hB _
theorem Pm {a b:List JN}{l:List St}{k:Nat}{s:St}(h:l[k]?=some s):kV a b (l.drop k)=if nI s.2=[]then kV a b (l.drop (k+1))else if aO b s.1<0 then(s.1,240)else if ql a b s=true then(s.1,241)else kV a b (l.drop (k+1)):=by
 rw[vw h];rfl
def vJ (w:World)(r:ByteArray×Int)(e:Ending)(w':World):Prop:=e= .returned (.tuple #[.string r.1, .int .i64 r.2])/\Kept none' w w'
theorem check_any (a b:Jb)(va vb sv:Value)(l:List St)(w:World)(ha:bZ w #[.int .i64 a.par,va] a)(hb:bZ w #[.int .i64 b.par,vb] b)(hs:Reads w 2 sv (gX l))(hsz: ∀s∈l,s.1.size<=maxLen/\s.2.size<=maxLen):
 Calls Tryz.prog 20 #[.agg #[.int .i64 a.par,va], .agg #[.int .i64 b.par,vb],sv] w (vJ w (dJ a b l)):=by
 obtain⟨na,bW,hva,na1,oZ,na3⟩:=ha.lM.at
 obtain⟨mb,nU,hvb,mb1,mb2,mb3⟩:=hb.lM.at
 obtain⟨sa,scap,hsv,s1,s2,s3⟩:=hs.yI
 subst hva hvb hsv
 unfold maxLen at oZ mb2 s2
 have kA:Kept none' w ((w.alloc (.cells #[.int .i64 a.par, .slice na a.nodes.length bW] 24)).alloc (.cells #[.int .i64 b.par, .slice mb b.nodes.length nU] 24)):=((Kept.refl _ _).alloc _).alloc _
 have t0:((w.alloc (.cells #[.int .i64 a.par, .slice na a.nodes.length bW] 24)).alloc (.cells #[.int .i64 b.par, .slice mb b.nodes.length nU] 24)).heap[w.heap.size]?=some (.cells #[.int .i64 a.par, .slice na a.nodes.length bW] 24 (0,0)):=((Kept.refl none' _).alloc _).heap (heap_alloc_new w _) (fun h=>h)
 have t1:((w.alloc (.cells #[.int .i64 a.par, .slice na a.nodes.length bW] 24)).alloc (.cells #[.int .i64 b.par, .slice mb b.nodes.length nU] 24)).heap[w.heap.size+1]?=some (.cells #[.int .i64 b.par, .slice mb b.nodes.length nU] 24 (0,0)):=by
  have:=heap_alloc_new (w.alloc (.cells #[.int .i64 a.par, .slice na a.nodes.length bW] 24)) (.cells #[.int .i64 b.par, .slice mb b.nodes.length nU] 24)
  rwa[World.size_alloc]at this
 obtain⟨W1,hW1⟩: ∃W1,((w.alloc (.cells #[.int .i64 a.par, .slice na a.nodes.length bW] 24)).alloc (.cells #[.int .i64 b.par, .slice mb b.nodes.length nU] 24))=W1:=⟨_,rfl⟩
 rw[hW1]at kA t0 t1
 have cl:=MH a _ _ l W1 (ha.pure kA) (hs.pure kA) hsz
 have H:=Lib.hid (And.intro ha (And.intro hb (And.intro hs (And.intro hsz (And.intro kA (And.intro t0 (And.intro t1 (And.intro na3 (And.intro mb3 s3)))))))))
 have HW:=Lib.hid hW1
 clear ha hb hs hsz kA t0 t1 hW1 na3 mb3 s3
 go_enter Tryz.func20,Tryz.ntmps20
 go_wp2_with fail
 go_step3
 go_wp2_with fail
 rw[HW.out]
 clear HW
 (with_reducible refine cl.mono ?_)
 clear cl
 intro e w2 hq
 unfold mM at hq
 cases hl:bJ a l with
 |error er=>
  rw[hl]at hq
  obtain⟨rfl,hne,k2⟩:=hq
  have F:=Lib.hid (show vJ w (dJ a b l) (.returned (.tuple #[.string emptyS, .int .i64 er])) w2 from⟨by unfold dJ;rw[hl],H.out.2.2.2.2.1.trans k2⟩)
  clear hl k2
  go_wp2_with fail
  try rw[Exit.noGoto_ret]
  go_ret2
  exact F.out
 |ok Ts=>
  rw[hl]at hq
  obtain⟨bi,mi,pm,rfl,-,-,-,k2⟩:=hq
  have t1:=k2.heap H.out.2.2.2.2.2.2.1 (fun h=>h)
  have r0:=cells_at t1 (j:=0) (v:= .int .i64 b.par) rfl
  have r1:=cells_at t1 (j:=1) (v:= .slice mb b.nodes.length nU) rfl
  have hsz2:w.heap.size+1<w2.heap.size:=(Array.getElem?_eq_some_iff.1 t1).1
  have cm:=yT b _ w2 (H.out.2.1.pure (H.out.2.2.2.2.1.trans k2))
  have HM:=Lib.hid (uj b)
  have EACH:=Lib.hid (D7 hl)
  have HL:=Lib.hid hl
  have K2:=Lib.hid k2
  clear hl k2 t1
  obtain⟨m1,hm1⟩: ∃m1,(iZ b).1=m1:=⟨_,rfl⟩
  obtain⟨m2,hm2⟩: ∃m2,(iZ b).2=m2:=⟨_,rfl⟩
  unfold vH at cm
  rw[hm1,hm2]at cm
  rw[hm2]at HM
  clear hm1 hm2
  go_wp2_with fail
  (with_reducible refine cm.mono ?_)
  clear cm r0 r1
  rintro e w3 ⟨rfl,k3⟩
  by_cases hz:m2=0
  ·subst hz
   have jg:=Lib.hid (show bK b=true by rw[HM.out];rfl)
   have K3:=Lib.hid (K2.out.trans k3)
   clear k3
   go_wp2_with fail
   go_step3
   go_wp2_with fail
   go_loopg [37] l.length (fun g vi wr=> ∃(k:Nat),k<=l.length/\vi= .int .i64 (k:Int)/\l.length-k<=g/\kV a.nodes b.nodes l=kV a.nodes b.nodes (l.drop k)/\Kept none' W1 wr)
   case atStart=>exact⟨0,by omega,rfl,by omega,by rw[List.drop_zero],K3.out⟩
   case round=>
    obtain⟨k,hkl,rfl,hg,hck,hkp⟩:=hrel
    by_cases hlt:k<l.length
    ·obtain⟨s,hs⟩: ∃s,l[k]?=some s:=⟨_,List.getElem?_eq_getElem hlt⟩
     obtain⟨bs,L6,rfl,hcs⟩:=H.out.2.2.2.2.2.2.2.2.2.resolve_left (fun h=>by rw[h]at hlt;simp at hlt)
     have kw:=H.out.2.2.2.2.1.trans hkp
     have y0:=kw.cell (fun h=>h) (hcs k s hs).1
     have y1:=kw.cell (fun h=>h) (hcs k s hs).2
     obtain⟨acB,T,rest,htk⟩:=EACH.out s (List.mem_of_getElem? hs)
     have Qi:nI s.2=T:=by unfold nI;rw[htk]
     have Ai:=H.out.2.2.2.1 s (List.mem_of_getElem? hs)
     have hdr:=Pm (a:=a.nodes) (b:=b.nodes) hs
     rw[Qi]at hdr
     have ka:Kept none' wr (wr.alloc (.cells #[.string s.1, .string s.2] 33)):=(Kept.refl _ _).alloc _
     have sB:(wr.alloc (.cells #[.string s.1, .string s.2] 33)).heap[wr.heap.size]?=some (.cells #[.string s.1, .string s.2] 33 (0,0)):=heap_alloc_new _ _
     obtain⟨W4,eX⟩: ∃W4,wr.alloc (.cells #[.string s.1, .string s.2] 33)=W4:=⟨_,rfl⟩
     rw[eX]at ka sB
     have z0:=cells_at sB (j:=0) (v:= .string s.1) rfl
     have z1:=cells_at sB (j:=1) (v:= .string s.2) rfl
     have ct:=take_any s.2 Ai.2 W4
     unfold gK at ct
     rw[htk]at ct
     dsimp only at ct
     have G:=Lib.hid (And.intro hg (And.intro hck (And.intro (hkp.trans ka) (And.intro sB (And.intro acB (And.intro hdr Qi))))))
     clear hg hck hkp ka sB acB htk Qi Ai hdr kw hcs hs
     go_wp2_with fail
     try rw[eX]
     clear eX y0 y1 z0 z1
     (with_reducible refine ct.mono ?_)
     clear ct
     rintro e w5 ⟨tb,tm,rfl,tT,k5⟩
     have ck:=uJ _ tb tm T w5 tT
     have K5:=Lib.hid (And.intro tT k5)
     clear tT k5
     go_wp2_with fail
     (with_reducible refine ck.mono ?_)
     clear ck
     rintro e w6 ⟨v6,rfl,hown,-,k6⟩
     obtain⟨v6a,v6c,rfl⟩:=ay hown
     have hkl2:(aP T).length=T.length:=by unfold aP;rw[List.length_map]
     rw[hkl2]
     have Ac:=G.out.2.2.1.trans (K5.out.2.trans k6)
     have BI:=(K5.out.2.trans k6).heap G.out.2.2.2.1 (fun h=>h)
     have K6:=Lib.hid (And.intro Ac (And.intro (K5.out.1.pure k6) BI))
     clear hown hkl2 k6
     by_cases hT0:T=[]
     ·have hTl:T.length=0:=by rw[hT0];rfl
      rw[hTl]
      have HT0:=Lib.hid hT0
      clear hT0 hTl Ac BI
      go_wp2_with fail
      go_roundg (l.length-(k+1))
      case rel=>exact⟨k+1,by omega,by go_num,Nat.le_refl _,by rw[G.out.2.1,G.out.2.2.2.2.2.1,if_pos HT0.out],K6.out.1⟩
      case measure=>have:=G.out.1;omega
     ·have hTl:T.length≠0:=fun h=>hT0 (List.eq_nil_of_length_eq_zero h)
      have t1:=Ac.heap H.out.2.2.2.2.2.2.1 (fun h=>h)
      have r0:=cells_at t1 (j:=0) (v:= .int .i64 b.par) rfl
      have r1:=cells_at t1 (j:=1) (v:= .slice mb b.nodes.length nU) rfl
      have z0:=cells_at BI (j:=0) (v:= .string s.1) rfl
      have ab4:w.heap.size+1<w6.heap.size:=(Array.getElem?_eq_some_iff.1 t1).1
      have afx:wr.heap.size<w6.heap.size:=(Array.getElem?_eq_some_iff.1 BI).1
      have cf:=og b _ s.1 w6 (H.out.2.1.pure (H.out.2.2.2.2.1.trans Ac))
      have HT0:=Lib.hid hT0
      have hTp:0<T.length:=by omega
      clear hT0 t1 Ac BI
      go_wp2_with fail
      (with_reducible refine cf.mono ?_)
      clear cf r0 r1 z0
      rintro e w7 ⟨rfl,k7⟩
      have BP:=K6.out.1.trans k7
      have Zm:=k7.heap K6.out.2.2 (fun h=>h)
      have z0:=cells_at Zm (j:=0) (v:= .string s.1) rfl
      have K7:=Lib.hid (And.intro BP (And.intro (K6.out.2.1.pure k7) Zm))
      rcases ng b.nodes s.1 with⟨hf,-⟩|⟨ib,db,hfb,hdb,-,acj,-⟩
      ·rw[hf]
       have F:=Lib.hid (show vJ w (dJ a b l) (.returned (.tuple #[.string s.1, .int .i64 240])) w7 from
        ⟨by rw[show dJ a b l=kV a.nodes b.nodes l by unfold dJ;rw[HL.out];simp only[jg.out,if_true],G.out.2.1,G.out.2.2.2.2.2.1,if_neg HT0.out,if_pos (by rw[hf];decide)],H.out.2.2.2.2.1.trans BP⟩)
       clear hf k7 BP Zm
       go_wp2_with fail
       try rw[Exit.noGoto_ret]
       go_ret2
       exact F.out
      ·rw[hfb]
       rcases ng a.nodes s.1 with⟨hf,-⟩|⟨ia,da,hfa,hda,-,acn,-⟩
       ·exact absurd G.out.2.2.2.2.1 (by rw[hf];decide)
       ·obtain⟨ab,eU,api,Xd,ap,Oa,rfl,hac,-⟩:=H.out.2.2.2.2.2.2.2.1 ia da hda
        obtain⟨bb,AP,WX,WZ,bp,NV,rfl,hbc,-⟩:=H.out.2.2.2.2.2.2.2.2.1 ib db hdb
        have hia:ia<a.nodes.length:=(List.getElem?_eq_some_iff.1 hda).1
        have hib:ib<b.nodes.length:=(List.getElem?_eq_some_iff.1 hdb).1
        obtain⟨c0,c1,c2,c3,c4,c5,c6⟩:=hac.kept (H.out.2.2.2.2.1.trans BP) (fun h=>h)
        obtain⟨d0,d1,d2,d3,d4,d5,d6⟩:=hbc.kept (H.out.2.2.2.2.1.trans BP) (fun h=>h)
        have t0:=BP.heap H.out.2.2.2.2.2.1 (fun h=>h)
        have t1:=BP.heap H.out.2.2.2.2.2.2.1 (fun h=>h)
        have p0:=cells_at t0 (j:=0) (v:= .int .i64 a.par) rfl
        have p1:=cells_at t0 (j:=1) (v:= .slice (some ⟨ab,eU,none⟩) a.nodes.length bW) rfl
        have r0:=cells_at t1 (j:=0) (v:= .int .i64 b.par) rfl
        have r1:=cells_at t1 (j:=1) (v:= .slice (some ⟨bb,AP,none⟩) b.nodes.length nU) rfl
        have BAD:=Lib.hid (show ql a.nodes b.nodes s=(decide (da.kind≠db.kind)||(decide (db.kind=7)&&decide (db.n<=(oI T:Int)))) by unfold ql;rw[acn,acj,G.out.2.2.2.2.2.2])
        have acA: ¬aO b.nodes s.1<0:=by rw[hfb];omega
        have HFB:=Lib.hid acA
        have Xl:=Lib.hid hfa
        obtain⟨WD,hWD⟩: ∃WD,w7.drew=WD:=⟨_,rfl⟩
        have kd:Kept none' w7 WD:=by rw[<-hWD];exact Kept.drew (Kept.refl none' w7)
        clear hfa hfb acA acn acj hda hdb hac hbc k7 t0 t1 Zm
        go_wp2_with fail
        refine qN (fun W=>Kept none' w7 W) (by kernel_rfl) (by kernel_rfl) (Kept.drew (Kept.refl none' w7)) ?_
        rw[hWD]
        clear hWD
        refine aH (k:=0) (by kernel_rfl) rfl rfl (fun W hW=>by go_simp;rfl) ?_
        go_frame
        refine aH (k:=1) (by kernel_rfl) rfl rfl (fun W hW=>by have a0:=hW.cell (p:=⟨w.heap.size,0,none⟩) (fun h=>h) p0;have a1:=hW.cell (p:=⟨w.heap.size,1,none⟩) (fun h=>h) p1;go_simp;rfl) ?_
        go_frame
        refine aH (k:=2) (by kernel_rfl) rfl rfl (fun W hW=>by have a0:=hW.cell (p:=⟨w.heap.size,0,none⟩) (fun h=>h) p0;have a1:=hW.cell (p:=⟨w.heap.size,1,none⟩) (fun h=>h) p1;go_simp;rfl) ?_
        go_frame
        refine aH (k:=3) (by kernel_rfl) rfl rfl (fun W hW=>by go_simp;rfl) ?_
        go_frame
        refine aH (k:=4) (by kernel_rfl) rfl rfl (fun W hW=>by have q0:=hW.cell (p:=⟨wr.heap.size,0,none⟩) (fun h=>h) z0;go_simp;rfl) ?_
        go_frame
        refine aH (k:=8) (by kernel_rfl) rfl rfl (fun W hW=>by go_simp;rfl) ?_
        go_frame
        refine aH (k:=9) (by kernel_rfl) rfl rfl (fun W hW=>by have b1:=hW.cell (p:=⟨w.heap.size+1,1,none⟩) (fun h=>h) r1;go_simp;rfl) ?_
        go_frame
        refine aH (k:=10) (by kernel_rfl) rfl rfl (fun W hW=>by go_simp;rfl) ?_
        go_frame
        refine aH (k:=11) (by kernel_rfl) rfl rfl (fun W hW=>by go_simp;rfl) ?_
        go_frame
        refine aH (k:=12) (by kernel_rfl) rfl rfl (fun W hW=>by have d0':=hW.cell (p:=⟨bb,AP+ib*7,none⟩) (fun h=>h) d0;have d1':=hW.cell (p:=⟨bb,AP+ib*7+1,none⟩) (fun h=>h) d1;have d2':=hW.cell (p:=⟨bb,AP+ib*7+2,none⟩) (fun h=>h) d2;have d3':=hW.cell (p:=⟨bb,AP+ib*7+3,none⟩) (fun h=>h) d3;have d4':=hW.cell (p:=⟨bb,AP+ib*7+4,none⟩) (fun h=>h) d4;have d5':=hW.cell (p:=⟨bb,AP+ib*7+5,none⟩) (fun h=>h) d5;have d6':=hW.cell (p:=⟨bb,AP+ib*7+6,none⟩) (fun h=>h) d6;go_simp;rfl) ?_
        go_frame
        refine QD (i:=5) (k:=13) (m:=14) (by kernel_rfl) (by kernel_rfl) rfl rfl rfl rfl rfl rfl ?L5 ?L13 ?L14
        case' L5=>
         intro K hK
         go_wp2_with fail
         have cf:=og a _ s.1 WD (H.out.1.pure (H.out.2.2.2.2.1.trans (K7.out.1.trans kd)))
         rw[Xl.out]at cf
         (with_reducible refine cf.mono ?_)
         clear cf
         rintro e xM ⟨rfl,kf⟩
         have k24:Kept none' w7 xM:=kd.trans kf
         go_wp2_with fail
         refine hK _ _ k24 ?_
         clear hK
         refine aH (k:=6) (by kernel_rfl) rfl rfl (fun W hW=>by go_simp;rfl) ?_
         go_frame
         refine aH (k:=7) (by kernel_rfl) rfl rfl (fun W hW=>by have c0':=hW.cell (p:=⟨ab,eU+ia*7,none⟩) (fun h=>h) c0;have c1':=hW.cell (p:=⟨ab,eU+ia*7+1,none⟩) (fun h=>h) c1;have c2':=hW.cell (p:=⟨ab,eU+ia*7+2,none⟩) (fun h=>h) c2;have c3':=hW.cell (p:=⟨ab,eU+ia*7+3,none⟩) (fun h=>h) c3;have Qr:=hW.cell (p:=⟨ab,eU+ia*7+4,none⟩) (fun h=>h) c4;have Qq:=hW.cell (p:=⟨ab,eU+ia*7+5,none⟩) (fun h=>h) c5;have c6':=hW.cell (p:=⟨ab,eU+ia*7+6,none⟩) (fun h=>h) c6;go_simp;rfl) ?_
         go_frame
         clear kf
         refine uy (i:=13) (k:=14) (by kernel_rfl) (by kernel_rfl) rfl rfl rfl rfl ?afU ?afT
         case' afU=>
          intro K hK
          go_wp2_with fail
          refine hK _ _ (k24.alloc _) ?_
          clear hK
          have Qk:=heap_alloc_new xM (.cells #[.string ⟨#[]⟩, .int .u8 0, .slice none 0 0, .int .u8 0, .int .i64 0, .slice none 0 0, .int .i64 0] 97)
          have k25:Kept none' w7 (xM.alloc (.cells #[.string ⟨#[]⟩, .int .u8 0, .slice none 0 0, .int .u8 0, .int .i64 0, .slice none 0 0, .int .i64 0] 97)):=k24.alloc _
          have afs:Kept none' xM (xM.alloc (.cells #[.string ⟨#[]⟩, .int .u8 0, .slice none 0 0, .int .u8 0, .int .i64 0, .slice none 0 0, .int .i64 0] 97)):=(Kept.refl _ _).alloc _
          obtain⟨FT,Yx⟩: ∃FT,xM.alloc (.cells #[.string ⟨#[]⟩, .int .u8 0, .slice none 0 0, .int .u8 0, .int .i64 0, .slice none 0 0, .int .i64 0] 97)=FT:=⟨_,rfl⟩
          rw[Yx]
          rw[Yx]at Qk k25 afs
          clear Yx
          obtain⟨p,hp⟩: ∃x,xM.heap.size=x:=⟨_,rfl⟩
          rw[hp]
          rw[hp]at Qk
          have Nl:w7.heap.size<=p:=by have:=k24.size;omega
          refine dX (k:=14) (by kernel_rfl) (by kernel_rfl) rfl rfl ?_
          have Np:=(Array.getElem?_eq_some_iff.1 Qk).1
          intro K hK
          go_wp2_with fail
          refine hK _ _ (k25.alloc _) ?_
          clear hK
          have h26:=heap_alloc_new FT (.cells #[.string ⟨#[]⟩, .int .u8 0, .slice none 0 0, .int .u8 0, .int .i64 0, .slice none 0 0, .int .i64 0] 97)
          have k26:Kept none' w7 (FT.alloc (.cells #[.string ⟨#[]⟩, .int .u8 0, .slice none 0 0, .int .u8 0, .int .i64 0, .slice none 0 0, .int .i64 0] 97)):=k25.alloc _
          have abT:Kept none' FT (FT.alloc (.cells #[.string ⟨#[]⟩, .int .u8 0, .slice none 0 0, .int .u8 0, .int .i64 0, .slice none 0 0, .int .i64 0] 97)):=(Kept.refl _ _).alloc _
          obtain⟨w26,Yw⟩: ∃w26,FT.alloc (.cells #[.string ⟨#[]⟩, .int .u8 0, .slice none 0 0, .int .u8 0, .int .i64 0, .slice none 0 0, .int .i64 0] 97)=w26:=⟨_,rfl⟩
          rw[Yw]
          rw[Yw]at h26 k26 abT
          clear Yw
          have Qk:=abT.heap Qk (fun h=>h)
          obtain⟨q,hq⟩: ∃x,FT.heap.size=x:=⟨_,rfl⟩
          rw[hq]
          rw[hq]at h26
          have hgeq:w7.heap.size<=q:=by have:=k25.size;omega
          have hpq:p≠q:=by
           omega
          obtain⟨WE,kT⟩: ∃WE,w26=WE:=⟨_,rfl⟩
          rw[kT]
          have kE:Kept none' w7 WE:=by rw[<-kT];exact k26
          have gp:WE.heap[p]?=some (.cells #[.string ⟨#[]⟩, .int .u8 0, .slice none 0 0, .int .u8 0, .int .i64 0, .slice none 0 0, .int .i64 0] 97 (0,0)):=by rw[<-kT];exact Qk
          have gq:WE.heap[q]?=some (.cells #[.string ⟨#[]⟩, .int .u8 0, .slice none 0 0, .int .u8 0, .int .i64 0, .slice none 0 0, .int .i64 0] 97 (0,0)):=by rw[<-kT];exact h26
         case' afT=>
          intro K hK
          go_wp2_with fail
          refine hK _ _ (k24.alloc _) ?_
          clear hK
          have h28:=heap_alloc_new xM (.cells #[.string ⟨#[]⟩, .int .u8 0, .slice none 0 0, .int .u8 0, .int .i64 0, .slice none 0 0, .int .i64 0] 97)
          have k28:Kept none' w7 (xM.alloc (.cells #[.string ⟨#[]⟩, .int .u8 0, .slice none 0 0, .int .u8 0, .int .i64 0, .slice none 0 0, .int .i64 0] 97)):=k24.alloc _
          have afr:Kept none' xM (xM.alloc (.cells #[.string ⟨#[]⟩, .int .u8 0, .slice none 0 0, .int .u8 0, .int .i64 0, .slice none 0 0, .int .i64 0] 97)):=(Kept.refl _ _).alloc _
          obtain⟨FQ,Yv⟩: ∃FQ,xM.alloc (.cells #[.string ⟨#[]⟩, .int .u8 0, .slice none 0 0, .int .u8 0, .int .i64 0, .slice none 0 0, .int .i64 0] 97)=FQ:=⟨_,rfl⟩
          rw[Yv]
          rw[Yv]at h28 k28 afr
          clear Yv
          obtain⟨q,hq⟩: ∃x,xM.heap.size=x:=⟨_,rfl⟩
          rw[hq]
          rw[hq]at h28
          have hgeq:w7.heap.size<=q:=by have:=k24.size;omega
          refine dX (k:=13) (by kernel_rfl) (by kernel_rfl) rfl rfl ?_
          have Np:=(Array.getElem?_eq_some_iff.1 h28).1
          intro K hK
          go_wp2_with fail
          refine hK _ _ (k28.alloc _) ?_
          clear hK
          have h29:=heap_alloc_new FQ (.cells #[.string ⟨#[]⟩, .int .u8 0, .slice none 0 0, .int .u8 0, .int .i64 0, .slice none 0 0, .int .i64 0] 97)
          have k29:Kept none' w7 (FQ.alloc (.cells #[.string ⟨#[]⟩, .int .u8 0, .slice none 0 0, .int .u8 0, .int .i64 0, .slice none 0 0, .int .i64 0] 97)):=k28.alloc _
          have abS:Kept none' FQ (FQ.alloc (.cells #[.string ⟨#[]⟩, .int .u8 0, .slice none 0 0, .int .u8 0, .int .i64 0, .slice none 0 0, .int .i64 0] 97)):=(Kept.refl _ _).alloc _
          obtain⟨w29,Yu⟩: ∃w29,FQ.alloc (.cells #[.string ⟨#[]⟩, .int .u8 0, .slice none 0 0, .int .u8 0, .int .i64 0, .slice none 0 0, .int .i64 0] 97)=w29:=⟨_,rfl⟩
          rw[Yu]
          rw[Yu]at h29 k29 abS
          clear Yu
          have h28:=abS.heap h28 (fun h=>h)
          obtain⟨p,hp⟩: ∃x,FQ.heap.size=x:=⟨_,rfl⟩
          rw[hp]
          rw[hp]at h29
          have Nl:w7.heap.size<=p:=by have:=k28.size;omega
          have hpq:p≠q:=by
           omega
          obtain⟨WE,kT⟩: ∃WE,w29=WE:=⟨_,rfl⟩
          rw[kT]
          have kE:Kept none' w7 WE:=by rw[<-kT];exact k29
          have gp:WE.heap[p]?=some (.cells #[.string ⟨#[]⟩, .int .u8 0, .slice none 0 0, .int .u8 0, .int .i64 0, .slice none 0 0, .int .i64 0] 97 (0,0)):=by rw[<-kT];exact h29
          have gq:WE.heap[q]?=some (.cells #[.string ⟨#[]⟩, .int .u8 0, .slice none 0 0, .int .u8 0, .int .i64 0, .slice none 0 0, .int .i64 0] 97 (0,0)):=by rw[<-kT];exact h28
        case' L13=>
         intro K hK
         go_wp2_with fail
         refine hK _ _ (kd.alloc _) ?_
         clear hK
         have wG:=heap_alloc_new WD (.cells #[.string ⟨#[]⟩, .int .u8 0, .slice none 0 0, .int .u8 0, .int .i64 0, .slice none 0 0, .int .i64 0] 97)
         have k33:Kept none' w7 (WD.alloc (.cells #[.string ⟨#[]⟩, .int .u8 0, .slice none 0 0, .int .u8 0, .int .i64 0, .slice none 0 0, .int .i64 0] 97)):=kd.alloc _
         have afq:Kept none' WD (WD.alloc (.cells #[.string ⟨#[]⟩, .int .u8 0, .slice none 0 0, .int .u8 0, .int .i64 0, .slice none 0 0, .int .i64 0] 97)):=(Kept.refl _ _).alloc _
         obtain⟨Dv,Yt⟩: ∃Dv,WD.alloc (.cells #[.string ⟨#[]⟩, .int .u8 0, .slice none 0 0, .int .u8 0, .int .i64 0, .slice none 0 0, .int .i64 0] 97)=Dv:=⟨_,rfl⟩
         rw[Yt]
         rw[Yt]at wG k33 afq
         clear Yt
         obtain⟨p,hp⟩: ∃x,WD.heap.size=x:=⟨_,rfl⟩
         rw[hp]
         rw[hp]at wG
         have Nl:w7.heap.size<=p:=by have:=kd.size;omega
         refine uy (i:=5) (k:=14) (by kernel_rfl) (by kernel_rfl) rfl rfl rfl rfl ?afW ?adY
         case' afW=>
          intro K hK
          go_wp2_with fail
          have cf:=og a _ s.1 Dv (H.out.1.pure (H.out.2.2.2.2.1.trans (K7.out.1.trans k33)))
          rw[Xl.out]at cf
          (with_reducible refine cf.mono ?_)
          clear cf
          rintro e Ih ⟨rfl,kf⟩
          have k34:Kept none' w7 Ih:=k33.trans kf
          go_wp2_with fail
          refine hK _ _ k34 ?_
          clear hK
          refine aH (k:=6) (by kernel_rfl) rfl rfl (fun W hW=>by go_simp;rfl) ?_
          go_frame
          refine aH (k:=7) (by kernel_rfl) rfl rfl (fun W hW=>by have c0':=hW.cell (p:=⟨ab,eU+ia*7,none⟩) (fun h=>h) c0;have c1':=hW.cell (p:=⟨ab,eU+ia*7+1,none⟩) (fun h=>h) c1;have c2':=hW.cell (p:=⟨ab,eU+ia*7+2,none⟩) (fun h=>h) c2;have c3':=hW.cell (p:=⟨ab,eU+ia*7+3,none⟩) (fun h=>h) c3;have Qr:=hW.cell (p:=⟨ab,eU+ia*7+4,none⟩) (fun h=>h) c4;have Qq:=hW.cell (p:=⟨ab,eU+ia*7+5,none⟩) (fun h=>h) c5;have c6':=hW.cell (p:=⟨ab,eU+ia*7+6,none⟩) (fun h=>h) c6;go_simp;rfl) ?_
          go_frame
          have wG:=kf.heap wG (fun h=>h)
          clear kf
          refine dX (k:=14) (by kernel_rfl) (by kernel_rfl) rfl rfl ?_
          have Np:=(Array.getElem?_eq_some_iff.1 wG).1
          intro K hK
          go_wp2_with fail
          refine hK _ _ (k34.alloc _) ?_
          clear hK
          have h35:=heap_alloc_new Ih (.cells #[.string ⟨#[]⟩, .int .u8 0, .slice none 0 0, .int .u8 0, .int .i64 0, .slice none 0 0, .int .i64 0] 97)
          have MQ:Kept none' w7 (Ih.alloc (.cells #[.string ⟨#[]⟩, .int .u8 0, .slice none 0 0, .int .u8 0, .int .i64 0, .slice none 0 0, .int .i64 0] 97)):=k34.alloc _
          have abR:Kept none' Ih (Ih.alloc (.cells #[.string ⟨#[]⟩, .int .u8 0, .slice none 0 0, .int .u8 0, .int .i64 0, .slice none 0 0, .int .i64 0] 97)):=(Kept.refl _ _).alloc _
          obtain⟨w35,Yr⟩: ∃w35,Ih.alloc (.cells #[.string ⟨#[]⟩, .int .u8 0, .slice none 0 0, .int .u8 0, .int .i64 0, .slice none 0 0, .int .i64 0] 97)=w35:=⟨_,rfl⟩
          rw[Yr]
          rw[Yr]at h35 MQ abR
          clear Yr
          have wG:=abR.heap wG (fun h=>h)
          obtain⟨q,hq⟩: ∃x,Ih.heap.size=x:=⟨_,rfl⟩
          rw[hq]
          rw[hq]at h35
          have hgeq:w7.heap.size<=q:=by have:=k34.size;omega
          have hpq:p≠q:=by
           omega
          obtain⟨WE,kT⟩: ∃WE,w35=WE:=⟨_,rfl⟩
          rw[kT]
          have kE:Kept none' w7 WE:=by rw[<-kT];exact MQ
          have gp:WE.heap[p]?=some (.cells #[.string ⟨#[]⟩, .int .u8 0, .slice none 0 0, .int .u8 0, .int .i64 0, .slice none 0 0, .int .i64 0] 97 (0,0)):=by rw[<-kT];exact wG
          have gq:WE.heap[q]?=some (.cells #[.string ⟨#[]⟩, .int .u8 0, .slice none 0 0, .int .u8 0, .int .i64 0, .slice none 0 0, .int .i64 0] 97 (0,0)):=by rw[<-kT];exact h35
         case' adY=>
          have Np:=(Array.getElem?_eq_some_iff.1 wG).1
          intro K hK
          go_wp2_with fail
          refine hK _ _ (k33.alloc _) ?_
          clear hK
          have h37:=heap_alloc_new Dv (.cells #[.string ⟨#[]⟩, .int .u8 0, .slice none 0 0, .int .u8 0, .int .i64 0, .slice none 0 0, .int .i64 0] 97)
          have k37:Kept none' w7 (Dv.alloc (.cells #[.string ⟨#[]⟩, .int .u8 0, .slice none 0 0, .int .u8 0, .int .i64 0, .slice none 0 0, .int .i64 0] 97)):=k33.alloc _
          have abQ:Kept none' Dv (Dv.alloc (.cells #[.string ⟨#[]⟩, .int .u8 0, .slice none 0 0, .int .u8 0, .int .i64 0, .slice none 0 0, .int .i64 0] 97)):=(Kept.refl _ _).alloc _
          obtain⟨w37,Yq⟩: ∃w37,Dv.alloc (.cells #[.string ⟨#[]⟩, .int .u8 0, .slice none 0 0, .int .u8 0, .int .i64 0, .slice none 0 0, .int .i64 0] 97)=w37:=⟨_,rfl⟩
          rw[Yq]
          rw[Yq]at h37 k37 abQ
          clear Yq
          have wG:=abQ.heap wG (fun h=>h)
          obtain⟨q,hq⟩: ∃x,Dv.heap.size=x:=⟨_,rfl⟩
          rw[hq]
          rw[hq]at h37
          have hgeq:w7.heap.size<=q:=by have:=k33.size;omega
          refine dX (k:=5) (by kernel_rfl) (by kernel_rfl) rfl rfl ?_
          intro K hK
          go_wp2_with fail
          have cf:=og a _ s.1 w37 (H.out.1.pure (H.out.2.2.2.2.1.trans (K7.out.1.trans k37)))
          rw[Xl.out]at cf
          (with_reducible refine cf.mono ?_)
          clear cf
          rintro e w38 ⟨rfl,kf⟩
          have k38:Kept none' w7 w38:=k37.trans kf
          go_wp2_with fail
          refine hK _ _ k38 ?_
          clear hK
          refine aH (k:=6) (by kernel_rfl) rfl rfl (fun W hW=>by go_simp;rfl) ?_
          go_frame
          refine aH (k:=7) (by kernel_rfl) rfl rfl (fun W hW=>by have c0':=hW.cell (p:=⟨ab,eU+ia*7,none⟩) (fun h=>h) c0;have c1':=hW.cell (p:=⟨ab,eU+ia*7+1,none⟩) (fun h=>h) c1;have c2':=hW.cell (p:=⟨ab,eU+ia*7+2,none⟩) (fun h=>h) c2;have c3':=hW.cell (p:=⟨ab,eU+ia*7+3,none⟩) (fun h=>h) c3;have Qr:=hW.cell (p:=⟨ab,eU+ia*7+4,none⟩) (fun h=>h) c4;have Qq:=hW.cell (p:=⟨ab,eU+ia*7+5,none⟩) (fun h=>h) c5;have c6':=hW.cell (p:=⟨ab,eU+ia*7+6,none⟩) (fun h=>h) c6;go_simp;rfl) ?_
          go_frame
          have wG:=kf.heap wG (fun h=>h)
          have h37:=kf.heap h37 (fun h=>h)
          clear kf
          have hpq:p≠q:=by
           omega
          obtain⟨WE,kT⟩: ∃WE,w38=WE:=⟨_,rfl⟩
          rw[kT]
          have kE:Kept none' w7 WE:=by rw[<-kT];exact k38
          have gp:WE.heap[p]?=some (.cells #[.string ⟨#[]⟩, .int .u8 0, .slice none 0 0, .int .u8 0, .int .i64 0, .slice none 0 0, .int .i64 0] 97 (0,0)):=by rw[<-kT];exact wG
          have gq:WE.heap[q]?=some (.cells #[.string ⟨#[]⟩, .int .u8 0, .slice none 0 0, .int .u8 0, .int .i64 0, .slice none 0 0, .int .i64 0] 97 (0,0)):=by rw[<-kT];exact h37
        case' L14=>
         intro K hK
         go_wp2_with fail
         refine hK _ _ (kd.alloc _) ?_
         clear hK
         have h42:=heap_alloc_new WD (.cells #[.string ⟨#[]⟩, .int .u8 0, .slice none 0 0, .int .u8 0, .int .i64 0, .slice none 0 0, .int .i64 0] 97)
         have Qa:Kept none' w7 (WD.alloc (.cells #[.string ⟨#[]⟩, .int .u8 0, .slice none 0 0, .int .u8 0, .int .i64 0, .slice none 0 0, .int .i64 0] 97)):=kd.alloc _
         have afp:Kept none' WD (WD.alloc (.cells #[.string ⟨#[]⟩, .int .u8 0, .slice none 0 0, .int .u8 0, .int .i64 0, .slice none 0 0, .int .i64 0] 97)):=(Kept.refl _ _).alloc _
         obtain⟨Du,Yp⟩: ∃Du,WD.alloc (.cells #[.string ⟨#[]⟩, .int .u8 0, .slice none 0 0, .int .u8 0, .int .i64 0, .slice none 0 0, .int .i64 0] 97)=Du:=⟨_,rfl⟩
         rw[Yp]
         rw[Yp]at h42 Qa afp
         clear Yp
         obtain⟨q,hq⟩: ∃x,WD.heap.size=x:=⟨_,rfl⟩
         rw[hq]
         rw[hq]at h42
         have hgeq:w7.heap.size<=q:=by have:=kd.size;omega
         refine uy (i:=5) (k:=13) (by kernel_rfl) (by kernel_rfl) rfl rfl rfl rfl ?afV ?adX
         case' afV=>
          intro K hK
          go_wp2_with fail
          have cf:=og a _ s.1 Du (H.out.1.pure (H.out.2.2.2.2.1.trans (K7.out.1.trans Qa)))
          rw[Xl.out]at cf
          (with_reducible refine cf.mono ?_)
          clear cf
          rintro e Ig ⟨rfl,kf⟩
          have Zv:Kept none' w7 Ig:=Qa.trans kf
          go_wp2_with fail
          refine hK _ _ Zv ?_
          clear hK
          refine aH (k:=6) (by kernel_rfl) rfl rfl (fun W hW=>by go_simp;rfl) ?_
          go_frame
          refine aH (k:=7) (by kernel_rfl) rfl rfl (fun W hW=>by have c0':=hW.cell (p:=⟨ab,eU+ia*7,none⟩) (fun h=>h) c0;have c1':=hW.cell (p:=⟨ab,eU+ia*7+1,none⟩) (fun h=>h) c1;have c2':=hW.cell (p:=⟨ab,eU+ia*7+2,none⟩) (fun h=>h) c2;have c3':=hW.cell (p:=⟨ab,eU+ia*7+3,none⟩) (fun h=>h) c3;have Qr:=hW.cell (p:=⟨ab,eU+ia*7+4,none⟩) (fun h=>h) c4;have Qq:=hW.cell (p:=⟨ab,eU+ia*7+5,none⟩) (fun h=>h) c5;have c6':=hW.cell (p:=⟨ab,eU+ia*7+6,none⟩) (fun h=>h) c6;go_simp;rfl) ?_
          go_frame
          have h42:=kf.heap h42 (fun h=>h)
          clear kf
          refine dX (k:=13) (by kernel_rfl) (by kernel_rfl) rfl rfl ?_
          have Np:=(Array.getElem?_eq_some_iff.1 h42).1
          intro K hK
          go_wp2_with fail
          refine hK _ _ (Zv.alloc _) ?_
          clear hK
          have h44:=heap_alloc_new Ig (.cells #[.string ⟨#[]⟩, .int .u8 0, .slice none 0 0, .int .u8 0, .int .i64 0, .slice none 0 0, .int .i64 0] 97)
          have k44:Kept none' w7 (Ig.alloc (.cells #[.string ⟨#[]⟩, .int .u8 0, .slice none 0 0, .int .u8 0, .int .i64 0, .slice none 0 0, .int .i64 0] 97)):=Zv.alloc _
          have abP:Kept none' Ig (Ig.alloc (.cells #[.string ⟨#[]⟩, .int .u8 0, .slice none 0 0, .int .u8 0, .int .i64 0, .slice none 0 0, .int .i64 0] 97)):=(Kept.refl _ _).alloc _
          obtain⟨w44,Yo⟩: ∃w44,Ig.alloc (.cells #[.string ⟨#[]⟩, .int .u8 0, .slice none 0 0, .int .u8 0, .int .i64 0, .slice none 0 0, .int .i64 0] 97)=w44:=⟨_,rfl⟩
          rw[Yo]
          rw[Yo]at h44 k44 abP
          clear Yo
          have h42:=abP.heap h42 (fun h=>h)
          obtain⟨p,hp⟩: ∃x,Ig.heap.size=x:=⟨_,rfl⟩
          rw[hp]
          rw[hp]at h44
          have Nl:w7.heap.size<=p:=by have:=Zv.size;omega
          have hpq:p≠q:=by
           omega
          obtain⟨WE,kT⟩: ∃WE,w44=WE:=⟨_,rfl⟩
          rw[kT]
          have kE:Kept none' w7 WE:=by rw[<-kT];exact k44
          have gp:WE.heap[p]?=some (.cells #[.string ⟨#[]⟩, .int .u8 0, .slice none 0 0, .int .u8 0, .int .i64 0, .slice none 0 0, .int .i64 0] 97 (0,0)):=by rw[<-kT];exact h44
          have gq:WE.heap[q]?=some (.cells #[.string ⟨#[]⟩, .int .u8 0, .slice none 0 0, .int .u8 0, .int .i64 0, .slice none 0 0, .int .i64 0] 97 (0,0)):=by rw[<-kT];exact h42
         case' adX=>
          have Np:=(Array.getElem?_eq_some_iff.1 h42).1
          intro K hK
          go_wp2_with fail
          refine hK _ _ (Qa.alloc _) ?_
          clear hK
          have h46:=heap_alloc_new Du (.cells #[.string ⟨#[]⟩, .int .u8 0, .slice none 0 0, .int .u8 0, .int .i64 0, .slice none 0 0, .int .i64 0] 97)
          have qL:Kept none' w7 (Du.alloc (.cells #[.string ⟨#[]⟩, .int .u8 0, .slice none 0 0, .int .u8 0, .int .i64 0, .slice none 0 0, .int .i64 0] 97)):=Qa.alloc _
          have abO:Kept none' Du (Du.alloc (.cells #[.string ⟨#[]⟩, .int .u8 0, .slice none 0 0, .int .u8 0, .int .i64 0, .slice none 0 0, .int .i64 0] 97)):=(Kept.refl _ _).alloc _
          obtain⟨w46,Yn⟩: ∃w46,Du.alloc (.cells #[.string ⟨#[]⟩, .int .u8 0, .slice none 0 0, .int .u8 0, .int .i64 0, .slice none 0 0, .int .i64 0] 97)=w46:=⟨_,rfl⟩
          rw[Yn]
          rw[Yn]at h46 qL abO
          clear Yn
          have h42:=abO.heap h42 (fun h=>h)
          obtain⟨p,hp⟩: ∃x,Du.heap.size=x:=⟨_,rfl⟩
          rw[hp]
          rw[hp]at h46
          have Nl:w7.heap.size<=p:=by have:=Qa.size;omega
          refine dX (k:=5) (by kernel_rfl) (by kernel_rfl) rfl rfl ?_
          intro K hK
          go_wp2_with fail
          have cf:=og a _ s.1 w46 (H.out.1.pure (H.out.2.2.2.2.1.trans (K7.out.1.trans qL)))
          rw[Xl.out]at cf
          (with_reducible refine cf.mono ?_)
          clear cf
          rintro e w47 ⟨rfl,kf⟩
          have Eh:Kept none' w7 w47:=qL.trans kf
          go_wp2_with fail
          refine hK _ _ Eh ?_
          clear hK
          refine aH (k:=6) (by kernel_rfl) rfl rfl (fun W hW=>by go_simp;rfl) ?_
          go_frame
          refine aH (k:=7) (by kernel_rfl) rfl rfl (fun W hW=>by have c0':=hW.cell (p:=⟨ab,eU+ia*7,none⟩) (fun h=>h) c0;have c1':=hW.cell (p:=⟨ab,eU+ia*7+1,none⟩) (fun h=>h) c1;have c2':=hW.cell (p:=⟨ab,eU+ia*7+2,none⟩) (fun h=>h) c2;have c3':=hW.cell (p:=⟨ab,eU+ia*7+3,none⟩) (fun h=>h) c3;have Qr:=hW.cell (p:=⟨ab,eU+ia*7+4,none⟩) (fun h=>h) c4;have Qq:=hW.cell (p:=⟨ab,eU+ia*7+5,none⟩) (fun h=>h) c5;have c6':=hW.cell (p:=⟨ab,eU+ia*7+6,none⟩) (fun h=>h) c6;go_simp;rfl) ?_
          go_frame
          have h42:=kf.heap h42 (fun h=>h)
          have h46:=kf.heap h46 (fun h=>h)
          clear kf
          have hpq:p≠q:=by
           omega
          obtain⟨WE,kT⟩: ∃WE,w47=WE:=⟨_,rfl⟩
          rw[kT]
          have kE:Kept none' w7 WE:=by rw[<-kT];exact Eh
          have gp:WE.heap[p]?=some (.cells #[.string ⟨#[]⟩, .int .u8 0, .slice none 0 0, .int .u8 0, .int .i64 0, .slice none 0 0, .int .i64 0] 97 (0,0)):=by rw[<-kT];exact h46
          have gq:WE.heap[q]?=some (.cells #[.string ⟨#[]⟩, .int .u8 0, .slice none 0 0, .int .u8 0, .int .i64 0, .slice none 0 0, .int .i64 0] 97 (0,0)):=by rw[<-kT];exact h42
        all_goals
         clear p0 p1 r0 r1 c0 c1 c2 c3 c4 c5 c6 d0 d1 d2 d3 d4 d5 d6
         have sx:(((((((WE.setCell ⟨p,0,none⟩ (.string da.uid)).setCell ⟨p,1,none⟩ (.int .u8 da.kind)).setCell ⟨p,2,none⟩ (.slice api da.ins.length Xd)).setCell ⟨p,3,none⟩ (.int .u8 da.x.op)).setCell ⟨p,4,none⟩ (.int .i64 da.x.n)).setCell ⟨p,5,none⟩ (.slice ap da.x.args.length Oa)).setCell ⟨p,6,none⟩ (.int .i64 da.n)).heap[p]?=some (.cells #[.string da.uid, .int .u8 da.kind, .slice api da.ins.length Xd, .int .u8 da.x.op, .int .i64 da.x.n, .slice ap da.x.args.length Oa, .int .i64 da.n] 97 (0,0)):=abj gp
         have kx:Kept none' w7 (((((((WE.setCell ⟨p,0,none⟩ (.string da.uid)).setCell ⟨p,1,none⟩ (.int .u8 da.kind)).setCell ⟨p,2,none⟩ (.slice api da.ins.length Xd)).setCell ⟨p,3,none⟩ (.int .u8 da.x.op)).setCell ⟨p,4,none⟩ (.int .i64 da.x.n)).setCell ⟨p,5,none⟩ (.slice ap da.x.args.length Oa)).setCell ⟨p,6,none⟩ (.int .i64 da.n)):=Hu kE (.inr Nl)
         have ko:Kept (one p) WE (((((((WE.setCell ⟨p,0,none⟩ (.string da.uid)).setCell ⟨p,1,none⟩ (.int .u8 da.kind)).setCell ⟨p,2,none⟩ (.slice api da.ins.length Xd)).setCell ⟨p,3,none⟩ (.int .u8 da.x.op)).setCell ⟨p,4,none⟩ (.int .i64 da.x.n)).setCell ⟨p,5,none⟩ (.slice ap da.x.args.length Oa)).setCell ⟨p,6,none⟩ (.int .i64 da.n)):=Hu (Kept.refl (one p) _) (.inl rfl)
         obtain⟨WP,hWP⟩: ∃x,(((((((WE.setCell ⟨p,0,none⟩ (.string da.uid)).setCell ⟨p,1,none⟩ (.int .u8 da.kind)).setCell ⟨p,2,none⟩ (.slice api da.ins.length Xd)).setCell ⟨p,3,none⟩ (.int .u8 da.x.op)).setCell ⟨p,4,none⟩ (.int .i64 da.x.n)).setCell ⟨p,5,none⟩ (.slice ap da.x.args.length Oa)).setCell ⟨p,6,none⟩ (.int .i64 da.n))=x:=⟨_,rfl⟩
         rw[hWP]at sx kx ko
         have f0:=cells_at gp (j:=0) (v:= .string ⟨#[]⟩) rfl
         have f1:=cells_at gp (j:=1) (v:= .int .u8 0) rfl
         have f2:=cells_at gp (j:=2) (v:= .slice none 0 0) rfl
         have f3:=cells_at gp (j:=3) (v:= .int .u8 0) rfl
         have f4:=cells_at gp (j:=4) (v:= .int .i64 0) rfl
         have f5:=cells_at gp (j:=5) (v:= .slice none 0 0) rfl
         have f6:=cells_at gp (j:=6) (v:= .int .i64 0) rfl
         have g0:=free_at gp 0
         have g1:=free_at gp 1
         have g2:=free_at gp 2
         have g3:=free_at gp 3
         have g4:=free_at gp 4
         have g5:=free_at gp 5
         have g6:=free_at gp 6
         refine dX (k:=15) (by kernel_rfl) (by kernel_rfl) rfl rfl ?_
         intro K hK
         have HW:=Lib.hid hWP
         clear hWP
         go_wp2_with fail
         rw[HW.out]
         refine hK _ _ kx ?_
         clear hK HW f0 f1 f2 f3 f4 f5 f6 g0 g1 g2 g3 g4 g5 g6
         have gp2:=sx
         have tZ:=ko.heap gq (fun e=>hpq e.symm)
         have kP:=kx
         clear sx kx ko gp gq kE
         have sx:(((((((WP.setCell ⟨q,0,none⟩ (.string db.uid)).setCell ⟨q,1,none⟩ (.int .u8 db.kind)).setCell ⟨q,2,none⟩ (.slice WX db.ins.length WZ)).setCell ⟨q,3,none⟩ (.int .u8 db.x.op)).setCell ⟨q,4,none⟩ (.int .i64 db.x.n)).setCell ⟨q,5,none⟩ (.slice bp db.x.args.length NV)).setCell ⟨q,6,none⟩ (.int .i64 db.n)).heap[q]?=some (.cells #[.string db.uid, .int .u8 db.kind, .slice WX db.ins.length WZ, .int .u8 db.x.op, .int .i64 db.x.n, .slice bp db.x.args.length NV, .int .i64 db.n] 97 (0,0)):=abj tZ
         have kx:Kept none' w7 (((((((WP.setCell ⟨q,0,none⟩ (.string db.uid)).setCell ⟨q,1,none⟩ (.int .u8 db.kind)).setCell ⟨q,2,none⟩ (.slice WX db.ins.length WZ)).setCell ⟨q,3,none⟩ (.int .u8 db.x.op)).setCell ⟨q,4,none⟩ (.int .i64 db.x.n)).setCell ⟨q,5,none⟩ (.slice bp db.x.args.length NV)).setCell ⟨q,6,none⟩ (.int .i64 db.n)):=Hu kP (.inr hgeq)
         have ko:Kept (one q) WP (((((((WP.setCell ⟨q,0,none⟩ (.string db.uid)).setCell ⟨q,1,none⟩ (.int .u8 db.kind)).setCell ⟨q,2,none⟩ (.slice WX db.ins.length WZ)).setCell ⟨q,3,none⟩ (.int .u8 db.x.op)).setCell ⟨q,4,none⟩ (.int .i64 db.x.n)).setCell ⟨q,5,none⟩ (.slice bp db.x.args.length NV)).setCell ⟨q,6,none⟩ (.int .i64 db.n)):=Hu (Kept.refl (one q) _) (.inl rfl)
         obtain⟨WQ,hWQ⟩: ∃x,(((((((WP.setCell ⟨q,0,none⟩ (.string db.uid)).setCell ⟨q,1,none⟩ (.int .u8 db.kind)).setCell ⟨q,2,none⟩ (.slice WX db.ins.length WZ)).setCell ⟨q,3,none⟩ (.int .u8 db.x.op)).setCell ⟨q,4,none⟩ (.int .i64 db.x.n)).setCell ⟨q,5,none⟩ (.slice bp db.x.args.length NV)).setCell ⟨q,6,none⟩ (.int .i64 db.n))=x:=⟨_,rfl⟩
         rw[hWQ]at sx kx ko
         have f0:=cells_at tZ (j:=0) (v:= .string ⟨#[]⟩) rfl
         have f1:=cells_at tZ (j:=1) (v:= .int .u8 0) rfl
         have f2:=cells_at tZ (j:=2) (v:= .slice none 0 0) rfl
         have f3:=cells_at tZ (j:=3) (v:= .int .u8 0) rfl
         have f4:=cells_at tZ (j:=4) (v:= .int .i64 0) rfl
         have f5:=cells_at tZ (j:=5) (v:= .slice none 0 0) rfl
         have f6:=cells_at tZ (j:=6) (v:= .int .i64 0) rfl
         have g0:=free_at tZ 0
         have g1:=free_at tZ 1
         have g2:=free_at tZ 2
         have g3:=free_at tZ 3
         have g4:=free_at tZ 4
         have g5:=free_at tZ 5
         have g6:=free_at tZ 6
         refine dX (k:=16) (by kernel_rfl) (by kernel_rfl) rfl rfl ?_
         intro K hK
         have HW:=Lib.hid hWQ
         clear hWQ
         go_wp2_with fail
         rw[HW.out]
         refine hK _ _ kx ?_
         clear hK HW f0 f1 f2 f3 f4 f5 f6 g0 g1 g2 g3 g4 g5 g6
         have ZU:=sx
         have ZV:=ko.heap gp2 hpq
         have kQ:=kx
         have hpl:=(Array.getElem?_eq_some_iff.1 ZV).1
         have hql:=(Array.getElem?_eq_some_iff.1 ZU).1
         clear sx kx ko gp2 tZ kP
         refine uz (by kernel_rfl) kQ ?_
         have sB:=kQ.heap K7.out.2.2 (fun h=>h)
         have z0:=cells_at sB (j:=0) (v:= .string s.1) rfl
         have u1:=cells_at ZV (j:=1) (v:= .int .u8 da.kind) rfl
         have u4:=cells_at ZV (j:=6) (v:= .int .i64 da.n) rfl
         have v1:=cells_at ZU (j:=1) (v:= .int .u8 db.kind) rfl
         have v4:=cells_at ZU (j:=6) (v:= .int .i64 db.n) rfl
         have Q:=Lib.hid (And.intro kQ (And.intro (K7.out.2.1.pure kQ) sB))
         clear kQ sB ZV ZU
         go_wp2_with fail
         by_cases hk:da.kind=db.kind
         ·by_cases h7:db.kind=7
          ·have cL:=OJ _ tb tm T (WQ.drew) (Q.out.2.1.pure (Kept.refl none' WQ).drew)
           have BB:=Lib.hid (show ql a.nodes b.nodes s=decide (db.n<=(oI T:Int)) by rw[BAD.out];simp[hk,h7])
           obtain⟨N,hN⟩: ∃N,oI T=N:=⟨_,rfl⟩
           rw[hN]at cL BB
           clear hN
           refine ak [0,1,2,3,4,5,6,7,8,9,10,11,12,13,14,15,16] (fun W=>Kept none' WQ W) (by kernel_rfl) (by kernel_rfl) rfl (Kept.refl _ _).drew ?_
           simp only[List.map_cons,List.map_nil,List.getElem?_toArray,List.getElem?_cons_zero,List.getElem?_cons_succ,Option.getD_some]
           iterate 4 (apply aj rfl rfl;(intro W hW;have a1:=hW.cell (p:=⟨p,1,none⟩) (fun h=>h) u1;have b1:=hW.cell (p:=⟨q,1,none⟩) (fun h=>h) v1;have b4:=hW.cell (p:=⟨q,6,none⟩) (fun h=>h) v4;go_simp;rfl);go_frame)
           refine aj (v:= .bool false) rfl rfl (by intro W hW;have a1:=hW.cell (p:=⟨p,1,none⟩) (fun h=>h) u1;have b1:=hW.cell (p:=⟨q,1,none⟩) (fun h=>h) v1;have b4:=hW.cell (p:=⟨q,6,none⟩) (fun h=>h) v4;go_simp;try(simp;try omega)) ?_
           go_frame
           iterate 1 (apply aj rfl rfl;(intro W hW;have a1:=hW.cell (p:=⟨p,1,none⟩) (fun h=>h) u1;have b1:=hW.cell (p:=⟨q,1,none⟩) (fun h=>h) v1;have b4:=hW.cell (p:=⟨q,6,none⟩) (fun h=>h) v4;go_simp;rfl);go_frame)
           iterate 2 (apply aj rfl rfl;(intro W hW;have a1:=hW.cell (p:=⟨p,1,none⟩) (fun h=>h) u1;have b1:=hW.cell (p:=⟨q,1,none⟩) (fun h=>h) v1;have b4:=hW.cell (p:=⟨q,6,none⟩) (fun h=>h) v4;go_simp;rfl);go_frame)
           refine aj (v:= .bool true) rfl rfl (by intro W hW;have a1:=hW.cell (p:=⟨p,1,none⟩) (fun h=>h) u1;have b1:=hW.cell (p:=⟨q,1,none⟩) (fun h=>h) v1;have b4:=hW.cell (p:=⟨q,6,none⟩) (fun h=>h) v4;go_simp;try(simp;try omega)) ?_
           go_frame
           iterate 1 (apply aj rfl rfl;(intro W hW;have a1:=hW.cell (p:=⟨p,1,none⟩) (fun h=>h) u1;have b1:=hW.cell (p:=⟨q,1,none⟩) (fun h=>h) v1;have b4:=hW.cell (p:=⟨q,6,none⟩) (fun h=>h) v4;go_simp;rfl);go_frame)
           iterate 3 (apply aj rfl rfl;(intro W hW;have a1:=hW.cell (p:=⟨p,1,none⟩) (fun h=>h) u1;have b1:=hW.cell (p:=⟨q,1,none⟩) (fun h=>h) v1;have b4:=hW.cell (p:=⟨q,6,none⟩) (fun h=>h) v4;go_simp;rfl);go_frame)
           apply aA rfl rfl
           intro K hK
           go_wp2_with fail
           (with_reducible refine cL.mono ?_)
           clear cL
           rintro e wx ⟨rfl,kx⟩
           go_wp2_with fail
           have P7:Kept none' WQ wx:=(Kept.refl none' WQ).drew.trans kx
           refine hK _ _ (fun _=>P7) ?_
           clear hK kx
           have z0:=P7.cell (p:=⟨wr.heap.size,0,none⟩) (fun h=>h) z0
           have hzl:wr.heap.size<wx.heap.size:=by have:=block_lt_of_cell z0;simpa using this
           by_cases hN:db.n<=(N:Int)
           ·have HBAD:=Lib.hid (show ql a.nodes b.nodes s=true by rw[BB.out];exact decide_eq_true hN)
            refine aj (v:= .bool true) rfl rfl (by intro W hW;have a1:=hW.cell (p:=⟨p,1,none⟩) (fun h=>h) u1;have b1:=hW.cell (p:=⟨q,1,none⟩) (fun h=>h) v1;have b4:=hW.cell (p:=⟨q,6,none⟩) (fun h=>h) v4;go_simp;try(simp;try omega)) ?_
            go_frame
            iterate 2 (apply aj rfl rfl;(intro W hW;have a1:=hW.cell (p:=⟨p,1,none⟩) (fun h=>h) u1;have b1:=hW.cell (p:=⟨q,1,none⟩) (fun h=>h) v1;have b4:=hW.cell (p:=⟨q,6,none⟩) (fun h=>h) v4;go_simp;rfl);go_frame)
            refine aG (fun _=>P7) ?_
            have F:=Lib.hid (show vJ w (dJ a b l) (.returned (.tuple #[.string s.1, .int .i64 241])) wx from
             ⟨by rw[show dJ a b l=kV a.nodes b.nodes l by unfold dJ;rw[HL.out];simp only[jg.out,if_true],G.out.2.1,G.out.2.2.2.2.2.1,if_neg HT0.out,if_neg (show ¬aO b.nodes s.1<0 from by have:=HFB.out;omega),if_pos HBAD.out],H.out.2.2.2.2.1.trans (K7.out.1.trans (Q.out.1.trans P7))⟩)
            clear u1 u4 v1 v4
            go_wp2_with fail
            try rw[Exit.noGoto_ret]
            go_ret2
            exact F.out
           ·have HBAD:=Lib.hid (show ql a.nodes b.nodes s=false by rw[BB.out];exact decide_eq_false hN)
            refine aj (v:= .bool false) rfl rfl (by intro W hW;have a1:=hW.cell (p:=⟨p,1,none⟩) (fun h=>h) u1;have b1:=hW.cell (p:=⟨q,1,none⟩) (fun h=>h) v1;have b4:=hW.cell (p:=⟨q,6,none⟩) (fun h=>h) v4;go_simp;try(simp;try omega)) ?_
            go_frame
            iterate 2 (apply aj rfl rfl;(intro W hW;have a1:=hW.cell (p:=⟨p,1,none⟩) (fun h=>h) u1;have b1:=hW.cell (p:=⟨q,1,none⟩) (fun h=>h) v1;have b4:=hW.cell (p:=⟨q,6,none⟩) (fun h=>h) v4;go_simp;rfl);go_frame)
            refine aG (fun _=>P7) ?_
            have F:=Lib.hid (K7.out.1.trans (Q.out.1.trans P7))
            clear u1 u4 v1 v4 z0
            go_wp2_with fail
            go_roundg (l.length-(k+1))
            case rel=>exact⟨k+1,by omega,by go_num,Nat.le_refl _,by rw[G.out.2.1,G.out.2.2.2.2.2.1,if_neg HT0.out,if_neg (show ¬aO b.nodes s.1<0 from by have:=HFB.out;omega),if_neg (by rw[HBAD.out];decide)],F.out⟩
            case measure=>have:=G.out.1;omega
          ·have HBAD:=Lib.hid (show ql a.nodes b.nodes s=false by rw[BAD.out];simp[hk,h7])
           refine ak [0,1,2,3,4,5,6,7,8,9,10,11,12,13,14,15,16] (fun W=>Kept none' WQ W) (by kernel_rfl) (by kernel_rfl) rfl (Kept.refl _ _).drew ?_
           simp only[List.map_cons,List.map_nil,List.getElem?_toArray,List.getElem?_cons_zero,List.getElem?_cons_succ,Option.getD_some]
           iterate 4 (apply aj rfl rfl;(intro W hW;have a1:=hW.cell (p:=⟨p,1,none⟩) (fun h=>h) u1;have b1:=hW.cell (p:=⟨q,1,none⟩) (fun h=>h) v1;have b4:=hW.cell (p:=⟨q,6,none⟩) (fun h=>h) v4;go_simp;rfl);go_frame)
           refine aj (v:= .bool false) rfl rfl (by intro W hW;have a1:=hW.cell (p:=⟨p,1,none⟩) (fun h=>h) u1;have b1:=hW.cell (p:=⟨q,1,none⟩) (fun h=>h) v1;have b4:=hW.cell (p:=⟨q,6,none⟩) (fun h=>h) v4;go_simp;try(simp;try omega)) ?_
           go_frame
           iterate 1 (apply aj rfl rfl;(intro W hW;have a1:=hW.cell (p:=⟨p,1,none⟩) (fun h=>h) u1;have b1:=hW.cell (p:=⟨q,1,none⟩) (fun h=>h) v1;have b4:=hW.cell (p:=⟨q,6,none⟩) (fun h=>h) v4;go_simp;rfl);go_frame)
           iterate 2 (apply aj rfl rfl;(intro W hW;have a1:=hW.cell (p:=⟨p,1,none⟩) (fun h=>h) u1;have b1:=hW.cell (p:=⟨q,1,none⟩) (fun h=>h) v1;have b4:=hW.cell (p:=⟨q,6,none⟩) (fun h=>h) v4;go_simp;rfl);go_frame)
           refine aj (v:= .bool false) rfl rfl (by intro W hW;have a1:=hW.cell (p:=⟨p,1,none⟩) (fun h=>h) u1;have b1:=hW.cell (p:=⟨q,1,none⟩) (fun h=>h) v1;have b4:=hW.cell (p:=⟨q,6,none⟩) (fun h=>h) v4;go_simp;try(simp;try omega)) ?_
           go_frame
           iterate 1 (apply aj rfl rfl;(intro W hW;have a1:=hW.cell (p:=⟨p,1,none⟩) (fun h=>h) u1;have b1:=hW.cell (p:=⟨q,1,none⟩) (fun h=>h) v1;have b4:=hW.cell (p:=⟨q,6,none⟩) (fun h=>h) v4;go_simp;rfl);go_frame)
           iterate 5 (apply fM rfl;go_frame)
           iterate 2 (apply aj rfl rfl;(intro W hW;have a1:=hW.cell (p:=⟨p,1,none⟩) (fun h=>h) u1;have b1:=hW.cell (p:=⟨q,1,none⟩) (fun h=>h) v1;have b4:=hW.cell (p:=⟨q,6,none⟩) (fun h=>h) v4;go_simp;rfl);go_frame)
           refine aG (fun _=>(Kept.refl _ _).drew) ?_
           have F:=Lib.hid (K7.out.1.trans (Q.out.1.trans (Kept.refl _ _).drew))
           clear u1 u4 v1 v4 z0
           go_wp2_with fail
           go_roundg (l.length-(k+1))
           case rel=>exact⟨k+1,by omega,by go_num,Nat.le_refl _,by rw[G.out.2.1,G.out.2.2.2.2.2.1,if_neg HT0.out,if_neg (show ¬aO b.nodes s.1<0 from by have:=HFB.out;omega),if_neg (by rw[HBAD.out];decide)],F.out⟩
           case measure=>have:=G.out.1;omega
         ·have HBAD:=Lib.hid (show ql a.nodes b.nodes s=true by rw[BAD.out];simp[hk])
          refine ak [0,1,2,3,4,5,6,7,8,9,10,11,12,13,14,15,16] (fun W=>Kept none' WQ W) (by kernel_rfl) (by kernel_rfl) rfl (Kept.refl _ _).drew ?_
          simp only[List.map_cons,List.map_nil,List.getElem?_toArray,List.getElem?_cons_zero,List.getElem?_cons_succ,Option.getD_some]
          iterate 4 (apply aj rfl rfl;(intro W hW;have a1:=hW.cell (p:=⟨p,1,none⟩) (fun h=>h) u1;have b1:=hW.cell (p:=⟨q,1,none⟩) (fun h=>h) v1;have b4:=hW.cell (p:=⟨q,6,none⟩) (fun h=>h) v4;go_simp;rfl);go_frame)
          refine aj (v:= .bool true) rfl rfl (by intro W hW;have a1:=hW.cell (p:=⟨p,1,none⟩) (fun h=>h) u1;have b1:=hW.cell (p:=⟨q,1,none⟩) (fun h=>h) v1;have b4:=hW.cell (p:=⟨q,6,none⟩) (fun h=>h) v4;go_simp;try(simp;try omega)) ?_
          go_frame
          iterate 1 (apply aj rfl rfl;(intro W hW;have a1:=hW.cell (p:=⟨p,1,none⟩) (fun h=>h) u1;have b1:=hW.cell (p:=⟨q,1,none⟩) (fun h=>h) v1;have b4:=hW.cell (p:=⟨q,6,none⟩) (fun h=>h) v4;go_simp;rfl);go_frame)
          iterate 10 (apply fM rfl;go_frame)
          iterate 1 (apply aj rfl rfl;(intro W hW;have a1:=hW.cell (p:=⟨p,1,none⟩) (fun h=>h) u1;have b1:=hW.cell (p:=⟨q,1,none⟩) (fun h=>h) v1;have b4:=hW.cell (p:=⟨q,6,none⟩) (fun h=>h) v4;go_simp;rfl);go_frame)
          refine aG (fun _=>(Kept.refl _ _).drew) ?_
          have F:=Lib.hid (show vJ w (dJ a b l) (.returned (.tuple #[.string s.1, .int .i64 241])) WQ.drew from
           ⟨by rw[show dJ a b l=kV a.nodes b.nodes l by unfold dJ;rw[HL.out];simp only[jg.out,if_true],G.out.2.1,G.out.2.2.2.2.2.1,if_neg HT0.out,if_neg (show ¬aO b.nodes s.1<0 from by have:=HFB.out;omega),if_pos HBAD.out],H.out.2.2.2.2.1.trans (K7.out.1.trans (Q.out.1.trans (Kept.refl _ _).drew))⟩)
          clear u1 u4 v1 v4
          go_wp2_with fail
          try rw[Exit.noGoto_ret]
          go_ret2
          exact F.out
    ·have e1:k=l.length:=by omega
     subst e1
     rw[List.drop_of_length_le (Nat.le_refl _)]at hck
     have F:=Lib.hid (show vJ w (dJ a b l) (.returned (.tuple #[.string emptyS, .int .i64 0])) wr from
      ⟨by rw[show dJ a b l=kV a.nodes b.nodes l by unfold dJ;rw[HL.out];simp only[jg.out,if_true],hck];rfl,H.out.2.2.2.2.1.trans hkp⟩)
     clear hck hkp hg
     go_wp2_with fail
     try rw[Exit.noGoto_ret]
     go_ret2
     exact F.out
  ·have F:=Lib.hid (show vJ w (dJ a b l) (.returned (.tuple #[.string emptyS, .int .i64 2])) w3 from⟨by
    unfold dJ
    rw[HL.out]
    simp only
    rw[if_neg (by rw[HM.out,decide_eq_false hz];decide)],H.out.2.2.2.2.1.trans (K2.out.trans k3)⟩)
   clear k3
   go_wp2_with fail
   try rw[Exit.noGoto_ret]
   go_ret2
   exact F.out
end Go.Proofs.YtopeleenlcnkkaaGreatDoor
