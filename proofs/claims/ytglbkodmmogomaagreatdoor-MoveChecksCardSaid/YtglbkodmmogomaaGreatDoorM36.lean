/- move.Check: whether states may be carried. -/
import Derived.Test.YtglbkodmmogomaaGreatDoorM35
set_option linter.unusedVariables false
set_option linter.unusedSimpArgs false
set_option maxHeartbeats 8000000
set_option maxRecDepth 100000
namespace Go.Proofs.YtglbkodmmogomaaGreatDoor
open Go Go.RowKit
attribute [local irreducible] bH dP H2.bW
theorem fA.uI {w:World}{par:Int}{v:Value}{j:Jb}(h:fA w #[.int .i64 par,v] j):fG w v j.nodes:=by
 obtain⟨v',e,hn,_⟩:=h
 injection e with e
 injection e with _ e
 injection e with e
 subst e
 exact hn
theorem Ag {nodes:List JN}: ∀{l:List St}{Ts Us:Tabs},bT nodes l Ts= .ok Us-> ∀s∈l,0<=aA nodes s.1/\ ∃T r,gK s.2.data.toList= .ok T r
 |[],_,_,_,s,hs=>by cases hs
 |x::l,Ts,Us,h,s,hs=>by
  unfold bT at h
  split at h
  ·cases h
  ·rename_i hno
   simp only[not_or]at hno
   split at h
   ·cases h
   ·rename_i T r ht
    split at h
    ·rcases List.mem_cons.1 hs with rfl|hs
     ·exact⟨by omega,T,r,ht⟩
     ·exact Ag h s hs
    ·cases h
theorem oC {j:Jb}{l:List St}{Ts:Tabs}(h:dH j l= .ok Ts): ∀s∈l,0<=aA j.nodes s.1/\ ∃T r,gK s.2.data.toList= .ok T r:=by
 unfold dH at h
 split at h
 ·cases e:bT j.nodes l (bf j.nodes)with
  |error f=>rw[e]at h;cases h
  |ok Us=>exact Ag e
 ·cases h
theorem SY {w:World}{B E:Nat}{a b c d e f g a' b' c' d' e' f' g':Value}(h:w.heap[B]?=some (.cells #[a,b,c,d,e,f,g] E (0,0))):
 (((((((w.setCell ⟨B,0,none⟩ a').setCell ⟨B,1,none⟩ b').setCell ⟨B,2,none⟩ c').setCell ⟨B,3,none⟩ d').setCell ⟨B,4,none⟩ e').setCell ⟨B,5,none⟩ f').setCell ⟨B,6,none⟩ g').heap[B]?=some (.cells #[a',b',c',d',e',f',g'] E (0,0)):=by
 have h1:=aS (aS (aS (aS (aS (aS (aS h 0 a') 1 b') 2 c') 3 d') 4 e') 5 f') 6 g'
 simpa using h1
theorem Ep {S:Nat->Prop}{w0 w:World}{B:Nat}{a b c d e f g:Value}(h:Kept S w0 w)(hB:S B\/w0.heap.size<=B):
 Kept S w0 (((((((w.setCell ⟨B,0,none⟩ a).setCell ⟨B,1,none⟩ b).setCell ⟨B,2,none⟩ c).setCell ⟨B,3,none⟩ d).setCell ⟨B,4,none⟩ e).setCell ⟨B,5,none⟩ f).setCell ⟨B,6,none⟩ g):=
 ((((((h.setCell (p:=⟨B,0,none⟩) hB _).setCell (p:=⟨B,1,none⟩) hB _).setCell (p:=⟨B,2,none⟩) hB _).setCell (p:=⟨B,3,none⟩) hB _).setCell (p:=⟨B,4,none⟩) hB _).setCell (p:=⟨B,5,none⟩) hB _).setCell (p:=⟨B,6,none⟩) hB _
theorem yS {a b:List JN}{l:List St}{k:Nat}{s:St}(h:l[k]?=some s):eY a b (l.drop k)=if bY s.2=[]then eY a b (l.drop (k+1))else if aA b s.1<0 then(s.1,240)else if jJ a b s=true then(s.1,241)else eY a b (l.drop (k+1)):=by
 rw[vS h];rfl
def jc (w:World)(r:ByteArray×Int)(e:Ending)(w':World):Prop:=e= .returned (.tuple #[.string r.1, .int .i64 r.2])/\Kept none' w w'
theorem check_any (a b:Jb)(va vb sv:Value)(l:List St)(w:World)(ha:fA w #[.int .i64 a.par,va] a)(hb:fA w #[.int .i64 b.par,vb] b)(hs:Reads w 2 sv (dK l))(hsz: ∀s∈l,s.1.size<=maxLen/\s.2.size<=maxLen):
 Calls Tryz.prog 10 #[.agg #[.int .i64 a.par,va], .agg #[.int .i64 b.par,vb],sv] w (jc w (aN a b l)):=by
 obtain⟨na,dU,hva,na1,TD,MQ⟩:=ha.uI.at
 obtain⟨mb,dQ,hvb,mb1,TG,MS⟩:=hb.uI.at
 obtain⟨sa,scap,hsv,s1,s2,s3⟩:=hs.mV
 subst hva hvb hsv
 unfold maxLen at TD TG s2
 have kA:Kept none' w ((w.alloc (.cells #[.int .i64 a.par, .slice na a.nodes.length dU] 24)).alloc (.cells #[.int .i64 b.par, .slice mb b.nodes.length dQ] 24)):=((Kept.refl _ _).alloc _).alloc _
 have t0:((w.alloc (.cells #[.int .i64 a.par, .slice na a.nodes.length dU] 24)).alloc (.cells #[.int .i64 b.par, .slice mb b.nodes.length dQ] 24)).heap[w.heap.size]?=some (.cells #[.int .i64 a.par, .slice na a.nodes.length dU] 24 (0,0)):=((Kept.refl none' _).alloc _).heap (heap_alloc_new w _) (fun h=>h)
 have t1:((w.alloc (.cells #[.int .i64 a.par, .slice na a.nodes.length dU] 24)).alloc (.cells #[.int .i64 b.par, .slice mb b.nodes.length dQ] 24)).heap[w.heap.size+1]?=some (.cells #[.int .i64 b.par, .slice mb b.nodes.length dQ] 24 (0,0)):=by
  have:=heap_alloc_new (w.alloc (.cells #[.int .i64 a.par, .slice na a.nodes.length dU] 24)) (.cells #[.int .i64 b.par, .slice mb b.nodes.length dQ] 24)
  rwa[World.size_alloc]at this
 obtain⟨W1,hW1⟩: ∃W1,((w.alloc (.cells #[.int .i64 a.par, .slice na a.nodes.length dU] 24)).alloc (.cells #[.int .i64 b.par, .slice mb b.nodes.length dQ] 24))=W1:=⟨_,rfl⟩
 rw[hW1]at kA t0 t1
 have cl:=Fz a _ _ l W1 (ha.pure kA) (hs.pure kA) hsz
 have H:=Lib.hid (And.intro ha (And.intro hb (And.intro hs (And.intro hsz (And.intro kA (And.intro t0 (And.intro t1 (And.intro MQ (And.intro MS s3)))))))))
 have HW:=Lib.hid hW1
 clear ha hb hs hsz kA t0 t1 hW1 MQ MS s3
 go_enter Tryz.func10,Tryz.ntmps10
 go_wp2_with fail
 go_step3
 go_wp2_with fail
 rw[HW.out]
 clear HW
 (with_reducible refine cl.mono ?_)
 clear cl
 intro e w2 hq
 unfold kF at hq
 cases hl:dH a l with
 |error er=>
  rw[hl]at hq
  obtain⟨rfl,hne,k2⟩:=hq
  have F:=Lib.hid (show jc w (aN a b l) (.returned (.tuple #[.string emptyS, .int .i64 er])) w2 from⟨by unfold aN;rw[hl],H.out.2.2.2.2.1.trans k2⟩)
  clear hl k2
  go_wp2_with fail
  try rw[Exit.noGoto_ret]
  go_ret2
  exact F.out
 |ok Ts=>
  rw[hl]at hq
  obtain⟨bi,mi,pm,rfl,-,-,-,k2⟩:=hq
  have t1:=k2.heap H.out.2.2.2.2.2.2.1 (fun h=>h)
  have r0:=cells_at t1 (j:=0) (v:= .int .i64 b.par) rfl
  have r1:=cells_at t1 (j:=1) (v:= .slice mb b.nodes.length dQ) rfl
  have hsz2:w.heap.size+1<w2.heap.size:=(Array.getElem?_eq_some_iff.1 t1).1
  have cm:=zo b _ w2 (H.out.2.1.pure (H.out.2.2.2.2.1.trans k2))
  have HM:=Lib.hid (oI b)
  have EACH:=Lib.hid (oC hl)
  have HL:=Lib.hid hl
  have K2:=Lib.hid k2
  clear hl k2 t1
  obtain⟨m1,hm1⟩: ∃m1,(dM b).1=m1:=⟨_,rfl⟩
  obtain⟨m2,hm2⟩: ∃m2,(dM b).2=m2:=⟨_,rfl⟩
  unfold jI at cm
  rw[hm1,hm2]at cm
  rw[hm2]at HM
  clear hm1 hm2
  go_wp2_with fail
  (with_reducible refine cm.mono ?_)
  clear cm r0 r1
  rintro e w3 ⟨rfl,k3⟩
  by_cases hz:m2=0
  ·subst hz
   have lW:=Lib.hid (show fU b=true by rw[HM.out];rfl)
   have K3:=Lib.hid (K2.out.trans k3)
   clear k3
   go_wp2_with fail
   go_step3
   go_wp2_with fail
   go_loopg [37] l.length (fun g vi wr=> ∃(k:Nat),k<=l.length/\vi= .int .i64 (k:Int)/\l.length-k<=g/\eY a.nodes b.nodes l=eY a.nodes b.nodes (l.drop k)/\Kept none' W1 wr)
   case atStart=>exact⟨0,by omega,rfl,by omega,by rw[List.drop_zero],K3.out⟩
   case round=>
    obtain⟨k,hkl,rfl,hg,hck,hkp⟩:=hrel
    by_cases hlt:k<l.length
    ·obtain⟨s,hs⟩: ∃s,l[k]?=some s:=⟨_,List.getElem?_eq_getElem hlt⟩
     obtain⟨bs,BG,rfl,hcs⟩:=H.out.2.2.2.2.2.2.2.2.2.resolve_left (fun h=>by rw[h]at hlt;simp at hlt)
     have kw:=H.out.2.2.2.2.1.trans hkp
     have y0:=kw.cell (fun h=>h) (hcs k s hs).1
     have y1:=kw.cell (fun h=>h) (hcs k s hs).2
     obtain⟨Gh,T,rest,htk⟩:=EACH.out s (List.mem_of_getElem? hs)
     have uM:bY s.2=T:=by unfold bY;rw[htk]
     have lM:=H.out.2.2.2.1 s (List.mem_of_getElem? hs)
     have hdr:=yS (a:=a.nodes) (b:=b.nodes) hs
     rw[uM]at hdr
     have ka:Kept none' wr (wr.alloc (.cells #[.string s.1, .string s.2] 35)):=(Kept.refl _ _).alloc _
     have sB:(wr.alloc (.cells #[.string s.1, .string s.2] 35)).heap[wr.heap.size]?=some (.cells #[.string s.1, .string s.2] 35 (0,0)):=heap_alloc_new _ _
     obtain⟨W4,gJ⟩: ∃W4,wr.alloc (.cells #[.string s.1, .string s.2] 35)=W4:=⟨_,rfl⟩
     rw[gJ]at ka sB
     have z0:=cells_at sB (j:=0) (v:= .string s.1) rfl
     have z1:=cells_at sB (j:=1) (v:= .string s.2) rfl
     have ct:=take_any s.2 lM.2 W4
     unfold fC at ct
     rw[htk]at ct
     dsimp only at ct
     have G:=Lib.hid (And.intro hg (And.intro hck (And.intro (hkp.trans ka) (And.intro sB (And.intro Gh (And.intro hdr uM))))))
     clear hg hck hkp ka sB Gh htk uM lM hdr kw hcs hs
     go_wp2_with fail
     try rw[gJ]
     clear gJ y0 y1 z0 z1
     (with_reducible refine ct.mono ?_)
     clear ct
     rintro e w5 ⟨tb,tm,rfl,tT,k5⟩
     have ck:=rP _ tb tm T w5 tT
     have K5:=Lib.hid (And.intro tT k5)
     clear tT k5
     go_wp2_with fail
     (with_reducible refine ck.mono ?_)
     clear ck
     rintro e w6 ⟨v6,rfl,hown,-,k6⟩
     obtain⟨v6a,v6c,rfl⟩:=ay hown
     have hkl2:(aQ T).length=T.length:=by unfold aQ;rw[List.length_map]
     rw[hkl2]
     have rO:=G.out.2.2.1.trans (K5.out.2.trans k6)
     have yE:=(K5.out.2.trans k6).heap G.out.2.2.2.1 (fun h=>h)
     have K6:=Lib.hid (And.intro rO (And.intro (K5.out.1.pure k6) yE))
     clear hown hkl2 k6
     by_cases hT0:T=[]
     ·have hTl:T.length=0:=by rw[hT0];rfl
      rw[hTl]
      have HT0:=Lib.hid hT0
      clear hT0 hTl rO yE
      go_wp2_with fail
      go_roundg (l.length-(k+1))
      case rel=>exact⟨k+1,by omega,by go_num,Nat.le_refl _,by rw[G.out.2.1,G.out.2.2.2.2.2.1,if_pos HT0.out],K6.out.1⟩
      case measure=>have:=G.out.1;omega
     ·have hTl:T.length≠0:=fun h=>hT0 (List.eq_nil_of_length_eq_zero h)
      have t1:=rO.heap H.out.2.2.2.2.2.2.1 (fun h=>h)
      have r0:=cells_at t1 (j:=0) (v:= .int .i64 b.par) rfl
      have r1:=cells_at t1 (j:=1) (v:= .slice mb b.nodes.length dQ) rfl
      have z0:=cells_at yE (j:=0) (v:= .string s.1) rfl
      have PX:w.heap.size+1<w6.heap.size:=(Array.getElem?_eq_some_iff.1 t1).1
      have XL:wr.heap.size<w6.heap.size:=(Array.getElem?_eq_some_iff.1 yE).1
      have cf:=lS b _ s.1 w6 (H.out.2.1.pure (H.out.2.2.2.2.1.trans rO))
      have HT0:=Lib.hid hT0
      have hTp:0<T.length:=by omega
      clear hT0 t1 rO yE
      go_wp2_with fail
      (with_reducible refine cf.mono ?_)
      clear cf r0 r1 z0
      rintro e w7 ⟨rfl,k7⟩
      have mP:=K6.out.1.trans k7
      have QB:=k7.heap K6.out.2.2 (fun h=>h)
      have z0:=cells_at QB (j:=0) (v:= .string s.1) rfl
      have K7:=Lib.hid (And.intro mP (And.intro (K6.out.2.1.pure k7) QB))
      rcases dI b.nodes s.1 with⟨hf,-⟩|⟨ib,db,hfb,hdb,-,F5,-⟩
      ·rw[hf]
       have F:=Lib.hid (show jc w (aN a b l) (.returned (.tuple #[.string s.1, .int .i64 240])) w7 from
        ⟨by rw[show aN a b l=eY a.nodes b.nodes l by unfold aN;rw[HL.out];simp only[lW.out,if_true],G.out.2.1,G.out.2.2.2.2.2.1,if_neg HT0.out,if_pos (by rw[hf];decide)],H.out.2.2.2.2.1.trans mP⟩)
       clear hf k7 mP QB
       go_wp2_with fail
       try rw[Exit.noGoto_ret]
       go_ret2
       exact F.out
      ·rw[hfb]
       rcases dI a.nodes s.1 with⟨hf,-⟩|⟨ia,da,hfa,hda,-,F7,-⟩
       ·exact absurd G.out.2.2.2.2.1 (by rw[hf];decide)
       ·obtain⟨ab,dF,api,JA,ap,BZ,rfl,hac,-⟩:=H.out.2.2.2.2.2.2.2.1 ia da hda
        obtain⟨bb,ug,Jw,Jz,bp,BU,rfl,hbc,-⟩:=H.out.2.2.2.2.2.2.2.2.1 ib db hdb
        have hia:ia<a.nodes.length:=(List.getElem?_eq_some_iff.1 hda).1
        have hib:ib<b.nodes.length:=(List.getElem?_eq_some_iff.1 hdb).1
        obtain⟨c0,c1,c2,c3,c4,c5,c6⟩:=hac.kept (H.out.2.2.2.2.1.trans mP) (fun h=>h)
        obtain⟨d0,d1,d2,d3,d4,d5,d6⟩:=hbc.kept (H.out.2.2.2.2.1.trans mP) (fun h=>h)
        have t0:=mP.heap H.out.2.2.2.2.2.1 (fun h=>h)
        have t1:=mP.heap H.out.2.2.2.2.2.2.1 (fun h=>h)
        have p0:=cells_at t0 (j:=0) (v:= .int .i64 a.par) rfl
        have p1:=cells_at t0 (j:=1) (v:= .slice (some ⟨ab,dF,none⟩) a.nodes.length dU) rfl
        have r0:=cells_at t1 (j:=0) (v:= .int .i64 b.par) rfl
        have r1:=cells_at t1 (j:=1) (v:= .slice (some ⟨bb,ug,none⟩) b.nodes.length dQ) rfl
        have BAD:=Lib.hid (show jJ a.nodes b.nodes s=(decide (da.kind≠db.kind)||(decide (db.kind=7)&&decide (db.n<=(jK T:Int)))) by unfold jJ;rw[F7,F5,G.out.2.2.2.2.2.2])
        have Uz: ¬aA b.nodes s.1<0:=by rw[hfb];omega
        have Ri:=Lib.hid Uz
        have Oz:=Lib.hid hfa
        obtain⟨WD,UL⟩: ∃WD,w7.drew=WD:=⟨_,rfl⟩
        have kd:Kept none' w7 WD:=by rw[<-UL];exact Kept.drew (Kept.refl none' w7)
        clear hfa hfb Uz F7 F5 hda hdb hac hbc k7 t0 t1 QB
        go_wp2_with fail
        refine oN (fun W=>Kept none' w7 W) (by kernel_rfl) (by kernel_rfl) (Kept.drew (Kept.refl none' w7)) ?_
        rw[UL]
        clear UL
        refine aH (k:=0) (by kernel_rfl) rfl rfl (fun W hW=>by go_simp;rfl) ?_
        go_frame
        refine aH (k:=1) (by kernel_rfl) rfl rfl (fun W hW=>by have a0:=hW.cell (p:=⟨w.heap.size,0,none⟩) (fun h=>h) p0;have a1:=hW.cell (p:=⟨w.heap.size,1,none⟩) (fun h=>h) p1;go_simp;rfl) ?_
        go_frame
        refine aH (k:=2) (by kernel_rfl) rfl rfl (fun W hW=>by have a0:=hW.cell (p:=⟨w.heap.size,0,none⟩) (fun h=>h) p0;have a1:=hW.cell (p:=⟨w.heap.size,1,none⟩) (fun h=>h) p1;go_simp;rfl) ?_
        go_frame
        refine aH (k:=3) (by kernel_rfl) rfl rfl (fun W hW=>by go_simp;rfl) ?_
        go_frame
        refine aH (k:=4) (by kernel_rfl) rfl rfl (fun W hW=>by have q0:=hW.cell (p:=⟨wr.heap.size,0,none⟩) (fun h=>h) z0;go_simp;rfl) ?_
        go_frame
        refine aH (k:=8) (by kernel_rfl) rfl rfl (fun W hW=>by go_simp;rfl) ?_
        go_frame
        refine aH (k:=9) (by kernel_rfl) rfl rfl (fun W hW=>by have b1:=hW.cell (p:=⟨w.heap.size+1,1,none⟩) (fun h=>h) r1;go_simp;rfl) ?_
        go_frame
        refine aH (k:=10) (by kernel_rfl) rfl rfl (fun W hW=>by go_simp;rfl) ?_
        go_frame
        refine aH (k:=11) (by kernel_rfl) rfl rfl (fun W hW=>by go_simp;rfl) ?_
        go_frame
        refine aH (k:=12) (by kernel_rfl) rfl rfl (fun W hW=>by have d0':=hW.cell (p:=⟨bb,ug+ib*7,none⟩) (fun h=>h) d0;have d1':=hW.cell (p:=⟨bb,ug+ib*7+1,none⟩) (fun h=>h) d1;have Xg:=hW.cell (p:=⟨bb,ug+ib*7+2,none⟩) (fun h=>h) d2;have d3':=hW.cell (p:=⟨bb,ug+ib*7+3,none⟩) (fun h=>h) d3;have d4':=hW.cell (p:=⟨bb,ug+ib*7+4,none⟩) (fun h=>h) d4;have d5':=hW.cell (p:=⟨bb,ug+ib*7+5,none⟩) (fun h=>h) d5;have d6':=hW.cell (p:=⟨bb,ug+ib*7+6,none⟩) (fun h=>h) d6;go_simp;rfl) ?_
        go_frame
        refine JF (i:=5) (k:=13) (m:=14) (by kernel_rfl) (by kernel_rfl) rfl rfl rfl rfl rfl rfl ?L5 ?L13 ?L14
        case' L5=>
         intro K hK
         go_wp2_with fail
         have cf:=lS a _ s.1 WD (H.out.1.pure (H.out.2.2.2.2.1.trans (K7.out.1.trans kd)))
         rw[Oz.out]at cf
         (with_reducible refine cf.mono ?_)
         clear cf
         rintro e uz ⟨rfl,kf⟩
         have k24:Kept none' w7 uz:=kd.trans kf
         go_wp2_with fail
         refine hK _ _ k24 ?_
         clear hK
         refine aH (k:=6) (by kernel_rfl) rfl rfl (fun W hW=>by go_simp;rfl) ?_
         go_frame
         refine aH (k:=7) (by kernel_rfl) rfl rfl (fun W hW=>by have c0':=hW.cell (p:=⟨ab,dF+ia*7,none⟩) (fun h=>h) c0;have c1':=hW.cell (p:=⟨ab,dF+ia*7+1,none⟩) (fun h=>h) c1;have c2':=hW.cell (p:=⟨ab,dF+ia*7+2,none⟩) (fun h=>h) c2;have c3':=hW.cell (p:=⟨ab,dF+ia*7+3,none⟩) (fun h=>h) c3;have DZ:=hW.cell (p:=⟨ab,dF+ia*7+4,none⟩) (fun h=>h) c4;have AX:=hW.cell (p:=⟨ab,dF+ia*7+5,none⟩) (fun h=>h) c5;have Q7:=hW.cell (p:=⟨ab,dF+ia*7+6,none⟩) (fun h=>h) c6;go_simp;rfl) ?_
         go_frame
         clear kf
         refine qZ (i:=13) (k:=14) (by kernel_rfl) (by kernel_rfl) rfl rfl rfl rfl ?X8 ?X7
         case' X8=>
          intro K hK
          go_wp2_with fail
          refine hK _ _ (k24.alloc _) ?_
          clear hK
          have Js:=heap_alloc_new uz (.cells #[.string ⟨#[]⟩, .int .u8 0, .slice none 0 0, .int .u8 0, .int .i64 0, .slice none 0 0, .int .i64 0] 42)
          have k25:Kept none' w7 (uz.alloc (.cells #[.string ⟨#[]⟩, .int .u8 0, .slice none 0 0, .int .u8 0, .int .i64 0, .slice none 0 0, .int .i64 0] 42)):=k24.alloc _
          have XF:Kept none' uz (uz.alloc (.cells #[.string ⟨#[]⟩, .int .u8 0, .slice none 0 0, .int .u8 0, .int .i64 0, .slice none 0 0, .int .i64 0] 42)):=(Kept.refl _ _).alloc _
          obtain⟨Cm,PV⟩: ∃Cm,uz.alloc (.cells #[.string ⟨#[]⟩, .int .u8 0, .slice none 0 0, .int .u8 0, .int .i64 0, .slice none 0 0, .int .i64 0] 42)=Cm:=⟨_,rfl⟩
          rw[PV]
          rw[PV]at Js k25 XF
          clear PV
          obtain⟨p,hp⟩: ∃x,uz.heap.size=x:=⟨_,rfl⟩
          rw[hp]
          rw[hp]at Js
          have Gf:w7.heap.size<=p:=by have:=k24.size;omega
          refine dJ (k:=14) (by kernel_rfl) (by kernel_rfl) rfl rfl ?_
          have Gg:=(Array.getElem?_eq_some_iff.1 Js).1
          intro K hK
          go_wp2_with fail
          refine hK _ _ (k25.alloc _) ?_
          clear hK
          have U3:=heap_alloc_new Cm (.cells #[.string ⟨#[]⟩, .int .u8 0, .slice none 0 0, .int .u8 0, .int .i64 0, .slice none 0 0, .int .i64 0] 42)
          have k26:Kept none' w7 (Cm.alloc (.cells #[.string ⟨#[]⟩, .int .u8 0, .slice none 0 0, .int .u8 0, .int .i64 0, .slice none 0 0, .int .i64 0] 42)):=k25.alloc _
          have TQ:Kept none' Cm (Cm.alloc (.cells #[.string ⟨#[]⟩, .int .u8 0, .slice none 0 0, .int .u8 0, .int .i64 0, .slice none 0 0, .int .i64 0] 42)):=(Kept.refl _ _).alloc _
          obtain⟨SK,PU⟩: ∃SK,Cm.alloc (.cells #[.string ⟨#[]⟩, .int .u8 0, .slice none 0 0, .int .u8 0, .int .i64 0, .slice none 0 0, .int .i64 0] 42)=SK:=⟨_,rfl⟩
          rw[PU]
          rw[PU]at U3 k26 TQ
          clear PU
          have Js:=TQ.heap Js (fun h=>h)
          obtain⟨q,hq⟩: ∃x,Cm.heap.size=x:=⟨_,rfl⟩
          rw[hq]
          rw[hq]at U3
          have hgeq:w7.heap.size<=q:=by have:=k25.size;omega
          have hpq:p≠q:=by
           omega
          obtain⟨WE,jB⟩: ∃WE,SK=WE:=⟨_,rfl⟩
          rw[jB]
          have kE:Kept none' w7 WE:=by rw[<-jB];exact k26
          have gp:WE.heap[p]?=some (.cells #[.string ⟨#[]⟩, .int .u8 0, .slice none 0 0, .int .u8 0, .int .i64 0, .slice none 0 0, .int .i64 0] 42 (0,0)):=by rw[<-jB];exact Js
          have gq:WE.heap[q]?=some (.cells #[.string ⟨#[]⟩, .int .u8 0, .slice none 0 0, .int .u8 0, .int .i64 0, .slice none 0 0, .int .i64 0] 42 (0,0)):=by rw[<-jB];exact U3
         case' X7=>
          intro K hK
          go_wp2_with fail
          refine hK _ _ (k24.alloc _) ?_
          clear hK
          have h28:=heap_alloc_new uz (.cells #[.string ⟨#[]⟩, .int .u8 0, .slice none 0 0, .int .u8 0, .int .i64 0, .slice none 0 0, .int .i64 0] 42)
          have k28:Kept none' w7 (uz.alloc (.cells #[.string ⟨#[]⟩, .int .u8 0, .slice none 0 0, .int .u8 0, .int .i64 0, .slice none 0 0, .int .i64 0] 42)):=k24.alloc _
          have XE:Kept none' uz (uz.alloc (.cells #[.string ⟨#[]⟩, .int .u8 0, .slice none 0 0, .int .u8 0, .int .i64 0, .slice none 0 0, .int .i64 0] 42)):=(Kept.refl _ _).alloc _
          obtain⟨Cj,PS⟩: ∃Cj,uz.alloc (.cells #[.string ⟨#[]⟩, .int .u8 0, .slice none 0 0, .int .u8 0, .int .i64 0, .slice none 0 0, .int .i64 0] 42)=Cj:=⟨_,rfl⟩
          rw[PS]
          rw[PS]at h28 k28 XE
          clear PS
          obtain⟨q,hq⟩: ∃x,uz.heap.size=x:=⟨_,rfl⟩
          rw[hq]
          rw[hq]at h28
          have hgeq:w7.heap.size<=q:=by have:=k24.size;omega
          refine dJ (k:=13) (by kernel_rfl) (by kernel_rfl) rfl rfl ?_
          have Gg:=(Array.getElem?_eq_some_iff.1 h28).1
          intro K hK
          go_wp2_with fail
          refine hK _ _ (k28.alloc _) ?_
          clear hK
          have U2:=heap_alloc_new Cj (.cells #[.string ⟨#[]⟩, .int .u8 0, .slice none 0 0, .int .u8 0, .int .i64 0, .slice none 0 0, .int .i64 0] 42)
          have k29:Kept none' w7 (Cj.alloc (.cells #[.string ⟨#[]⟩, .int .u8 0, .slice none 0 0, .int .u8 0, .int .i64 0, .slice none 0 0, .int .i64 0] 42)):=k28.alloc _
          have TP:Kept none' Cj (Cj.alloc (.cells #[.string ⟨#[]⟩, .int .u8 0, .slice none 0 0, .int .u8 0, .int .i64 0, .slice none 0 0, .int .i64 0] 42)):=(Kept.refl _ _).alloc _
          obtain⟨SI,PO⟩: ∃SI,Cj.alloc (.cells #[.string ⟨#[]⟩, .int .u8 0, .slice none 0 0, .int .u8 0, .int .i64 0, .slice none 0 0, .int .i64 0] 42)=SI:=⟨_,rfl⟩
          rw[PO]
          rw[PO]at U2 k29 TP
          clear PO
          have h28:=TP.heap h28 (fun h=>h)
          obtain⟨p,hp⟩: ∃x,Cj.heap.size=x:=⟨_,rfl⟩
          rw[hp]
          rw[hp]at U2
          have Gf:w7.heap.size<=p:=by have:=k28.size;omega
          have hpq:p≠q:=by
           omega
          obtain⟨WE,jB⟩: ∃WE,SI=WE:=⟨_,rfl⟩
          rw[jB]
          have kE:Kept none' w7 WE:=by rw[<-jB];exact k29
          have gp:WE.heap[p]?=some (.cells #[.string ⟨#[]⟩, .int .u8 0, .slice none 0 0, .int .u8 0, .int .i64 0, .slice none 0 0, .int .i64 0] 42 (0,0)):=by rw[<-jB];exact U2
          have gq:WE.heap[q]?=some (.cells #[.string ⟨#[]⟩, .int .u8 0, .slice none 0 0, .int .u8 0, .int .i64 0, .slice none 0 0, .int .i64 0] 42 (0,0)):=by rw[<-jB];exact h28
        case' L13=>
         intro K hK
         go_wp2_with fail
         refine hK _ _ (kd.alloc _) ?_
         clear hK
         have sZ:=heap_alloc_new WD (.cells #[.string ⟨#[]⟩, .int .u8 0, .slice none 0 0, .int .u8 0, .int .i64 0, .slice none 0 0, .int .i64 0] 42)
         have k33:Kept none' w7 (WD.alloc (.cells #[.string ⟨#[]⟩, .int .u8 0, .slice none 0 0, .int .u8 0, .int .i64 0, .slice none 0 0, .int .i64 0] 42)):=kd.alloc _
         have XD:Kept none' WD (WD.alloc (.cells #[.string ⟨#[]⟩, .int .u8 0, .slice none 0 0, .int .u8 0, .int .i64 0, .slice none 0 0, .int .i64 0] 42)):=(Kept.refl _ _).alloc _
         obtain⟨zI,PN⟩: ∃zI,WD.alloc (.cells #[.string ⟨#[]⟩, .int .u8 0, .slice none 0 0, .int .u8 0, .int .i64 0, .slice none 0 0, .int .i64 0] 42)=zI:=⟨_,rfl⟩
         rw[PN]
         rw[PN]at sZ k33 XD
         clear PN
         obtain⟨p,hp⟩: ∃x,WD.heap.size=x:=⟨_,rfl⟩
         rw[hp]
         rw[hp]at sZ
         have Gf:w7.heap.size<=p:=by have:=kd.size;omega
         refine qZ (i:=5) (k:=14) (by kernel_rfl) (by kernel_rfl) rfl rfl rfl rfl ?Ya ?VN
         case' Ya=>
          intro K hK
          go_wp2_with fail
          have cf:=lS a _ s.1 zI (H.out.1.pure (H.out.2.2.2.2.1.trans (K7.out.1.trans k33)))
          rw[Oz.out]at cf
          (with_reducible refine cf.mono ?_)
          clear cf
          rintro e ED ⟨rfl,kf⟩
          have k34:Kept none' w7 ED:=k33.trans kf
          go_wp2_with fail
          refine hK _ _ k34 ?_
          clear hK
          refine aH (k:=6) (by kernel_rfl) rfl rfl (fun W hW=>by go_simp;rfl) ?_
          go_frame
          refine aH (k:=7) (by kernel_rfl) rfl rfl (fun W hW=>by have c0':=hW.cell (p:=⟨ab,dF+ia*7,none⟩) (fun h=>h) c0;have c1':=hW.cell (p:=⟨ab,dF+ia*7+1,none⟩) (fun h=>h) c1;have c2':=hW.cell (p:=⟨ab,dF+ia*7+2,none⟩) (fun h=>h) c2;have c3':=hW.cell (p:=⟨ab,dF+ia*7+3,none⟩) (fun h=>h) c3;have DZ:=hW.cell (p:=⟨ab,dF+ia*7+4,none⟩) (fun h=>h) c4;have AX:=hW.cell (p:=⟨ab,dF+ia*7+5,none⟩) (fun h=>h) c5;have Q7:=hW.cell (p:=⟨ab,dF+ia*7+6,none⟩) (fun h=>h) c6;go_simp;rfl) ?_
          go_frame
          have sZ:=kf.heap sZ (fun h=>h)
          clear kf
          refine dJ (k:=14) (by kernel_rfl) (by kernel_rfl) rfl rfl ?_
          have Gg:=(Array.getElem?_eq_some_iff.1 sZ).1
          intro K hK
          go_wp2_with fail
          refine hK _ _ (k34.alloc _) ?_
          clear hK
          have h35:=heap_alloc_new ED (.cells #[.string ⟨#[]⟩, .int .u8 0, .slice none 0 0, .int .u8 0, .int .i64 0, .slice none 0 0, .int .i64 0] 42)
          have WH:Kept none' w7 (ED.alloc (.cells #[.string ⟨#[]⟩, .int .u8 0, .slice none 0 0, .int .u8 0, .int .i64 0, .slice none 0 0, .int .i64 0] 42)):=k34.alloc _
          have TN:Kept none' ED (ED.alloc (.cells #[.string ⟨#[]⟩, .int .u8 0, .slice none 0 0, .int .u8 0, .int .i64 0, .slice none 0 0, .int .i64 0] 42)):=(Kept.refl _ _).alloc _
          obtain⟨SG,PL⟩: ∃SG,ED.alloc (.cells #[.string ⟨#[]⟩, .int .u8 0, .slice none 0 0, .int .u8 0, .int .i64 0, .slice none 0 0, .int .i64 0] 42)=SG:=⟨_,rfl⟩
          rw[PL]
          rw[PL]at h35 WH TN
          clear PL
          have sZ:=TN.heap sZ (fun h=>h)
          obtain⟨q,hq⟩: ∃x,ED.heap.size=x:=⟨_,rfl⟩
          rw[hq]
          rw[hq]at h35
          have hgeq:w7.heap.size<=q:=by have:=k34.size;omega
          have hpq:p≠q:=by
           omega
          obtain⟨WE,jB⟩: ∃WE,SG=WE:=⟨_,rfl⟩
          rw[jB]
          have kE:Kept none' w7 WE:=by rw[<-jB];exact WH
          have gp:WE.heap[p]?=some (.cells #[.string ⟨#[]⟩, .int .u8 0, .slice none 0 0, .int .u8 0, .int .i64 0, .slice none 0 0, .int .i64 0] 42 (0,0)):=by rw[<-jB];exact sZ
          have gq:WE.heap[q]?=some (.cells #[.string ⟨#[]⟩, .int .u8 0, .slice none 0 0, .int .u8 0, .int .i64 0, .slice none 0 0, .int .i64 0] 42 (0,0)):=by rw[<-jB];exact h35
         case' VN=>
          have Gg:=(Array.getElem?_eq_some_iff.1 sZ).1
          intro K hK
          go_wp2_with fail
          refine hK _ _ (k33.alloc _) ?_
          clear hK
          have h37:=heap_alloc_new zI (.cells #[.string ⟨#[]⟩, .int .u8 0, .slice none 0 0, .int .u8 0, .int .i64 0, .slice none 0 0, .int .i64 0] 42)
          have k37:Kept none' w7 (zI.alloc (.cells #[.string ⟨#[]⟩, .int .u8 0, .slice none 0 0, .int .u8 0, .int .i64 0, .slice none 0 0, .int .i64 0] 42)):=k33.alloc _
          have TM:Kept none' zI (zI.alloc (.cells #[.string ⟨#[]⟩, .int .u8 0, .slice none 0 0, .int .u8 0, .int .i64 0, .slice none 0 0, .int .i64 0] 42)):=(Kept.refl _ _).alloc _
          obtain⟨SE,PK⟩: ∃SE,zI.alloc (.cells #[.string ⟨#[]⟩, .int .u8 0, .slice none 0 0, .int .u8 0, .int .i64 0, .slice none 0 0, .int .i64 0] 42)=SE:=⟨_,rfl⟩
          rw[PK]
          rw[PK]at h37 k37 TM
          clear PK
          have sZ:=TM.heap sZ (fun h=>h)
          obtain⟨q,hq⟩: ∃x,zI.heap.size=x:=⟨_,rfl⟩
          rw[hq]
          rw[hq]at h37
          have hgeq:w7.heap.size<=q:=by have:=k33.size;omega
          refine dJ (k:=5) (by kernel_rfl) (by kernel_rfl) rfl rfl ?_
          intro K hK
          go_wp2_with fail
          have cf:=lS a _ s.1 SE (H.out.1.pure (H.out.2.2.2.2.1.trans (K7.out.1.trans k37)))
          rw[Oz.out]at cf
          (with_reducible refine cf.mono ?_)
          clear cf
          rintro e VU ⟨rfl,kf⟩
          have k38:Kept none' w7 VU:=k37.trans kf
          go_wp2_with fail
          refine hK _ _ k38 ?_
          clear hK
          refine aH (k:=6) (by kernel_rfl) rfl rfl (fun W hW=>by go_simp;rfl) ?_
          go_frame
          refine aH (k:=7) (by kernel_rfl) rfl rfl (fun W hW=>by have c0':=hW.cell (p:=⟨ab,dF+ia*7,none⟩) (fun h=>h) c0;have c1':=hW.cell (p:=⟨ab,dF+ia*7+1,none⟩) (fun h=>h) c1;have c2':=hW.cell (p:=⟨ab,dF+ia*7+2,none⟩) (fun h=>h) c2;have c3':=hW.cell (p:=⟨ab,dF+ia*7+3,none⟩) (fun h=>h) c3;have DZ:=hW.cell (p:=⟨ab,dF+ia*7+4,none⟩) (fun h=>h) c4;have AX:=hW.cell (p:=⟨ab,dF+ia*7+5,none⟩) (fun h=>h) c5;have Q7:=hW.cell (p:=⟨ab,dF+ia*7+6,none⟩) (fun h=>h) c6;go_simp;rfl) ?_
          go_frame
          have sZ:=kf.heap sZ (fun h=>h)
          have h37:=kf.heap h37 (fun h=>h)
          clear kf
          have hpq:p≠q:=by
           omega
          obtain⟨WE,jB⟩: ∃WE,VU=WE:=⟨_,rfl⟩
          rw[jB]
          have kE:Kept none' w7 WE:=by rw[<-jB];exact k38
          have gp:WE.heap[p]?=some (.cells #[.string ⟨#[]⟩, .int .u8 0, .slice none 0 0, .int .u8 0, .int .i64 0, .slice none 0 0, .int .i64 0] 42 (0,0)):=by rw[<-jB];exact sZ
          have gq:WE.heap[q]?=some (.cells #[.string ⟨#[]⟩, .int .u8 0, .slice none 0 0, .int .u8 0, .int .i64 0, .slice none 0 0, .int .i64 0] 42 (0,0)):=by rw[<-jB];exact h37
        case' L14=>
         intro K hK
         go_wp2_with fail
         refine hK _ _ (kd.alloc _) ?_
         clear hK
         have h42:=heap_alloc_new WD (.cells #[.string ⟨#[]⟩, .int .u8 0, .slice none 0 0, .int .u8 0, .int .i64 0, .slice none 0 0, .int .i64 0] 42)
         have Jl:Kept none' w7 (WD.alloc (.cells #[.string ⟨#[]⟩, .int .u8 0, .slice none 0 0, .int .u8 0, .int .i64 0, .slice none 0 0, .int .i64 0] 42)):=kd.alloc _
         have XC:Kept none' WD (WD.alloc (.cells #[.string ⟨#[]⟩, .int .u8 0, .slice none 0 0, .int .u8 0, .int .i64 0, .slice none 0 0, .int .i64 0] 42)):=(Kept.refl _ _).alloc _
         obtain⟨zH,PI⟩: ∃zH,WD.alloc (.cells #[.string ⟨#[]⟩, .int .u8 0, .slice none 0 0, .int .u8 0, .int .i64 0, .slice none 0 0, .int .i64 0] 42)=zH:=⟨_,rfl⟩
         rw[PI]
         rw[PI]at h42 Jl XC
         clear PI
         obtain⟨q,hq⟩: ∃x,WD.heap.size=x:=⟨_,rfl⟩
         rw[hq]
         rw[hq]at h42
         have hgeq:w7.heap.size<=q:=by have:=kd.size;omega
         refine qZ (i:=5) (k:=13) (by kernel_rfl) (by kernel_rfl) rfl rfl rfl rfl ?X9 ?VL
         case' X9=>
          intro K hK
          go_wp2_with fail
          have cf:=lS a _ s.1 zH (H.out.1.pure (H.out.2.2.2.2.1.trans (K7.out.1.trans Jl)))
          rw[Oz.out]at cf
          (with_reducible refine cf.mono ?_)
          clear cf
          rintro e EC ⟨rfl,kf⟩
          have QJ:Kept none' w7 EC:=Jl.trans kf
          go_wp2_with fail
          refine hK _ _ QJ ?_
          clear hK
          refine aH (k:=6) (by kernel_rfl) rfl rfl (fun W hW=>by go_simp;rfl) ?_
          go_frame
          refine aH (k:=7) (by kernel_rfl) rfl rfl (fun W hW=>by have c0':=hW.cell (p:=⟨ab,dF+ia*7,none⟩) (fun h=>h) c0;have c1':=hW.cell (p:=⟨ab,dF+ia*7+1,none⟩) (fun h=>h) c1;have c2':=hW.cell (p:=⟨ab,dF+ia*7+2,none⟩) (fun h=>h) c2;have c3':=hW.cell (p:=⟨ab,dF+ia*7+3,none⟩) (fun h=>h) c3;have DZ:=hW.cell (p:=⟨ab,dF+ia*7+4,none⟩) (fun h=>h) c4;have AX:=hW.cell (p:=⟨ab,dF+ia*7+5,none⟩) (fun h=>h) c5;have Q7:=hW.cell (p:=⟨ab,dF+ia*7+6,none⟩) (fun h=>h) c6;go_simp;rfl) ?_
          go_frame
          have h42:=kf.heap h42 (fun h=>h)
          clear kf
          refine dJ (k:=13) (by kernel_rfl) (by kernel_rfl) rfl rfl ?_
          have Gg:=(Array.getElem?_eq_some_iff.1 h42).1
          intro K hK
          go_wp2_with fail
          refine hK _ _ (QJ.alloc _) ?_
          clear hK
          have U0:=heap_alloc_new EC (.cells #[.string ⟨#[]⟩, .int .u8 0, .slice none 0 0, .int .u8 0, .int .i64 0, .slice none 0 0, .int .i64 0] 42)
          have WG:Kept none' w7 (EC.alloc (.cells #[.string ⟨#[]⟩, .int .u8 0, .slice none 0 0, .int .u8 0, .int .i64 0, .slice none 0 0, .int .i64 0] 42)):=QJ.alloc _
          have TL:Kept none' EC (EC.alloc (.cells #[.string ⟨#[]⟩, .int .u8 0, .slice none 0 0, .int .u8 0, .int .i64 0, .slice none 0 0, .int .i64 0] 42)):=(Kept.refl _ _).alloc _
          obtain⟨SC,PG⟩: ∃SC,EC.alloc (.cells #[.string ⟨#[]⟩, .int .u8 0, .slice none 0 0, .int .u8 0, .int .i64 0, .slice none 0 0, .int .i64 0] 42)=SC:=⟨_,rfl⟩
          rw[PG]
          rw[PG]at U0 WG TL
          clear PG
          have h42:=TL.heap h42 (fun h=>h)
          obtain⟨p,hp⟩: ∃x,EC.heap.size=x:=⟨_,rfl⟩
          rw[hp]
          rw[hp]at U0
          have Gf:w7.heap.size<=p:=by have:=QJ.size;omega
          have hpq:p≠q:=by
           omega
          obtain⟨WE,jB⟩: ∃WE,SC=WE:=⟨_,rfl⟩
          rw[jB]
          have kE:Kept none' w7 WE:=by rw[<-jB];exact WG
          have gp:WE.heap[p]?=some (.cells #[.string ⟨#[]⟩, .int .u8 0, .slice none 0 0, .int .u8 0, .int .i64 0, .slice none 0 0, .int .i64 0] 42 (0,0)):=by rw[<-jB];exact U0
          have gq:WE.heap[q]?=some (.cells #[.string ⟨#[]⟩, .int .u8 0, .slice none 0 0, .int .u8 0, .int .i64 0, .slice none 0 0, .int .i64 0] 42 (0,0)):=by rw[<-jB];exact h42
         case' VL=>
          have Gg:=(Array.getElem?_eq_some_iff.1 h42).1
          intro K hK
          go_wp2_with fail
          refine hK _ _ (Jl.alloc _) ?_
          clear hK
          have h46:=heap_alloc_new zH (.cells #[.string ⟨#[]⟩, .int .u8 0, .slice none 0 0, .int .u8 0, .int .i64 0, .slice none 0 0, .int .i64 0] 42)
          have sV:Kept none' w7 (zH.alloc (.cells #[.string ⟨#[]⟩, .int .u8 0, .slice none 0 0, .int .u8 0, .int .i64 0, .slice none 0 0, .int .i64 0] 42)):=Jl.alloc _
          have TK:Kept none' zH (zH.alloc (.cells #[.string ⟨#[]⟩, .int .u8 0, .slice none 0 0, .int .u8 0, .int .i64 0, .slice none 0 0, .int .i64 0] 42)):=(Kept.refl _ _).alloc _
          obtain⟨SA,PE⟩: ∃SA,zH.alloc (.cells #[.string ⟨#[]⟩, .int .u8 0, .slice none 0 0, .int .u8 0, .int .i64 0, .slice none 0 0, .int .i64 0] 42)=SA:=⟨_,rfl⟩
          rw[PE]
          rw[PE]at h46 sV TK
          clear PE
          have h42:=TK.heap h42 (fun h=>h)
          obtain⟨p,hp⟩: ∃x,zH.heap.size=x:=⟨_,rfl⟩
          rw[hp]
          rw[hp]at h46
          have Gf:w7.heap.size<=p:=by have:=Jl.size;omega
          refine dJ (k:=5) (by kernel_rfl) (by kernel_rfl) rfl rfl ?_
          intro K hK
          go_wp2_with fail
          have cf:=lS a _ s.1 SA (H.out.1.pure (H.out.2.2.2.2.1.trans (K7.out.1.trans sV)))
          rw[Oz.out]at cf
          (with_reducible refine cf.mono ?_)
          clear cf
          rintro e VT ⟨rfl,kf⟩
          have WC:Kept none' w7 VT:=sV.trans kf
          go_wp2_with fail
          refine hK _ _ WC ?_
          clear hK
          refine aH (k:=6) (by kernel_rfl) rfl rfl (fun W hW=>by go_simp;rfl) ?_
          go_frame
          refine aH (k:=7) (by kernel_rfl) rfl rfl (fun W hW=>by have c0':=hW.cell (p:=⟨ab,dF+ia*7,none⟩) (fun h=>h) c0;have c1':=hW.cell (p:=⟨ab,dF+ia*7+1,none⟩) (fun h=>h) c1;have c2':=hW.cell (p:=⟨ab,dF+ia*7+2,none⟩) (fun h=>h) c2;have c3':=hW.cell (p:=⟨ab,dF+ia*7+3,none⟩) (fun h=>h) c3;have DZ:=hW.cell (p:=⟨ab,dF+ia*7+4,none⟩) (fun h=>h) c4;have AX:=hW.cell (p:=⟨ab,dF+ia*7+5,none⟩) (fun h=>h) c5;have Q7:=hW.cell (p:=⟨ab,dF+ia*7+6,none⟩) (fun h=>h) c6;go_simp;rfl) ?_
          go_frame
          have h42:=kf.heap h42 (fun h=>h)
          have h46:=kf.heap h46 (fun h=>h)
          clear kf
          have hpq:p≠q:=by
           omega
          obtain⟨WE,jB⟩: ∃WE,VT=WE:=⟨_,rfl⟩
          rw[jB]
          have kE:Kept none' w7 WE:=by rw[<-jB];exact WC
          have gp:WE.heap[p]?=some (.cells #[.string ⟨#[]⟩, .int .u8 0, .slice none 0 0, .int .u8 0, .int .i64 0, .slice none 0 0, .int .i64 0] 42 (0,0)):=by rw[<-jB];exact h46
          have gq:WE.heap[q]?=some (.cells #[.string ⟨#[]⟩, .int .u8 0, .slice none 0 0, .int .u8 0, .int .i64 0, .slice none 0 0, .int .i64 0] 42 (0,0)):=by rw[<-jB];exact h42
        all_goals
         clear p0 p1 r0 r1 c0 c1 c2 c3 c4 c5 c6 d0 d1 d2 d3 d4 d5 d6
         have sx:(((((((WE.setCell ⟨p,0,none⟩ (.string da.uid)).setCell ⟨p,1,none⟩ (.int .u8 da.kind)).setCell ⟨p,2,none⟩ (.slice api da.ins.length JA)).setCell ⟨p,3,none⟩ (.int .u8 da.x.op)).setCell ⟨p,4,none⟩ (.int .i64 da.x.n)).setCell ⟨p,5,none⟩ (.slice ap da.x.args.length BZ)).setCell ⟨p,6,none⟩ (.int .i64 da.n)).heap[p]?=some (.cells #[.string da.uid, .int .u8 da.kind, .slice api da.ins.length JA, .int .u8 da.x.op, .int .i64 da.x.n, .slice ap da.x.args.length BZ, .int .i64 da.n] 42 (0,0)):=SY gp
         have kx:Kept none' w7 (((((((WE.setCell ⟨p,0,none⟩ (.string da.uid)).setCell ⟨p,1,none⟩ (.int .u8 da.kind)).setCell ⟨p,2,none⟩ (.slice api da.ins.length JA)).setCell ⟨p,3,none⟩ (.int .u8 da.x.op)).setCell ⟨p,4,none⟩ (.int .i64 da.x.n)).setCell ⟨p,5,none⟩ (.slice ap da.x.args.length BZ)).setCell ⟨p,6,none⟩ (.int .i64 da.n)):=Ep kE (.inr Gf)
         have ko:Kept (one p) WE (((((((WE.setCell ⟨p,0,none⟩ (.string da.uid)).setCell ⟨p,1,none⟩ (.int .u8 da.kind)).setCell ⟨p,2,none⟩ (.slice api da.ins.length JA)).setCell ⟨p,3,none⟩ (.int .u8 da.x.op)).setCell ⟨p,4,none⟩ (.int .i64 da.x.n)).setCell ⟨p,5,none⟩ (.slice ap da.x.args.length BZ)).setCell ⟨p,6,none⟩ (.int .i64 da.n)):=Ep (Kept.refl (one p) _) (.inl rfl)
         obtain⟨WP,UK⟩: ∃x,(((((((WE.setCell ⟨p,0,none⟩ (.string da.uid)).setCell ⟨p,1,none⟩ (.int .u8 da.kind)).setCell ⟨p,2,none⟩ (.slice api da.ins.length JA)).setCell ⟨p,3,none⟩ (.int .u8 da.x.op)).setCell ⟨p,4,none⟩ (.int .i64 da.x.n)).setCell ⟨p,5,none⟩ (.slice ap da.x.args.length BZ)).setCell ⟨p,6,none⟩ (.int .i64 da.n))=x:=⟨_,rfl⟩
         rw[UK]at sx kx ko
         have f0:=cells_at gp (j:=0) (v:= .string ⟨#[]⟩) rfl
         have f1:=cells_at gp (j:=1) (v:= .int .u8 0) rfl
         have f2:=cells_at gp (j:=2) (v:= .slice none 0 0) rfl
         have f3:=cells_at gp (j:=3) (v:= .int .u8 0) rfl
         have f4:=cells_at gp (j:=4) (v:= .int .i64 0) rfl
         have f5:=cells_at gp (j:=5) (v:= .slice none 0 0) rfl
         have f6:=cells_at gp (j:=6) (v:= .int .i64 0) rfl
         have g0:=free_at gp 0
         have g1:=free_at gp 1
         have g2:=free_at gp 2
         have g3:=free_at gp 3
         have g4:=free_at gp 4
         have g5:=free_at gp 5
         have g6:=free_at gp 6
         refine dJ (k:=15) (by kernel_rfl) (by kernel_rfl) rfl rfl ?_
         intro K hK
         have HW:=Lib.hid UK
         clear UK
         go_wp2_with fail
         rw[HW.out]
         refine hK _ _ kx ?_
         clear hK HW f0 f1 f2 f3 f4 f5 f6 g0 g1 g2 g3 g4 g5 g6
         have Xe:=sx
         have qK:=ko.heap gq (fun e=>hpq e.symm)
         have kP:=kx
         clear sx kx ko gp gq kE
         have sx:(((((((WP.setCell ⟨q,0,none⟩ (.string db.uid)).setCell ⟨q,1,none⟩ (.int .u8 db.kind)).setCell ⟨q,2,none⟩ (.slice Jw db.ins.length Jz)).setCell ⟨q,3,none⟩ (.int .u8 db.x.op)).setCell ⟨q,4,none⟩ (.int .i64 db.x.n)).setCell ⟨q,5,none⟩ (.slice bp db.x.args.length BU)).setCell ⟨q,6,none⟩ (.int .i64 db.n)).heap[q]?=some (.cells #[.string db.uid, .int .u8 db.kind, .slice Jw db.ins.length Jz, .int .u8 db.x.op, .int .i64 db.x.n, .slice bp db.x.args.length BU, .int .i64 db.n] 42 (0,0)):=SY qK
         have kx:Kept none' w7 (((((((WP.setCell ⟨q,0,none⟩ (.string db.uid)).setCell ⟨q,1,none⟩ (.int .u8 db.kind)).setCell ⟨q,2,none⟩ (.slice Jw db.ins.length Jz)).setCell ⟨q,3,none⟩ (.int .u8 db.x.op)).setCell ⟨q,4,none⟩ (.int .i64 db.x.n)).setCell ⟨q,5,none⟩ (.slice bp db.x.args.length BU)).setCell ⟨q,6,none⟩ (.int .i64 db.n)):=Ep kP (.inr hgeq)
         have ko:Kept (one q) WP (((((((WP.setCell ⟨q,0,none⟩ (.string db.uid)).setCell ⟨q,1,none⟩ (.int .u8 db.kind)).setCell ⟨q,2,none⟩ (.slice Jw db.ins.length Jz)).setCell ⟨q,3,none⟩ (.int .u8 db.x.op)).setCell ⟨q,4,none⟩ (.int .i64 db.x.n)).setCell ⟨q,5,none⟩ (.slice bp db.x.args.length BU)).setCell ⟨q,6,none⟩ (.int .i64 db.n)):=Ep (Kept.refl (one q) _) (.inl rfl)
         obtain⟨WQ,UJ⟩: ∃x,(((((((WP.setCell ⟨q,0,none⟩ (.string db.uid)).setCell ⟨q,1,none⟩ (.int .u8 db.kind)).setCell ⟨q,2,none⟩ (.slice Jw db.ins.length Jz)).setCell ⟨q,3,none⟩ (.int .u8 db.x.op)).setCell ⟨q,4,none⟩ (.int .i64 db.x.n)).setCell ⟨q,5,none⟩ (.slice bp db.x.args.length BU)).setCell ⟨q,6,none⟩ (.int .i64 db.n))=x:=⟨_,rfl⟩
         rw[UJ]at sx kx ko
         have f0:=cells_at qK (j:=0) (v:= .string ⟨#[]⟩) rfl
         have f1:=cells_at qK (j:=1) (v:= .int .u8 0) rfl
         have f2:=cells_at qK (j:=2) (v:= .slice none 0 0) rfl
         have f3:=cells_at qK (j:=3) (v:= .int .u8 0) rfl
         have f4:=cells_at qK (j:=4) (v:= .int .i64 0) rfl
         have f5:=cells_at qK (j:=5) (v:= .slice none 0 0) rfl
         have f6:=cells_at qK (j:=6) (v:= .int .i64 0) rfl
         have g0:=free_at qK 0
         have g1:=free_at qK 1
         have g2:=free_at qK 2
         have g3:=free_at qK 3
         have g4:=free_at qK 4
         have g5:=free_at qK 5
         have g6:=free_at qK 6
         refine dJ (k:=16) (by kernel_rfl) (by kernel_rfl) rfl rfl ?_
         intro K hK
         have HW:=Lib.hid UJ
         clear UJ
         go_wp2_with fail
         rw[HW.out]
         refine hK _ _ kx ?_
         clear hK HW f0 f1 f2 f3 f4 f5 f6 g0 g1 g2 g3 g4 g5 g6
         have QY:=sx
         have QZ:=ko.heap Xe hpq
         have kQ:=kx
         have hpl:=(Array.getElem?_eq_some_iff.1 QZ).1
         have hql:=(Array.getElem?_eq_some_iff.1 QY).1
         clear sx kx ko Xe qK kP
         refine ru (by kernel_rfl) kQ ?_
         have sB:=kQ.heap K7.out.2.2 (fun h=>h)
         have z0:=cells_at sB (j:=0) (v:= .string s.1) rfl
         have u1:=cells_at QZ (j:=1) (v:= .int .u8 da.kind) rfl
         have u4:=cells_at QZ (j:=6) (v:= .int .i64 da.n) rfl
         have v1:=cells_at QY (j:=1) (v:= .int .u8 db.kind) rfl
         have v4:=cells_at QY (j:=6) (v:= .int .i64 db.n) rfl
         have Q:=Lib.hid (And.intro kQ (And.intro (K7.out.2.1.pure kQ) sB))
         clear kQ sB QZ QY
         go_wp2_with fail
         by_cases hk:da.kind=db.kind
         ·by_cases h7:db.kind=7
          ·have cL:=Ij _ tb tm T (WQ.drew) (Q.out.2.1.pure (Kept.refl none' WQ).drew)
           have BB:=Lib.hid (show jJ a.nodes b.nodes s=decide (db.n<=(jK T:Int)) by rw[BAD.out];simp[hk,h7])
           obtain⟨N,hN⟩: ∃N,jK T=N:=⟨_,rfl⟩
           rw[hN]at cL BB
           clear hN
           refine ak [0,1,2,3,4,5,6,7,8,9,10,11,12,13,14,15,16] (fun W=>Kept none' WQ W) (by kernel_rfl) (by kernel_rfl) rfl (Kept.refl _ _).drew ?_
           simp only[List.map_cons,List.map_nil,List.getElem?_toArray,List.getElem?_cons_zero,List.getElem?_cons_succ,Option.getD_some]
           iterate 4 (apply aj rfl rfl;(intro W hW;have a1:=hW.cell (p:=⟨p,1,none⟩) (fun h=>h) u1;have b1:=hW.cell (p:=⟨q,1,none⟩) (fun h=>h) v1;have b4:=hW.cell (p:=⟨q,6,none⟩) (fun h=>h) v4;go_simp;rfl);go_frame)
           refine aj (v:= .bool false) rfl rfl (by intro W hW;have a1:=hW.cell (p:=⟨p,1,none⟩) (fun h=>h) u1;have b1:=hW.cell (p:=⟨q,1,none⟩) (fun h=>h) v1;have b4:=hW.cell (p:=⟨q,6,none⟩) (fun h=>h) v4;go_simp;try(simp;try omega)) ?_
           go_frame
           iterate 1 (apply aj rfl rfl;(intro W hW;have a1:=hW.cell (p:=⟨p,1,none⟩) (fun h=>h) u1;have b1:=hW.cell (p:=⟨q,1,none⟩) (fun h=>h) v1;have b4:=hW.cell (p:=⟨q,6,none⟩) (fun h=>h) v4;go_simp;rfl);go_frame)
           iterate 2 (apply aj rfl rfl;(intro W hW;have a1:=hW.cell (p:=⟨p,1,none⟩) (fun h=>h) u1;have b1:=hW.cell (p:=⟨q,1,none⟩) (fun h=>h) v1;have b4:=hW.cell (p:=⟨q,6,none⟩) (fun h=>h) v4;go_simp;rfl);go_frame)
           refine aj (v:= .bool true) rfl rfl (by intro W hW;have a1:=hW.cell (p:=⟨p,1,none⟩) (fun h=>h) u1;have b1:=hW.cell (p:=⟨q,1,none⟩) (fun h=>h) v1;have b4:=hW.cell (p:=⟨q,6,none⟩) (fun h=>h) v4;go_simp;try(simp;try omega)) ?_
           go_frame
           iterate 1 (apply aj rfl rfl;(intro W hW;have a1:=hW.cell (p:=⟨p,1,none⟩) (fun h=>h) u1;have b1:=hW.cell (p:=⟨q,1,none⟩) (fun h=>h) v1;have b4:=hW.cell (p:=⟨q,6,none⟩) (fun h=>h) v4;go_simp;rfl);go_frame)
           iterate 3 (apply aj rfl rfl;(intro W hW;have a1:=hW.cell (p:=⟨p,1,none⟩) (fun h=>h) u1;have b1:=hW.cell (p:=⟨q,1,none⟩) (fun h=>h) v1;have b4:=hW.cell (p:=⟨q,6,none⟩) (fun h=>h) v4;go_simp;rfl);go_frame)
           apply aB rfl rfl
           intro K hK
           go_wp2_with fail
           (with_reducible refine cL.mono ?_)
           clear cL
           rintro e wx ⟨rfl,kx⟩
           go_wp2_with fail
           have Ji:Kept none' WQ wx:=(Kept.refl none' WQ).drew.trans kx
           refine hK _ _ (fun _=>Ji) ?_
           clear hK kx
           have z0:=Ji.cell (p:=⟨wr.heap.size,0,none⟩) (fun h=>h) z0
           have hzl:wr.heap.size<wx.heap.size:=by have:=block_lt_of_cell z0;simpa using this
           by_cases hN:db.n<=(N:Int)
           ·have HBAD:=Lib.hid (show jJ a.nodes b.nodes s=true by rw[BB.out];exact decide_eq_true hN)
            refine aj (v:= .bool true) rfl rfl (by intro W hW;have a1:=hW.cell (p:=⟨p,1,none⟩) (fun h=>h) u1;have b1:=hW.cell (p:=⟨q,1,none⟩) (fun h=>h) v1;have b4:=hW.cell (p:=⟨q,6,none⟩) (fun h=>h) v4;go_simp;try(simp;try omega)) ?_
            go_frame
            iterate 2 (apply aj rfl rfl;(intro W hW;have a1:=hW.cell (p:=⟨p,1,none⟩) (fun h=>h) u1;have b1:=hW.cell (p:=⟨q,1,none⟩) (fun h=>h) v1;have b4:=hW.cell (p:=⟨q,6,none⟩) (fun h=>h) v4;go_simp;rfl);go_frame)
            refine aG (fun _=>Ji) ?_
            have F:=Lib.hid (show jc w (aN a b l) (.returned (.tuple #[.string s.1, .int .i64 241])) wx from
             ⟨by rw[show aN a b l=eY a.nodes b.nodes l by unfold aN;rw[HL.out];simp only[lW.out,if_true],G.out.2.1,G.out.2.2.2.2.2.1,if_neg HT0.out,if_neg (show ¬aA b.nodes s.1<0 from by have:=Ri.out;omega),if_pos HBAD.out],H.out.2.2.2.2.1.trans (K7.out.1.trans (Q.out.1.trans Ji))⟩)
            clear u1 u4 v1 v4
            go_wp2_with fail
            try rw[Exit.noGoto_ret]
            go_ret2
            exact F.out
           ·have HBAD:=Lib.hid (show jJ a.nodes b.nodes s=false by rw[BB.out];exact decide_eq_false hN)
            refine aj (v:= .bool false) rfl rfl (by intro W hW;have a1:=hW.cell (p:=⟨p,1,none⟩) (fun h=>h) u1;have b1:=hW.cell (p:=⟨q,1,none⟩) (fun h=>h) v1;have b4:=hW.cell (p:=⟨q,6,none⟩) (fun h=>h) v4;go_simp;try(simp;try omega)) ?_
            go_frame
            iterate 2 (apply aj rfl rfl;(intro W hW;have a1:=hW.cell (p:=⟨p,1,none⟩) (fun h=>h) u1;have b1:=hW.cell (p:=⟨q,1,none⟩) (fun h=>h) v1;have b4:=hW.cell (p:=⟨q,6,none⟩) (fun h=>h) v4;go_simp;rfl);go_frame)
            refine aG (fun _=>Ji) ?_
            have F:=Lib.hid (K7.out.1.trans (Q.out.1.trans Ji))
            clear u1 u4 v1 v4 z0
            go_wp2_with fail
            go_roundg (l.length-(k+1))
            case rel=>exact⟨k+1,by omega,by go_num,Nat.le_refl _,by rw[G.out.2.1,G.out.2.2.2.2.2.1,if_neg HT0.out,if_neg (show ¬aA b.nodes s.1<0 from by have:=Ri.out;omega),if_neg (by rw[HBAD.out];decide)],F.out⟩
            case measure=>have:=G.out.1;omega
          ·have HBAD:=Lib.hid (show jJ a.nodes b.nodes s=false by rw[BAD.out];simp[hk,h7])
           refine ak [0,1,2,3,4,5,6,7,8,9,10,11,12,13,14,15,16] (fun W=>Kept none' WQ W) (by kernel_rfl) (by kernel_rfl) rfl (Kept.refl _ _).drew ?_
           simp only[List.map_cons,List.map_nil,List.getElem?_toArray,List.getElem?_cons_zero,List.getElem?_cons_succ,Option.getD_some]
           iterate 4 (apply aj rfl rfl;(intro W hW;have a1:=hW.cell (p:=⟨p,1,none⟩) (fun h=>h) u1;have b1:=hW.cell (p:=⟨q,1,none⟩) (fun h=>h) v1;have b4:=hW.cell (p:=⟨q,6,none⟩) (fun h=>h) v4;go_simp;rfl);go_frame)
           refine aj (v:= .bool false) rfl rfl (by intro W hW;have a1:=hW.cell (p:=⟨p,1,none⟩) (fun h=>h) u1;have b1:=hW.cell (p:=⟨q,1,none⟩) (fun h=>h) v1;have b4:=hW.cell (p:=⟨q,6,none⟩) (fun h=>h) v4;go_simp;try(simp;try omega)) ?_
           go_frame
           iterate 1 (apply aj rfl rfl;(intro W hW;have a1:=hW.cell (p:=⟨p,1,none⟩) (fun h=>h) u1;have b1:=hW.cell (p:=⟨q,1,none⟩) (fun h=>h) v1;have b4:=hW.cell (p:=⟨q,6,none⟩) (fun h=>h) v4;go_simp;rfl);go_frame)
           iterate 2 (apply aj rfl rfl;(intro W hW;have a1:=hW.cell (p:=⟨p,1,none⟩) (fun h=>h) u1;have b1:=hW.cell (p:=⟨q,1,none⟩) (fun h=>h) v1;have b4:=hW.cell (p:=⟨q,6,none⟩) (fun h=>h) v4;go_simp;rfl);go_frame)
           refine aj (v:= .bool false) rfl rfl (by intro W hW;have a1:=hW.cell (p:=⟨p,1,none⟩) (fun h=>h) u1;have b1:=hW.cell (p:=⟨q,1,none⟩) (fun h=>h) v1;have b4:=hW.cell (p:=⟨q,6,none⟩) (fun h=>h) v4;go_simp;try(simp;try omega)) ?_
           go_frame
           iterate 1 (apply aj rfl rfl;(intro W hW;have a1:=hW.cell (p:=⟨p,1,none⟩) (fun h=>h) u1;have b1:=hW.cell (p:=⟨q,1,none⟩) (fun h=>h) v1;have b4:=hW.cell (p:=⟨q,6,none⟩) (fun h=>h) v4;go_simp;rfl);go_frame)
           iterate 5 (apply aV rfl;go_frame)
           iterate 2 (apply aj rfl rfl;(intro W hW;have a1:=hW.cell (p:=⟨p,1,none⟩) (fun h=>h) u1;have b1:=hW.cell (p:=⟨q,1,none⟩) (fun h=>h) v1;have b4:=hW.cell (p:=⟨q,6,none⟩) (fun h=>h) v4;go_simp;rfl);go_frame)
           refine aG (fun _=>(Kept.refl _ _).drew) ?_
           have F:=Lib.hid (K7.out.1.trans (Q.out.1.trans (Kept.refl _ _).drew))
           clear u1 u4 v1 v4 z0
           go_wp2_with fail
           go_roundg (l.length-(k+1))
           case rel=>exact⟨k+1,by omega,by go_num,Nat.le_refl _,by rw[G.out.2.1,G.out.2.2.2.2.2.1,if_neg HT0.out,if_neg (show ¬aA b.nodes s.1<0 from by have:=Ri.out;omega),if_neg (by rw[HBAD.out];decide)],F.out⟩
           case measure=>have:=G.out.1;omega
         ·have HBAD:=Lib.hid (show jJ a.nodes b.nodes s=true by rw[BAD.out];simp[hk])
          refine ak [0,1,2,3,4,5,6,7,8,9,10,11,12,13,14,15,16] (fun W=>Kept none' WQ W) (by kernel_rfl) (by kernel_rfl) rfl (Kept.refl _ _).drew ?_
          simp only[List.map_cons,List.map_nil,List.getElem?_toArray,List.getElem?_cons_zero,List.getElem?_cons_succ,Option.getD_some]
          iterate 4 (apply aj rfl rfl;(intro W hW;have a1:=hW.cell (p:=⟨p,1,none⟩) (fun h=>h) u1;have b1:=hW.cell (p:=⟨q,1,none⟩) (fun h=>h) v1;have b4:=hW.cell (p:=⟨q,6,none⟩) (fun h=>h) v4;go_simp;rfl);go_frame)
          refine aj (v:= .bool true) rfl rfl (by intro W hW;have a1:=hW.cell (p:=⟨p,1,none⟩) (fun h=>h) u1;have b1:=hW.cell (p:=⟨q,1,none⟩) (fun h=>h) v1;have b4:=hW.cell (p:=⟨q,6,none⟩) (fun h=>h) v4;go_simp;try(simp;try omega)) ?_
          go_frame
          iterate 1 (apply aj rfl rfl;(intro W hW;have a1:=hW.cell (p:=⟨p,1,none⟩) (fun h=>h) u1;have b1:=hW.cell (p:=⟨q,1,none⟩) (fun h=>h) v1;have b4:=hW.cell (p:=⟨q,6,none⟩) (fun h=>h) v4;go_simp;rfl);go_frame)
          iterate 10 (apply aV rfl;go_frame)
          iterate 1 (apply aj rfl rfl;(intro W hW;have a1:=hW.cell (p:=⟨p,1,none⟩) (fun h=>h) u1;have b1:=hW.cell (p:=⟨q,1,none⟩) (fun h=>h) v1;have b4:=hW.cell (p:=⟨q,6,none⟩) (fun h=>h) v4;go_simp;rfl);go_frame)
          refine aG (fun _=>(Kept.refl _ _).drew) ?_
          have F:=Lib.hid (show jc w (aN a b l) (.returned (.tuple #[.string s.1, .int .i64 241])) WQ.drew from
           ⟨by rw[show aN a b l=eY a.nodes b.nodes l by unfold aN;rw[HL.out];simp only[lW.out,if_true],G.out.2.1,G.out.2.2.2.2.2.1,if_neg HT0.out,if_neg (show ¬aA b.nodes s.1<0 from by have:=Ri.out;omega),if_pos HBAD.out],H.out.2.2.2.2.1.trans (K7.out.1.trans (Q.out.1.trans (Kept.refl _ _).drew))⟩)
          clear u1 u4 v1 v4
          go_wp2_with fail
          try rw[Exit.noGoto_ret]
          go_ret2
          exact F.out
    ·have e1:k=l.length:=by omega
     subst e1
     rw[List.drop_of_length_le (Nat.le_refl _)]at hck
     have F:=Lib.hid (show jc w (aN a b l) (.returned (.tuple #[.string emptyS, .int .i64 0])) wr from
      ⟨by rw[show aN a b l=eY a.nodes b.nodes l by unfold aN;rw[HL.out];simp only[lW.out,if_true],hck];rfl,H.out.2.2.2.2.1.trans hkp⟩)
     clear hck hkp hg
     go_wp2_with fail
     try rw[Exit.noGoto_ret]
     go_ret2
     exact F.out
  ·have F:=Lib.hid (show jc w (aN a b l) (.returned (.tuple #[.string emptyS, .int .i64 2])) w3 from⟨by
    unfold aN
    rw[HL.out]
    simp only
    rw[if_neg (by rw[HM.out,decide_eq_false hz];decide)],H.out.2.2.2.2.1.trans (K2.out.trans k3)⟩)
   clear k3
   go_wp2_with fail
   try rw[Exit.noGoto_ret]
   go_ret2
   exact F.out
end Go.Proofs.YtglbkodmmogomaaGreatDoor
