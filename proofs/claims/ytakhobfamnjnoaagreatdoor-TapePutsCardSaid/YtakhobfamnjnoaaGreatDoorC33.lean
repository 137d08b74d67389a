/- The document's jobs: whether one may be. -/
import Derived.Test.YtakhobfamnjnoaaGreatDoorC32
set_option linter.unusedVariables false
set_option linter.unusedSimpArgs false
set_option maxHeartbeats 8000000
set_option maxRecDepth 100000
namespace Go.Proofs.YtakhobfamnjnoaaGreatDoor
open Go Go.RowKit
attribute [local irreducible] kC
def jY (l:List JN)(k:Nat):Nat:=((l.take k).map fun d=>jL d.x 1001).sum
theorem Dh {l:List JN}{k:Nat}{d:JN}(h:l[k]?=some d):jY l (k+1)=jY l k+jL d.x 1001:=by
 unfold jY;rw[List.take_add_one,h];simp
theorem F5 (l:List JN): ∀k,jY l k<=1001*k
 |0=>by simp[jY]
 |k+1=>by
  have ih:=F5 l k
  cases h:l[k]? with
  |none=>unfold jY at ih⊢;rw[List.take_add_one,h];simp at ih⊢;omega
  |some d=>rw[Dh h];have:=(DU d.x 1001 (by omega)).2;omega
theorem OC (j:Jb):iH j=(decide (j.par<1)||decide (4<j.par)||decide (j.nodes.length<2)||decide (12<j.nodes.length)||decide (1000<jY j.nodes j.nodes.length)):=by
 have h:(1000<1001-iq (j.nodes.map (·.x)) 1001)↔1000<jY j.nodes j.nodes.length:=by
  rw[TN]
  unfold jY
  rw[List.take_length,List.map_map];rfl
 unfold iH
 rw[decide_eq_decide.2 h]
theorem V5 {nodes:List JN}{k m:Nat}{d e:JN}(he:nodes[m]?=some e)(hm:m<k)(h:e.uid=d.uid):jK nodes k d=true:=by
 unfold jK
 refine decide_eq_true (List.mem_map.2 ⟨e,?_,h⟩)
 exact List.mem_of_getElem? (i:=m) (by rw[List.getElem?_take,if_pos hm];exact he)
theorem Yd {nodes:List JN}{k:Nat}{d:JN}(h: ∀m e,m<k->nodes[m]?=some e->e.uid≠d.uid):jK nodes k d=false:=by
 unfold jK
 refine decide_eq_false fun hm=>?_
 obtain⟨e,he,hu⟩:=List.mem_map.1 hm
 obtain⟨m,hm⟩:=List.getElem?_of_mem he
 rw[List.getElem?_take]at hm
 split at hm
 ·rename_i hmk
  exact h m e hmk hm hu
 ·cases hm
theorem aa2 (j:Jb)(a:Array Value)(w:World)(h:CY w a j)(hN:j.nodes.length<=1000)(hU: ∀d∈j.nodes,d.uid.size<=70000):Calls Tryz.prog 29 #[.agg a] w (qQ w (dB j)):=by
 have hJ:=h
 obtain⟨v,rfl,hn,hp⟩:=h
 obtain⟨na,cap,rfl,h1,h2,h3⟩:=hn.at
 unfold maxLen at h2
 have H3:=Lib.hid (And.intro h3 hJ)
 have HU:=Lib.hid hU
 clear h3 hn hJ hU
 obtain⟨hp1,hp2⟩:=hp
 have HD:=Lib.hid (OC j)
 have hHead: ∀(w':World),iH j=true->Kept none' w w'->qQ w (dB j) (.returned (.tuple #[.int .i64 0, .int .i64 2])) w':=fun w' hb hk=>⟨by rw[D5 hb],hk⟩
 have HH:=Lib.hid hHead
 clear hHead
 go_enter Tryz.func29,Tryz.ntmps29
 go_wp2_with fail
 obtain⟨W0,hW0⟩: ∃W0,(w.alloc (.cells #[.int .i64 j.par, .slice na j.nodes.length cap] 24))=W0:=⟨_,rfl⟩
 have k0:Kept none' w W0:=by rw[<-hW0];exact(Kept.refl _ _).alloc _
 have d0:W0.cell? ⟨w.heap.size,0,none⟩=some (.int .i64 j.par):=by rw[<-hW0];simp
 have d1:W0.cell? ⟨w.heap.size,1,none⟩=some (.slice na j.nodes.length cap):=by rw[<-hW0];simp
 rw[hW0]
 have K0:=Lib.hid k0
 clear hW0 k0
 have DD:=Lib.hid (And.intro d0 d1)
 clear d0 d1
 obtain⟨N,hNe⟩: ∃N,j.nodes.length=N:=⟨_,rfl⟩
 have HN:=Lib.hid hNe
 rw[hNe]at hN h1
 rw[hNe]
 clear hNe
 go_loopg [5,6] N (fun g vs vi wr=> ∃(k:Nat),k<=N/\vi= .int .i64 (k:Int)/\vs= .int .i64 (jY j.nodes k:Int)/\N-k<=g/\Kept none' W0 wr)
 case atStart=>exact⟨0,by omega,rfl,rfl,by omega,Kept.refl _ _⟩
 case round=>
  obtain⟨k,hkl,rfl,rfl,hg,hkp⟩:=hrel
  have e1:wr.cell? ⟨w.heap.size,1,none⟩=some (.slice na N cap):=by rw[<-HN.out];exact hkp.cell (fun h=>h) DD.out.2
  have e0:=hkp.cell (p:=⟨w.heap.size,0,none⟩) (fun h=>h) DD.out.1
  have hps:=F5 j.nodes k
  have KR:=Lib.hid (And.intro (K0.out.trans hkp) hkp)
  clear hkp
  by_cases hlt:k<N
  ·obtain⟨d,hd⟩: ∃d,j.nodes[k]?=some d:=⟨_,List.getElem?_eq_getElem (by rw[HN.out];exact hlt)⟩
   obtain⟨b,off,pi,ci,p,cap',rfl,hc,hj⟩:=H3.out.1 k d hd
   obtain⟨c0,c1,c2,c3,c4,c5,c6⟩:=hc.kept KR.out.1 (fun h=>h)
   have hS:=Dh hd
   have hle:=DU d.x 1001 (by omega)
   have hxa:bg w #[.int .u8 d.x.op, .int .i64 d.x.n, .slice p d.x.args.length cap'] d.x:=by
    obtain⟨_,_,_,_,e,hx,_⟩:=hj
    injection e with e
    simp only[List.cons.injEq,and_true,true_and]at e
    obtain⟨_,e1,e2,e3⟩:=e
    first|exact hx|(rw[e1];exact hx)|simp_all
   have G:=Lib.hid (And.intro hg (And.intro (bg.pure KR.out.1 hxa) hS))
   obtain⟨S,vT⟩: ∃S,jY j.nodes k=S:=⟨_,rfl⟩
   obtain⟨P,hPe⟩: ∃P,jL d.x 1001=P:=⟨_,rfl⟩
   rw[vT]at hps G
   rw[hPe]at hle G
   rw[vT]
   have HP:=Lib.hid hPe
   clear hg hxa hj hc hd hS vT hPe c0 c1 c2 c6
   go_wp2_with fail
   have c:=IY _ d.x _ 1001 wr (Nat.le_refl _) (by omega) (by omega) G.out.2.1
   rw[HP.out,show((1001:Nat):Int)=1001 from rfl]at c
   (with_reducible refine c.mono ?_)
   clear c
   rintro e w2 ⟨rfl,k2⟩
   have K2:=Lib.hid (KR.out.2.trans k2)
   clear k2
   go_wp2_with fail
   go_roundg (N-(k+1))
   case rel=>exact⟨k+1,by omega,by go_num,by rw[G.out.2.2];go_num,Nat.le_refl _,K2.out⟩
   case measure=>have:=G.out.1;omega
  ·obtain rfl:k=N:=by omega
   obtain⟨S,vT⟩: ∃S,jY j.nodes k=S:=⟨_,rfl⟩
   rw[vT]at hps
   rw[vT]
   have HB:=Lib.hid (show iH j=(decide (j.par<1)||decide (4<j.par)||decide (k<2)||decide (12<k)||decide (1000<S)) by rw[HD.out,HN.out,vT])
   clear vT hg
   by_cases c1:j.par<1
   ·have F:=Lib.hid (HH.out wr (by rw[HB.out,decide_eq_true c1];rfl) KR.out.1)
    go_wp2_with fail
    go_ret2
    exact F.out
   by_cases c2:4<j.par
   ·have F:=Lib.hid (HH.out wr (by rw[HB.out,decide_eq_true c2];simp) KR.out.1)
    go_wp2_with fail
    go_ret2
    exact F.out
   by_cases c3:k<2
   ·have F:=Lib.hid (HH.out wr (by rw[HB.out,decide_eq_true c3];simp) KR.out.1)
    have c3':(k:Int)<2:=by omega
    go_wp2_with fail
    go_ret2
    exact F.out
   by_cases c4:12<k
   ·have F:=Lib.hid (HH.out wr (by rw[HB.out,decide_eq_true c4];simp) KR.out.1)
    have c4':(12:Int)<(k:Int):=by omega
    go_wp2_with fail
    go_ret2
    exact F.out
   by_cases c5:1000<S
   ·have F:=Lib.hid (HH.out wr (by rw[HB.out,decide_eq_true c5];simp) KR.out.1)
    have c5':(1000:Int)<(S:Int):=by omega
    go_wp2_with fail
    go_ret2
    exact F.out
   have HO:=Lib.hid (show iH j=false by rw[HB.out,decide_eq_false c1,decide_eq_false c2,decide_eq_false c3,decide_eq_false c4,decide_eq_false c5];rfl)
   have c3': ¬(k:Int)<2:=by omega
   have c4': ¬(12:Int)<(k:Int):=by omega
   have c5': ¬(1000:Int)<(S:Int):=by omega
   go_wp2_with fail
   clear e0 e1 c5' hps c5 c1 c2 HB HH HD
   generalize wr=WA at*
   have hk12:k<=12:=by omega
   obtain⟨N,hNk⟩: ∃N,k=N:=⟨_,rfl⟩
   subst hNk
   go_loopg [7] k (fun g vi wr=> ∃(i:Nat),i<=k/\vi= .int .i64 (i:Int)/\k-i<=g/\Kept none' W0 wr/\ ∀m,m<i->kY j.nodes m=0)
   case atStart=>exact⟨0,by omega,rfl,by omega,KR.out.2,fun m hm=>by omega⟩
   case round=>
    obtain⟨i,hil,rfl,hg,hkp,hbad⟩:=hrel
    have e1:wr.cell? ⟨w.heap.size,1,none⟩=some (.slice na k cap):=by rw[<-HN.out];exact hkp.cell (fun h=>h) DD.out.2
    have KS:=Lib.hid (And.intro (K0.out.trans hkp) hkp)
    clear hkp
    by_cases hlt2:i<k
    ·obtain⟨d,hd⟩: ∃d,j.nodes[i]?=some d:=⟨_,List.getElem?_eq_getElem (by rw[HN.out];exact hlt2)⟩
     obtain⟨b,off,pi,ci,p,cap',hna,hc,hj⟩:=H3.out.1 i d hd
     subst hna
     obtain⟨c0,c1,c2,c3,c4,c5,c6⟩:=hc.kept KS.out.1 (fun h=>h)
     have G:=Lib.hid (And.intro hg (And.intro hbad (And.intro hd (And.intro (hj.pure KS.out.1) (HU.out d (List.mem_of_getElem? hd))))))
     have C0:=Lib.hid hc.c0
     clear hg hbad hd hj hc
     go_wp2_with fail
     have c:=YK d _ i wr G.out.2.2.2.1 G.out.2.2.2.2
     (with_reducible refine c.mono ?_)
     clear c
     rintro e w2 ⟨rfl,k2⟩
     have K2:=Lib.hid (And.intro (KS.out.1.trans k2) (KS.out.2.trans k2))
     clear k2
     cases hm:bD i d with
     |false=>
      have F:=Lib.hid (fun w' hk=>show qQ w (dB j) (.returned (.tuple #[.int .i64 (i:Int), .int .i64 120])) w' from⟨by rw[BO HO.out (by rw[HN.out];exact hlt2) G.out.2.1 (SL G.out.2.2.1 hm) (by decide)],hk⟩)
      clear hm
      go_wp2_with fail
      go_ret2
      exact F.out _ K2.out.1
     |true=>
      have HM:=Lib.hid hm
      clear hm
      go_wp2_with fail
      clear e1 c0 c1 c2 c3 c4 c5 c6
      go_loopg [8] i (fun g vi wr=> ∃(m:Nat),m<=i/\vi= .int .i64 (m:Int)/\i-m<=g/\Kept none' W0 wr/\ ∀q e,q<m->j.nodes[q]?=some e->e.uid≠d.uid)
      case atStart=>exact⟨0,by omega,rfl,by omega,K2.out.2,fun q e hq=>by omega⟩
      case round=>
       obtain⟨m,hml,rfl,hgm,hkp,hne⟩:=hrel
       have e1:wr.cell? ⟨w.heap.size,1,none⟩=some (.slice (some ⟨b,off,none⟩) k cap):=by rw[<-HN.out];exact hkp.cell (fun h=>h) DD.out.2
       have KT:=Lib.hid (And.intro (K0.out.trans hkp) hkp)
       clear hkp
       by_cases hmt:m<i
       ·obtain⟨u,hu⟩: ∃u,j.nodes[m]?=some u:=⟨_,List.getElem?_eq_getElem (by rw[HN.out];omega)⟩
        obtain⟨b',off',pi',ci',p',cap2,hna,hc,hj⟩:=H3.out.1 m u hu
        injection hna with hna
        injection hna with hn1 hn2
        subst hn1 hn2
        have y0:=KT.out.1.cell (p:=⟨b,off+i*7,none⟩) (fun h=>h) C0.out
        have y1:=KT.out.1.cell (p:=⟨b,off+m*7,none⟩) (fun h=>h) hc.c0
        have hmk:m<k:=by omega
        have G2:=Lib.hid (And.intro hgm (And.intro hne hu))
        clear hgm hne hu hc hj
        by_cases ce:u.uid=d.uid
        ·have be:(u.uid.toList==d.uid.toList)=true:=by rw[str_eq];exact decide_eq_true ce
         have F:=Lib.hid (fun w' hk=>show qQ w (dB j) (.returned (.tuple #[.int .i64 (i:Int), .int .i64 121])) w' from⟨by rw[BO HO.out (by rw[HN.out];exact hlt2) G.out.2.1 (SK G.out.2.2.1 HM.out (V5 G2.out.2.2 hmt ce)) (by decide)],hk⟩)
         clear ce
         go_wp2_with fail
         refine aZ [0,1,2,3,4,5,6,7,8,9,10,11,12] (fun W=>Kept none' wr W) (by kernel_rfl) (by kernel_rfl) rfl (Kept.refl _ _).drew ?_
         simp only[List.map_cons,List.map_nil,List.getElem?_toArray,List.getElem?_cons_zero,List.getElem?_cons_succ,Option.getD_some]
         iterate 13 (apply bC rfl rfl;(intro W hW;have z1:=hW.cell (fun h=>h) e1;have t0:=hW.cell (fun h=>h) y0;have t1:=hW.cell (fun h=>h) y1;go_simp;rfl);go_frame)
         refine fU (fun _=>(Kept.refl _ _).drew) ?_
         go_wp2_with fail
         go_ret2
         exact F.out _ (KT.out.1.trans (Kept.refl _ _).drew)
        ·have be:(u.uid.toList==d.uid.toList)=false:=by rw[str_eq];exact decide_eq_false ce
         have F:=Lib.hid (show∀q e,q<m+1->j.nodes[q]?=some e->e.uid≠d.uid from fun q e hq he=>by
          by_cases h:q<m
          ·exact G2.out.2.1 q e h he
          ·have e1:q=m:=by omega
           subst e1
           rw[G2.out.2.2]at he
           injection he with he
           rw[<-he];exact ce)
         clear ce
         go_wp2_with fail
         refine aZ [0,1,2,3,4,5,6,7,8,9,10,11,12] (fun W=>Kept none' wr W) (by kernel_rfl) (by kernel_rfl) rfl (Kept.refl _ _).drew ?_
         simp only[List.map_cons,List.map_nil,List.getElem?_toArray,List.getElem?_cons_zero,List.getElem?_cons_succ,Option.getD_some]
         iterate 13 (apply bC rfl rfl;(intro W hW;have z1:=hW.cell (fun h=>h) e1;have t0:=hW.cell (fun h=>h) y0;have t1:=hW.cell (fun h=>h) y1;go_simp;rfl);go_frame)
         refine fU (fun _=>(Kept.refl _ _).drew) ?_
         go_wp2_with fail
         go_roundg (i-(m+1))
         case rel=>exact⟨m+1,by omega,by go_num,Nat.le_refl _,KT.out.2.trans (Kept.refl _ _).drew,F.out⟩
         case measure=>have:=G2.out.1;omega
       ·obtain rfl:m=i:=by omega
        have F:=Lib.hid (show∀q,q<m+1->kY j.nodes q=0 from fun q hq=>by
         by_cases h:q<m
         ·exact G.out.2.1 q h
         ·have:q=m:=by omega
          subst this
          exact(sF G.out.2.2.1).2 ⟨HM.out,Yd hne⟩)
        clear hne hgm
        go_wp2_with fail
        go_roundg (k-(m+1))
        case rel=>exact⟨m+1,by omega,by go_num,Nat.le_refl _,KT.out.2,F.out⟩
        case measure=>have:=G.out.1;omega
    ·obtain rfl:i=k:=by omega
     have HBd:=Lib.hid hbad
     clear hbad hg e1 KR
     go_wp2_with fail
     generalize wr=WB at*
     have WBS:=Lib.hid KS.out.2.size
     go_loopg [9,10,11] i (fun g vf vo vi w2=> ∃(k:Nat),k<=i/\vi= .int .i64 (k:Int)/\i-k<=g/\vf= .int .i64 (((j.nodes.take k).countP fun d=>d.kind==4:Nat):Int)/\w2.ownsRow WB.heap.size 3 1 vo k (ints (cO (j.nodes.take k)))/\Kept none' WB w2/\(∀x∈cO (j.nodes.take k),0<=x/\x<=64)/\ ∀m e,m<k->j.nodes[m]?=some e->aX j.nodes m e=false)
     case atStart=>exact⟨0,by omega,rfl,by omega,rfl,World.ownsRow_nil _ _ _ _,Kept.refl _ _,fun x hx=>by simp[cO]at hx,fun m e hm=>by omega⟩
     case round=>
      obtain⟨k,hkl,rfl,hg,rfl,hown,hkp,hwb,hsh⟩:=hrel
      have e1:wr.cell? ⟨w.heap.size,1,none⟩=some (.slice na i cap):=by rw[<-HN.out];exact(KS.out.2.trans hkp).cell (fun h=>h) DD.out.2
      have e0:=(KS.out.2.trans hkp).cell (p:=⟨w.heap.size,0,none⟩) (fun h=>h) DD.out.1
      obtain⟨F8,F7,rfl⟩:=dP hown
      have KV:=Lib.hid (KS.out.1.trans hkp)
      by_cases hlt3:k<i
      ·obtain⟨d,hd⟩: ∃d,j.nodes[k]?=some d:=⟨_,List.getElem?_eq_getElem (by rw[HN.out];exact hlt3)⟩
       obtain⟨b,off,pi,ci,p,cap',hna,hc,hj⟩:=H3.out.1 k d hd
       subst hna
       obtain⟨c0,c1,c2,c3,c4,c5,c6⟩:=hc.kept KV.out (fun h=>h)
       obtain⟨ac1,hlow⟩:=QC ((sF hd).1 (HBd.out k hlt3)).1
       have hin:Reads w 1 (.slice pi d.ins.length ci) (ints d.ins):=by
        obtain⟨_,_,_,_,e,_,hx,_⟩:=hj
        injection e with e
        simp only[List.cons.injEq,and_true,true_and]at e
        obtain⟨e1,e2⟩:=e
        rw[e1];exact hx
       have hkind:0<=d.kind/\d.kind<=255:=by
        obtain⟨_,_,_,_,e,_,_,_,h4,h5,_⟩:=hj
        exact⟨h4,h5⟩
       obtain⟨ia,il,ic,ie,i1,i2,_,NV⟩:=hin.pure KV.out
       injection ie with ZO ZN ZM
       subst ZO ZN ZM
       unfold maxLen at i2
       have I3:=Lib.hid (show∀(m:Nat)(x:Int),d.ins[m]?=some x-> ∃b off,pi=some ⟨b,off,none⟩/\wr.cell? ⟨b,off+m,none⟩=some (.int .i64 x) by
        intro m x hx
        have hne:ints d.ins≠[]:=fun e=>by unfold ints at e;rw[List.map_eq_nil_iff]at e;rw[e]at hx;cases hx
        obtain⟨b,off,e,hc⟩:=NV.resolve_left hne
        exact⟨b,off,e,hc m _ (by unfold ints;rw[List.getElem?_map,hx];rfl)⟩)
       obtain⟨W,hWe⟩: ∃W,cO (j.nodes.take k)=W:=⟨_,rfl⟩
       have hwl:W.length=k:=by rw[<-hWe,pF,List.length_take,HN.out];omega
       rw[hWe]at hown hwb
       have hfl:(j.nodes.take k).countP (fun d=>d.kind==4)<=k:=Nat.le_trans List.countP_le_length (by rw[List.length_take];omega)
       obtain⟨fl,hfd⟩: ∃fl,(j.nodes.take k).countP (fun d=>d.kind==4)=fl:=⟨_,rfl⟩
       rw[hfd]at hfl
       have abT:=JY hd
       have abN:=MK hd
       have abO:=Pm hd
       rw[hfd]at abT
       rw[hWe]at abN abO
       rw[hfd]
       obtain⟨pa,n',pc,pe,q1,q2,_,hcell⟩:=Reads.EZ hown
       injection pe with pe1 UQ Qj
       subst pe1 UQ Qj
       unfold maxLen at q2
       have RV:=Lib.hid (show∀(m:Nat)(x:Int),W[m]?=some x-> ∃b off,F8=some ⟨b,off,none⟩/\wr.cell? ⟨b,off+m,none⟩=some (.int .i64 x) by
        intro m x hx
        have hne:ints W≠[]:=fun e=>by unfold ints at e;rw[List.map_eq_nil_iff]at e;rw[e]at hx;cases hx
        obtain⟨b,off,e,hc⟩:=hcell.resolve_left hne
        exact⟨b,off,e,hc m _ (by unfold ints;rw[List.getElem?_map,hx];rfl)⟩)
       have G:=Lib.hid (And.intro hg (And.intro hown (And.intro hkp (And.intro hd (And.intro hsh (And.intro hlow hwb))))))
       have HW:=Lib.hid (And.intro hwl (And.intro abT (And.intro abN abO)))
       have E0:=Lib.hid (And.intro (KS.out.2.cell (p:=⟨w.heap.size,0,none⟩) (fun h=>h) DD.out.1) (KS.out.2.cell (p:=⟨w.heap.size,1,none⟩) (fun h=>h) DD.out.2))
       clear hg hown hkp hd hsh hlow hwb hc hj hin NV hWe hwl hfd abT abN abO hcell
       obtain⟨kd,hkd⟩: ∃kd,d.kind=kd:=⟨_,rfl⟩
       rw[hkd]at c1 hkind
       have HKD:=Lib.hid hkd
       clear hkd
       obtain⟨nI,hnI⟩: ∃nI,d.ins.length=nI:=⟨_,rfl⟩
       rw[hnI]at c2 ac1 i1
       have HNI:=Lib.hid hnI
       clear hnI
       go_wp2_with fail
       go_loopg [13,14] nI (fun g vs vi w2=> ∃(m:Nat),m<=nI/\vi= .int .i64 (m:Int)/\vs= .int .i64 (iW W d.ins m)/\nI-m<=g/\w2=wr)
       case atStart=>exact⟨0,by omega,rfl,by simp[iW],by omega,rfl⟩
       case round=>
        obtain⟨m,hml,rfl,rfl,hgm,rfl⟩:=hrel
        have hSb:=wH (ins:=d.ins) G.out.2.2.2.2.2.2 m
        by_cases hmt:m<nI
        ·obtain⟨x,hx⟩: ∃x,d.ins[m]?=some x:=⟨_,List.getElem?_eq_getElem (by rw[HNI.out];exact hmt)⟩
         have hxl:=G.out.2.2.2.2.2.1 x (List.mem_of_getElem? hx)
         obtain⟨xn,rfl⟩: ∃xn:Nat,x=(xn:Int):=⟨x.toNat,by omega⟩
         have hxk:xn<W.length:=by rw[HW.out.1];omega
         obtain⟨v,hv⟩: ∃v,W[xn]?=some v:=⟨_,List.getElem?_eq_getElem hxk⟩
         obtain⟨bi,oi,rfl,y⟩:=I3.out m _ hx
         obtain⟨bw,ow,rfl,z⟩:=RV.out xn v hv
         have hvb:=G.out.2.2.2.2.2.2 v (List.mem_of_getElem? hv)
         have hxk':xn<k:=by omega
         have SS:=Lib.hid (show iW W d.ins (m+1)=iW W d.ins m+v by
          rw[Dx hx,List.getD_eq_getElem?_getD,Int.toNat_natCast,hv];first|done|rfl)
         have HGM:=Lib.hid hgm
         obtain⟨S,vT⟩: ∃S,iW W d.ins m=S:=⟨_,rfl⟩
         rw[vT]at hSb SS
         rw[vT]
         clear hx hv hgm vT hxl hxk
         go_wp2_with fail
         go_roundg (nI-(m+1))
         case rel=>exact⟨m+1,by omega,by go_num,by rw[SS.out],Nat.le_refl _,rfl⟩
         case measure=>have:=HGM.out;omega
        ·obtain rfl:m=nI:=by omega
         obtain⟨S,vT⟩: ∃S,iW W d.ins m=S:=⟨_,rfl⟩
         rw[vT]at hSb
         rw[vT]
         have hwo:=ML W d
         rw[HNI.out,vT,HKD.out]at hwo
         have hws:=HW.out.2.2.1
         have hwg:=HW.out.2.2.2
         have hfs:=HW.out.2.1
         rw[HKD.out]at hfs
         have hkd:=HKD.out
         have Ou:=Lib.hid (show aX j.nodes k d=false-> ∀x∈cO (j.nodes.take (k+1)),0<=x/\x<=64 from fun hg x hx=>by
          rw[hws]at hx
          rcases List.mem_append.1 hx with hx|hx
          ·exact G.out.2.2.2.2.2.2 x hx
          ·rw[List.mem_singleton.1 hx]
           have h1: ¬(64<(cO j.nodes).getD k 0):=fun h=>by
            have h2:=(nJ (nodes:=j.nodes) (k:=k) (d:=d) rfl rfl rfl).2 (.inr (.inr (.inr (.inr (.inr h)))))
            rw[hg]at h2;cases h2
           rw[hwg]at h1
           refine⟨?_,by omega⟩
           rw[hwo]
           split
           ·omega
           ·split<;>omega)
         clear hgm vT
         by_cases k1:kd=1
         ·rw[if_pos k1]at hwo
          rw[if_neg (by omega),Nat.add_zero]at hfs
          have b1:(kd==1)=true:=by simp[k1]
          have b2:(kd !=1)=false:=by simp[k1]
          have b4:(kd==4)=false:=by simp[k1]
          have b9:(kd==9)=false:=by simp[k1]
          have b8:(kd !=9)=true:=by simp[k1]
          have wE:=Lib.hid k1
          clear k1
          obtain⟨ti,hi3,hz3,hs3,hb3⟩:=rM
          obtain⟨g',cap2,w',p1,p2,p3⟩:=pK (x:= .int .i64 (1)) (bytes:=8) Tryz.underlying74 hi3 hz3 hs3 hb3 rfl rfl G.out.2.1 (by omega) (by omega) G.out.2.2.1.size 37
          have kN:Kept none' WB w':=G.out.2.2.1.new p3 (fun i hi hs=>by have h1:=(kP G.out.2.1 hs).1;omega)
          have hrow:w'.ownsRow WB.heap.size 3 1 (.slice (some ⟨g',0,none⟩) (k+1) cap2) (k+1) (ints (cO (j.nodes.take (k+1)))):=by
           rw[hws,hwo]
           unfold ints at p2⊢
           rw[List.map_append]
           exact p2
          have e0':=kN.cell (fun h=>h) E0.out.1
          have e1':w'.cell? ⟨w.heap.size,1,none⟩=some (.slice (some ⟨b,off,none⟩) i cap):=by rw[<-HN.out];exact kN.cell (fun h=>h) E0.out.2
          have cr:=xU j _ k w' (H3.out.2.pure (KS.out.1.trans kN)) (by rw[HN.out];omega)
          rw[HN.out]at cr
          obtain⟨many,iE⟩: ∃many,fZ j.nodes k=many:=⟨_,rfl⟩
          rw[iE]at cr
          have hsh:=nJ (d:=d) iE hfs hwg
          rw[HN.out,hkd,hwo]at hsh
          have hml:many<=12:=by rw[<-iE];have:=List.countP_le_length (p:=fun d:JN=>d.ins.contains (k:Int)) (l:=j.nodes);rw[HN.out]at this;unfold fZ;omega
          have P1:=Lib.hid p1
          have R:=Lib.hid (And.intro hrow (And.intro kN hsh))
          clear p1 p2 p3 hi3 hz3 hs3 hb3 kN hrow iE hsh
          go_wp2_with (at_builtin;refine wpList_append_run rfl (.tmp 132) (.tmp 134) 74 rfl (.slice F8 k F7) (.slice (some ⟨wr.heap.size,0,none⟩) 1 1) _ rfl rfl P1.out ?_)
          (with_reducible refine cr.mono ?_)
          clear cr
          rintro e W5 ⟨v5,rfl,NW,k5⟩
          obtain⟨ra,rc,rfl⟩:=dP NW
          have FB:=Lib.hid (show∀x:Int,x=(k:Int)->aX j.nodes k d=true->qQ w (dB j) (.returned (.tuple #[.int .i64 x, .int .i64 122])) W5 from fun x hx h=>⟨by rw[qC HO.out (by rw[HN.out];exact HBd.out) G.out.2.2.2.1 G.out.2.2.2.2.1 h,hx],KS.out.1.trans (R.out.2.1.trans k5)⟩)
          have GOOD:=Lib.hid (show aX j.nodes k d=false-> ∃(k':Nat),k'<=i/\Value.int .i64 ((k+1:Nat):Int)= .int .i64 (k':Int)/\i-k'<=i-(k+1)/\Value.int .i64 ((fl:Nat):Int)= .int .i64 (((j.nodes.take k').countP fun d=>d.kind==4:Nat):Int)/\W5.ownsRow WB.heap.size 3 1 (.slice (some ⟨g',0,none⟩) (k+1) cap2) k' (ints (cO (j.nodes.take k')))/\Kept none' WB W5/\(∀x∈cO (j.nodes.take k'),0<=x/\x<=64)/\ ∀m e,m<k'->j.nodes[m]?=some e->aX j.nodes m e=false from fun hg=>by
           refine⟨k+1,by omega,rfl,Nat.le_refl _,?_,k5.owns R.out.1 (fun _ _ h=>h),R.out.2.1.trans k5,Ou.out hg,fun m e hm he=>?_⟩
           ·rw[show((j.nodes.take (k+1)).countP (fun d=>d.kind==4))=fl from hfs]
           ·by_cases h:m<k
            ·exact G.out.2.2.2.2.1 m e h he
            ·have e1:m=k:=by omega
             subst e1
             have e2:=G.out.2.2.2.1
             rw[he]at e2
             injection e2 with e2
             rw[e2];exact hg)
          have SH:=Lib.hid R.out.2.2
          clear NW k5 e0 e1 e0' e1' c0 c1 c2 c3 c4 c5 c6 hws hwg hfs hwo
          by_cases hk0:k=0
          ·have kb:((k:Int)==0)=true:=by simp[hk0]
           have kl:((k:Int)==(i:Int)-1)=false:=by
            have:(k:Int)≠(i:Int)-1:=by omega
            simpa using this
           have VZ:=Lib.hid hk0
           clear hk0
           go_wp2_with fail
           all_goals have hk0:=VZ.out
           all_goals have k1:=wE.out
           all_goals first
            |(go_ret2
              refine FB.out _ (by omega) (SH.out.2 ?_)
              (try simp only[beq_iff_eq,beq_eq_false_iff_ne,bne_iff_ne,bne_eq_false_iff_eq,ne_eq,decide_eq_true_eq,decide_eq_false_iff_not,Bool.not_eq_true,Bool.not_eq_false,not_true_eq_false,not_false_eq_true]at*)
              omega)
            |(have hgood:aX j.nodes k d=false:=by
               cases hsb:aX j.nodes k d with
               |false=>rfl
               |true=>
                have h3:=SH.out.1 hsb
                exfalso
                clear hsb
                (try simp only[beq_iff_eq,beq_eq_false_iff_ne,bne_iff_ne,bne_eq_false_iff_eq,ne_eq,decide_eq_true_eq,decide_eq_false_iff_not,Bool.not_eq_true,Bool.not_eq_false,not_true_eq_false,not_false_eq_true]at*)
                omega
              go_roundg (i-(k+1))
              case rel=>
               obtain⟨k',q1,q2,q3,q4⟩:=GOOD.out hgood
               have e':k'=k+1:=by injection q2 with _ q2;omega
               subst e'
               exact⟨k+1,by omega,by go_num,Nat.le_refl _,by first|exact q4.1|(rw[<-q4.1];go_num),q4.2⟩
              case measure=>have:=G.out.1;omega)
          ·have kb:((k:Int)==0)=false:=by simp[hk0]
           have VZ:=Lib.hid hk0
           clear hk0
           go_wp2_with fail
           go_ret2
           exact FB.out _ rfl (SH.out.2 (.inl ⟨fun _=>VZ.out,fun _=>wE.out⟩))
         ·rw[if_neg k1]at hwo
          have b1:(kd==1)=false:=by simp[k1]
          by_cases k4:kd=4
          ·subst k4
           rw[if_pos rfl,Int.mul_comm]at hwo
           rw[if_pos rfl]at hfs
           obtain⟨ti,hi3,hz3,hs3,hb3⟩:=rM
           obtain⟨g',cap2,w',p1,p2,p3⟩:=pK (x:= .int .i64 (4*S)) (bytes:=8) Tryz.underlying74 hi3 hz3 hs3 hb3 rfl rfl G.out.2.1 (by omega) (by omega) G.out.2.2.1.size 37
           have kN:Kept none' WB w':=G.out.2.2.1.new p3 (fun i hi hs=>by have h1:=(kP G.out.2.1 hs).1;omega)
           have hrow:w'.ownsRow WB.heap.size 3 1 (.slice (some ⟨g',0,none⟩) (k+1) cap2) (k+1) (ints (cO (j.nodes.take (k+1)))):=by
            rw[hws,hwo]
            unfold ints at p2⊢
            rw[List.map_append]
            exact p2
           have e0':=kN.cell (fun h=>h) E0.out.1
           have e1':w'.cell? ⟨w.heap.size,1,none⟩=some (.slice (some ⟨b,off,none⟩) i cap):=by rw[<-HN.out];exact kN.cell (fun h=>h) E0.out.2
           have cr:=xU j _ k w' (H3.out.2.pure (KS.out.1.trans kN)) (by rw[HN.out];omega)
           rw[HN.out]at cr
           obtain⟨many,iE⟩: ∃many,fZ j.nodes k=many:=⟨_,rfl⟩
           rw[iE]at cr
           have hsh:=nJ (d:=d) iE hfs hwg
           rw[HN.out,hkd,hwo]at hsh
           have hml:many<=12:=by rw[<-iE];have:=List.countP_le_length (p:=fun d:JN=>d.ins.contains (k:Int)) (l:=j.nodes);rw[HN.out]at this;unfold fZ;omega
           have P1:=Lib.hid p1
           have R:=Lib.hid (And.intro hrow (And.intro kN hsh))
           clear p1 p2 p3 hi3 hz3 hs3 hb3 kN hrow iE hsh
           go_wp2_with (at_builtin;refine wpList_append_run rfl (.tmp 132) (.tmp 134) 74 rfl (.slice F8 k F7) (.slice (some ⟨wr.heap.size,0,none⟩) 1 1) _ rfl rfl P1.out ?_)
           (with_reducible refine cr.mono ?_)
           clear cr
           rintro e W5 ⟨v5,rfl,NW,k5⟩
           obtain⟨ra,rc,rfl⟩:=dP NW
           have FB:=Lib.hid (show∀x:Int,x=(k:Int)->aX j.nodes k d=true->qQ w (dB j) (.returned (.tuple #[.int .i64 x, .int .i64 122])) W5 from fun x hx h=>⟨by rw[qC HO.out (by rw[HN.out];exact HBd.out) G.out.2.2.2.1 G.out.2.2.2.2.1 h,hx],KS.out.1.trans (R.out.2.1.trans k5)⟩)
           have GOOD:=Lib.hid (show aX j.nodes k d=false-> ∃(k':Nat),k'<=i/\Value.int .i64 ((k+1:Nat):Int)= .int .i64 (k':Int)/\i-k'<=i-(k+1)/\Value.int .i64 ((fl+1:Nat):Int)= .int .i64 (((j.nodes.take k').countP fun d=>d.kind==4:Nat):Int)/\W5.ownsRow WB.heap.size 3 1 (.slice (some ⟨g',0,none⟩) (k+1) cap2) k' (ints (cO (j.nodes.take k')))/\Kept none' WB W5/\(∀x∈cO (j.nodes.take k'),0<=x/\x<=64)/\ ∀m e,m<k'->j.nodes[m]?=some e->aX j.nodes m e=false from fun hg=>by
            refine⟨k+1,by omega,rfl,Nat.le_refl _,?_,k5.owns R.out.1 (fun _ _ h=>h),R.out.2.1.trans k5,Ou.out hg,fun m e hm he=>?_⟩
            ·rw[show((j.nodes.take (k+1)).countP (fun d=>d.kind==4))=fl+1 from hfs]
            ·by_cases h:m<k
             ·exact G.out.2.2.2.2.1 m e h he
             ·have e1:m=k:=by omega
              subst e1
              have e2:=G.out.2.2.2.1
              rw[he]at e2
              injection e2 with e2
              rw[e2];exact hg)
           have SH:=Lib.hid R.out.2.2
           clear NW k5 e0 e1 e0' e1' c0 c1 c2 c3 c4 c5 c6 hws hwg hfs hwo
           go_wp2_with fail
           all_goals first
            |(go_ret2
              refine FB.out _ (by omega) (SH.out.2 ?_)
              (try simp only[beq_iff_eq,beq_eq_false_iff_ne,bne_iff_ne,bne_eq_false_iff_eq,ne_eq,decide_eq_true_eq,decide_eq_false_iff_not,Bool.not_eq_true,Bool.not_eq_false,not_true_eq_false,not_false_eq_true]at*)
              omega)
            |(have hgood:aX j.nodes k d=false:=by
               cases hsb:aX j.nodes k d with
               |false=>rfl
               |true=>
                have h3:=SH.out.1 hsb
                exfalso
                clear hsb
                (try simp only[beq_iff_eq,beq_eq_false_iff_ne,bne_iff_ne,bne_eq_false_iff_eq,ne_eq,decide_eq_true_eq,decide_eq_false_iff_not,Bool.not_eq_true,Bool.not_eq_false,not_true_eq_false,not_false_eq_true]at*)
                omega
              go_roundg (i-(k+1))
              case rel=>
               obtain⟨k',q1,q2,q3,q4⟩:=GOOD.out hgood
               have e':k'=k+1:=by injection q2 with _ q2;omega
               subst e'
               exact⟨k+1,by omega,by go_num,Nat.le_refl _,by first|exact q4.1|(rw[<-q4.1];go_num),q4.2⟩
              case measure=>have:=G.out.1;omega)
          ·rw[if_neg k4,Int.mul_one]at hwo
           rw[if_neg k4,Nat.add_zero]at hfs
           have b4:(kd==4)=false:=by simp[k4]
           obtain⟨ti,hi3,hz3,hs3,hb3⟩:=rM
           obtain⟨g',cap2,w',p1,p2,p3⟩:=pK (x:= .int .i64 (S)) (bytes:=8) Tryz.underlying74 hi3 hz3 hs3 hb3 rfl rfl G.out.2.1 (by omega) (by omega) G.out.2.2.1.size 37
           have kN:Kept none' WB w':=G.out.2.2.1.new p3 (fun i hi hs=>by have h1:=(kP G.out.2.1 hs).1;omega)
           have hrow:w'.ownsRow WB.heap.size 3 1 (.slice (some ⟨g',0,none⟩) (k+1) cap2) (k+1) (ints (cO (j.nodes.take (k+1)))):=by
            rw[hws,hwo]
            unfold ints at p2⊢
            rw[List.map_append]
            exact p2
           have e0':=kN.cell (fun h=>h) E0.out.1
           have e1':w'.cell? ⟨w.heap.size,1,none⟩=some (.slice (some ⟨b,off,none⟩) i cap):=by rw[<-HN.out];exact kN.cell (fun h=>h) E0.out.2
           have cr:=xU j _ k w' (H3.out.2.pure (KS.out.1.trans kN)) (by rw[HN.out];omega)
           rw[HN.out]at cr
           obtain⟨many,iE⟩: ∃many,fZ j.nodes k=many:=⟨_,rfl⟩
           rw[iE]at cr
           have hsh:=nJ (d:=d) iE hfs hwg
           rw[HN.out,hkd,hwo]at hsh
           have hml:many<=12:=by rw[<-iE];have:=List.countP_le_length (p:=fun d:JN=>d.ins.contains (k:Int)) (l:=j.nodes);rw[HN.out]at this;unfold fZ;omega
           have P1:=Lib.hid p1
           have R:=Lib.hid (And.intro hrow (And.intro kN hsh))
           clear p1 p2 p3 hi3 hz3 hs3 hb3 kN hrow iE hsh
           go_wp2_with (at_builtin;refine wpList_append_run rfl (.tmp 132) (.tmp 134) 74 rfl (.slice F8 k F7) (.slice (some ⟨wr.heap.size,0,none⟩) 1 1) _ rfl rfl P1.out ?_)
           (with_reducible refine cr.mono ?_)
           clear cr
           rintro e W5 ⟨v5,rfl,NW,k5⟩
           obtain⟨ra,rc,rfl⟩:=dP NW
           have FB:=Lib.hid (show∀x:Int,x=(k:Int)->aX j.nodes k d=true->qQ w (dB j) (.returned (.tuple #[.int .i64 x, .int .i64 122])) W5 from fun x hx h=>⟨by rw[qC HO.out (by rw[HN.out];exact HBd.out) G.out.2.2.2.1 G.out.2.2.2.2.1 h,hx],KS.out.1.trans (R.out.2.1.trans k5)⟩)
           have GOOD:=Lib.hid (show aX j.nodes k d=false-> ∃(k':Nat),k'<=i/\Value.int .i64 ((k+1:Nat):Int)= .int .i64 (k':Int)/\i-k'<=i-(k+1)/\Value.int .i64 ((fl:Nat):Int)= .int .i64 (((j.nodes.take k').countP fun d=>d.kind==4:Nat):Int)/\W5.ownsRow WB.heap.size 3 1 (.slice (some ⟨g',0,none⟩) (k+1) cap2) k' (ints (cO (j.nodes.take k')))/\Kept none' WB W5/\(∀x∈cO (j.nodes.take k'),0<=x/\x<=64)/\ ∀m e,m<k'->j.nodes[m]?=some e->aX j.nodes m e=false from fun hg=>by
            refine⟨k+1,by omega,rfl,Nat.le_refl _,?_,k5.owns R.out.1 (fun _ _ h=>h),R.out.2.1.trans k5,Ou.out hg,fun m e hm he=>?_⟩
            ·rw[show((j.nodes.take (k+1)).countP (fun d=>d.kind==4))=fl from hfs]
            ·by_cases h:m<k
             ·exact G.out.2.2.2.2.1 m e h he
             ·have e1:m=k:=by omega
              subst e1
              have e2:=G.out.2.2.2.1
              rw[he]at e2
              injection e2 with e2
              rw[e2];exact hg)
           have SH:=Lib.hid R.out.2.2
           clear NW k5 e0 e1 e0' e1' c0 c1 c2 c3 c4 c5 c6 hws hwg hfs hwo
           go_wp2_with fail
           all_goals first
            |(go_ret2
              refine FB.out _ (by omega) (SH.out.2 ?_)
              (try simp only[beq_iff_eq,beq_eq_false_iff_ne,bne_iff_ne,bne_eq_false_iff_eq,ne_eq,decide_eq_true_eq,decide_eq_false_iff_not,Bool.not_eq_true,Bool.not_eq_false,not_true_eq_false,not_false_eq_true]at*)
              omega)
            |(have hgood:aX j.nodes k d=false:=by
               cases hsb:aX j.nodes k d with
               |false=>rfl
               |true=>
                have h3:=SH.out.1 hsb
                exfalso
                clear hsb
                (try simp only[beq_iff_eq,beq_eq_false_iff_ne,bne_iff_ne,bne_eq_false_iff_eq,ne_eq,decide_eq_true_eq,decide_eq_false_iff_not,Bool.not_eq_true,Bool.not_eq_false,not_true_eq_false,not_false_eq_true]at*)
                omega
              go_roundg (i-(k+1))
              case rel=>
               obtain⟨k',q1,q2,q3,q4⟩:=GOOD.out hgood
               have e':k'=k+1:=by injection q2 with _ q2;omega
               subst e'
               exact⟨k+1,by omega,by go_num,Nat.le_refl _,by first|exact q4.1|(rw[<-q4.1];go_num),q4.2⟩
              case measure=>have:=G.out.1;omega)
      ·obtain rfl:k=i:=by omega
       have F:=Lib.hid (show∀w',Kept none' w w'->qQ w (dB j) (.returned (.tuple #[.int .i64 0, .int .i64 0])) w' from fun w' hk=>⟨by rw[LJ HO.out (by rw[HN.out];exact HBd.out) (by rw[HN.out];exact hsh)],hk⟩)
       clear hsh hown hkp hwb hg
       go_wp2_with fail
       go_ret2
       exact F.out _ KV.out
end Go.Proofs.YtakhobfamnjnoaaGreatDoor
