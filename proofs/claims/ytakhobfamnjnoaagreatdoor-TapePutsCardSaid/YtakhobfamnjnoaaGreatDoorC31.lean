/- The document's expressions: the type of one that may be. -/
import Derived.Test.YtakhobfamnjnoaaGreatDoorC30
set_option linter.unusedVariables false
set_option linter.unusedSimpArgs false
set_option maxHeartbeats 16000000
set_option maxRecDepth 100000
namespace Go.Proofs.YtakhobfamnjnoaaGreatDoor
open Go Go.RowKit
def agY (f:Nat):Prop:= ∀(x:Ex)(a:Array Value)(w:World),dU f x=true->bg w a x->Calls Tryz.prog 210 #[.agg a] w (Gives w (.int .u8 (aV f x)))
theorem GU: ∀f,agY f
 |0=>fun x a w h=>absurd h (by cases x;simp[dU])
 |f+1=>fun x a w hmay h=>by
  rw[uU]at hmay
  simp only[Bool.and_eq_true,decide_eq_true_eq]at hmay
  obtain⟨⟨⟨m1,_⟩,_⟩,m4⟩:=hmay
  obtain⟨p,cap,rfl,h0,h1,h2,h3,h4,h5⟩:=h.parts
  have IH:=Lib.hid (GU f)
  have H5:=Lib.hid h5
  have HM:=Lib.hid (List.all_eq_true.1 m4)
  have hop:=Gu h0 m1
  have hl:x.args.length<=3:=by have:=yJ x.op;omega
  obtain⟨R,hR⟩: ∃R,x.args.map (aV f)=R:=⟨_,rfl⟩
  have HL:=Lib.hid (show R.length=x.args.length by rw[<-hR];simp)
  have HT:=Lib.hid (show∀t∈R,0<=t/\t<=2 by
   intro t ht;rw[<-hR]at ht
   obtain⟨y,_,rfl⟩:=List.mem_map.1 ht
   have:=tZ f y;omega)
  have HX:=Lib.hid (show(∀t∈R,t≠0)->aV (f+1) x=dD x.op (jc R) R by
   intro hz;rw[<-hR]at hz⊢;exact ad6 h0 m1 hz)
  have HZ:=Lib.hid (show 0∈R->aV (f+1) x=0 by intro hz;rw[<-hR]at hz;exact ad7 hz)
  have HA:=Lib.hid m1
  have HR:=Lib.hid hR
  unfold aO at h2
  unfold maxLen at h4
  clear h h5 m1 m4 hR
  go_enter Tryz.func210,Tryz.ntmps210
  go_wp2_with fail
  obtain⟨W0,hW0⟩: ∃W0,w.alloc (.cells #[.int .u8 x.op, .int .i64 x.n, .slice p x.args.length cap] 77)=W0:=⟨_,rfl⟩
  have k0:Kept none' w W0:=by rw[<-hW0];exact(Kept.refl _ _).alloc _
  have d0:W0.cell? ⟨w.heap.size,0,none⟩=some (.int .u8 x.op):=by rw[<-hW0];simp
  have d2:W0.cell? ⟨w.heap.size,2,none⟩=some (.slice p x.args.length cap):=by rw[<-hW0];simp
  rw[hW0]
  have K0:=Lib.hid k0
  clear hW0 k0
  go_loopg [3,4] x.args.length (fun g vs vi wr=> ∃k:Nat,k<=x.args.length/\vi= .int .i64 (k:Int)/\x.args.length-k<=g/\wr.ownsRow W0.heap.size 5 1 vs k (pG (R.take k))/\Kept none' W0 wr)
  case atStart=>exact⟨0,by omega,rfl,by omega,World.ownsRow_nil _ _ _ _,Kept.refl _ _⟩
  case round=>
   obtain⟨k,hkl,rfl,hg,ho,hkp⟩:=hrel
   have dd:=hkp.cell (p:=⟨w.heap.size,2,none⟩) (fun h=>h) d2
   obtain⟨a1,c1,rfl⟩:=dP ho
   by_cases hlt:k<x.args.length
   ·obtain⟨y,hy⟩: ∃y,x.args[k]?=some y:=⟨_,List.getElem?_eq_getElem hlt⟩
    obtain⟨b,off,p',cap',rfl,q0,q1,q2,hy2⟩:=H5.out k y hy
    have hW:=(K0.out.trans hkp:Kept none' w wr)
    have r0:=hW.cell (p:=⟨b,off+k*3,none⟩) (fun h=>h) q0
    have r1:=hW.cell (p:=⟨b,off+k*3+1,none⟩) (fun h=>h) q1
    have r2:=hW.cell (p:=⟨b,off+k*3+2,none⟩) (fun h=>h) q2
    have HY:=Lib.hid (And.intro (HM.out y (List.mem_of_getElem? hy)) (bg.pure hW hy2))
    have HN:=Lib.hid (show R[k]?=some (aV f y) by rw[<-HR.out,List.getElem?_map,hy];rfl)
    have zq:=Lib.hid (And.intro hg (And.intro hkp ho))
    clear q0 q1 q2 hy hy2 hW hkp hg ho
    go_wp2_with fail
    have c:=IH.out y _ wr HY.out.1 HY.out.2
    (with_reducible refine c.mono ?_)
    clear c
    rintro e w2 ⟨rfl,k2⟩
    obtain⟨T,hT⟩: ∃T,aV f y=T:=⟨_,rfl⟩
    rw[hT]at HN
    rw[hT]
    have hTr:0<=T/\T<=2:=HT.out T (List.mem_of_getElem? HN.out)
    have o2:=k2.owns zq.out.2.2 (fun _ _ h=>h)
    obtain⟨i1,hi1,hz1,hsz1,Ry⟩:=ad2
    obtain⟨g1,cp1,w3,s1,p1,e1⟩:=pK (x:= .int .u8 T) (bytes:=1) Tryz.underlying107 hi1 hz1 hsz1 Ry rfl rfl o2 (by omega) (by omega) (by have:=zq.out.2.1.size;have:=k2.size;omega) 220
    have hown: ∀i,(Value.slice a1 k c1).ownBlock=some i->W0.heap.size<=i:=fun i hi=>(kP o2 hi).1
    have k4:Kept none' W0 w3:=(zq.out.2.1.trans k2).new e1 (fun i hi e=>by have:=hown i e;omega)
    have G:=Lib.hid (And.intro p1 k4)
    clear o2 hi1 hz1 hsz1 Ry p1 e1 hown k4 k2 hT
    go_wp2_with (at_builtin;refine wpList_append_run rfl (.tmp 14) (.tmp 21) 107 rfl (.slice a1 k c1) (.slice (some ⟨w2.heap.size,0,none⟩) 1 1) _ rfl rfl s1 ?_)
    go_roundg (x.args.length-(k+1))
    case rel=>
     refine⟨k+1,by omega,by go_num,Nat.le_refl _,?_,G.out.2⟩
     have e:pG (R.take (k+1))=pG (R.take k)++[.int .u8 T]:=by
      unfold pG;rw[List.take_add_one,HN.out];simp
     rw[e];exact G.out.1
    case measure=>have:=zq.out.1;omega
   ·obtain rfl:k=x.args.length:=by omega
    rw[List.take_of_length_le (by rw[HL.out];exact Nat.le_refl _)]at ho
    obtain⟨pa,n',pc,pe,_,_,_,hcell⟩:=Reads.EZ ho
    injection pe with pe1 UQ Qj
    subst pe1 Qj
    have e0:=hkp.cell (p:=⟨w.heap.size,0,none⟩) (fun h=>h) d0
    obtain⟨o,hox⟩: ∃o,x.op=o:=⟨_,rfl⟩
    have KF:=Lib.hid (K0.out.trans hkp)
    clear ho hkp UQ hg
    rw[hox]at hop HX HA e0 h0 h1
    have Y:=Lib.hid (show R=[]\/ ∃bi BJ,a1=some ⟨bi,BJ,none⟩/\ ∀k t,R[k]?=some t->wr.cell? ⟨bi,BJ+k,none⟩=some (.int .u8 t)from by
     rcases hcell with h|⟨bi,BJ,rfl,hc⟩
     ·left;unfold pG at h;simpa using h
     ·exact .inr ⟨bi,BJ,rfl,fun k t ht=>hc k _ (by unfold pG;rw[List.getElem?_map,ht];rfl)⟩)
    clear hcell d0 d2
    obtain⟨N,hN⟩: ∃N,x.args.length=N:=⟨_,rfl⟩
    rw[hN]at HA HL dd hl h3
    rw[hN]
    clear hN hkl hlt HR HM H5 IH
    go_wp2_with fail
    go_loopg [5,6] N (fun g vs vi W=> ∃k:Nat,k<=N/\vi= .int .i64 (k:Int)/\vs= .int .u8 (jc (R.take k))/\N-k<=g/\W=wr/\ ∀t∈R.take k,t≠0)
    case atStart=>exact⟨0,by omega,rfl,by rw[List.take_zero];rfl,by omega,rfl,by simp⟩
    case round=>
     obtain⟨k,hkl,rfl,rfl,hg,rfl,hall⟩:=hrel
     have hSr:=PW (l:=R.take k) (fun t ht=>HT.out t (List.mem_of_mem_take ht))
     by_cases hlt:k<N
     ·obtain⟨t,ht⟩: ∃t,R[k]?=some t:=⟨_,List.getElem?_eq_getElem (by rw[HL.out];exact hlt)⟩
      obtain⟨bi,BJ,rfl,hc⟩:=Y.out.resolve_left (fun h=>by rw[h]at ht;cases ht)
      have y:=hc k t ht
      have htr:=HT.out t (List.mem_of_getElem? ht)
      have hsn:=FU ht
      obtain⟨S,hS⟩: ∃S,jc (R.take k)=S:=⟨_,rfl⟩
      rw[hS]at hSr hsn
      rw[hS]
      have HS:=Lib.hid (And.intro ht (And.intro hsn (And.intro hall hg)))
      have CC:=Lib.hid hc
      clear ht hsn hall hg hS hc
      by_cases t0:t=0
      ·subst t0
       have Z:=Lib.hid (HZ.out (List.mem_of_getElem? HS.out.1))
       go_wp2_with fail
       go_ret
       exact⟨jD Z.out.symm,KF.out⟩
      ·have tb:(t==0)=false:=by simp[t0]
       have nx: ∀z∈R.take (k+1),z≠0:=by
        intro z hz
        rw[List.take_add_one,HS.out.1]at hz
        rcases List.mem_append.1 hz with hz|hz
        ·exact HS.out.2.2.1 z hz
        ·rw[show z=t by simpa using hz];exact t0
       have NX:=Lib.hid nx
       clear nx t0
       by_cases k0:k=0
       ·have kb:((k:Int)==0)=true:=by simp[k0]
        have E:=Lib.hid (show jc (R.take (k+1))=t by rw[HS.out.2.1,if_pos (.inl k0)])
        clear k0
        go_wp2_with fail
        go_roundg (N-(k+1))
        case rel=>exact⟨k+1,by omega,by go_num,by rw[E.out],Nat.le_refl _,rfl,NX.out⟩
        case measure=>have:=HS.out.2.2.2;omega
       ·have kb:((k:Int)==0)=false:=by simp[k0]
        by_cases st:S=t
        ·have sb:(S==t)=true:=by simp[st]
         have E:=Lib.hid (show jc (R.take (k+1))=t by rw[HS.out.2.1,if_pos (.inr st)])
         clear k0 st
         go_wp2_with fail
         go_roundg (N-(k+1))
         case rel=>exact⟨k+1,by omega,by go_num,by rw[E.out],Nat.le_refl _,rfl,NX.out⟩
         case measure=>have:=HS.out.2.2.2;omega
        ·have sb:(S==t)=false:=by simp[st]
         have E:=Lib.hid (show jc (R.take (k+1))=3 by rw[HS.out.2.1,if_neg (by rintro(h|h);exact k0 h;exact st h)])
         clear k0 st
         go_wp2_with fail
         go_roundg (N-(k+1))
         case rel=>exact⟨k+1,by omega,by go_num,by rw[E.out],Nat.le_refl _,rfl,NX.out⟩
         case measure=>have:=HS.out.2.2.2;omega
     ·obtain rfl:k=N:=by omega
      rw[List.take_of_length_le (by rw[HL.out];exact Nat.le_refl _)]at hall hSr
      rw[List.take_of_length_le (by rw[HL.out];exact Nat.le_refl _)]
      have F:=Lib.hid (HX.out hall)
      obtain⟨S,hS⟩: ∃S,jc R=S:=⟨_,rfl⟩
      rw[hS]at hSr F
      rw[hS]
      clear hS hall hg HX HZ
      obtain rfl|rfl|rfl|rfl|rfl|rfl|rfl|rfl|rfl|rfl|rfl|rfl|rfl|rfl|rfl|rfl|rfl|rfl:o=1\/o=2\/o=3\/o=4\/o=5\/o=6\/o=7\/o=8\/o=9\/o=10\/o=11\/o=12\/o=13\/o=14\/o=15\/o=16\/o=17\/o=18:=by omega
      ·have Z:=Lib.hid (show aV (f+1) x=1 by rw[F.out];simp[dD])
       go_wp2_with fail
       go_ret
       exact⟨jD Z.out.symm,KF.out⟩
      ·have Z:=Lib.hid (show aV (f+1) x=1 by rw[F.out];simp[dD])
       go_wp2_with fail
       go_ret
       exact⟨jD Z.out.symm,KF.out⟩
      ·have Z:=Lib.hid (show aV (f+1) x=1 by rw[F.out];simp[dD])
       go_wp2_with fail
       go_ret
       exact⟨jD Z.out.symm,KF.out⟩
      ·have Z:=Lib.hid (show aV (f+1) x=1 by rw[F.out];simp[dD])
       go_wp2_with fail
       go_ret
       exact⟨jD Z.out.symm,KF.out⟩
      ·by_cases cS:S=1
       ·have Z:=Lib.hid (show aV (f+1) x=1 by rw[F.out];simp[dD,cS])
        have bS:(S==1)=true:=by simp[cS]
        clear cS
        go_wp2_with fail
        go_ret
        exact⟨jD Z.out.symm,KF.out⟩
       ·have Z:=Lib.hid (show aV (f+1) x=0 by rw[F.out];simp[dD,cS])
        have bS:(S==1)=false:=by simp[cS]
        clear cS
        go_wp2_with fail
        go_ret
        exact⟨jD Z.out.symm,KF.out⟩
      ·by_cases cS:S=2
       ·have Z:=Lib.hid (show aV (f+1) x=2 by rw[F.out];simp[dD,cS])
        have bS:(S==2)=true:=by simp[cS]
        clear cS
        go_wp2_with fail
        go_ret
        exact⟨jD Z.out.symm,KF.out⟩
       ·have Z:=Lib.hid (show aV (f+1) x=0 by rw[F.out];simp[dD,cS])
        have bS:(S==2)=false:=by simp[cS]
        clear cS
        go_wp2_with fail
        go_ret
        exact⟨jD Z.out.symm,KF.out⟩
      ·by_cases cS:S=1
       ·have Z:=Lib.hid (show aV (f+1) x=1 by rw[F.out];simp[dD,cS])
        have bS:(S==1)=true:=by simp[cS]
        clear cS
        go_wp2_with fail
        go_ret
        exact⟨jD Z.out.symm,KF.out⟩
       ·have Z:=Lib.hid (show aV (f+1) x=0 by rw[F.out];simp[dD,cS])
        have bS:(S==1)=false:=by simp[cS]
        clear cS
        go_wp2_with fail
        go_ret
        exact⟨jD Z.out.symm,KF.out⟩
      ·by_cases cS:S=1
       ·have Z:=Lib.hid (show aV (f+1) x=1 by rw[F.out];simp[dD,cS])
        have bS:(S==1)=true:=by simp[cS]
        clear cS
        go_wp2_with fail
        go_ret
        exact⟨jD Z.out.symm,KF.out⟩
       ·have Z:=Lib.hid (show aV (f+1) x=0 by rw[F.out];simp[dD,cS])
        have bS:(S==1)=false:=by simp[cS]
        clear cS
        go_wp2_with fail
        go_ret
        exact⟨jD Z.out.symm,KF.out⟩
      ·by_cases cS:S=1
       ·have Z:=Lib.hid (show aV (f+1) x=1 by rw[F.out];simp[dD,cS])
        have bS:(S==1)=true:=by simp[cS]
        clear cS
        go_wp2_with fail
        go_ret
        exact⟨jD Z.out.symm,KF.out⟩
       ·have Z:=Lib.hid (show aV (f+1) x=0 by rw[F.out];simp[dD,cS])
        have bS:(S==1)=false:=by simp[cS]
        clear cS
        go_wp2_with fail
        go_ret
        exact⟨jD Z.out.symm,KF.out⟩
      ·by_cases cS:S=1
       ·have Z:=Lib.hid (show aV (f+1) x=1 by rw[F.out];simp[dD,cS])
        have bS:(S==1)=true:=by simp[cS]
        clear cS
        go_wp2_with fail
        go_ret
        exact⟨jD Z.out.symm,KF.out⟩
       ·have Z:=Lib.hid (show aV (f+1) x=0 by rw[F.out];simp[dD,cS])
        have bS:(S==1)=false:=by simp[cS]
        clear cS
        go_wp2_with fail
        go_ret
        exact⟨jD Z.out.symm,KF.out⟩
      ·by_cases cS:S=1
       ·have Z:=Lib.hid (show aV (f+1) x=1 by rw[F.out];simp[dD,cS])
        have bS:(S==1)=true:=by simp[cS]
        clear cS
        go_wp2_with fail
        go_ret
        exact⟨jD Z.out.symm,KF.out⟩
       ·have Z:=Lib.hid (show aV (f+1) x=0 by rw[F.out];simp[dD,cS])
        have bS:(S==1)=false:=by simp[cS]
        clear cS
        go_wp2_with fail
        go_ret
        exact⟨jD Z.out.symm,KF.out⟩
      ·by_cases cS:S=1
       ·have Z:=Lib.hid (show aV (f+1) x=2 by rw[F.out];simp[dD,cS])
        have bS:(S==1)=true:=by simp[cS]
        clear cS
        go_wp2_with fail
        go_ret
        exact⟨jD Z.out.symm,KF.out⟩
       ·have Z:=Lib.hid (show aV (f+1) x=0 by rw[F.out];simp[dD,cS])
        have bS:(S==1)=false:=by simp[cS]
        clear cS
        go_wp2_with fail
        go_ret
        exact⟨jD Z.out.symm,KF.out⟩
      ·by_cases cS:S=1
       ·have Z:=Lib.hid (show aV (f+1) x=2 by rw[F.out];simp[dD,cS])
        have bS:(S==1)=true:=by simp[cS]
        clear cS
        go_wp2_with fail
        go_ret
        exact⟨jD Z.out.symm,KF.out⟩
       ·have Z:=Lib.hid (show aV (f+1) x=0 by rw[F.out];simp[dD,cS])
        have bS:(S==1)=false:=by simp[cS]
        clear cS
        go_wp2_with fail
        go_ret
        exact⟨jD Z.out.symm,KF.out⟩
      ·by_cases cS:S=3
       ·have Z:=Lib.hid (show aV (f+1) x=0 by rw[F.out];simp[dD,cS])
        have bS:(S !=3)=false:=by simp[cS]
        clear cS
        go_wp2_with fail
        go_ret
        exact⟨jD Z.out.symm,KF.out⟩
       ·have Z:=Lib.hid (show aV (f+1) x=2 by rw[F.out];simp[dD,cS])
        have bS:(S !=3)=true:=by simp[cS]
        clear cS
        go_wp2_with fail
        go_ret
        exact⟨jD Z.out.symm,KF.out⟩
      ·by_cases cS:S=3
       ·have Z:=Lib.hid (show aV (f+1) x=0 by rw[F.out];simp[dD,cS])
        have bS:(S !=3)=false:=by simp[cS]
        clear cS
        go_wp2_with fail
        go_ret
        exact⟨jD Z.out.symm,KF.out⟩
       ·have Z:=Lib.hid (show aV (f+1) x=2 by rw[F.out];simp[dD,cS])
        have bS:(S !=3)=true:=by simp[cS]
        clear cS
        go_wp2_with fail
        go_ret
        exact⟨jD Z.out.symm,KF.out⟩
      ·by_cases cS:S=2
       ·have Z:=Lib.hid (show aV (f+1) x=2 by rw[F.out];simp[dD,cS])
        have bS:(S==2)=true:=by simp[cS]
        clear cS
        go_wp2_with fail
        go_ret
        exact⟨jD Z.out.symm,KF.out⟩
       ·have Z:=Lib.hid (show aV (f+1) x=0 by rw[F.out];simp[dD,cS])
        have bS:(S==2)=false:=by simp[cS]
        clear cS
        go_wp2_with fail
        go_ret
        exact⟨jD Z.out.symm,KF.out⟩
      ·by_cases cS:S=2
       ·have Z:=Lib.hid (show aV (f+1) x=2 by rw[F.out];simp[dD,cS])
        have bS:(S==2)=true:=by simp[cS]
        clear cS
        go_wp2_with fail
        go_ret
        exact⟨jD Z.out.symm,KF.out⟩
       ·have Z:=Lib.hid (show aV (f+1) x=0 by rw[F.out];simp[dD,cS])
        have bS:(S==2)=false:=by simp[cS]
        clear cS
        go_wp2_with fail
        go_ret
        exact⟨jD Z.out.symm,KF.out⟩
      ·obtain rfl:k=3:=by have:=HA.out;simp[arity]at this;omega
       match R,HL.out,HT.out,F.out,Y.out with
       |[ta,tb,tc],_,HT,F,Y=>
        obtain⟨bi,BJ,rfl,hc⟩:=Y.resolve_left (by simp)
        have y0:=hc 0 ta rfl
        have y1:=hc 1 tb rfl
        have y2:=hc 2 tc rfl
        rw[Nat.add_zero]at y0
        have hta:=HT ta (by simp)
        have htb:=HT tb (by simp)
        have htc:=HT tc (by simp)
        have Fx:=Lib.hid F
        clear hc F HT Y
        by_cases ca:ta=2
        ·have ba:(ta==2)=true:=by simp[ca]
         by_cases cb:tb=tc
         ·have bb:(tb==tc)=true:=by simp[cb]
          have Z:=Lib.hid (show aV (f+1) x=tb by rw[Fx.out];simp[dD,ca,cb])
          clear ca cb
          go_wp2_with fail
          refine aZ [0,1,2,3,4,5,6,7,8,9,10,11,12] (fun W=>Kept none' wr W) (by kernel_rfl) (by kernel_rfl) rfl (Kept.refl _ _).drew ?_
          simp only[List.map_cons,List.map_nil,List.getElem?_toArray,List.getElem?_cons_zero,List.getElem?_cons_succ,Option.getD_some]
          iterate 13 (first|(apply dJ rfl;go_frame)|(apply bC rfl rfl;(intro W hW;have z0:=hW.cell (fun h=>h) y0;have z1:=hW.cell (fun h=>h) y1;have z2:=hW.cell (fun h=>h) y2;go_simp;rfl);go_frame))
          refine fU (fun _=>(Kept.refl _ _).drew) ?_
          go_wp2_with fail
          go_ret
          exact⟨jD Z.out.symm,KF.out.drew⟩
         ·have bb:(tb==tc)=false:=by simp[cb]
          have Z:=Lib.hid (show aV (f+1) x=0 by rw[Fx.out];simp[dD,ca,cb])
          clear ca cb
          go_wp2_with fail
          refine aZ [0,1,2,3,4,5,6,7,8,9,10,11,12] (fun W=>Kept none' wr W) (by kernel_rfl) (by kernel_rfl) rfl (Kept.refl _ _).drew ?_
          simp only[List.map_cons,List.map_nil,List.getElem?_toArray,List.getElem?_cons_zero,List.getElem?_cons_succ,Option.getD_some]
          iterate 13 (first|(apply dJ rfl;go_frame)|(apply bC rfl rfl;(intro W hW;have z0:=hW.cell (fun h=>h) y0;have z1:=hW.cell (fun h=>h) y1;have z2:=hW.cell (fun h=>h) y2;go_simp;rfl);go_frame))
          refine fU (fun _=>(Kept.refl _ _).drew) ?_
          go_wp2_with fail
          go_ret
          exact⟨jD Z.out.symm,KF.out.drew⟩
        ·have ba:(ta==2)=false:=by simp[ca]
         have Z:=Lib.hid (show aV (f+1) x=0 by rw[Fx.out];simp[dD,ca])
         clear ca
         go_wp2_with fail
         refine aZ [0,1,2,3,4,5,6,7,8,9,10,11,12] (fun W=>Kept none' wr W) (by kernel_rfl) (by kernel_rfl) rfl (Kept.refl _ _).drew ?_
         simp only[List.map_cons,List.map_nil,List.getElem?_toArray,List.getElem?_cons_zero,List.getElem?_cons_succ,Option.getD_some]
         iterate 13 (first|(apply dJ rfl;go_frame)|(apply bC rfl rfl;(intro W hW;have z0:=hW.cell (fun h=>h) y0;have z1:=hW.cell (fun h=>h) y1;have z2:=hW.cell (fun h=>h) y2;go_simp;rfl);go_frame))
         refine fU (fun _=>(Kept.refl _ _).drew) ?_
         go_wp2_with fail
         go_ret
         exact⟨jD Z.out.symm,KF.out.drew⟩
theorem ES {x:Ex}{acc:Bool}{r:Int×Int}{w w':World}{a b:Int}(h:dZ x acc=r)(k:Kept none' w w')(ha:a=r.1)(hb:b=r.2):rG w (dZ x acc) (.returned (.tuple #[.int .u8 a, .int .i64 b])) w':=by
 rw[h,ha,hb];exact⟨rfl,k⟩
theorem YM (x:Ex)(acc:Bool)(a:Array Value)(w:World)(h:bg w a x):Calls Tryz.prog 151 #[.agg a, .bool acc] w (rG w (dZ x acc)):=by
 obtain⟨p,cap,rfl,h0,h1,h2,h3,h4,h5⟩:=h.parts
 have H:=Lib.hid h
 have VY:=Lib.hid (show dZ x acc=if dU 16 x=false then(0,2)else if acc=false/\iy x=true then(0,90)else if aV 16 x=0 then(0,91)else(aV 16 x,0)from rfl)
 clear h h5
 go_enter Tryz.func151,Tryz.ntmps151
 go_wp2_with fail
 have k1:Kept none' w (w.alloc (.cells #[.int .u8 x.op, .int .i64 x.n, .slice p x.args.length cap] 77)):=(Kept.refl _ _).alloc _
 (with_reducible refine(acs x _ _ (bg.pure k1 H.out)).mono ?_)
 rintro e w2 ⟨rfl,k2⟩
 have d0:=k2.cell (p:=⟨w.heap.size,0,none⟩) (v:= .int .u8 x.op) (fun h=>h) (by simp)
 have d1:=k2.cell (p:=⟨w.heap.size,1,none⟩) (v:= .int .i64 x.n) (fun h=>h) (by simp)
 have d2:=k2.cell (p:=⟨w.heap.size,2,none⟩) (v:= .slice p x.args.length cap) (fun h=>h) (by simp)
 have K2:=Lib.hid (k1.trans k2)
 clear k1 k2
 cases hm:dU 16 x with
 |false=>
  have F:=Lib.hid (show dZ x acc=(0,2) by rw[VY.out,if_pos hm])
  clear hm
  go_wp2_with fail
  go_ret2
  exact ES F.out K2.out rfl rfl
 |true=>
  have HM:=Lib.hid hm
  clear hm
  cases acc with
  |true=>
   go_wp2_with fail
   have c:=GU 16 x _ w2 HM.out (bg.pure K2.out H.out)
   (with_reducible refine c.mono ?_)
   clear c
   rintro e w3 ⟨rfl,k3⟩
   have K3:=Lib.hid (K2.out.trans k3)
   clear k3
   have ht:=tZ 16 x
   obtain⟨T,hT⟩: ∃T,aV 16 x=T:=⟨_,rfl⟩
   rw[hT]at ht
   rw[hT]
   by_cases t0:T=0
   ·have F:=Lib.hid (show dZ x true=(0,91) by rw[VY.out,if_neg (by rw[HM.out];simp),if_neg (by simp),hT,if_pos t0])
    subst t0
    clear hT ht
    go_wp2_with fail
    go_ret2
    exact ES F.out K3.out rfl rfl
   ·have F:=Lib.hid (show dZ x true=(T,0) by rw[VY.out,if_neg (by rw[HM.out];simp),if_neg (by simp),hT,if_neg t0])
    have tb:(T==0)=false:=by simp[t0]
    have hr:0<=T/\T<=2:=by omega
    clear hT ht t0
    go_wp2_with fail
    go_ret2
    exact ES F.out K3.out rfl rfl
  |false=>
   go_wp2_with fail
   have c:=Nq _ x _ w2 (Nat.le_refl _) (bg.pure K2.out H.out)
   (with_reducible refine c.mono ?_)
   clear c
   rintro e w3 ⟨rfl,k3⟩
   have d0:=k3.cell (p:=⟨w.heap.size,0,none⟩) (fun h=>h) d0
   have d1:=k3.cell (p:=⟨w.heap.size,1,none⟩) (fun h=>h) d1
   have d2:=k3.cell (p:=⟨w.heap.size,2,none⟩) (fun h=>h) d2
   have K3:=Lib.hid (K2.out.trans k3)
   clear k3
   cases hA:iy x with
   |true=>
    have F:=Lib.hid (show dZ x false=(0,90) by rw[VY.out,if_neg (by rw[HM.out];simp),if_pos (by simp[hA])])
    clear hA
    go_wp2_with fail
    go_ret2
    exact ES F.out K3.out rfl rfl
   |false=>
    have HA:=Lib.hid hA
    clear hA
    go_wp2_with fail
    have c:=GU 16 x _ w3 HM.out (bg.pure K3.out H.out)
    (with_reducible refine c.mono ?_)
    clear c
    rintro e w4 ⟨rfl,k4⟩
    have K4:=Lib.hid (K3.out.trans k4)
    clear k4
    have ht:=tZ 16 x
    obtain⟨T,hT⟩: ∃T,aV 16 x=T:=⟨_,rfl⟩
    rw[hT]at ht
    rw[hT]
    by_cases t0:T=0
    ·have F:=Lib.hid (show dZ x false=(0,91) by rw[VY.out,if_neg (by rw[HM.out];simp),if_neg (by rw[HA.out];simp),hT,if_pos t0])
     subst t0
     clear hT ht
     go_wp2_with fail
     go_ret2
     exact ES F.out K4.out rfl rfl
    ·have F:=Lib.hid (show dZ x false=(T,0) by rw[VY.out,if_neg (by rw[HM.out];simp),if_neg (by rw[HA.out];simp),hT,if_neg t0])
     have tb:(T==0)=false:=by simp[t0]
     have hr:0<=T/\T<=2:=by omega
     clear hT ht t0
     go_wp2_with fail
     go_ret2
     exact ES F.out K4.out rfl rfl
theorem Ua (x:Ex)(acc:Bool):(0<=(dZ x acc).1/\(dZ x acc).1<=2)/\0<=(dZ x acc).2/\(dZ x acc).2<=91:=by
 have:=tZ 16 x
 unfold dZ
 split
 ·exact⟨⟨by decide,by decide⟩,by decide,by decide⟩
 ·split
  ·exact⟨⟨by decide,by decide⟩,by decide,by decide⟩
  ·split
   ·exact⟨⟨by decide,by decide⟩,by decide,by decide⟩
   ·dsimp only;omega
theorem sZ (x:Ex)(acc:Bool)(ty:Int)(a:Array Value)(w:World)(h:bg w a x):Calls Tryz.prog 107 #[.agg a, .bool acc, .int .u8 ty] w (Gives w (.bool (lJ x acc ty))):=by
 obtain⟨p,cap,rfl,_,_,h2,h3,h4,h5⟩:=h.parts
 have H:=Lib.hid h
 have HI:=Lib.hid (show lJ x acc ty=((dZ x acc).2==0&&(dZ x acc).1==ty)from rfl)
 have hr:=Ua x acc
 clear h h5
 go_enter Tryz.func107,Tryz.ntmps107
 go_wp2_with fail
 have k1:Kept none' w (w.alloc (.cells #[.int .u8 x.op, .int .i64 x.n, .slice p x.args.length cap] 77)):=(Kept.refl _ _).alloc _
 have c:=YM x acc _ _ (bg.pure k1 H.out)
 (with_reducible refine c.mono ?_)
 clear c
 rintro e w2 ⟨rfl,k2⟩
 have K2:=Lib.hid (k1.trans k2)
 clear k1 k2
 obtain⟨r,hr'⟩: ∃r,dZ x acc=r:=⟨_,rfl⟩
 rw[hr']at hr
 have HR:=Lib.hid hr'
 rw[hr']
 clear hr'
 obtain⟨k,e⟩:=r
 dsimp only at hr⊢
 obtain⟨⟨r1,r2⟩,r3,r4⟩:=hr
 by_cases he:e=0
 ·subst he
  have F:=Lib.hid (show lJ x acc ty=(k==ty) by rw[HI.out,HR.out];rfl)
  go_wp2_with fail
  go_ret
  exact⟨aU F.out.symm,K2.out⟩
 ·have eb:(e==0)=false:=by simp[he]
  have F:=Lib.hid (show lJ x acc ty=false by rw[HI.out,HR.out];simp[he])
  clear he
  go_wp2_with fail
  go_ret
  exact⟨aU F.out.symm,K2.out⟩
theorem ZH: ∃i,Tryz.prog.info? 21=some i/\i.zero=some (.int .i32 0)/\i.size=1/\i.bytes=4:=by
 have h:(Tryz.prog.info? 21).map (fun i=>(i.zero,i.size,i.bytes))=some (some (.int .i32 0),1,4):=by kernel_rfl
 obtain⟨i,h1,h2⟩:=Option.map_eq_some_iff.1 h
 injection h2 with h2 h3
 injection h3 with h3 h4
 exact⟨i,h1,h2,h3,h4⟩
def xP (l:List (Nat×Nat)):List Value:=l.map fun p=> .int .i32 (p.2:Int)
def XW (l:List (Nat×Nat)):List Value:=l.map fun p=> .int .i64 (p.1:Int)
def agW (w:World)(s:ByteArray)(e:Ending)(w':World):Prop:= ∃v1 v2,e= .returned (.tuple #[v1,v2])/\w'.ownsRow w.heap.size 21 1 v1 (runes s).length (xP (runes s))/\Kept none' w w'
theorem ownBlock_ne {w:World}{base E1 E2 n1 n2:Nat}{v1 v2:Value}{xs1 xs2:List Value}(h1:w.ownsRow base E1 1 v1 n1 xs1)(h2:w.ownsRow base E2 1 v2 n2 xs2)(hE:E1≠E2){k:Nat}(hk:v1.ownBlock=some k):v2.ownBlock≠some k:=by
 rcases h1.2 with⟨e1,_⟩|⟨g,cap,cur,e1,_,hg,_⟩
 ·rw[e1]at hk;cases hk
 ·rw[e1]at hk
  have:g=k:=by simpa[Value.ownBlock]using hk
  subst this
  exact row_ne h2 hg hE
theorem YD (s:ByteArray)(hs:s.size<=70000)(w:World):Calls Tryz.prog 149 #[.string s] w (agW w s):=by
 obtain⟨w0,hrun,hit,hk0,hs0⟩:=C9 (P:=Tryz.prog) w 9 s Tryz.underlying9
 have hlen:=sV s
 have H:=Lib.hid (And.intro hit (And.intro hk0 hs0))
 clear hit hk0 hs0
 go_enter Tryz.func149,Tryz.ntmps149
 go_wp2
 go_loopg [4,5] (runes s).length (fun k v1 v2 wr=> ∃left done,rF wr w.heap.size s left/\runes s=done++left/\left.length=k/\wr.ownsRow w.heap.size 21 1 v1 done.length (xP done)/\wr.ownsRow w.heap.size 3 1 v2 done.length (XW done)/\Kept none' w wr)
 case atStart=>exact⟨runes s,[],H.out.1,rfl,rfl,World.ownsRow_nil _ _ _ _,World.ownsRow_nil _ _ _ _,H.out.2.1⟩
 case round=>
  obtain⟨left,done,hit,hall,hk,ho1,ho2,hk1⟩:=hrel
  obtain⟨a1,c1,rfl⟩:=dP ho1
  obtain⟨a2,c2,rfl⟩:=dP ho2
  rcases hit.next (P:=Tryz.prog) 0 with⟨rfl,hrun⟩|⟨p,left',w2,hp,hrun,hit2,hk2,hs2⟩
  ·clear hit
   rw[List.append_nil]at hall
   subst hall
   have F:=Lib.hid (And.intro ho1 hk1)
   clear ho1 ho2 hk1
   go_wp2_with fail
   go_ret2
   exact⟨_,_,rfl,F.out.1,F.out.2⟩
  ·have hl:runes s=done++p::left':=by rw[hall,hp]
   have hdl:done.length+1<=70000:=by
    rw[hl]at hlen;simp at hlen;omega
   have hm:left'.length<gk:=by rw[hp]at hk;simp at hk;omega
   have Zq: ∀{v:Value}{E n:Nat}{xs:List Value},wr.ownsRow w.heap.size E 1 v n xs->v.ownBlock≠some w.heap.size:=fun{v E n xs} ho e=>by
    rcases ho.2 with⟨e1,_⟩|⟨g,cap,cur,e1,_,hg,_⟩
    ·rw[e1]at e;cases e
    ·rw[e1]at e
     have:g=w.heap.size:=by simpa[Value.ownBlock]using e
     subst this
     exact hit.abl _ _ _ hg
   have o1:w2.ownsRow w.heap.size 21 1 (.slice a1 done.length c1) done.length (xP done):=hk2.owns ho1 (fun k hk hs=>Zq ho1 (by rw[hk,show k=w.heap.size from hs]))
   have o2:w2.ownsRow w.heap.size 3 1 (.slice a2 done.length c2) done.length (XW done):=hk2.owns ho2 (fun k hk hs=>Zq ho2 (by rw[hk,show k=w.heap.size from hs]))
   have hb2:w.heap.size<=w2.heap.size:=by have:=hk1.size;have:=hk2.size;omega
   obtain⟨i1,hi1,hz1,hsz1,Ry⟩:=ZH
   obtain⟨g1,cp1,w3,r1,p1,q1⟩:=pK (x:= .int .i32 (p.2:Int)) (bytes:=4) Tryz.underlying211 hi1 hz1 hsz1 Ry rfl rfl o1 (by omega) (by omega) hb2 245
   have o2':w3.ownsRow w.heap.size 3 1 (.slice a2 done.length c2) done.length (XW done):=q1.owns o2 (fun k hk hs=>ownBlock_ne o1 o2 (by decide) hs hk)
   obtain⟨i2,hi2,hz2,hsz2,Eh⟩:=rM
   obtain⟨g2,cp2,w4,r2,p2,q2⟩:=pK (x:= .int .i64 (p.1:Int)) (bytes:=8) Tryz.underlying74 hi2 hz2 hsz2 Eh rfl rfl o2' (by omega) (by omega) (by have:=q1.size;omega) 37
   have p1':w4.ownsRow w.heap.size 21 1 (.slice (some ⟨g1,0,none⟩) (done.length+1) cp1) (done.length+1) (xP done++[.int .i32 (p.2:Int)]):=q2.owns p1 (fun k hk hs=>ownBlock_ne o2' p1 (by decide) hs hk)
   have hk3:Kept none' w w2:=hk1.new hk2 (fun i hi e=>by unfold one at e;omega)
   have hown: ∀{v:Value}{E n:Nat}{xs:List Value}{W:World},W.ownsRow w.heap.size E 1 v n xs-> ∀k,v.ownBlock=some k->w.heap.size<=k:=fun ho k hk=>(kP ho hk).1
   have hk4:Kept none' w w4:=(hk3.new q1 (fun i hi e=>by have:=hown o1 i e;omega)).new q2 (fun i hi e=>by have:=hown o2' i e;omega)
   have it4:rF w4 w.heap.size s left':=(hit2.kept q1 (fun e=>Zq ho1 e)).kept q2 (fun e=>Zq ho2 e)
   have G:=Lib.hid (And.intro it4 (And.intro hl (And.intro p1' (And.intro p2 (And.intro hk4 hm)))))
   clear hit hit2 hall hk ho1 ho2 hk1 hl hm Zq o1 o2 o2' p1 p1' p2 q1 q2 hk2 hs2 hk3 hk4 it4 hown hi1 hz1 hsz1 Ry hi2 hz2 hsz2 Eh hp H hlen
   go_wp2_with (first|(at_builtin;refine wpList_append_run rfl (.tmp 14) (.tmp 16) 211 rfl (.slice a1 done.length c1) (.slice (some ⟨w2.heap.size,0,none⟩) 1 1) _ rfl rfl r1 ?_)|(at_builtin;refine wpList_append_run rfl (.tmp 18) (.tmp 20) 74 rfl (.slice a2 done.length c2) (.slice (some ⟨w3.heap.size,0,none⟩) 1 1) _ rfl rfl r2 ?_))
   go_roundg left'.length
   case rel=>
    refine⟨left',done++[p],G.out.1,by rw[G.out.2.1];simp,rfl,?_,?_,G.out.2.2.2.2.1⟩
    ·have:=G.out.2.2.1;simpa[xP]using this
    ·have:=G.out.2.2.2.1;simpa[XW]using this
   case measure=>exact G.out.2.2.2.2.2
theorem FW (r:Nat)(w:World):Calls Tryz.prog 150 #[.int .i32 (r:Int)] w fun e w'=>e= .returned (.bool (jo r))/\w=w':=by
 go_enter Tryz.func150,Tryz.ntmps150
 go_wp2
 all_goals
  go_ret
  refine⟨xY ?_,rfl⟩
  rw[Bool.eq_iff_iff,Gh]
  simp only[Bool.or_eq_true,decide_eq_true_eq,bne_iff_ne,ne_eq,Bool.false_eq_true,true_iff,false_iff]
  omega
theorem vw {s:ByteArray}{p:Nat×Nat}{l:List (Nat×Nat)}(h:runes s=p::l):fK s=(jo p.2&&(p::l).all (fun q=>iQ q.2)&&decide ((p::l).length<=24)):=by
 unfold fK
 rw[h];rfl
theorem WV {s:ByteArray}{q:Nat×Nat}(hq:q∈runes s)(h:iQ q.2=false):fK s=false:=by
 cases e:runes s with
 |nil=>rw[e]at hq;cases hq
 |cons p l=>
  rw[vw e]
  have:(p::l).all (fun q=>iQ q.2)=false:=List.all_eq_false.2 ⟨q,by rw[<-e];exact hq,by simp[h]⟩
  rw[this];simp
theorem YJ (s:ByteArray)(hs:s.size<=70000)(w:World):Calls Tryz.prog 106 #[.string s] w (Gives w (.bool (fK s))):=by
 have cr:=YD s hs w
 have hlen:=sV s
 go_enter Tryz.func106,Tryz.ntmps106
 go_wp2_with fail
 (with_reducible refine cr.mono ?_)
 clear cr
 rintro e w2 ⟨v1,v2,rfl,ho,k2⟩
 obtain⟨a1,c1,rfl⟩:=dP ho
 have K2:=Lib.hid k2
 have HS:=Lib.hid hs
 obtain⟨pa,n',pc,pe,_,_,_,hcell⟩:=Reads.EZ ho
 injection pe with pe1 UQ Qj
 subst pe1 Qj
 clear ho k2 UQ
 obtain⟨N,hN⟩: ∃N,(runes s).length=N:=⟨_,rfl⟩
 have hN1:N<=70000:=by omega
 rw[hN]
 by_cases h0:N<1
 ·have F:=Lib.hid (show fK s=false by
   have:runes s=[]:=List.eq_nil_of_length_eq_zero (by omega)
   unfold fK;rw[this];rfl)
  have HH:=Lib.hid hcell
  clear hcell hs hlen
  have HN:=Lib.hid hN
  clear hN
  go_wp2_with fail
  go_ret
  exact⟨jA F.out.symm,K2.out⟩
 ·obtain⟨bi,BJ,rfl,hc2⟩:=hcell.resolve_left (fun h=>by unfold xP at h;simp at h;rw[h]at hN;simp at hN;omega)
  have hcl: ∀k p,(runes s)[k]?=some p->w2.cell? ⟨bi,BJ+k,none⟩=some (.int .i32 (p.2:Int)):=fun k p hp=>hc2 k _ (by unfold xP;rw[List.getElem?_map,hp];rfl)
  have HC:=Lib.hid hcl
  have HN:=Lib.hid hN
  clear hc2 hcl hs hlen
  by_cases h24:24<N
  ·have F:=Lib.hid (show fK s=false by
    cases e:runes s with
    |nil=>rw[e]at hN;simp at hN;omega
    |cons p l=>
     rw[vw e,<-e,hN,decide_eq_false (by omega)];simp)
   clear hN
   go_wp2_with fail
   go_ret
   exact⟨jA F.out.symm,K2.out⟩
  ·obtain⟨p,l,hpl⟩: ∃p l,runes s=p::l:=by
    cases e:runes s with
    |nil=>rw[e]at hN;simp at hN;omega
    |cons p l=>exact⟨p,l,rfl⟩
   have y0:=HC.out 0 p (by rw[hpl];rfl)
   rw[Nat.add_zero]at y0
   have cl:=FW p.2 w2
   obtain⟨r0,hr0⟩: ∃r0,p.2=r0:=⟨_,rfl⟩
   rw[hr0]at y0 cl
   have HP:=Lib.hid (And.intro hpl hr0)
   clear hN hpl
   cases hlet:jo r0 with
   |false=>
    rw[hlet]at cl
    have F:=Lib.hid (show fK s=false by
     rw[vw HP.out.1,HP.out.2,hlet];simp)
    clear hlet hr0
    go_wp2_with (go_at_call 150;refine cl.mono ?_;rintro e w' ⟨rfl,rfl⟩)
    go_ret
    exact⟨jA F.out.symm,K2.out⟩
   |true=>
    rw[hlet]at cl
    have HL:=Lib.hid hlet
    clear hlet hr0
    go_wp2_with (go_at_call 150;refine cl.mono ?_;rintro e w' ⟨rfl,rfl⟩)
    clear cl y0
    go_loopg [5] N (fun g vi wr=> ∃k:Nat,k<=N/\vi= .int .i64 (k:Int)/\N-k<=g/\wr=w2/\ ∀q∈(runes s).take k,iQ q.2=true)
    case atStart=>exact⟨0,by omega,rfl,by omega,rfl,by simp⟩
    case round=>
     obtain⟨k,hk,rfl,hg,rfl,hall⟩:=hrel
     by_cases hlt:k<N
     ·obtain⟨q,hq⟩: ∃q,(runes s)[k]?=some q:=⟨_,List.getElem?_eq_getElem (by rw[HN.out];exact hlt)⟩
      have y:=HC.out k q hq
      have cl:=FW q.2 wr
      have nx:iQ q.2=true-> ∀p∈(runes s).take (k+1),iQ p.2=true:=fun h p hp=>by
       rw[List.take_add_one,hq]at hp
       rcases List.mem_append.1 hp with hp|hp
       ·exact hall p hp
       ·rw[show p=q by simpa using hp];exact h
      have no:iQ q.2=false->fK s=false:=fun h=>WV (List.mem_of_getElem? hq) h
      have hiff:=JE q.2
      obtain⟨r,hr⟩: ∃r,q.2=r:=⟨_,rfl⟩
      rw[hr]at y cl nx no hiff
      have G:=Lib.hid (And.intro hg (And.intro nx no))
      have HI:=Lib.hid hiff
      clear hq hg hall nx no hiff hr
      cases hlet:jo r with
      |true=>
       rw[hlet]at cl
       have Y:=Lib.hid (G.out.2.1 (HI.out.2 (.inl hlet)))
       clear hlet
       go_wp2_with (go_at_call 150;refine cl.mono ?_;rintro e w' ⟨rfl,rfl⟩)
       go_roundg (N-(k+1))
       case rel=>exact⟨k+1,by omega,by go_num,Nat.le_refl _,rfl,Y.out⟩
       case measure=>have:=G.out.1;omega
      |false=>
       rw[hlet]at cl
       by_cases h48:(r:Int)<48
       ·by_cases h45:(r:Int)=45
        ·have Y:=Lib.hid (G.out.2.1 (HI.out.2 (.inr (.inr h45))))
         have af7:((r:Int) !=45)=false:=by simp[h45]
         clear hlet h45
         go_wp2_with (go_at_call 150;refine cl.mono ?_;rintro e w' ⟨rfl,rfl⟩)
         go_roundg (N-(k+1))
         case rel=>exact⟨k+1,by omega,by go_num,Nat.le_refl _,rfl,Y.out⟩
         case measure=>have:=G.out.1;omega
        ·have Y:=Lib.hid (G.out.2.2 (by
          cases e:iQ r with
          |false=>rfl
          |true=>have:=HI.out.1 e;rw[hlet]at this;simp at this;omega))
         have af7:((r:Int) !=45)=true:=by simp[h45]
         clear hlet h45
         go_wp2_with (go_at_call 150;refine cl.mono ?_;rintro e w' ⟨rfl,rfl⟩)
         go_ret
         exact⟨jA Y.out.symm,K2.out⟩
       ·by_cases h57:57<(r:Int)
        ·have Y:=Lib.hid (G.out.2.2 (by
          cases e:iQ r with
          |false=>rfl
          |true=>have:=HI.out.1 e;rw[hlet]at this;simp at this;omega))
         have af7:((r:Int) !=45)=true:=by
          have:(r:Int)≠45:=by omega
          simpa using this
         clear hlet
         go_wp2_with (go_at_call 150;refine cl.mono ?_;rintro e w' ⟨rfl,rfl⟩)
         go_ret
         exact⟨jA Y.out.symm,K2.out⟩
        ·have Y:=Lib.hid (G.out.2.1 (HI.out.2 (.inr (.inl ⟨by omega,by omega⟩))))
         clear hlet
         go_wp2_with (go_at_call 150;refine cl.mono ?_;rintro e w' ⟨rfl,rfl⟩)
         go_roundg (N-(k+1))
         case rel=>exact⟨k+1,by omega,by go_num,Nat.le_refl _,rfl,Y.out⟩
         case measure=>have:=G.out.1;omega
     ·have hkN:k=N:=by omega
      subst hkN
      have F:=Lib.hid (show fK s=true by
       rw[vw HP.out.1,HP.out.2,HL.out,<-HP.out.1,HN.out,decide_eq_true (by omega),Bool.true_and,Bool.and_true,List.all_eq_true]
       intro q hq
       exact hall q (by rw[List.take_of_length_le (by rw[HN.out];exact Nat.le_refl _)];exact hq))
      clear hall hg
      go_wp2_with fail
      go_ret
      exact⟨jA F.out.symm,K2.out⟩
end Go.Proofs.YtakhobfamnjnoaaGreatDoor
