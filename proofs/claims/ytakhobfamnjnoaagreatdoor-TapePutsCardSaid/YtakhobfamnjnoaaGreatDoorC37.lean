/- Symbolic runs: a whole tape taken from bytes, as the document does. -/
import Derived.Test.YtakhobfamnjnoaaGreatDoorC36
set_option linter.unusedVariables false
set_option linter.unusedSimpArgs false
namespace Go.Proofs.YtakhobfamnjnoaaGreatDoor
section
namespace Sx
open Go Go.RowKit _root_.Go.Proofs.Tryz
set_option maxRecDepth 100000
set_option maxHeartbeats 4000000
theorem aay (a b:List UInt8):((bs a).toList==(bs b).toList)=decide (a=b):=by
 rw[<-beq_toListBytes,um]
 congr 1
 exact propext ⟨fun h=>by have:=congrArg (fun b:ByteArray=>b.data.toList) h;simpa[bs]using this,fun h=>by rw[h]⟩
theorem FY {st:Sb}{n:Nat}{l:List Ac}{u:Sb}(h:jf n st=some (l,u))(hu:u.2=true): ∀k,jf (n+k) st=some (l,u)
 |0=>h
 |k+1=>by
  have ih:=FY h hu k
  rw[<-Nat.add_assoc,jf,ih]
  dsimp only
  rw[if_pos hu]
theorem FZ {st:Sb}{n:Nat}(h:jf n st=none): ∀k,jf (n+k) st=none
 |0=>h
 |k+1=>by
  have ih:=FZ h k
  rw[<-Nat.add_assoc,jf,ih]
section
variable (bx:{α:Type}->α->α)
def Qc (l:List UInt8)(b:Bool):Hp:=[.one (.row [.p (.str (bx (bs l))), .p (.bool (bx b))] 73)]
end
section
variable {bx:{α:Type}->α->α} (hb: ∀{α:Type}(x:α),bx x=x)
include hb
theorem tq (l:List UInt8)(b:Bool)(hl:l.length<=4611686018427387904):Ct prog 40 [.c (.ptr 0 0 0)] (Qc bx l b) fun r h=>r= .a (.c (.p (.int .i64 (bx (aN (l,b)).1))))/\h=Qc bx (aN (l,b)).2.1 (aN (l,b)).2.2:=ct hb func40 fun Q hQ K hK=>by
 have hz:=cu l
 have hle:=xI l
 have c:=Lh hb l (by unfold maxLen;omega)
 have en:aN (l,b)=((dX l).1,(l.drop (dX l).2.1,b||decide ((dX l).2.2≠0))):=rfl
 rw[en]at hK
 clear en
 generalize dX l=t at hle c hK
 obtain⟨n0,z,f⟩:=t
 dsimp only at hle c hK
 obtain⟨l2,hl2⟩: ∃t,t=l.drop z:=⟨_,rfl⟩
 obtain⟨b2,hb2⟩: ∃t,t=(b||decide (f≠0)):=⟨_,rfl⟩
 rw[<-hl2,<-hb2]at hK
 cbv
 refine call hQ c [] ?_
 rintro _ _ ⟨rfl,rfl⟩
 cbv
 refine⟨fun h1=>?_,fun h1=>?_⟩<;>rw[hb]at h1
 all_goals
  cbv
  refine chk (by simp only[hb,hz,nc];simp only[Bool.and_eq_true,decide_eq_true_eq,Int.ofNat_eq_natCast];omega) ?_
  cbv
  exact hK _ _ (.a (.c (.p (.int .i64 (bx n0))))) (Qc bx l2 b2) (aS [] [.all 0] (hs:=by cbv;(repeat' (first|trivial|rfl|apply And.intro|(simp only[hb,hz,hl2,<-qF];rfl)|(simp[hb,hb2,h1];done))))) ⟨rfl,rfl⟩
theorem YP (l:List UInt8)(b:Bool)(hl:l.length<=4611686018427387904):Ct prog 41 [.c (.ptr 0 0 0)] (Qc bx l b) fun r h=>r= .a (jM bx (jS (l,b)).1)/\h=Qc bx (jS (l,b)).2.1 (jS (l,b)).2.2:=ct hb func41 fun Q hQ K hK=>by
 have hz:=cu l
 have hle:=uD l
 have c:=UF hb l hl
 have en:jS (l,b)=((oV (dA l).1).1,(l.drop (dA l).2.1,(b||decide ((dA l).2.2≠0))||decide ((oV (dA l).1).2≠0))):=rfl
 rw[en]at hK
 clear en
 generalize dA l=t at hle c hK
 obtain⟨n0,z,f⟩:=t
 dsimp only at hle c hK
 have c2:=aeV hb n0 (by omega)
 generalize oV n0=t at c2 hK
 obtain⟨j,g⟩:=t
 dsimp only at c2 hK
 obtain⟨l2,hl2⟩: ∃t,t=l.drop z:=⟨_,rfl⟩
 obtain⟨b2,hb2⟩: ∃t,t=((b||decide (f≠0))||decide (g≠0)):=⟨_,rfl⟩
 rw[<-hl2,<-hb2]at hK
 cbv
 refine call hQ c [] ?_
 rintro _ _ ⟨rfl,rfl⟩
 cbv
 refine chk (by simp only[hb,hz,nc];simp only[Bool.and_eq_true,decide_eq_true_eq,Int.ofNat_eq_natCast];omega) ?_
 cbv
 refine call hQ c2 [] ?_
 rintro _ _ ⟨rfl,rfl⟩
 cbv
 refine⟨fun h1=>?_,fun h1=>?_⟩<;>rw[hb]at h1
 ·cbv
  exact hK _ _ (.a (jM bx j)) (Qc bx l2 b2) (aS [] [.all 0] (hs:=by cbv;(repeat' (first|trivial|rfl|apply And.intro|(simp only[hb,hz,hl2,<-qF];rfl)|(simp[hb,hb2,h1];done))))) ⟨rfl,rfl⟩
 ·cbv
  refine⟨fun h2=>?_,fun h2=>?_⟩<;>simp only[hb,pl]at h2
  all_goals
   cbv
   exact hK _ _ (.a (jM bx j)) (Qc bx l2 b2) (aS [] [.all 0] (hs:=by cbv;(repeat' (first|trivial|rfl|apply And.intro|(simp only[hb,hz,hl2,<-qF];rfl)|(simp[hb,hb2,h1,h2];done))))) ⟨rfl,rfl⟩
theorem adB (l:List UInt8)(hS:nM)(hl:l.length<=4611686018427387904):Ct prog 14 [.c (.p (.str (bx (bs l))))] [] fun r h=>r= .aK [gV bx (mZ l).1, .c (.p (.int .i64 (bx (mZ l).2)))]/\h=[]:=ct hb func14 fun Q hQ K hK=>by
 have et:mZ l=if 2000<(aN (jS (aN (aN (l,false)).2).2).2).1 then(zT,21)else match jf (aN (jS (aN (aN (l,false)).2).2).2).1.toNat (aN (jS (aN (aN (l,false)).2).2).2).2 with
  |none=>(zT,21)
  |some L=>ET l ⟨(aN (l,false)).1,(aN (aN (l,false)).2).1,(jS (aN (aN (l,false)).2).2).1,L.1⟩ L.2.2:=rfl
 rw[et]at hK
 clear et
 have q1:=fG (l,false)
 have k1:=tq hb l false hl
 generalize aN (l,false)=t at q1 k1 hK
 obtain⟨b,l1,e1⟩:=t
 dsimp only at q1 k1 hK
 have hl1:=Nat.le_trans q1.2 hl
 have q2:=fG (l1,e1)
 have k2:=tq hb l1 e1 hl1
 generalize aN (l1,e1)=t at q2 k2 hK
 obtain⟨r,l2,e2⟩:=t
 dsimp only at q2 k2 hK
 have hl2:=Nat.le_trans q2.2 hl1
 have q3:=DC (l2,e2)
 have k3:=YP hb l2 e2 hl2
 generalize jS (l2,e2)=t at q3 k3 hK
 obtain⟨j,l3,e3⟩:=t
 dsimp only at q3 k3 hK
 have hl3:=Nat.le_trans q3.2 hl2
 have q4:=fG (l3,e3)
 have k4:=tq hb l3 e3 hl3
 generalize aN (l3,e3)=t at q4 k4 hK
 obtain⟨c,l4,e4⟩:=t
 dsimp only at q4 k4 hK
 have hl4:=Nat.le_trans q4.2 hl3
 have bad: ∀{H:Hp},(∀(r:RV)(h1:Hp)(r':RV)(h2:Hp),EI Q (llen ([]:Hp)) r h1 r' h2->r'= .aK [gV bx zT, .c (.p (.int .i64 (bx 21)))]/\h2=[]->K r h1)->K (.aK [.agg [.p (.lit .i64 0), .p (.lit .i64 0), .p (.lit .i64 0), .p .bZ, .p .bZ], .c (.p (.lit .i64 21))]) H:=fun{H} hk=>hk _ _ (.aK [gV bx zT, .c (.p (.int .i64 (bx 21)))]) [] (aS [] [] (he:=by cbv;(repeat' (first|trivial|rfl|apply And.intro|(simp[hb,jm];done))))) ⟨rfl,rfl⟩
 cbv
 refine call hQ k1 [.all 1] ?_ (hs:=by cbv;(repeat' (first|trivial|rfl|apply And.intro|(simp[hb];done))))
 rintro _ _ ⟨rfl,rfl⟩
 cbv
 refine call hQ k2 [.all 1] ?_
 rintro _ _ ⟨rfl,rfl⟩
 cbv
 refine call hQ k3 [.all 1] ?_
 rintro _ _ ⟨rfl,rfl⟩
 cbv
 refine call hQ k4 [.all 1] ?_
 rintro _ _ ⟨rfl,rfl⟩
 cbv
 refine⟨fun h1=>?_,fun h1=>?_⟩<;>simp only[hb,pl]at h1
 ·rw[if_pos h1]at hK
  cbv
  exact bad hK
 rw[if_neg h1]at hK
 obtain⟨N,hN⟩: ∃N:Nat,N=c.toNat:=⟨_,rfl⟩
 have hN2:N<=2000:=by omega
 rw[<-hN]at hK
 cbv
 refine adX hb (fun a:Nat×List Ac×List UInt8×Bool=>a.1<=N/\jf a.1 (l4,e4)=some (a.2.1,(a.2.2.1,a.2.2.2))) (fun a=>N-a.1) (fun a=>[(7, .a (.c (.p (.int .i64 (bx (Int.ofNat a.1))))))])
  (fun a=>[(1, .one (.row [.p (.str (bx (bs a.2.2.1))), .p (.bool (bx a.2.2.2))] 73)),(2, .one (.row [.p (.int .i64 (bx b)), .p (.int .i64 (bx r)), .p (.int .i64 (bx j.par)), .p (.fz (bx j.nodes.length) (bx (dI j.nodes))), .sl 3 0 0 (bx a.2.1.length)] 27)),(3, .one (.bH (bx (jm a.2.1)) 41))])
  (0,[],l4,e4) ⟨Nat.zero_le _,rfl⟩
  0 (fun a:List Ac×List UInt8×Bool=>jf N (l4,e4)=some (a.1,(a.2.1,a.2.2))) (fun _=>[])
  (fun a=>[(1, .one (.row [.p (.str (bx (bs a.2.1))), .p (.bool (bx a.2.2))] 73)),(2, .one (.row [.p (.int .i64 (bx b)), .p (.int .i64 (bx r)), .p (.int .i64 (bx j.par)), .p (.fz (bx j.nodes.length) (bx (dI j.nodes))), .sl 3 0 0 (bx a.1.length)] 27)),(3, .one (.bH (bx (jm a.1)) 41))])
  (ent [] [.all 0, .all 1, .all 2, .jh] (hs:=by cbv;(repeat' (first|trivial|rfl|apply And.intro|(simp[hb,jm];done)))) (he:=by cbv;(repeat' (first|trivial|rfl|apply And.intro|(simp[hb];done))))) ?_ ?_
 ·rintro⟨i,xs,l',e'⟩ ⟨i1,i2⟩
  dsimp only at i1 i2⊢
  cbv
  refine⟨fun h2=>?_,fun h2=>?_⟩<;>simp only[hb,pl]at h2
  ·have hi:i<N:=by omega
   cbv
   refine⟨fun h3=>?_,fun h3=>?_⟩<;>simp only[hb,pl]at h3
   ·subst h3
    obtain⟨_,g2,g3⟩:=wO (l4,e4) i xs (l',false) i2
    dsimp only at g2 g3
    have hl':=Nat.le_trans g3 hl4
    have i4:jf (i+1) (l4,e4)=if(aN (l',false)).1<0\/8<(aN (l',false)).1 then none else some (xs++[(wP (aN (l',false)).1 (aN (l',false)).2).1],(wP (aN (l',false)).1 (aN (l',false)).2).2):=by
     rw[jf,i2]
     dsimp only
     rw[if_neg (by simp)]
    have fa:=fG (l',false)
    have ka:=tq hb l' false hl'
    generalize aN (l',false)=t at i4 fa ka
    obtain⟨kd,la,ea⟩:=t
    dsimp only at i4 fa ka
    have hla:=Nat.le_trans fa.2 hl'
    have ez:wP kd (la,ea)=xZ kd (aN (la,ea)).1 (aN (aN (la,ea)).2).1 (aN (aN (la,ea)).2).2:=rfl
    rw[ez]at i4
    clear ez
    have fb:=fG (la,ea)
    have kb:=tq hb la ea hla
    generalize aN (la,ea)=t at i4 fb kb
    obtain⟨n,lb,eb⟩:=t
    dsimp only at i4 fb kb
    have hlb:=Nat.le_trans fb.2 hla
    have fc:=fG (lb,eb)
    have kc:=tq hb lb eb hlb
    generalize aN (lb,eb)=t at i4 fc kc
    obtain⟨m,lc,ec⟩:=t
    dsimp only at i4 fc kc
    have hlc:=Nat.le_trans fc.2 hlb
    have none_: ∀{H:Hp},(kd<0\/8<kd)->K (.aK [.agg [.p (.lit .i64 0), .p (.lit .i64 0), .p (.lit .i64 0), .p .bZ, .p .bZ], .c (.p (.lit .i64 21))]) H:=fun h=>by
     rw[if_pos h]at i4
     have:=FZ i4 (N-(i+1))
     rw[Nat.add_sub_cancel' (show i+1<=N by omega)]at this
     rw[this]at hK
     exact bad hK
    have hu:=mQ hb (k:=i) (by omega)
    cbv
    refine call hQ ka [.all 1] ?_ (hs:=by cbv;(repeat' (first|trivial|rfl|apply And.intro|(simp[hb];done))))
    rintro _ _ ⟨rfl,rfl⟩
    cbv
    refine⟨fun h4=>?_,fun h4=>?_⟩<;>simp only[hb,pl]at h4
    ·cbv
     exact none_ (.inl h4)
    cbv
    refine⟨fun h5=>?_,fun h5=>?_⟩<;>simp only[hb,pl]at h5
    ·cbv
     exact none_ (.inr h5)
    rw[if_neg (by omega)]at i4
    clear none_
    have w8:wr .u8 kd=kd:=by rw[sJ,IntKind.wrap_u8];omega
    cbv
    refine call hQ kb [.all 1] ?_
    rintro _ _ ⟨rfl,rfl⟩
    cbv
    refine call hQ kc [.all 1] ?_
    rintro _ _ ⟨rfl,rfl⟩
    cbv
    refine⟨fun h6=>?_,fun h6=>?_⟩<;>simp only[hb,pl]at h6
    ·have eb:xZ kd n m (lc,ec)=(⟨kd,n,m,(aN (lc,ec)).1,(aN (aN (lc,ec)).2).1,(aN (aN (aN (lc,ec)).2).2).1,zJ⟩,(aN (aN (aN (lc,ec)).2).2).2):=if_pos h6
     rw[eb]at i4
     clear eb
     have fd1:=fG (lc,ec)
     have Rf:=tq hb lc ec hlc
     generalize aN (lc,ec)=t at i4 fd1 Rf
     obtain⟨p,ld,ed⟩:=t
     dsimp only at i4 fd1 Rf
     have hld:=Nat.le_trans fd1.2 hlc
     have RP:=fG (ld,ed)
     have ke1:=tq hb ld ed hld
     generalize aN (ld,ed)=t at i4 RP ke1
     obtain⟨key,le,ee⟩:=t
     dsimp only at i4 RP ke1
     have hle:=Nat.le_trans RP.2 hld
     have VB:=fG (le,ee)
     have Q9:=tq hb le ee hle
     generalize aN (le,ee)=t at i4 VB Q9
     obtain⟨v,lf,ef⟩:=t
     dsimp only at i4 VB Q9
     have wp:=oL fd1.1
     cbv
     refine call hQ Rf [.all 1] ?_
     rintro _ _ ⟨rfl,rfl⟩
     cbv
     refine call hQ ke1 [.all 1] ?_
     rintro _ _ ⟨rfl,rfl⟩
     cbv
     refine call hQ Q9 [.all 1] ?_
     rintro _ _ ⟨rfl,rfl⟩
     cbv
     refine⟨fun h7=>?_,fun h7=>?_⟩<;>simp only[hb,pl]at h7
     ·exact absurd h7 (by omega)
     cbv
     obtain⟨a,ha⟩: ∃a:Ac,a=⟨kd,n,m,p,key,v,zJ⟩:=⟨_,rfl⟩
     rw[<-ha]at i4
     refine chk (by simp only[hb,mO,pW,sG];simp;omega) ?_
     cbv
     exact⟨(i+1,xs++[a],lf,ef),⟨by dsimp only;omega,i4⟩,by dsimp only;omega,ent [] [.all 0, .all 1, .all 2, .all 6] (hs:=by cbv;(repeat' (first|trivial|rfl|apply And.intro|(simp only[hb,qH,ha,wz,nC,pR,w8,wp,zJ,qy,List.length_nil];done)|(simp[hb];done)))) (he:=by cbv;(repeat' (first|trivial|rfl|apply And.intro|exact hu|(simp only[hb];done))))⟩
    ·cbv
     refine⟨fun h7=>?_,fun h7=>?_⟩<;>simp only[hb,pl]at h7
     ·have eb:xZ kd n m (lc,ec)=(⟨kd,n,m,0,0,0,(jS (lc,ec)).1⟩,(jS (lc,ec)).2):=(if_neg h6).trans (if_pos h7)
      rw[eb]at i4
      clear eb
      have ku:=YP hb lc ec hlc
      generalize jS (lc,ec)=t at i4 ku
      obtain⟨jj,ld,ed⟩:=t
      dsimp only at i4 ku
      cbv
      refine call hQ ku [.all 1] ?_
      rintro _ _ ⟨rfl,rfl⟩
      cbv
      obtain⟨a,ha⟩: ∃a:Ac,a=⟨kd,n,m,0,0,0,jj⟩:=⟨_,rfl⟩
      rw[<-ha]at i4
      refine chk (by simp only[hb,mO,pW,sG];simp;omega) ?_
      cbv
      exact⟨(i+1,xs++[a],ld,ed),⟨by dsimp only;omega,i4⟩,by dsimp only;omega,ent [] [.all 0, .all 1, .all 2, .all 6] (hs:=by cbv;(repeat' (first|trivial|rfl|apply And.intro|(simp only[hb,qH,ha,wz,nC,pR,w8,zJ,qy,List.length_nil];done)|(simp[hb];done)))) (he:=by cbv;(repeat' (first|trivial|rfl|apply And.intro|exact hu|(simp only[hb];done))))⟩
     ·have eb:xZ kd n m (lc,ec)=(⟨kd,n,m,0,0,0,zJ⟩,(lc,ec)):=(if_neg h6).trans (if_neg h7)
      rw[eb]at i4
      clear eb
      cbv
      obtain⟨a,ha⟩: ∃a:Ac,a=⟨kd,n,m,0,0,0,zJ⟩:=⟨_,rfl⟩
      rw[<-ha]at i4
      refine chk (by simp only[hb,mO,pW,sG];simp;omega) ?_
      cbv
      exact⟨(i+1,xs++[a],lc,ec),⟨by dsimp only;omega,i4⟩,by dsimp only;omega,ent [] [.all 0, .all 1, .all 2, .all 6] (hs:=by cbv;(repeat' (first|trivial|rfl|apply And.intro|(simp only[hb,qH,ha,wz,nC,pR,w8,zJ,qy,List.length_nil];done)|(simp[hb];done)))) (he:=by cbv;(repeat' (first|trivial|rfl|apply And.intro|exact hu|(simp only[hb];done))))⟩
   ·have hs:=FY i2 h3 (N-i)
    rw[Nat.add_sub_cancel' i1]at hs
    cbv
    exact⟨(xs,l',e'),hs,rfl,ent [] [.all 0, .all 1, .all 2, .all 3]⟩
  ·have hi:i=N:=by omega
   rw[hi]at i2
   cbv
   exact⟨(xs,l',e'),i2,rfl,ent [] [.all 0, .all 1, .all 2, .all 3]⟩
 ·rintro⟨xs,l',e'⟩ j1
  dsimp only at j1
  rw[j1]at hK
  dsimp only at hK⊢
  obtain⟨g1,g2,_⟩:=wO (l4,e4) N xs (l',e') j1
  have ft:fV ⟨b,r,j,xs⟩:=⟨q1.1,q2.1,q3.1.fit,by dsimp only;omega,fun a ha=>(g1 a ha).1⟩
  have fs:IG ⟨b,r,j,xs⟩:=⟨q3.1.sm,fun a ha=>(g1 a ha).2.sm⟩
  have fi:PG ⟨b,r,j,xs⟩:=⟨q3.1.ins,fun a ha=>(g1 a ha).2.ins⟩
  have er:ET l ⟨b,r,j,xs⟩ e'=if e'=true then(zT,21)else if ig ⟨b,r,j,xs⟩=true/\jX ⟨b,r,j,xs⟩=l then(⟨b,r,j,xs⟩,0)else(zT,21):=rfl
  rw[er]at hK
  clear er
  have kp:=acE hb ⟨b,r,j,xs⟩ hS ft fs fi
  obtain⟨pt,hpt⟩: ∃t,t=jX ⟨b,r,j,xs⟩:=⟨_,rfl⟩
  rw[<-hpt]at hK kp
  generalize ig ⟨b,r,j,xs⟩=my at hK kp
  have bq:=aay pt l
  cbv
  refine iM.Aa (args2:=[gV bx ⟨b,r,j,xs⟩]) [3] [.all 0, .all 1, .all 2, .gone 3] [.one (.row [.p (.lit .i64 0), .p (.lit .i64 0), .p (.lit .i64 0), .p .bZ, .p .bZ] 27), .one (.row [.p (.str (bx (bs l'))), .p (.bool (bx e'))] 73), .one (.row [.p (.int .i64 (bx b)), .p (.int .i64 (bx r)), .p (.int .i64 (bx j.par)), .p (.fz (bx j.nodes.length) (bx (dI j.nodes))), .p (.fz (bx xs.length) (bx (jm xs)))] 27), .no] ?_
  cbv
  refine call hQ kp [] ?_
  rintro rr _ ⟨rfl,hr⟩
  by_cases zi:my=true
  ·rw[if_pos zi]at hr
   subst hr
   cbv
   refine⟨fun h2=>?_,fun h2=>?_⟩<;>rw[hb]at h2
   ·rw[if_pos h2]at hK
    cbv
    exact bad hK
   ·rw[if_neg (by rw[h2];simp)]at hK
    cbv
    refine⟨fun h3=>?_,fun _=>?_⟩
    ·rw[hb]at h3
     exact absurd h3 (by decide)
    cbv
    refine⟨fun h3=>?_,fun h3=>?_⟩<;>simp only[hb,bq,pl]at h3
    ·rw[if_neg (fun h=>h3 h.2)]at hK
     cbv
     exact bad hK
    ·rw[if_pos ⟨zi,h3⟩]at hK
     cbv
     exact hK _ _ (.aK [gV bx ⟨b,r,j,xs⟩, .c (.p (.int .i64 (bx 0)))]) [] (aS [] [] (he:=by cbv;(repeat' (first|trivial|rfl|apply And.intro|(simp[hb];done))))) ⟨rfl,rfl⟩
  ·rw[if_neg zi]at hr
   subst hr
   have hK2: ∀(r:RV)(h1:Hp)(r':RV)(h2:Hp),EI Q (llen ([]:Hp)) r h1 r' h2->r'= .aK [gV bx zT, .c (.p (.int .i64 (bx 21)))]/\h2=[]->K r h1:=by
    by_cases h:e'=true
    ·rw[if_pos h]at hK
     exact hK
    ·rw[if_neg h,if_neg (fun h=>zi h.1)]at hK
     exact hK
   cbv
   refine⟨fun h2=>?_,fun h2=>?_⟩<;>rw[hb]at h2
   ·cbv
    exact bad hK2
   ·cbv
    refine⟨fun _=>?_,fun h3=>?_⟩
    ·cbv
     exact bad hK2
    ·rw[hb]at h3
     exact absurd h3 (by decide)
end
end Sx
end
section
namespace Sx
open Go Go.RowKit _root_.Go.Proofs.Tryz
set_option maxRecDepth 100000
set_option maxHeartbeats 4000000
def Xn (j:Jb):Prop:=zh j/\OV j
def PD (t:Tp):Prop:=IG t/\PG t
section
variable {bx:{α:Type}->α->α} (hb: ∀{α:Type}(x:α),bx x=x)
include hb
theorem Rw (j:Jb)(hj:gX j):Ct prog 15 [jM bx j] [] fun r h=>(∃b:Bool,r= .a (.c (.p (.bool (bx b))))/\(b=false->Xn j))/\h=[]:=ct hb func15 fun Q hQ K hK=>by
 have yes: ∀{H:Hp},K (.a (.c (.p .tt))) H:=hK _ _ (.a (.c (.p (.bool (bx true))))) [] (aS [] [] (he:=by cbv;simp[hb])) ⟨⟨_,rfl,fun h=>by cases h⟩,rfl⟩
 have no: ∀{H:Hp},Xn j->K (.a (.c (.p .ff))) H:=fun h=>hK _ _ (.a (.c (.p (.bool (bx false))))) [] (aS [] [] (he:=by cbv;simp[hb])) ⟨⟨_,rfl,fun _=>h⟩,rfl⟩
 obtain⟨f1,f2,f3⟩:=hj
 cbv
 refine⟨fun h1=>?_,fun h1=>?_⟩<;>simp only[hb,pl]at h1
 ·cbv
  exact yes
 ·cbv
  refine loop hb (fun a:Nat×Int=>a.1<=j.nodes.length/\ ∀d∈j.nodes.take a.1,d.ins.length<=40/\d.uid.size<=1000) (fun a=>j.nodes.length-a.1) (fun a=>[(13, .a (.c (.p (.int .i64 (bx (Int.ofNat a.1)))))),(3, .a (.c (.p (.int .i64 (bx a.2)))))]) (fun _=>[]) (0,0) ⟨Nat.zero_le _,by simp⟩ (ent [] [.all 0] (he:=by cbv;(repeat' (first|trivial|rfl|apply And.intro|(simp[hb];done))))) ?_
  rintro⟨k,n⟩ ⟨hI,hA⟩
  dsimp only at hI hA⊢
  cbv
  refine⟨fun hd=>?_,fun hd=>?_⟩<;>simp only[hb,pl]at hd
  ·obtain⟨d,hx⟩: ∃d,j.nodes[k]?=some d:=⟨_,List.getElem?_eq_getElem hd⟩
   have fd:=f2 d (List.mem_of_getElem? hx)
   have hu:=mQ hb (k:=k) (by omega)
   cbv
   refine get (wU bx d) (gJ hb kJ rfl hx (rJ hb d)) (chk (gK hb hd (by omega)) ?_)
   cbv
   refine call hQ (Yx hb d.x fd.2.1) [] ?_
   rintro _ _ ⟨⟨q,rfl⟩,rfl⟩
   cbv
   refine⟨fun h2=>?_,fun h2=>?_⟩<;>simp only[hb,pl]at h2
   ·cbv
    exact yes
   ·cbv
    refine⟨fun h3=>?_,fun h3=>?_⟩<;>simp only[hb,pl]at h3
    ·cbv
     exact yes
    ·cbv
     refine⟨fun h4=>?_,fun h4=>?_⟩
     ·cbv
      exact yes
     ·cbv
      refine⟨(k+1,wr .i64 (n+q)),⟨by dsimp only;omega,fun y hy=>?_⟩,by dsimp only;omega,ent [] [.all 0] (he:=by cbv;(repeat' (first|trivial|rfl|apply And.intro|exact hu|(simp only[hb];done))))⟩
      dsimp only at hy
      rw[List.take_add_one,hx]at hy
      rcases List.mem_append.1 hy with h|h
      ·exact hA y h
      ·have:y=d:=by simpa using h
       subst this
       have g2: ¬(40:Int)<Int.ofNat y.ins.length:=h2
       have g3: ¬(1000:Int)<Int.ofNat y.uid.size:=h3
       simp only[Int.ofNat_eq_natCast]at g2 g3
       exact⟨by omega,by omega⟩
  ·cbv
   rw[List.take_of_length_le (by omega)]at hA
   have g1: ¬(40:Int)<Int.ofNat j.nodes.length:=h1
   simp only[Int.ofNat_eq_natCast]at g1
   exact no ⟨⟨by omega,fun d hd=>by have:=(hA d hd).2;omega⟩,fun d hd=>(hA d hd).1⟩
theorem Vy (t:Tp)(hf:fV t):Ct prog 5 [gV bx t] [] fun r h=>(∃b:Bool,r= .a (.c (.p (.bool (bx b))))/\(b=false->PD t))/\h=[]:=ct hb func5 fun Q hQ K hK=>by
 have yes: ∀{H:Hp},K (.a (.c (.p .tt))) H:=hK _ _ (.a (.c (.p (.bool (bx true))))) [] (aS [] [] (he:=by cbv;simp[hb])) ⟨⟨_,rfl,fun h=>by cases h⟩,rfl⟩
 have bl: ∀{H:Hp}(b:Bool),PD t->K (.a (.c (.p (.bool (bx b))))) H:=fun b h=>hK _ _ (.a (.c (.p (.bool (bx b))))) [] (aS [] []) ⟨⟨_,rfl,fun _=>h⟩,rfl⟩
 obtain⟨f1,f2,f3,f4,f5⟩:=hf
 cbv
 refine loop hb (fun k:Nat=>k<=t.acts.length/\ ∀a∈t.acts.take k,Xn a.j) (fun k=>t.acts.length-k) (fun k=>[(8, .a (.c (.p (.int .i64 (bx (Int.ofNat k))))))]) (fun _=>[]) 0 ⟨Nat.zero_le _,by simp⟩ (ent [] [.all 0] (he:=by cbv;(repeat' (first|trivial|rfl|apply And.intro|(simp[hb];done))))) fun k hI=>?_
 obtain⟨hI,hA⟩:=hI
 cbv
 refine⟨fun hd=>?_,fun hd=>?_⟩<;>simp only[hb,pl]at hd
 ·obtain⟨a,hx⟩: ∃a,t.acts[k]?=some a:=⟨_,List.getElem?_eq_getElem hd⟩
  have fa:=f5 a (List.mem_of_getElem? hx)
  have hu:=mQ hb (k:=k) (by omega)
  cbv
  refine get (yL bx a) (gJ hb kZ rfl hx (qI hb a)) (chk (gK hb hd (by omega)) ?_)
  cbv
  refine call hQ (Rw hb a.j fa.2.2.2.2.2.2.2) [] ?_
  rintro _ _ ⟨⟨q,rfl,hq⟩,rfl⟩
  cbv
  refine⟨fun h2=>?_,fun h2=>?_⟩<;>rw[hb]at h2
  ·cbv
   exact yes
  ·cbv
   refine⟨k+1,⟨by omega,fun y hy=>?_⟩,by omega,ent [] [.all 0] (he:=by cbv;(repeat' (first|trivial|rfl|apply And.intro|exact hu|(simp only[hb];done))))⟩
   rw[List.take_add_one,hx]at hy
   rcases List.mem_append.1 hy with h|h
   ·exact hA y h
   ·have:y=a:=by simpa using h
    subst this
    exact hq h2
 ·cbv
  rw[List.take_of_length_le (by omega)]at hA
  refine call hQ (Rw hb t.first f3) [] ?_
  rintro _ _ ⟨⟨q,rfl,hq⟩,rfl⟩
  cbv
  refine⟨fun h2=>?_,fun h2=>?_⟩<;>rw[hb]at h2
  ·cbv
   exact yes
  ·have hl:PD t:=⟨⟨(hq h2).1,fun a ha=>(hA a ha).1⟩,(hq h2).2,fun a ha=>(hA a ha).2⟩
   cbv
   exact bl _ hl
end
end Sx
end
section
namespace Sx
open Go Go.RowKit _root_.Go.Proofs.Tryz
set_option maxRecDepth 100000
set_option maxHeartbeats 4000000
section
variable {bx:{α:Type}->α->α} (hb: ∀{α:Type}(x:α),bx x=x)
include hb
theorem tp3 (t u:Tp)(s:List UInt8)(hf:fV t)(hfu:fV u)(hG:sH)(hW:Ct prog 6 [] [] fun r h=>r= .a (.c (.p (.bool (bx true))))/\h=[]):
 Ct prog 3 [gV bx t,gV bx u, .c (.p (.str (bx (bs s))))] [] fun r h=>r= .a (.c (.p (.bool (bx true))))/\h=[]:=ct hb func3 fun Q hQ K hK=>by
 have hz:=cu s
 have yes: ∀{H:Hp},K (.a (.c (.p (.bool (bx true))))) H:=hK _ _ (.a (.c (.p (.bool (bx true))))) [] (aS [] []) ⟨rfl,rfl⟩
 cbv
 refine call hQ (Vy hb t hf) [] ?_
 rintro _ _ ⟨⟨q,rfl,hq⟩,rfl⟩
 cbv
 refine⟨fun h1=>?_,fun h1=>?_⟩<;>rw[hb]at h1
 ·cbv
  refine call hQ hW [] ?_
  rintro _ _ ⟨rfl,rfl⟩
  cbv
  exact yes
 have ht:=hq h1
 cbv
 refine call hQ (Vy hb u hfu) [] ?_
 rintro _ _ ⟨⟨q2,rfl,hq2⟩,rfl⟩
 cbv
 refine⟨fun h2=>?_,fun h2=>?_⟩<;>rw[hb]at h2
 ·cbv
  refine call hQ hW [] ?_
  rintro _ _ ⟨rfl,rfl⟩
  cbv
  exact yes
 cbv
 refine⟨fun h3=>?_,fun h3=>?_⟩<;>simp only[hb,hz,pl]at h3
 ·cbv
  refine call hQ hW [] ?_
  rintro _ _ ⟨rfl,rfl⟩
  cbv
  exact yes
 have g3: ¬(100000:Int)<Int.ofNat s.length:=h3
 simp only[Int.ofNat_eq_natCast]at g3
 have hsl:s.length<=4611686018427387904:=by omega
 have hS:=hG.small
 have p7:=ae1 hb t hS hf
 have p8:=acE hb t hS hf ht.1 ht.2
 have p9:=afu hb t hf
 have p10:=YL hb t hf ht.1
 have p11:=aeO hb t u hf
 have p12:=YC hb t u hf
 have p13:=aeG hb s hS hsl
 have Zb:=adB hb s hS hsl
 have et:=Wh hG s (by unfold maxLen;omega)
 rw[et]at Zb
 have hfx:fV (mW s).1:=by
  rcases MQ hG s (by unfold maxLen;omega)with h|h
  ·rw[h]
   exact⟨by unfold aO;simp,by unfold aO;simp,zQ,by simp,by simp⟩
  ·exact h.1.1
 have Za:=YC hb (mW s).1 (mW s).1 hfx
 rw[ab3]at Za
 generalize mW s=v at p13 Zb Za
 obtain⟨v,ve⟩:=v
 dsimp only at p13 Zb Za
 clear hfx et
 obtain⟨pt,hpt⟩: ∃l,l=jX t:=⟨_,rfl⟩
 rw[<-hpt]at p7 p8
 have bq:=aay pt pt
 generalize ig t=my at p7 p8 p9 p10
 generalize AB t u=es at p11 p12
 by_cases zi:my=true
 ·cbv
  refine call hQ p7 [] ?_
  rintro r7 _ ⟨rfl,hr⟩
  rw[if_pos zi]at hr
  subst hr
  cbv
  refine call hQ p8 [] ?_
  rintro r8 _ ⟨rfl,hr⟩
  rw[if_pos zi]at hr
  subst hr
  cbv
  refine mD hb hQ eU [] [(58, .a (.c (.p (.bool (bx false)))))] [] ?_ ?_
  ·cbv
   repeat' (first
    |apply And.intro
    |(refine⟨fun h=>absurd h (by simp[hb,bq,oq]),fun _=>?_⟩;cbv)
    |(refine call (f:=9) hQ p9 [] ?_;rintro _ _ ⟨rfl,rfl⟩;cbv)
    |(refine call (f:=10) hQ p10 [] ?_;rintro _ _ ⟨rfl,rfl⟩;cbv)
    |(refine call (f:=11) hQ p11 [] ?_;rintro _ _ ⟨rfl,rfl⟩;cbv)
    |(refine call (f:=12) hQ p12 [] ?_;rintro _ _ ⟨rfl,rfl⟩;cbv)
    |exact⟨ent [] [.all 0, .all 1] (he:=by cbv;(repeat' (first|trivial|rfl|apply And.intro|(simp[hb,oq];done))))⟩)
  ·cbv
   refine⟨fun h=>absurd h (by simp[hb]),fun _=>?_⟩
   cbv
   refine call hQ p13 [] ?_
   rintro _ _ ⟨rfl,rfl⟩
   cbv
   refine call hQ Zb [] ?_
   rintro _ _ ⟨rfl,rfl⟩
   cbv
   refine call hQ Za [] ?_
   rintro _ _ ⟨rfl,rfl⟩
   cbv
   refine⟨fun _=>?_,fun h=>absurd h (by simp[hb])⟩
   cbv
   refine⟨fun _=>?_,fun h=>absurd h (by simp[hb])⟩
   cbv
   refine call hQ hW [] ?_
   rintro _ _ ⟨rfl,rfl⟩
   cbv
   exact yes
 ·cbv
  refine call hQ p7 [] ?_
  rintro r7 _ ⟨rfl,hr⟩
  rw[if_neg zi]at hr
  subst hr
  cbv
  refine call hQ p8 [] ?_
  rintro r8 _ ⟨rfl,hr⟩
  rw[if_neg zi]at hr
  subst hr
  cbv
  refine mD hb hQ eU [] [(58, .a (.c (.p (.bool (bx false)))))] [] ?_ ?_
  ·cbv
   repeat' (first
    |apply And.intro
    |(refine⟨fun h=>absurd h (by simp[hb,bq,oq]),fun _=>?_⟩;cbv)
    |(refine call (f:=9) hQ p9 [] ?_;rintro _ _ ⟨rfl,rfl⟩;cbv)
    |(refine call (f:=10) hQ p10 [] ?_;rintro _ _ ⟨rfl,rfl⟩;cbv)
    |(refine call (f:=11) hQ p11 [] ?_;rintro _ _ ⟨rfl,rfl⟩;cbv)
    |(refine call (f:=12) hQ p12 [] ?_;rintro _ _ ⟨rfl,rfl⟩;cbv)
    |exact⟨ent [] [.all 0, .all 1] (he:=by cbv;(repeat' (first|trivial|rfl|apply And.intro|(simp[hb,oq];done))))⟩)
  ·cbv
   refine⟨fun h=>absurd h (by simp[hb]),fun _=>?_⟩
   cbv
   refine call hQ p13 [] ?_
   rintro _ _ ⟨rfl,rfl⟩
   cbv
   refine call hQ Zb [] ?_
   rintro _ _ ⟨rfl,rfl⟩
   cbv
   refine call hQ Za [] ?_
   rintro _ _ ⟨rfl,rfl⟩
   cbv
   refine⟨fun _=>?_,fun h=>absurd h (by simp[hb])⟩
   cbv
   refine⟨fun _=>?_,fun h=>absurd h (by simp[hb])⟩
   cbv
   refine call hQ hW [] ?_
   rintro _ _ ⟨rfl,rfl⟩
   cbv
   exact yes
end
theorem ahe {bx:{α:Type}->α->α}(hb: ∀{α:Type}(x:α),bx x=x)(t u:Tp)(s:List UInt8)(hf:fV t)(hfu:fV u)(hG:sH)(hW:Ct prog 6 [] [] fun r h=>r= .a (.c (.p (.bool (bx true))))/\h=[]):
 Ct prog 3 [gV bx t,gV bx u, .c (.p (.str (bx (bs s))))] [] fun r h=>r= .a (.c (.p (.bool (bx true))))/\h=[]:=tp3 hb t u s hf hfu hG hW
end Sx
end
section
namespace Sx
open Go Go.RowKit
mutual
theorem Nr: ∀x:Ex,iG x->(dV x).length<=30*qZ x
 | .mk o n l,h=>by
   have h2:=Jd l h.2.2.2.2
   have hl:=h.2.2.2.1
   have g: ∀v∈[o,n,Int.ofNat l.length],aO v:=by
    intro v hv
    simp only[List.mem_cons,List.not_mem_nil,or_false]at hv
    rcases hv with rfl|rfl|rfl
    ·exact x9 h.1 h.2.1
    ·exact h.2.2.1
    ·exact uH hl
   have h1:=iD g
   simp only[List.length_cons,List.length_nil]at h1
   unfold dV qZ
   rw[List.length_append]
   omega
theorem Jd: ∀l:List Ex,vU l->(jg l).length<=30*iT l
 |[],_=>by simp[jg,iT]
 |x::l,h=>by
  have h1:=Nr x h.1
  have h2:=Jd l h.2
  unfold jg iT
  rw[List.length_append]
  omega
end
theorem Oa: ∀(k:Nat)(x:Ex),ru k x->ru (k+1) x
 |0,_,h=>h.elim
 |k+1,_,⟨h1,h2,h3,h4,h5⟩=>⟨h1,h2,h3,h4,fun y hy=>Oa k y (h5 y hy)⟩
theorem yJ (o:Int):arity o<=3:=by unfold arity;(repeat' split)<;>omega
theorem J8: ∀(k:Nat)(x:Ex),iG x->dU k x=true->ru k x
 |0,_,_,h=>by cases h
 |k+1, .mk o n l,hf,h=>by
  unfold dU at h
  simp only[Bool.and_eq_true,decide_eq_true_eq]at h
  have ha:=yJ o
  have hl:l.length<=3:=by have:=h.1.1.1;omega
  exact⟨hf.1,hf.2.1,hf.2.2.1,hl,fun y hy=>J8 k y (nY hf.2.2.2.2 hy) (List.all_eq_true.1 h.2 y hy)⟩
theorem Ui {k:Nat}{x:Ex}(hf:iG x)(h:jO x=true):ru (k+1) x:=by
 obtain⟨o,n,l⟩:=x
 unfold jO at h
 simp only[Bool.and_eq_true,Ex.args,List.isEmpty_iff]at h
 have hl:l=[]:=h.2
 subst hl
 exact⟨hf.1,hf.2.1,hf.2.2.1,by simp[Ex.args],fun y hy=>by simp[Ex.args]at hy⟩
theorem Zu {i:Nat}{d:JN}(hf:iG d.x)(h:bD i d=true):fK d.uid=true/\d.ins.length<=12/\ru 17 d.x:=by
 unfold bD BN at h
 split at h
 ·cases h
 ·rename_i h1
  split at h
  ·cases h
  ·rename_i h2
   split at h
   ·cases h
   ·have hn:fK d.uid=true:=by
     cases hq:fK d.uid with
     |true=>rfl
     |false=>exact absurd (.inl hq) h1
    have hi:d.ins.length<=12:=by
     have hj:jU d.kind<=3:=by unfold jU;(repeat' split)<;>omega
     have: ¬jU d.kind<d.ins.length:=fun c=>h2 (.inr (.inl c))
     omega
    refine⟨hn,hi,?_⟩
    split at h
    ·exact Ui (k:=16) hf h
    ·unfold lJ at h
     rw[Bool.and_eq_true]at h
     have hk:=h.1
     unfold dZ at hk
     split at hk
     ·exact absurd hk (by decide)
     ·rename_i hx
      exact Oa 16 _ (J8 16 _ hf (by simpa using hx))
theorem XP (s:ByteArray)(i:Nat):(Utf8.decode s i).2<=4:=by
 unfold Utf8.decode
 dsimp only
 (repeat' split)<;>simp
theorem zX (s:ByteArray): ∀f i,s.size<=i+f->s.size<=i+4*(runesFrom s f i).length
 |0,i,h=>by unfold runesFrom;simp;omega
 |f+1,i,h=>by
  unfold runesFrom
  split
  ·rename_i hi
   have h4:=XP s i
   have h1:=Gp s i hi
   have ih:=zX s f (i+(Utf8.decode s i).2) (by omega)
   rw[List.length_cons]
   omega
  ·omega
theorem Zp {s:ByteArray}(h:fK s=true):s.size<=96:=by
 have hw:=zX s s.size 0 (by omega)
 unfold fK runes at h
 cases hr:runesFrom s s.size 0 with
 |nil=>
  rw[hr]at hw
  have h0:s.size<=0:=by simpa only[List.length_nil,Nat.mul_zero,Nat.add_zero]using hw
  omega
 |cons p l=>
  rw[hr]at h hw
  unfold Js at h
  simp only[Bool.and_eq_true,decide_eq_true_eq]at h
  have:=h.2
  omega
theorem aa8 {d:JN}(hf:lS d)(h1:d.uid.size<=96)(h2:d.ins.length<=12):(oO d).length<=300+30*qZ d.x:=by
 obtain⟨f1,f2,f3,f4,f5,f6,f7⟩:=hf
 have hu:d.uid.data.toList.length=d.uid.size:=by rw[Array.length_toList];rfl
 have a1:=Ns d.uid.data.toList (by omega)
 have g: ∀v∈[d.kind,d.n,Int.ofNat d.ins.length],aO v:=by
  intro v hv
  simp only[List.mem_cons,List.not_mem_nil,or_false]at hv
  rcases hv with rfl|rfl|rfl
  ·exact x9 f4 f5
  ·exact f6
  ·exact uH f1
 have a2:=iD g
 have a3:=iD f3
 have a4:=Nr d.x f2
 simp only[List.length_cons,List.length_nil]at a2
 unfold oO
 simp only[List.length_append]
 omega
theorem Nv: ∀l:List JN,(∀d∈l,lS d/\d.uid.size<=96/\d.ins.length<=12)->(dH l).length<=300*l.length+30*iT (l.map (·.x))
 |[],_=>by simp[dH]
 |d::l,h=>by
  have h1:=h d (.head _)
  have a:=aa8 h1.1 h1.2.1 h1.2.2
  have b:=Nv l fun e he=>h e (.tail _ he)
  unfold dH at*
  rw[List.flatMap_cons,List.length_append,List.map_cons,List.length_cons]
  unfold iT
  omega
theorem adV:sH:=fun j hf hm=>by
 have ho:wY j=true:=by rw[Xm,decide_eq_true hm]
 obtain⟨hh,hn⟩:=NT ho
 unfold iH at hh
 simp only[Bool.or_eq_false_iff,decide_eq_false_iff_not]at hh
 obtain⟨⟨⟨⟨-,-⟩,-⟩,h12⟩,hc⟩:=hh
 rw[su]at hc
 have hs:iT (j.nodes.map (·.x))<=1000:=by omega
 have each: ∀d∈j.nodes,lS d/\d.uid.size<=96/\d.ins.length<=12/\ru 17 d.x:=fun d hd=>by
  obtain⟨i,hi⟩:=List.getElem?_of_mem hd
  have hfd:=hf.2.1 d hd
  obtain⟨m1,m2,m3⟩:=Zu hfd.2.1 (hn i d hi).1
  exact⟨hfd,Zp m1,m2,m3⟩
 have hl:=Nv j.nodes fun d hd=>⟨(each d hd).1,(each d hd).2.1,(each d hd).2.2.1⟩
 refine⟨⟨hf.2.2,by omega,fun d hd=>?_,hm⟩,?_⟩
 ·obtain⟨⟨f1,f2,f3,f4,f5,f6,f7⟩,h1,h2,h3⟩:=each d hd
  have hu:d.uid.data.toList.length=d.uid.size:=by rw[Array.length_toList];rfl
  exact⟨by omega,f4,f5,f6,h2,f3,h3⟩
 ·have g: ∀v∈[j.par,Int.ofNat j.nodes.length],aO v:=by
   intro v hv
   simp only[List.mem_cons,List.not_mem_nil,or_false]at hv
   rcases hv with rfl|rfl
   ·exact hf.2.2
   ·exact uH hf.1
  have a:=iD g
  simp only[List.length_cons,List.length_nil]at a
  unfold jB
  rw[List.length_append]
  omega
end Sx
end
end Go.Proofs.YtakhobfamnjnoaaGreatDoor
