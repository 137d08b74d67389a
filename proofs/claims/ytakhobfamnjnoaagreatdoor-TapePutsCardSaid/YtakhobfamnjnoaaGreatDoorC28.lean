/- Symbolic runs: a whole job taken from bytes. -/
import Derived.Test.YtakhobfamnjnoaaGreatDoorC27
set_option linter.unusedVariables false
set_option linter.unusedSimpArgs false
namespace Go.Proofs.YtakhobfamnjnoaaGreatDoor
section
namespace Sx
open Go Go.RowKit _root_.Go.Proofs.Tryz
set_option maxRecDepth 100000
set_option maxHeartbeats 4000000
abbrev JA:List Pl:=[.all 0, .all 2, .all 3, .all 4]
abbrev JB:List Pl:=[.all 0, .all 2, .all 3, .all 4, .all 5, .all 6]
abbrev J39:List Pl:=[.all 0, .all 2, .all 3, .all 4, .all 5, .all 6, .all 7, .all 8, .all 9, .all 10, .all 12, .all 13, .all 11]
abbrev Gy:List Pl:=[.all 0, .all 1, .all 2, .all 3, .all 4, .all 5, .all 6, .all 7, .all 8, .all 9, .all 10, .all 11, .all 12, .all 13, .all 14]
theorem Jr {m:Int}(h:0<=m): ∃a:Nat,m=Int.ofNat a:=⟨m.toNat,(Int.toNat_of_nonneg h).symm⟩
theorem NH (st:St):(aB st).2.2≠0->(aB st).1=0:=by
 unfold aB
 split
 ·intro h
  have:dX st.1=(0,0,(dX st.1).2.2):=sO st.1 0 0 h
  dsimp only
  rw[this]
 ·intro _;rfl
theorem WZ (m:Int)(st:St):(bT m st).2.2≠0->(bT m st).1=0:=by
 unfold bT
 split
 ·intro _;rfl
 ·exact NH st
theorem F9 {st:St}{n:Nat}(h:(bV n st).2.2≠0): ∀k,bV (n+k) st=bV n st
 |0=>rfl
 |k+1=>by
  have ih:=F9 h k
  have:bV (n+k+1) st=if(bV (n+k) st).2.2≠0 then bV (n+k) st else((bV (n+k) st).1++[(oW (bV (n+k) st).2).1],(oW (bV (n+k) st).2).2):=rfl
  rw[<-Nat.add_assoc,this,ih,if_pos h]
theorem Ec (l:List Int)(v:Int):iO (l++[v])=iO l++[.int .i64 v]:=by simp[iO]
theorem Gf (l:List JN)(d:JN):dI (l++[d])=dI l++y9 d:=by simp[dI]
def h39 (bx:{α:Type}->α->α)(l:List UInt8)(e:Int)(jr:List SV):Hp:=[
 .one (.row [.p (.str (bx (bs l)))] 9), .one (.row [.p (.lit .i64 0), .p .bZ] 24), .one (.row [.p (.int .i64 (bx e))] 30), .one (.clo 72 [] [.c (.ptr 2 0 0)]), .one (.row [.clo 3 0] 126),
 .one (.clo 73 [] [.c (.ptr 2 0 0), .c (.ptr 0 0 0), .c (.ptr 4 0 0)]), .one (.row [.clo 5 0] 65), .one (.clo 74 [] [.c (.ptr 6 0 0), .c (.ptr 4 0 0)]), .one (.row [.clo 7 0] 127),
 .one (.clo 75 [] [.c (.ptr 6 0 0), .c (.ptr 4 0 0)]), .one (.row [.clo 9 0] 128), .one (.clo 76 [] [.c (.ptr 2 0 0), .c (.ptr 0 0 0), .c (.ptr 4 0 0)]), .one (.row [.clo 13 0] 130),
 .one (.clo 77 [] [.c (.ptr 4 0 0), .c (.ptr 10 0 0), .c (.ptr 6 0 0), .c (.ptr 8 0 0), .c (.ptr 12 0 0)]), .one (.row jr 24)]
section
variable {bx:{α:Type}->α->α} (hb: ∀{α:Type}(x:α),bx x=x)
include hb
theorem ahn (l:List UInt8)(hl:l.length<=4611686018427387904):Ct prog 39 [.c (.p (.str (bx (bs l))))] [] fun r h=>r= .aK [jM bx (tJ l).1, .c (.p (.int .i64 (bx (tJ l).2)))]/\h=[]:=ct hb func39 fun Q hQ K hK=>by
 have b1:=dK (l,0)
 have c1:=Fa hb l 0 hl
 have e0:tJ l=Qm ⟨(aB (l,0)).1,(bV (bT 12 (aB (l,0)).2).1.toNat (bT 12 (aB (l,0)).2).2).1⟩ (L8 ⟨(aB (l,0)).1,(bV (bT 12 (aB (l,0)).2).1.toNat (bT 12 (aB (l,0)).2).2).1⟩ (bV (bT 12 (aB (l,0)).2).1.toNat (bT 12 (aB (l,0)).2).2).2):=by simp only[tJ]
 generalize h1:aB (l,0)=t1 at c1 b1 e0
 obtain⟨n,l1,e1⟩:=t1
 dsimp only at c1 b1 e0
 have b2:=rV (m:=12) (by omega) (l1,e1)
 have hl1:l1.length<=4611686018427387904:=Nat.le_trans b1.2 hl
 have hl2:=Nat.le_trans b2.2.2 hl1
 have z2:=WZ 12 (l1,e1)
 have c2:=QF hb 12 l1 e1 hl1
 generalize h2:bT 12 (l1,e1)=t2 at c2 b2 z2 e0 hl2
 obtain⟨m,l2,e2⟩:=t2
 dsimp only at c2 b2 z2 e0 hl2
 have⟨m',hm'⟩:=Jr b2.1
 rw[hm']at c2 b2 z2 e0
 clear h2 hm' m
 rename Nat=>m
 have hm:m<=12:=Int.ofNat_le.1 b2.2.1
 have hz2:0<m->e2=0:=fun h=>Classical.byContradiction fun h'=>Nat.ne_of_gt h (Int.ofNat.inj (z2 h'))
 replace e0:tJ l=Qm ⟨n,(bV m (l2,e2)).1⟩ (L8 ⟨n,(bV m (l2,e2)).1⟩ (bV m (l2,e2)).2):=e0
 rw[e0]at hK
 have b1:=b1.1
 clear h1 b2 z2 e0
 cbv
 refine call hQ c1 JA ?_
 rintro _ _ ⟨rfl,rfl⟩
 cbv
 refine call hQ c2 JB ?_
 rintro _ _ ⟨rfl,rfl⟩
 cbv
 refine QN hb (fun a:Nat×List JN×List UInt8×Int=>a.1<=m/\(a.1<m->a.2.2.2=0)/\bV a.1 (l2,e2)=(a.2.1,(a.2.2.1,a.2.2.2))) (fun a=>m-a.1) (fun a=>[(26, .a (.c (.p (.int .i64 (bx (Int.ofNat a.1))))))])
  (fun a=>[(0, .one (.row [.p (.str (bx (bs a.2.2.1)))] 9)),(2, .one (.row [.p (.int .i64 (bx a.2.2.2))] 30)),(14, .one (.row [.p (.int .i64 (bx n)), .sl 15 0 0 (bx a.2.1.length)] 24)),(15, .one (.bH (bx (dI a.2.1)) 79))])
  (0,[],l2,e2) ⟨by omega,hz2,rfl⟩
  0 (fun a:List JN×List UInt8×Int=>bV m (l2,e2)=(a.1,(a.2.1,a.2.2))) (fun _=>[])
  (fun a=>[(0, .one (.row [.p (.str (bx (bs a.2.1)))] 9)),(2, .one (.row [.p (.int .i64 (bx a.2.2))] 30)),(14, .one (.row [.p (.int .i64 (bx n)), .sl 15 0 0 (bx a.1.length)] 24)),(15, .one (.bH (bx (dI a.1)) 79))])
  (ent [] (Gy++[.jh]) (hs:=by cbv;(repeat' (first|trivial|rfl|apply And.intro|(simp[hb];done)))) (he:=by cbv;(repeat' (first|trivial|rfl|apply And.intro|(simp[hb];done))))) ?_ ?_
 ·rintro⟨i,ns,l',e'⟩ ⟨i1,i2,i3⟩
  dsimp only at i1 i2 i3⊢
  cbv
  refine⟨fun hd=>?_,fun hd=>?_⟩<;>simp only[hb,pl]at hd
  ·have he0:e'=0:=i2 hd
   have hlen:l'.length<=4611686018427387904:=by
    have:=(tH (l2,e2) (by unfold maxLen;dsimp only;omega) i).2.2
    rw[i3]at this
    exact Nat.le_trans this hl2
   have i4:bV (i+1) (l2,e2)=(ns++[(oW (l',e')).1],(oW (l',e')).2):=by
    have:bV (i+1) (l2,e2)=if(bV i (l2,e2)).2.2≠0 then bV i (l2,e2)else((bV i (l2,e2)).1++[(oW (bV i (l2,e2)).2).1],(oW (bV i (l2,e2)).2).2):=rfl
    rw[this,i3]
    exact if_neg (by dsimp only;omega)
   have en:oW (l',e')=({uid:=bs (textS (l',e')).1,kind:=(bP (textS (l',e')).2).1,n:=(aB (bP (textS (l',e')).2).2).1,ins:=(bQ aB (bT 12 (aB (bP (textS (l',e')).2).2).2).1.toNat (bT 12 (aB (bP (textS (l',e')).2).2).2).2).1,x:=(fP 17 (bQ aB (bT 12 (aB (bP (textS (l',e')).2).2).2).1.toNat (bT 12 (aB (bP (textS (l',e')).2).2).2).2).2).1},(fP 17 (bQ aB (bT 12 (aB (bP (textS (l',e')).2).2).2).1.toNat (bT 12 (aB (bP (textS (l',e')).2).2).2).2).2).2):=by simp only[oW]
   rw[en]at i4
   clear en
   have f1:=yV (l',e')
   have k1:=aeE hb l' e' hlen
   generalize textS (l',e')=t at i4 f1 k1
   obtain⟨tx,la,ea⟩:=t
   dsimp only at i4 f1 k1
   have hla:=Nat.le_trans f1.2 hlen
   have f2:=wJ (la,ea)
   have k2:=UC hb la ea hla
   generalize bP (la,ea)=t at i4 f2 k2
   obtain⟨kd,lb,eb⟩:=t
   dsimp only at i4 f2 k2
   have hlb:=Nat.le_trans f2.2.2 hla
   have f3:=dK (lb,eb)
   have k3:=Fa hb lb eb hlb
   generalize aB (lb,eb)=t at i4 f3 k3
   obtain⟨nn,lc,ec⟩:=t
   dsimp only at i4 f3 k3
   have hlc:=Nat.le_trans f3.2 hlb
   have f4:=rV (m:=12) (by omega) (lc,ec)
   have k4:=QF hb 12 lc ec hlc
   generalize bT 12 (lc,ec)=t at i4 f4 k4
   obtain⟨q,ld,ed⟩:=t
   dsimp only at i4 f4 k4
   have hld:=Nat.le_trans f4.2.2 hlc
   have⟨q',hq'⟩:=Jr f4.1
   rw[hq']at i4 f4 k4
   clear hq' q
   rename Nat=>q
   replace i4:bV (i+1) (l2,e2)=(ns++[{uid:=bs tx,kind:=kd,n:=nn,ins:=(bQ aB q (ld,ed)).1,x:=(fP 17 (bQ aB q (ld,ed)).2).1}],(fP 17 (bQ aB q (ld,ed)).2).2):=i4
   have hq:q<=12:=Int.ofNat_le.1 f4.2.1
   have fl:=kK (f:=aB) (fun st=>(dK st).2) q (ld,ed)
   cbv
   refine mD hb hQ eU [4] [(12, .a (.c (.ptr 16 0 0)))] [(0, .one (.row [.p (.str (bx (bs lc)))] 9)),(2, .one (.row [.p (.int .i64 (bx ec))] 30)),(16, .one (.row [.p (.str (bx (bs tx))), .p (.int .u8 (bx kd)), .p .bZ, .p (.lit .u8 0), .p (.lit .i64 0), .p .bZ, .p (.int .i64 (bx nn))] 79))] ?_ ?_
   ·cbv
    repeat' (first
     |apply And.intro
     |(refine call (f:=76) hQ k1 JA ?_;rintro _ _ ⟨rfl,rfl⟩;cbv)
     |(refine call (f:=75) hQ k2 JB ?_;rintro _ _ ⟨rfl,rfl⟩;cbv)
     |(refine call (f:=73) hQ k3 JA ?_;rintro _ _ ⟨rfl,rfl⟩;cbv)
     |exact⟨ent [] (Gy++[.all 15, .all 16])⟩)
   ·cbv
    refine call hQ k4 JB ?_
    rintro _ _ ⟨rfl,rfl⟩
    cbv
    refine loop hb (fun a:Nat×List Int×List UInt8×Int=>a.1<=q/\bQ aB a.1 (ld,ed)=(a.2.1,(a.2.2.1,a.2.2.2))) (fun a=>q-a.1) (fun a=>[(37, .a (.c (.p (.int .i64 (bx (Int.ofNat a.1))))))])
     (fun a=>[(0, .one (.row [.p (.str (bx (bs a.2.2.1)))] 9)),(2, .one (.row [.p (.int .i64 (bx a.2.2.2))] 30)),(16, .one (.row [.p (.str (bx (bs tx))), .p (.int .u8 (bx kd)), .sl 17 0 0 (bx a.2.1.length), .p (.lit .u8 0), .p (.lit .i64 0), .p .bZ, .p (.int .i64 (bx nn))] 79)),(17, .one (.bH (bx (iO a.2.1)) 3))])
     (0,[],ld,ed) ⟨by omega,rfl⟩ (ent [] (Gy++[.all 15, .all 16, .jh]) (hs:=by cbv;(repeat' (first|trivial|rfl|apply And.intro|(simp[hb];done)))) (he:=by cbv;(repeat' (first|trivial|rfl|apply And.intro|(simp[hb];done))))) ?_
    rintro⟨k,is,ls,es⟩ ⟨p1,p2⟩
    dsimp only at p1 p2⊢
    have fk:=kK (f:=aB) (fun st=>(dK st).2) k (ld,ed)
    rw[p2]at fk
    have hls:=Nat.le_trans fk.2 hld
    have hil:is.length=k:=fk.1
    clear fk
    cbv
    refine⟨fun hk=>?_,fun hk=>?_⟩<;>simp only[hb,pl]at hk
    ·have p3:bQ aB (k+1) (ld,ed)=(is++[(aB (ls,es)).1],(aB (ls,es)).2):=by unfold bQ;rw[p2]
     have kn:=Fa hb ls es hls
     have gk:=dK (ls,es)
     generalize aB (ls,es)=t at p3 kn gk
     obtain⟨v,lt,et⟩:=t
     dsimp only at p3 kn gk
     have hv:=oL gk.1
     have hu:=mQ hb (k:=k) (by omega)
     cbv
     refine mD hb hQ eU [] [] [(0, .one (.row [.p (.str (bx (bs lt)))] 9)),(2, .one (.row [.p (.int .i64 (bx et))] 30)),(16, .one (.row [.p (.str (bx (bs tx))), .p (.int .u8 (bx kd)), .sl 17 0 0 (bx (is++[v]).length), .p (.lit .u8 0), .p (.lit .i64 0), .p .bZ, .p (.int .i64 (bx nn))] 79)),(17, .one (.bH (bx (iO (is++[v]))) 3))] ?_ ?_
     ·cbv
      repeat' (first
       |apply And.intro
       |(refine call (f:=73) hQ kn JA ?_;rintro _ _ ⟨rfl,rfl⟩;cbv)
       |(refine chk (by simp only[hb,mO,pW,uT];simp;omega) ?_;cbv)
       |exact⟨ent [] (Gy++[.all 15, .all 16, .all 19]) (hs:=by cbv;(repeat' (first|trivial|rfl|apply And.intro|(simp only[hb,Ec,nC,pR];done)|(simp[hb];done))))⟩)
     ·cbv
      exact⟨(k+1,is++[v],lt,et),⟨by dsimp only;omega,p3⟩,by dsimp only;omega,ent [] (Gy++[.all 15, .all 16, .all 17]) (he:=by cbv;(repeat' (first|trivial|rfl|apply And.intro|exact hu|(simp only[hb];done))))⟩
    ·have hkq:k=q:=by omega
     subst hkq
     rw[p2]at i4
     dsimp only at i4
     have kt:=Ym hb 17 ls es (by omega) hls
     have ft:=vH 17 (ls,es)
     generalize fP 17 (ls,es)=t at i4 kt ft
     obtain⟨x,lg,eg⟩:=t
     dsimp only at i4 kt ft
     cbv
     refine iM.Aa (args2:=[.c (.p (.lit .i64 17)), .c (.ptr 4 0 0), .c (.ptr 10 0 0), .c (.ptr 6 0 0), .c (.ptr 8 0 0), .c (.ptr 12 0 0)]) [17] (Gy++[.all 15, .all 16, .gone 17]) (h39 bx ls es [.p (.int .i64 (bx n)), .sl 15 0 0 (bx ns.length)]++[.one (.bH (bx (dI ns)) 79), .one (.row [.p (.str (bx (bs tx))), .p (.int .u8 (bx kd)), .p (.fz (bx is.length) (bx (iO is))), .p (.lit .u8 0), .p (.lit .i64 0), .p .bZ, .p (.int .i64 (bx nn))] 79), .no]) ?_
     cbv
     refine call hQ kt J39 ?_ (ha:=by cbv;(repeat' (first|trivial|rfl|apply And.intro|(simp[hb];done))))
     rintro _ _ ⟨rfl,rfl⟩
     cbv
     have hnl:ns.length<=i:=by
      have:=(tH (l2,e2) (by unfold maxLen;dsimp only;omega) i).2.1
      rw[i3]at this
      exact this
     obtain⟨nd,hnd⟩: ∃nd:JN,nd={uid:=bs tx,kind:=kd,n:=nn,ins:=is,x:=x}:=⟨_,rfl⟩
     rw[<-hnd]at i4
     have hP:dI (ns++[nd])=dI ns++[.str (bs tx), .int .u8 kd, .fz is.length (iO is), .int .u8 x.op, .int .i64 x.n, .fz x.args.length (gQ x.args), .int .i64 nn]:=by rw[Gf,hnd];rfl
     clear hnd
     have hu:=mQ hb (k:=i) (by omega)
     refine chk (by simp only[hb,mO,pW,wS];simp;omega) ?_
     cbv
     refine⟨fun he=>?_,fun he=>?_⟩<;>simp only[hb,pl]at he
     ·have hs:=F9 (st:=(l2,e2)) (n:=i+1) (by rw[i4];exact he) (m-(i+1))
      rw[Nat.add_sub_cancel' (show i+1<=m by omega),i4]at hs
      cbv
      exact⟨(ns++[nd],lg,eg),hs,rfl,ent [] (Gy++[.all 19]) (hs:=by cbv;(repeat' (first|trivial|rfl|apply And.intro|(simp only[hb,hP,nC,pR];done)|(simp[hb];done))))⟩
     ·cbv
      exact⟨(i+1,ns++[nd],lg,eg),⟨by dsimp only;omega,fun _=>he,i4⟩,by dsimp only;omega,ent [] (Gy++[.all 19]) (hs:=by cbv;(repeat' (first|trivial|rfl|apply And.intro|(simp only[hb,hP,nC,pR];done)|(simp[hb];done)))) (he:=by cbv;(repeat' (first|trivial|rfl|apply And.intro|exact hu|(simp only[hb];done))))⟩
  ·cbv
   have:i=m:=by omega
   subst this
   exact⟨(ns,l',e'),i3,rfl,ent [] (Gy++[.all 15])⟩
 ·rintro⟨ns,l',e'⟩ j1
  dsimp only at j1⊢
  rw[j1]at hK
  dsimp only at hK
  have fj:gX ⟨n,ns⟩:=by
   have:=tH (l2,e2) (by unfold maxLen;dsimp only;omega) m
   rw[j1]at this
   exact⟨by have:=this.2.1;show ns.length<_;dsimp only at this;omega,this.1,b1⟩
  have km:=OO hb ⟨n,ns⟩ fj
  have ej:L8 ⟨n,ns⟩ (l',e')=if(dB ⟨n,ns⟩).2=0 then(if l'=[]then(l',e')else lG (l',e') 2)else lG (if l'=[]then(l',e')else lG (l',e') 2) 2:=rfl
  rw[ej]at hK
  clear ej
  generalize dB ⟨n,ns⟩=t at hK km
  obtain⟨y,f⟩:=t
  dsimp only at hK km
  have ka:=Am hb l' e' 2
  cbv
  have bq:((bs l').toList==(⟨⟨[]⟩⟩:ByteArray).toList)=decide (l'=[]):=by
   have:=um (bs l') ⟨⟨[]⟩⟩
   have h2:((bs l').toList==(⟨⟨[]⟩⟩:ByteArray).toList)=(bs l'==(⟨⟨[]⟩⟩:ByteArray)):=by rw[<-beq_toListBytes]
   rw[h2,this]
   congr 1
   exact propext ⟨fun h=>by have:=congrArg (fun b:ByteArray=>b.data.toList) h;simpa[bs]using this,fun h=>by rw[h];rfl⟩
  refine⟨fun h1=>?ua,fun h1=>?ub⟩<;>simp only[hb,bq,pl]at h1
  case' ua=>
   cbv
   refine call hQ ka JA ?_
   rintro _ _ ⟨e2,he2,rfl⟩
   have hst:(if l'=[]then(l',e')else lG (l',e') 2)=(l',e2):=by rw[if_neg h1,Ap,he2]
   clear he2 ka
   cbv
  case' ub=>
   clear ka
   obtain⟨e2,he2⟩: ∃e2,e2=e':=⟨_,rfl⟩
   subst he2
   have hst:(if l'=[]then(l',e2)else lG (l',e2) 2)=(l',e2):=if_pos h1
   cbv
  all_goals
   rw[hst]at hK
   clear hst
   refine iM.Aa (args2:=[jM bx ⟨n,ns⟩]) [15] (Gy++[.gone 15]) (h39 bx l' e2 [.p (.int .i64 (bx n)), .p (.fz (bx ns.length) (bx (dI ns)))]++[.no]) ?_
   cbv
   refine call hQ km [] ?_
   rintro _ _ ⟨rfl,rfl⟩
   have kb:=Am hb l' e2 2
   cbv
   refine⟨fun h2=>?_,fun h2=>?_⟩<;>simp only[hb,pl]at h2
   all_goals first
    |(rw[if_neg h2,Ap]at hK
      cbv
      refine call hQ kb JA ?_
      rintro _ _ ⟨e3,he3,rfl⟩
      rw[<-he3]at hK
      clear he3 kb
      cbv)
    |(rw[if_pos h2]at hK
      clear kb
      obtain⟨e3,he3⟩: ∃e3,e3=e2:=⟨_,rfl⟩
      subst he3
      cbv)
   all_goals
    have eo:Qm ⟨n,ns⟩ (l',e3)=if e3=0 then(⟨n,ns⟩,0)else(zJ,e3):=rfl
    rw[eo]at hK
    clear eo
    refine⟨fun h3=>?_,fun h3=>?_⟩<;>simp only[hb,pl]at h3
    ·rw[if_neg h3]at hK
     dsimp only at hK
     cbv
     refine draw hb hQ eU [] ?_
     cbv
     (repeat' (first|apply And.intro|exact hK _ _ (.aK [jM bx zJ, .c (.p (.int .i64 (bx e3)))]) [] (aS [] [] (he:=by cbv;(repeat' (first|trivial|rfl|apply And.intro|(simp[hb];done))))) ⟨rfl,rfl⟩))
    ·rw[if_pos h3]at hK
     dsimp only at hK
     cbv
     exact hK _ _ (.aK [jM bx ⟨n,ns⟩, .c (.p (.int .i64 (bx 0)))]) [] (aS [] [] (he:=by cbv;(repeat' (first|trivial|rfl|apply And.intro|(simp[hb];done))))) ⟨rfl,rfl⟩
end
end Sx
end
section
namespace Sx
open Go Go.RowKit
def aP (st:St):Int×St:=((dX st.1).1,(st.1.drop (dX st.1).2.1,max st.2 (dX st.1).2.2))
def jW (st:St):Jb×St:=((tJ (dA st.1).1).1,(st.1.drop (dA st.1).2.1,max (max st.2 (dA st.1).2.2) (tJ (dA st.1).1).2))
def bodyT (kind n m:Int)(st:St):Ac×St:=
 if kind=0 then(⟨kind,n,m,(aP st).1,(aP (aP st).2).1,(aP (aP (aP st).2).2).1,zJ⟩,(aP (aP (aP st).2).2).2)
 else if kind=5 then(⟨kind,n,m,0,0,0,(jW st).1⟩,(jW st).2)
 else(⟨kind,n,m,0,0,0,zJ⟩,st)
def uo (st:St):Ac×St:=bodyT (IntKind.wrap .u8 (aP st).1) (aP (aP st).2).1 (aP (aP (aP st).2).2).1 (aP (aP (aP st).2).2).2
def eF:Nat->St->List Ac×St
 |0,st=>([],st)
 |n+1,st=>if(eF n st).2.2≠0 then eF n st else((eF n st).1++[(uo (eF n st).2).1],(uo (eF n st).2).2)
def og (c:Int):Nat:=if 0<c/\c<=2000 then c.toNat else 0
abbrev zT:Tp:=⟨0,0,zJ,[]⟩
def L6 (s:List UInt8)(t:Tp)(e:Int):Tp×Int:=if e≠0 then(zT,21)else if ig t=true/\jX t=s then(t,0)else(zT,21)
def EW (s:List UInt8):Tp×Int:=
 let b:=aP (s,0);let r:=aP b.2;let f:=jW r.2;let c:=aP f.2;let L:=eF (og c.1) c.2
 (⟨b.1,r.1,f.1,L.1⟩,L.2.2)
def mW (s:List UInt8):Tp×Int:=L6 s (EW s).1 (EW s).2
theorem gu (st:St):aO (aP st).1/\(aP st).2.1.length<=st.1.length:=⟨KY _,by simp[aP]⟩
theorem GH (st:St)(hl:st.1.length<=maxLen):gX (jW st).1/\(jW st).2.1.length<=st.1.length:=
 ⟨abG _ (Nat.le_trans (uD _).2 hl),by simp[jW]⟩
theorem acp (st:St)(hl:st.1.length<=maxLen):mF (uo st).1/\(uo st).2.1.length<=st.1.length:=by
 have h1:=gu st
 have h2:=gu (aP st).2
 have h3:=gu (aP (aP st).2).2
 have hk:IntKind.wrap .u8 (aP st).1=(aP st).1%256:=IntKind.wrap_u8 _
 have k1:0<=IntKind.wrap .u8 (aP st).1/\IntKind.wrap .u8 (aP st).1<=255:=by rw[hk];omega
 have hle:(aP (aP (aP st).2).2).2.1.length<=st.1.length:=Nat.le_trans h3.2 (Nat.le_trans h2.2 h1.2)
 have z:aO 0:=by unfold aO;simp
 unfold uo
 generalize IntKind.wrap .u8 (aP st).1=kind at k1
 generalize(aP (aP (aP st).2).2).2=u at hle
 have h4:=gu u
 have h5:=gu (aP u).2
 have h6:=gu (aP (aP u).2).2
 unfold bodyT
 split
 ·exact⟨⟨k1.1,k1.2,h2.1,h3.1,h4.1,h5.1,h6.1,zQ⟩,Nat.le_trans h6.2 (Nat.le_trans h5.2 (Nat.le_trans h4.2 hle))⟩
 ·split
  ·have h7:=GH u (Nat.le_trans hle hl)
   exact⟨⟨k1.1,k1.2,h2.1,h3.1,z,z,z,h7.1⟩,Nat.le_trans h7.2 hle⟩
  ·exact⟨⟨k1.1,k1.2,h2.1,h3.1,z,z,z,zQ⟩,hle⟩
theorem vV (st:St)(hl:st.1.length<=maxLen): ∀n,(∀d∈(eF n st).1,mF d)/\(eF n st).1.length<=n/\(eF n st).2.1.length<=st.1.length
 |0=>⟨by simp[eF],Nat.le_refl _,Nat.le_refl _⟩
 |n+1=>by
  obtain⟨h1,h2,h3⟩:=vV st hl n
  have h4:=acp (eF n st).2 (by omega)
  simp only[eF]
  split
  ·exact⟨h1,by omega,h3⟩
  ·refine⟨fun d hd=>?_,by simp;omega,by dsimp only;omega⟩
   simp only[List.mem_append,List.mem_singleton]at hd
   rcases hd with hd|rfl
   ·exact h1 d hd
   ·exact h4.1
theorem KI {st:St}{n:Nat}(h:(eF n st).2.2≠0): ∀k,eF (n+k) st=eF n st
 |0=>rfl
 |k+1=>by
  have ih:=KI h k
  have:eF (n+k+1) st=if(eF (n+k) st).2.2≠0 then eF (n+k) st else((eF (n+k) st).1++[(uo (eF (n+k) st).2).1],(uo (eF (n+k) st).2).2):=rfl
  rw[<-Nat.add_assoc,this,ih,if_pos h]
theorem VN (c:Int):og c<=2000:=by unfold og;split<;>omega
end Sx
end
section
namespace Sx
open Go Go.RowKit _root_.Go.Proofs.Tryz
set_option maxRecDepth 100000
set_option maxHeartbeats 4000000
theorem aed {c:Int}{i:Nat}(h:i<=og c):(c-Int.ofNat i<=0\/2000<c-Int.ofNat i->i=og c)/\(0<c-Int.ofNat i->c-Int.ofNat i<=2000->i<og c):=by
 unfold og at*
 simp only[Int.ofNat_eq_natCast]
 by_cases hc:0<c/\c<=2000
 ·rw[if_pos hc]at*;omega
 ·rw[if_neg hc]at*;omega
theorem qH (l:List Ac)(a:Ac):jm (l++[a])=jm l++wz a:=by simp[jm]
theorem sG (l:List Ac):(jm l).length=l.length*8:=Cc kZ l
theorem aix {bx:{α:Type}->α->α}(hb: ∀{α:Type}(x:α),bx x=x){c:Int}{i:Nat}(hc:aO c)(h:0<c-Int.ofNat i):PV.int .i64 (bx (c-Int.ofNat (i+1)))=PV.int .i64 (bx (wr .i64 (bx (c-Int.ofNat i)-1))):=by
 unfold aO at hc
 simp only[Int.ofNat_eq_natCast]at h
 have hw:wr .i64 (c-Int.ofNat i-1)=c-Int.ofNat i-1:=rD (by simp only[Int.ofNat_eq_natCast];omega)
 have:c-Int.ofNat (i+1)=wr .i64 (c-Int.ofNat i-1):=by rw[hw];simp only[Int.ofNat_eq_natCast];omega
 rw[hb,hb,hb,this]
abbrev A7:List Pl:=[.all 0, .all 1, .all 2, .all 3, .all 4, .all 5, .all 6]
section
variable (bx:{α:Type}->α->α)
def Us (l:List UInt8)(e:Int):Hp:=[.one (.row [.p (.str (bx (bs l)))] 9), .one (.row [.p (.int .i64 (bx e))] 30)]
end
section
variable {bx:{α:Type}->α->α} (hb: ∀{α:Type}(x:α),bx x=x)
include hb
theorem wR (l:List UInt8)(e:Int)(hl:l.length<=4611686018427387904):Ct prog 35 [.c (.ptr 0 0 0), .c (.ptr 1 0 0)] (Us bx l e) fun r h=>r= .a (.c (.p (.int .i64 (bx (aP (l,e)).1))))/\h=Us bx (aP (l,e)).2.1 (aP (l,e)).2.2:=ct hb func35 fun Q hQ K hK=>by
 have hz:=cu l
 have hle:=xI l
 have c:=Wj hb l (by unfold maxLen;omega)
 have en:aP (l,e)=((dX l).1,(l.drop (dX l).2.1,max e (dX l).2.2)):=rfl
 rw[en]at hK
 clear en
 generalize dX l=t at hle c hK
 obtain⟨n0,z,f⟩:=t
 dsimp only at hle c hK
 cbv
 refine call hQ c [] ?_
 rintro _ _ ⟨rfl,rfl⟩
 have hm:=LG e f
 cbv
 refine mD hb hQ eU [] [] [(0, .one (.row [.p (.str (bx (bs (l.drop z))))] 9)),(1, .one (.row [.p (.int .i64 (bx (max e f)))] 30))] ?_ ?_
 ·cbv
  repeat' (first
   |apply And.intro
   |(refine chk (by simp only[hb,hz,nc];simp only[Bool.and_eq_true,decide_eq_true_eq,Int.ofNat_eq_natCast];omega) ?_;cbv)
   |exact⟨ent [] [.all 0, .all 1] (hs:=by cbv;(repeat' (first|trivial|rfl|apply And.intro|(simp only[hb,hm];done)|(simp only[hb,hz,<-qF];rfl))))⟩)
 ·cbv
  exact hK _ _ (.a (.c (.p (.int .i64 (bx n0))))) (Us bx (l.drop z) (max e f)) (aS [] [.all 0, .all 1]) ⟨rfl,rfl⟩
theorem acz (l:List UInt8)(e:Int)(hl:l.length<=4611686018427387904):Ct prog 37 [.c (.ptr 0 0 0), .c (.ptr 1 0 0)] (Us bx l e) fun r h=>r= .a (jM bx (jW (l,e)).1)/\h=Us bx (jW (l,e)).2.1 (jW (l,e)).2.2:=ct hb func37 fun Q hQ K hK=>by
 have hz:=cu l
 have hle:=uD l
 have c:=Yl hb l hl
 have en:jW (l,e)=((tJ (dA l).1).1,(l.drop (dA l).2.1,max (max e (dA l).2.2) (tJ (dA l).1).2)):=rfl
 rw[en]at hK
 clear en
 generalize dA l=t at hle c hK
 obtain⟨n0,z,f⟩:=t
 dsimp only at hle c hK
 have c2:=ahn hb n0 (by omega)
 generalize tJ n0=t at c2 hK
 obtain⟨j,g⟩:=t
 dsimp only at c2 hK
 cbv
 refine call hQ c [] ?_
 rintro _ _ ⟨rfl,rfl⟩
 have hm:=LG
 obtain⟨l2,hl2⟩: ∃t,t=l.drop z:=⟨_,rfl⟩
 obtain⟨e1,he1⟩: ∃t,t=max e f:=⟨_,rfl⟩
 obtain⟨e2,he2⟩: ∃t,t=max e1 g:=⟨_,rfl⟩
 rw[<-hl2,<-he1,<-he2]at hK
 cbv
 refine mD hb hQ eU [] [] [(0, .one (.row [.p (.str (bx (bs l2)))] 9)),(1, .one (.row [.p (.int .i64 (bx e1))] 30))] ?_ ?_
 ·cbv
  repeat' (first
   |apply And.intro
   |(refine chk (by simp only[hb,hz,nc];simp only[Bool.and_eq_true,decide_eq_true_eq,Int.ofNat_eq_natCast];omega) ?_;cbv)
   |exact⟨ent [] [.all 0, .all 1, .all 2] (hs:=by cbv;(repeat' (first|trivial|rfl|apply And.intro|(simp only[hb,hm,he1];done)|(simp only[hb,hz,hl2,<-qF];rfl))))⟩)
 ·cbv
  refine call hQ c2 [] ?_
  rintro _ _ ⟨rfl,rfl⟩
  cbv
  exact hK _ _ (.a (jM bx j)) (Us bx l2 e2) (aS [] [.all 0, .all 1] (hs:=by cbv;(repeat' (first|trivial|rfl|apply And.intro|(simp only[hb,hm,he2];done))))) ⟨rfl,rfl⟩
theorem aeG (l:List UInt8)(hS:nM)(hl:l.length<=4611686018427387904):Ct prog 13 [.c (.p (.str (bx (bs l))))] [] fun r h=>r= .aK [gV bx (mW l).1, .c (.p (.int .i64 (bx (mW l).2)))]/\h=[]:=ct hb func13 fun Q hQ K hK=>by
 have et:mW l=L6 l ⟨(aP (l,0)).1,(aP (aP (l,0)).2).1,(jW (aP (aP (l,0)).2).2).1,(eF (og (aP (jW (aP (aP (l,0)).2).2).2).1) (aP (jW (aP (aP (l,0)).2).2).2).2).1⟩ (eF (og (aP (jW (aP (aP (l,0)).2).2).2).1) (aP (jW (aP (aP (l,0)).2).2).2).2).2.2:=by simp only[mW,EW]
 rw[et]at hK
 clear et
 have q1:=gu (l,0)
 have k1:=wR hb l 0 hl
 generalize aP (l,0)=t at q1 k1 hK
 obtain⟨b,l1,e1⟩:=t
 dsimp only at q1 k1 hK
 have hl1:=Nat.le_trans q1.2 hl
 have q2:=gu (l1,e1)
 have k2:=wR hb l1 e1 hl1
 generalize aP (l1,e1)=t at q2 k2 hK
 obtain⟨r,l2,e2⟩:=t
 dsimp only at q2 k2 hK
 have hl2:=Nat.le_trans q2.2 hl1
 have q3:=GH (l2,e2) (Nat.le_trans hl2 (by unfold maxLen;omega))
 have k3:=acz hb l2 e2 hl2
 generalize jW (l2,e2)=t at q3 k3 hK
 obtain⟨j,l3,e3⟩:=t
 dsimp only at q3 k3 hK
 have hl3:=Nat.le_trans q3.2 hl2
 have q4:=gu (l3,e3)
 have k4:=wR hb l3 e3 hl3
 generalize aP (l3,e3)=t at q4 k4 hK
 obtain⟨c,l4,e4⟩:=t
 dsimp only at q4 k4 hK
 have hl4:=Nat.le_trans q4.2 hl3
 have abR:l4.length<=maxLen:=Nat.le_trans hl4 (by unfold maxLen;omega)
 have hN:=VN c
 cbv
 refine mD hb hQ eU [] [(4, .a (.c (.ptr 2 0 0))),(5, .a (.c (.p (.str (bx (bs l))))))] [(2, .one (.row [.p (.int .i64 (bx 0))] 30))] ?_ ?_
 ·cbv
  repeat' (first
   |apply And.intro
   |exact⟨ent [] [.all 0, .all 1, .all 2] (hs:=by cbv;(repeat' (first|trivial|rfl|apply And.intro|(simp[hb];done))))⟩)
 ·cbv
  refine call hQ k1 [.all 0, .all 2] ?_
  rintro _ _ ⟨rfl,rfl⟩
  cbv
  refine call hQ k2 [.all 0, .all 2] ?_
  rintro _ _ ⟨rfl,rfl⟩
  cbv
  refine call hQ k3 [.all 0, .all 2] ?_
  rintro _ _ ⟨rfl,rfl⟩
  cbv
  refine call hQ k4 [.all 0, .all 2] ?_
  rintro _ _ ⟨rfl,rfl⟩
  cbv
  refine QN hb (fun a:Nat×List Ac×List UInt8×Int=>a.1<=og c/\eF a.1 (l4,e4)=(a.2.1,(a.2.2.1,a.2.2.2))) (fun a=>og c-a.1) (fun a=>[(9, .a (.c (.p (.int .i64 (bx (c-Int.ofNat a.1))))))])
   (fun a=>[(0, .one (.row [.p (.str (bx (bs a.2.2.1)))] 9)),(2, .one (.row [.p (.int .i64 (bx a.2.2.2))] 30)),(5, .one (.row [.p (.int .i64 (bx b)), .p (.int .i64 (bx r)), .p (.int .i64 (bx j.par)), .p (.fz (bx j.nodes.length) (bx (dI j.nodes))), .sl 6 0 0 (bx a.2.1.length)] 27)),(6, .one (.bH (bx (jm a.2.1)) 41))])
   (0,[],l4,e4) ⟨Nat.zero_le _,rfl⟩
   0 (fun a:List Ac×List UInt8×Int=>eF (og c) (l4,e4)=(a.1,(a.2.1,a.2.2))) (fun _=>[])
   (fun a=>[(0, .one (.row [.p (.str (bx (bs a.2.1)))] 9)),(2, .one (.row [.p (.int .i64 (bx a.2.2))] 30)),(5, .one (.row [.p (.int .i64 (bx b)), .p (.int .i64 (bx r)), .p (.int .i64 (bx j.par)), .p (.fz (bx j.nodes.length) (bx (dI j.nodes))), .sl 6 0 0 (bx a.1.length)] 27)),(6, .one (.bH (bx (jm a.1)) 41))])
   (ent [] [.all 0, .all 1, .all 2, .all 3, .all 4, .all 5, .jh] (hs:=by cbv;(repeat' (first|trivial|rfl|apply And.intro|(simp[hb,jm];done)))) (he:=by cbv;(repeat' (first|trivial|rfl|apply And.intro|(simp[hb];done))))) ?_ ?_
  ·rintro⟨i,xs,l',e'⟩ ⟨i1,i2⟩
   dsimp only at i1 i2⊢
   obtain⟨hx,hi⟩:=aed i1
   have out:i=og c\/e'≠0->eF (og c) (l4,e4)=(xs,l',e'):=by
    rintro(h|h)
    ·rw[<-h];exact i2
    ·have:=KI (st:=(l4,e4)) (n:=i) (by rw[i2];exact h) (og c-i)
     rw[Nat.add_sub_cancel' i1,i2]at this
     exact this
   cbv
   refine⟨fun h1=>?_,fun h1=>?_⟩<;>simp only[hb,pl]at h1
   ·cbv
    refine⟨fun h2=>?_,fun h2=>?_⟩<;>simp only[hb,pl]at h2
    ·cbv
     refine⟨fun h3=>?_,fun h3=>?_⟩<;>simp only[hb,pl]at h3
     ·replace hi:=hi h1 h2
      have hl':l'.length<=4611686018427387904:=by
       have:=(vV (l4,e4) abR i).2.2
       rw[i2]at this
       exact Nat.le_trans this hl4
      have hnl:xs.length<=i:=by
       have:=(vV (l4,e4) abR i).2.1
       rw[i2]at this
       exact this
      have i4:eF (i+1) (l4,e4)=(xs++[(uo (l',e')).1],(uo (l',e')).2):=by
       have:eF (i+1) (l4,e4)=if(eF i (l4,e4)).2.2≠0 then eF i (l4,e4)else((eF i (l4,e4)).1++[(uo (eF i (l4,e4)).2).1],(uo (eF i (l4,e4)).2).2):=rfl
       rw[this,i2]
       exact if_neg (by dsimp only;omega)
      have ea:uo (l',e')=bodyT (IntKind.wrap .u8 (aP (l',e')).1) (aP (aP (l',e')).2).1 (aP (aP (aP (l',e')).2).2).1 (aP (aP (aP (l',e')).2).2).2:=rfl
      rw[ea]at i4
      clear ea
      have fa:=gu (l',e')
      have ka:=wR hb l' e' hl'
      generalize aP (l',e')=t at i4 fa ka
      obtain⟨kd,la,ea⟩:=t
      dsimp only at i4 fa ka
      have hla:=Nat.le_trans fa.2 hl'
      have fb:=gu (la,ea)
      have kb:=wR hb la ea hla
      generalize aP (la,ea)=t at i4 fb kb
      obtain⟨n,lb,eb⟩:=t
      dsimp only at i4 fb kb
      have hlb:=Nat.le_trans fb.2 hla
      have fc:=gu (lb,eb)
      have kc:=wR hb lb eb hlb
      generalize aP (lb,eb)=t at i4 fc kc
      obtain⟨m,lc,ec⟩:=t
      dsimp only at i4 fc kc
      have hlc:=Nat.le_trans fc.2 hlb
      obtain⟨kind,hk⟩: ∃k,k=IntKind.wrap .u8 kd:=⟨_,rfl⟩
      rw[<-hk]at i4
      cbv
      refine call hQ ka [.all 0, .all 2] ?_
      rintro _ _ ⟨rfl,rfl⟩
      cbv
      refine call hQ kb [.all 0, .all 2] ?_
      rintro _ _ ⟨rfl,rfl⟩
      cbv
      refine call hQ kc [.all 0, .all 2] ?_
      rintro _ _ ⟨rfl,rfl⟩
      cbv
      have hk2:wr .u8 kd=kind:=hk.symm
      have hu:=aix hb q4.1 h1
      refine⟨fun h4=>?_,fun h4=>?_⟩<;>simp only[hb,hk2,pl]at h4
      ·have eb:bodyT kind n m (lc,ec)=(⟨kind,n,m,(aP (lc,ec)).1,(aP (aP (lc,ec)).2).1,(aP (aP (aP (lc,ec)).2).2).1,zJ⟩,(aP (aP (aP (lc,ec)).2).2).2):=if_pos h4
       rw[eb]at i4
       clear eb
       have fd1:=gu (lc,ec)
       have Rf:=wR hb lc ec hlc
       generalize aP (lc,ec)=t at i4 fd1 Rf
       obtain⟨p,ld,ed⟩:=t
       dsimp only at i4 fd1 Rf
       have hld:=Nat.le_trans fd1.2 hlc
       have RP:=gu (ld,ed)
       have ke1:=wR hb ld ed hld
       generalize aP (ld,ed)=t at i4 RP ke1
       obtain⟨key,le,ee⟩:=t
       dsimp only at i4 RP ke1
       have hle:=Nat.le_trans RP.2 hld
       have VB:=gu (le,ee)
       have Q9:=wR hb le ee hle
       generalize aP (le,ee)=t at i4 VB Q9
       obtain⟨v,lf,ef⟩:=t
       dsimp only at i4 VB Q9
       have hlf:=Nat.le_trans VB.2 hle
       cbv
       refine call hQ Rf [.all 0, .all 2] ?_
       rintro _ _ ⟨rfl,rfl⟩
       cbv
       refine call hQ ke1 [.all 0, .all 2] ?_
       rintro _ _ ⟨rfl,rfl⟩
       cbv
       refine call hQ Q9 [.all 0, .all 2] ?_
       rintro _ _ ⟨rfl,rfl⟩
       cbv
       obtain⟨a,ha⟩: ∃a:Ac,a=⟨kind,n,m,p,key,v,zJ⟩:=⟨_,rfl⟩
       rw[<-ha]at i4
       refine chk (by simp only[hb,mO,pW,sG];simp;omega) ?_
       cbv
       exact⟨(i+1,xs++[a],lf,ef),⟨by dsimp only;omega,i4⟩,by dsimp only;omega,ent [] [.all 0, .all 1, .all 2, .all 3, .all 4, .all 5, .all 9] (hs:=by cbv;(repeat' (first|trivial|rfl|apply And.intro|(simp only[hb,qH,ha,wz,nC,pR,hk2,zJ,qy,List.length_nil];done)|(simp[hb];done)))) (he:=by cbv;(repeat' (first|trivial|rfl|apply And.intro|exact hu|(simp only[hb];done))))⟩
      ·cbv
       refine⟨fun h5=>?_,fun h5=>?_⟩<;>simp only[hb,hk2,pl]at h5
       ·have eb:bodyT kind n m (lc,ec)=(⟨kind,n,m,0,0,0,(jW (lc,ec)).1⟩,(jW (lc,ec)).2):=(if_neg h4).trans (if_pos h5)
        rw[eb]at i4
        clear eb
        have ku:=acz hb lc ec hlc
        generalize jW (lc,ec)=t at i4 ku
        obtain⟨jj,ld,ed⟩:=t
        dsimp only at i4 ku
        cbv
        refine call hQ ku [.all 0, .all 2] ?_
        rintro _ _ ⟨rfl,rfl⟩
        cbv
        obtain⟨a,ha⟩: ∃a:Ac,a=⟨kind,n,m,0,0,0,jj⟩:=⟨_,rfl⟩
        rw[<-ha]at i4
        refine chk (by simp only[hb,mO,pW,sG];simp;omega) ?_
        cbv
        exact⟨(i+1,xs++[a],ld,ed),⟨by dsimp only;omega,i4⟩,by dsimp only;omega,ent [] [.all 0, .all 1, .all 2, .all 3, .all 4, .all 5, .all 9] (hs:=by cbv;(repeat' (first|trivial|rfl|apply And.intro|(simp only[hb,qH,ha,wz,nC,pR,hk2,zJ,qy,List.length_nil];done)|(simp[hb];done)))) (he:=by cbv;(repeat' (first|trivial|rfl|apply And.intro|exact hu|(simp only[hb];done))))⟩
       ·have eb:bodyT kind n m (lc,ec)=(⟨kind,n,m,0,0,0,zJ⟩,(lc,ec)):=(if_neg h4).trans (if_neg h5)
        rw[eb]at i4
        clear eb
        cbv
        obtain⟨a,ha⟩: ∃a:Ac,a=⟨kind,n,m,0,0,0,zJ⟩:=⟨_,rfl⟩
        rw[<-ha]at i4
        refine chk (by simp only[hb,mO,pW,sG];simp;omega) ?_
        cbv
        exact⟨(i+1,xs++[a],lc,ec),⟨by dsimp only;omega,i4⟩,by dsimp only;omega,ent [] [.all 0, .all 1, .all 2, .all 3, .all 4, .all 5, .all 9] (hs:=by cbv;(repeat' (first|trivial|rfl|apply And.intro|(simp only[hb,qH,ha,wz,nC,pR,hk2,zJ,qy,List.length_nil];done)|(simp[hb];done)))) (he:=by cbv;(repeat' (first|trivial|rfl|apply And.intro|exact hu|(simp only[hb];done))))⟩
     ·cbv
      exact⟨(xs,l',e'),out (.inr h3),rfl,ent [] A7⟩
    ·cbv
     exact⟨(xs,l',e'),out (.inl (hx (.inr (Int.not_le.1 h2)))),rfl,ent [] A7⟩
   ·cbv
    exact⟨(xs,l',e'),out (.inl (hx (.inl (Int.not_lt.1 h1)))),rfl,ent [] A7⟩
  ·rintro⟨xs,l',e'⟩ j1
   rw[j1]at hK
   dsimp only at j1 hK⊢
   have ft:fV ⟨b,r,j,xs⟩:=by
    have:=vV (l4,e4) abR (og c)
    rw[j1]at this
    exact⟨q1.1,q2.1,q3.1,Nat.lt_of_le_of_lt this.2.1 (Nat.lt_of_le_of_lt hN (by omega)),this.1⟩
   cbv
   refine⟨fun h1=>?_,fun h1=>?_⟩<;>simp only[hb,pl]at h1
   ·have ee:L6 l ⟨b,r,j,xs⟩ e'=(zT,21):=if_pos h1
    rw[ee]at hK
    dsimp only at hK
    cbv
    exact hK _ _ (.aK [gV bx zT, .c (.p (.int .i64 (bx 21)))]) [] (aS [] [] (he:=by cbv;(repeat' (first|trivial|rfl|apply And.intro|(simp[hb,jm];done))))) ⟨rfl,rfl⟩
   ·have ee:L6 l ⟨b,r,j,xs⟩ e'=if ig ⟨b,r,j,xs⟩=true/\jX ⟨b,r,j,xs⟩=l then(⟨b,r,j,xs⟩,0)else(zT,21):=if_neg (by omega)
    rw[ee]at hK
    clear ee
    have kp:=ae1 hb ⟨b,r,j,xs⟩ hS ft
    obtain⟨pt,hpt⟩: ∃t,t=jX ⟨b,r,j,xs⟩:=⟨_,rfl⟩
    rw[<-hpt]at hK kp
    generalize ig ⟨b,r,j,xs⟩=my at hK kp
    cbv
    refine iM.Aa (args2:=[gV bx ⟨b,r,j,xs⟩]) [6] [.all 0, .all 1, .all 2, .all 3, .all 4, .all 5, .gone 6] [.one (.row [.p (.str (bx (bs l')))] 9), .one (.row [.p (.lit .i64 0), .p (.lit .i64 0), .p (.lit .i64 0), .p .bZ, .p .bZ] 27), .one (.row [.p (.int .i64 (bx e'))] 30), .one (.clo 35 [] [.c (.ptr 0 0 0), .c (.ptr 2 0 0)]), .one (.clo 37 [] [.c (.ptr 0 0 0), .c (.ptr 2 0 0)]), .one (.row [.p (.int .i64 (bx b)), .p (.int .i64 (bx r)), .p (.int .i64 (bx j.par)), .p (.fz (bx j.nodes.length) (bx (dI j.nodes))), .p (.fz (bx xs.length) (bx (jm xs)))] 27), .no] ?_
    cbv
    refine call hQ kp [] ?_
    rintro rr _ ⟨rfl,hr⟩
    by_cases zi:my=true
    ·rw[if_pos zi]at hr
     subst hr
     have bq:((bs pt).toList==(bs l).toList)=decide (pt=l):=by
      rw[<-beq_toListBytes,um]
      congr 1
      exact propext ⟨fun h=>by have:=congrArg (fun b:ByteArray=>b.data.toList) h;simpa[bs]using this,fun h=>by rw[h]⟩
     cbv
     refine⟨fun h2=>?_,fun _=>?_⟩
     ·rw[hb]at h2
      exact absurd h2 (by decide)
     ·cbv
      refine⟨fun h3=>?_,fun h3=>?_⟩<;>simp only[hb,bq,pl]at h3
      ·rw[if_neg (fun h=>h3 h.2)]at hK
       dsimp only at hK
       cbv
       exact hK _ _ (.aK [gV bx zT, .c (.p (.int .i64 (bx 21)))]) [] (aS [] [] (he:=by cbv;(repeat' (first|trivial|rfl|apply And.intro|(simp[hb,jm];done))))) ⟨rfl,rfl⟩
      ·rw[if_pos ⟨zi,h3⟩]at hK
       dsimp only at hK
       cbv
       exact hK _ _ (.aK [gV bx ⟨b,r,j,xs⟩, .c (.p (.int .i64 (bx 0)))]) [] (aS [] [] (he:=by cbv;(repeat' (first|trivial|rfl|apply And.intro|(simp[hb];done))))) ⟨rfl,rfl⟩
    ·rw[if_neg zi]at hr
     subst hr
     rw[if_neg (fun h=>zi h.1)]at hK
     dsimp only at hK
     cbv
     refine⟨fun _=>?_,fun h2=>?_⟩
     ·cbv
      exact hK _ _ (.aK [gV bx zT, .c (.p (.int .i64 (bx 21)))]) [] (aS [] [] (he:=by cbv;(repeat' (first|trivial|rfl|apply And.intro|(simp[hb,jm];done))))) ⟨rfl,rfl⟩
     ·rw[hb]at h2
      exact absurd h2 (by decide)
end
end Sx
end
end Go.Proofs.YtakhobfamnjnoaaGreatDoor
