/- Symbolic runs: the document's jobs taken from bytes. -/
import Derived.Test.YtakhobfamnjnoaaGreatDoorC35
set_option linter.unusedVariables false
set_option linter.unusedSimpArgs false
namespace Go.Proofs.YtakhobfamnjnoaaGreatDoor
section
namespace Sx
open Go Go.RowKit _root_.Go.Proofs.Tryz
set_option maxRecDepth 100000
set_option maxHeartbeats 4000000
section
variable (bx:{α:Type}->α->α)
def qU (l:List UInt8)(e:Int):Hp:=[.one (.row [.p (.str (bx (bs l))), .p (.int .i64 (bx e))] 173)]
end
section
variable {bx:{α:Type}->α->α} (hb: ∀{α:Type}(x:α),bx x=x)
include hb
theorem zZ (l:List UInt8)(e:Int)(hl:l.length<=4611686018427387904):Ct prog 109 [.c (.ptr 0 0 0)] (qU bx l e) fun r h=>r= .a (.c (.p (.int .i64 (bx (aB (l,e)).1))))/\h=qU bx (aB (l,e)).2.1 (aB (l,e)).2.2:=ct hb func109 fun Q hQ K hK=>by
 have hz:=cu l
 have hle:=xI l
 have c:=Lh hb l (by unfold maxLen;omega)
 have en:aB (l,e)=if e=0 then((dX l).1,(l.drop (dX l).2.1,(dX l).2.2))else(0,(l,e)):=rfl
 have hz0:(dX l).2.2≠0->dX l=(0,0,(dX l).2.2):=fun h=>sO l 0 0 h
 rw[en]at hK
 clear en
 generalize dX l=t at hle c hK hz0
 obtain⟨n0,z,f⟩:=t
 dsimp only at hle c hK hz0
 cbv
 refine⟨fun h1=>?_,fun h1=>?_⟩<;>simp only[hb,pl]at h1
 ·rw[if_neg h1]at hK
  cbv
  exact hK _ _ (.a (.c (.p (.int .i64 (bx 0))))) (qU bx l e) (aS [] [.all 0] (he:=by cbv;(repeat' (first|trivial|rfl|apply And.intro|(simp[hb];done))))) ⟨rfl,rfl⟩
 ·rw[if_pos h1]at hK
  cbv
  refine call hQ c [] ?_
  rintro _ _ ⟨rfl,rfl⟩
  cbv
  refine⟨fun h2=>?_,fun h2=>?_⟩<;>simp only[hb,pl]at h2
  ·have h3:=hz0 h2
   injection h3 with h3 h4
   injection h4 with h4 _
   subst h3 h4
   cbv
   exact hK _ _ (.a (.c (.p (.int .i64 (bx 0))))) (qU bx (l.drop 0) f) (aS [] [.all 0] (he:=by cbv;(repeat' (first|trivial|rfl|apply And.intro|(simp[hb];done)))) (hs:=by cbv;(repeat' (first|trivial|rfl|apply And.intro|(simp[hb];done))))) ⟨rfl,rfl⟩
  ·cbv
   refine chk (by simp only[hb,hz,nc];simp only[Bool.and_eq_true,decide_eq_true_eq,Int.ofNat_eq_natCast];omega) ?_
   cbv
   obtain⟨l2,hl2⟩: ∃t,t=l.drop z:=⟨_,rfl⟩
   rw[<-hl2]at hK
   exact hK _ _ (.a (.c (.p (.int .i64 (bx n0))))) (qU bx l2 f) (aS [] [.all 0] (he:=by cbv;(repeat' (first|trivial|rfl|apply And.intro|(simp[hb];done)))) (hs:=by cbv;(repeat' (first|trivial|rfl|apply And.intro|(simp only[hb,hz,hl2,<-qF];rfl)|(simp[hb];done))))) ⟨rfl,rfl⟩
theorem xO (m y:Int)(hm:0<=m)(l:List UInt8)(e:Int)(hl:l.length<=4611686018427387904):Ct prog 110 [.c (.ptr 0 0 0), .c (.p (.int .i64 (bx m))), .c (.p (.int .i64 (bx y)))] (qU bx l e) fun r h=>r= .a (.c (.p (.int .i64 (bx (aC m y (l,e)).1))))/\h=qU bx (aC m y (l,e)).2.1 (aC m y (l,e)).2.2:=ct hb func110 fun Q hQ K hK=>by
 have c:=zZ hb l e hl
 have en:aC m y (l,e)=if(aB (l,e)).1<0\/m<(aB (l,e)).1 then(0,lG (aB (l,e)).2 y)else aB (l,e):=rfl
 have hz0:=NH (l,e)
 rw[en]at hK
 clear en
 generalize aB (l,e)=t at c hK hz0
 obtain⟨n0,l1,e1⟩:=t
 dsimp only at c hK hz0
 cbv
 refine call hQ c [.all 0] ?_
 rintro _ _ ⟨rfl,rfl⟩
 cbv
 refine⟨fun h1=>?_,fun h1=>?_⟩<;>simp only[hb,pl]at h1
 ·subst h1
  have ef:lG (l1,0) y=(l1,y):=if_pos rfl
  rw[ef]at hK
  have bad:n0<0\/m<n0-> ∀{H:Hp},H=qU bx l1 y->K (.a (.c (.p (.lit .i64 0)))) H:=fun h H hH=>by
   rw[if_pos h]at hK
   subst hH
   exact hK _ _ (.a (.c (.p (.int .i64 (bx 0))))) (qU bx l1 y) (aS [] [.all 0] (he:=by cbv;(repeat' (first|trivial|rfl|apply And.intro|(simp[hb];done))))) ⟨rfl,rfl⟩
  cbv
  refine⟨fun h2=>?_,fun h2=>?_⟩<;>simp only[hb,pl]at h2
  ·cbv
   exact bad (.inl h2) rfl
  ·cbv
   refine⟨fun h3=>?_,fun h3=>?_⟩<;>simp only[hb,pl]at h3
   ·cbv
    exact bad (.inr h3) rfl
   ·rw[if_neg (by omega)]at hK
    cbv
    exact hK _ _ (.a (.c (.p (.int .i64 (bx n0))))) (qU bx l1 0) (aS [] [.all 0]) ⟨rfl,rfl⟩
 ·have:=hz0 h1
  subst this
  rw[if_neg (by omega)]at hK
  cbv
  exact hK _ _ (.a (.c (.p (.int .i64 (bx 0))))) (qU bx l1 e1) (aS [] [.all 0]) ⟨rfl,rfl⟩
theorem aaZ (l:List UInt8)(e:Int)(hl:l.length<=4611686018427387904):Ct prog 111 [.c (.ptr 0 0 0)] (qU bx l e) fun r h=>r= .a (.c (.p (.str (bx (bs (textS (l,e)).1)))))/\h=qU bx (textS (l,e)).2.1 (textS (l,e)).2.2:=ct hb func111 fun Q hQ K hK=>by
 have hz:=cu l
 have hle:=(uD l).1
 have c:=UF hb l hl
 have en:textS (l,e)=if e=0 then((dA l).1,(l.drop (dA l).2.1,(dA l).2.2))else([],(l,e)):=rfl
 rw[en]at hK
 clear en
 generalize dA l=t at hle c hK
 obtain⟨n0,z,f⟩:=t
 dsimp only at hle c hK
 cbv
 refine⟨fun h1=>?_,fun h1=>?_⟩<;>simp only[hb,pl]at h1
 ·rw[if_neg h1]at hK
  cbv
  exact hK _ _ (.a (.c (.p (.str (bx (bs [])))))) (qU bx l e) (aS [] [.all 0] (he:=by cbv;simp[hb,bs])) ⟨rfl,rfl⟩
 ·rw[if_pos h1]at hK
  cbv
  refine call hQ c [] ?_
  rintro _ _ ⟨rfl,rfl⟩
  cbv
  refine chk (by simp only[hb,hz,nc];simp only[Bool.and_eq_true,decide_eq_true_eq,Int.ofNat_eq_natCast];omega) ?_
  cbv
  obtain⟨l2,hl2⟩: ∃t,t=l.drop z:=⟨_,rfl⟩
  rw[<-hl2]at hK
  exact hK _ _ (.a (.c (.p (.str (bx (bs n0)))))) (qU bx l2 f) (aS [] [.all 0] (he:=by cbv;(repeat' (first|trivial|rfl|apply And.intro|(simp[hb];done)))) (hs:=by cbv;(repeat' (first|trivial|rfl|apply And.intro|(simp only[hb,hz,hl2,<-qF];rfl)|(simp[hb];done))))) ⟨rfl,rfl⟩
theorem P7: ∀(k:Nat)(l:List UInt8)(e:Int),k<=17->l.length<=4611686018427387904->Ct prog 112 [.c (.ptr 0 0 0), .c (.p (.int .i64 (bx (Int.ofNat k))))] (qU bx l e) fun r h=>r= .a (qK bx (dY k (l,e)).1)/\h=qU bx (dY k (l,e)).2.1 (dY k (l,e)).2.2
 |0,l,e,_,hl=>ct hb func112 fun Q hQ K hK=>by
  have em:dY 0 (l,e)=if e≠0 then(.mk 0 0 [],(l,e))else(.mk 0 0 [],(l,3)):=by unfold dY;rfl
  rw[em]at hK
  clear em
  cbv
  refine⟨fun h1=>?_,fun h1=>?_⟩<;>simp only[hb,pl]at h1
  ·rw[if_pos h1]at hK
   cbv
   exact hK _ _ (.a (qK bx (.mk 0 0 []))) (qU bx l e) (aS [] [.all 0] (he:=by cbv;simp[hb,gQ,Ex.op,Ex.n,Ex.args])) ⟨rfl,rfl⟩
  ·rw[if_neg (by omega)]at hK
   cbv
   refine⟨fun h2=>?_,fun h2=>?_⟩<;>simp only[hb,pl]at h2
   ·cbv
    exact hK _ _ (.a (qK bx (.mk 0 0 []))) (qU bx l 3) (aS [] [.all 0] (he:=by cbv;simp[hb,gQ,Ex.op,Ex.n,Ex.args]) (hs:=by cbv;simp[hb])) ⟨rfl,rfl⟩
   ·exact absurd rfl h2
 |k+1,l,e,hk,hl=>ct hb func112 fun Q hQ K hK=>by
  have em:dY (k+1) (l,e)=if e≠0 then(.mk 0 0 [],(l,e))else(.mk (aC 255 2 (l,e)).1 (aB (aC 255 2 (l,e)).2).1 (bQ (dY k) (aC 3 3 (aB (aC 255 2 (l,e)).2).2).1.toNat (aC 3 3 (aB (aC 255 2 (l,e)).2).2).2).1,(bQ (dY k) (aC 3 3 (aB (aC 255 2 (l,e)).2).2).1.toNat (aC 3 3 (aB (aC 255 2 (l,e)).2).2).2).2):=by conv=>lhs;unfold dY
  rw[em]at hK
  clear em
  have b1:=iY (m:=255) (by omega) 2 (l,e)
  have c1:=xO hb 255 2 (by omega) l e hl
  generalize aC 255 2 (l,e)=t at c1 b1 hK
  obtain⟨op,l1,e1⟩:=t
  dsimp only at c1 b1 hK
  have b2:=dK (l1,e1)
  have c2:=zZ hb l1 e1 (by omega)
  generalize aB (l1,e1)=t at c2 b2 hK
  obtain⟨n,l2,e2⟩:=t
  dsimp only at c2 b2 hK
  have b3:=iY (m:=3) (by omega) 3 (l2,e2)
  have c3:=xO hb 3 3 (by omega) l2 e2 (by omega)
  generalize aC 3 3 (l2,e2)=t at c3 b3 hK
  obtain⟨m,l3,e3⟩:=t
  dsimp only at c3 b3 hK
  obtain⟨m,rfl⟩: ∃a:Nat,m=Int.ofNat a:=⟨m.toNat,by simp only[Int.ofNat_eq_natCast];omega⟩
  rw[show(Int.ofNat m).toNat=m from rfl]at hK
  have b4:m<=3:=by have:=b3.2.1;simp only[Int.ofNat_eq_natCast]at this;omega
  have w8:wr .u8 op=op:=by rw[sJ,IntKind.wrap_u8];omega
  cbv
  refine⟨fun h1=>?_,fun h1=>?_⟩<;>simp only[hb,pl]at h1
  ·rw[if_pos h1]at hK
   cbv
   exact hK _ _ (.a (qK bx (.mk 0 0 []))) (qU bx l e) (aS [] [.all 0] (he:=by cbv;simp[hb,gQ,Ex.op,Ex.n,Ex.args])) ⟨rfl,rfl⟩
  rw[if_neg (by omega)]at hK
  cbv
  refine⟨fun h2=>?_,fun h2=>?_⟩<;>simp only[hb,pl]at h2
  ·replace h2:Int.ofNat (k+1)=0:=h2
   simp only[Int.ofNat_eq_natCast]at h2
   omega
  cbv
  refine call hQ c1 [.all 0] ?_ (ha:=by cbv;simp[hb])
  rintro _ _ ⟨rfl,rfl⟩
  cbv
  refine call hQ c2 [.all 0] ?_
  rintro _ _ ⟨rfl,rfl⟩
  cbv
  refine call hQ c3 [.all 0] ?_ (ha:=by cbv;simp[hb])
  rintro _ _ ⟨rfl,rfl⟩
  cbv
  refine loop hb (fun a:Nat×List Ex×List UInt8×Int=>a.1<=m/\bQ (dY k) a.1 (l3,e3)=(a.2.1,(a.2.2.1,a.2.2.2))) (fun a=>m-a.1) (fun a=>[(7, .a (.c (.p (.int .i64 (bx (Int.ofNat a.1))))))])
   (fun a=>[(0, .one (.row [.p (.str (bx (bs a.2.2.1))), .p (.int .i64 (bx a.2.2.2))] 173)),(2, .one (.row [.p (.int .u8 (bx op)), .p (.int .i64 (bx n)), .sl 3 0 0 (bx a.2.1.length)] 77)),(3, .one (.bH (bx (gQ a.2.1)) 77))])
   (0,[],l3,e3) ⟨by omega,rfl⟩ (ent [] [.all 0, .all 1, .all 2, .jh] (hs:=by cbv;(repeat' (first|trivial|rfl|apply And.intro|(simp[hb,gQ,w8];done)))) (he:=by cbv;(repeat' (first|trivial|rfl|apply And.intro|(simp[hb,gQ];done))))) ?_
  rintro⟨i,xs,l',e'⟩ ⟨i1,i2⟩
  dsimp only at i1 i2⊢
  have hx:=kK (fun st=>(wK k st).2) i (l3,e3)
  rw[i2]at hx
  dsimp only at hx
  have hc: ∀x:Ex,gQ (xs++[x])=gQ xs++[.int .u8 x.op, .int .i64 x.n, .fz x.args.length (gQ x.args)]:=fun x=>by obtain⟨o,n,a⟩:=x;simp[lT,Au,Ex.op,Ex.n,Ex.args]
  cbv
  refine⟨fun hd=>?_,fun hd=>?_⟩<;>simp only[hb,pl]at hd
  ·cbv
   have i3:bQ (dY k) (i+1) (l3,e3)=(xs++[(dY k (l',e')).1],(dY k (l',e')).2):=by unfold bQ;rw[i2]
   have ci:=P7 k l' e' (by omega) (by omega)
   generalize dY k (l',e')=t at ci i3
   obtain⟨x,l4,e4⟩:=t
   dsimp only at ci i3
   have hu:=mQ hb (k:=i) (by omega)
   have hw:wr .i64 (Int.ofNat (k+1)-1)=Int.ofNat k:=by rw[rD (by simp only[Int.ofNat_eq_natCast];omega)];simp
   refine mD hb hQ eU [] [] [(0, .one (.row [.p (.str (bx (bs l4))), .p (.int .i64 (bx e4))] 173)),(2, .one (.row [.p (.int .u8 (bx op)), .p (.int .i64 (bx n)), .sl 3 0 0 (bx (xs++[x]).length)] 77)),(3, .one (.bH (bx (gQ (xs++[x]))) 77))] ?_ ?_
   ·cbv
    repeat' (first
     |apply And.intro
     |(refine call (f:=112) hQ ci [.all 0] ?_ (ha:=by cbv;(repeat' (first|trivial|rfl|apply And.intro|(simp only[hb,hw];done))));rintro _ _ ⟨rfl,rfl⟩;cbv)
     |(refine chk (by simp only[hb,mO,pW,Cm];simp;omega) ?_;cbv)
     |exact⟨ent [] [.all 0, .all 1, .all 2, .all 5] (hs:=by cbv;(repeat' (first|trivial|rfl|apply And.intro|(simp only[hb,hc,nC,pR];done)|(simp[hb];done))))⟩)
   ·cbv
    exact⟨(i+1,xs++[x],l4,e4),⟨by dsimp only;omega,i3⟩,by dsimp only;omega,ent [] [.all 0, .all 1, .all 2, .all 3] (he:=by cbv;(repeat' (first|trivial|rfl|apply And.intro|exact hu|(simp only[hb];done))))⟩
  ·cbv
   have:i=m:=by omega
   subst this
   rw[i2]at hK
   exact hK _ _ (.a (qK bx (.mk op n xs))) (qU bx l' e') (aS [3] [.all 0] (he:=by cbv;(repeat' (first|trivial|rfl|apply And.intro|(simp[hb,Ex.op,Ex.n,Ex.args];done))))) ⟨rfl,rfl⟩
end
end Sx
end
section
namespace Sx
open Go Go.RowKit _root_.Go.Proofs.Tryz
set_option maxRecDepth 100000
set_option maxHeartbeats 4000000
theorem agO (l:List UInt8):((bs l).toList==(⟨⟨[]⟩⟩:ByteArray).toList)=decide (l=[]):=by
 have:=um (bs l) ⟨⟨[]⟩⟩
 have h2:((bs l).toList==(⟨⟨[]⟩⟩:ByteArray).toList)=(bs l==(⟨⟨[]⟩⟩:ByteArray)):=by rw[<-beq_toListBytes]
 rw[h2,this]
 congr 1
 exact propext ⟨fun h=>by have:=congrArg (fun b:ByteArray=>b.data.toList) h;simpa[bs]using this,fun h=>by rw[h];rfl⟩
theorem nD.sm {j:Jb}(h:nD j):zh j:=⟨by have:=h.1;omega,fun d hd=>by have:=(h.2.1 d hd).2.1;omega⟩
theorem nD.ins {j:Jb}(h:nD j):OV j:=fun d hd=>by have:=(h.2.1 d hd).2.2;omega
section
variable {bx:{α:Type}->α->α} (hb: ∀{α:Type}(x:α),bx x=x)
include hb
theorem aeV (l:List UInt8)(hl:l.length<=4611686018427387904):Ct prog 80 [.c (.p (.str (bx (bs l))))] [] fun r h=>r= .aK [jM bx (oV l).1, .c (.p (.int .i64 (bx (oV l).2)))]/\h=[]:=ct hb func80 fun Q hQ K hK=>by
 have b1:=dK (l,0)
 have c1:=zZ hb l 0 hl
 have e0:oV l=EP ⟨(aB (l,0)).1,(bM (aC 12 3 (aB (l,0)).2).1.toNat (aC 12 3 (aB (l,0)).2).2).1⟩ (bM (aC 12 3 (aB (l,0)).2).1.toNat (aC 12 3 (aB (l,0)).2).2).2:=by simp only[oV]
 generalize h1:aB (l,0)=t1 at c1 b1 e0
 obtain⟨n,l1,e1⟩:=t1
 dsimp only at c1 b1 e0
 have b2:=iY (m:=12) (by omega) 3 (l1,e1)
 have hl1:l1.length<=4611686018427387904:=Nat.le_trans b1.2 hl
 have hl2:=Nat.le_trans b2.2.2 hl1
 have c2:=xO hb 12 3 (by omega) l1 e1 hl1
 generalize h2:aC 12 3 (l1,e1)=t2 at c2 b2 e0 hl2
 obtain⟨m,l2,e2⟩:=t2
 dsimp only at c2 b2 e0 hl2
 have⟨m',hm'⟩:=Jr b2.1
 rw[hm']at c2 b2 e0
 clear h2 hm' m
 rename Nat=>m
 have hm:m<=12:=Int.ofNat_le.1 b2.2.1
 replace e0:oV l=EP ⟨n,(bM m (l2,e2)).1⟩ (bM m (l2,e2)).2:=e0
 rw[e0]at hK
 have b1:=b1.1
 clear h1 b2 e0
 cbv
 refine call hQ c1 [.all 1] ?_
 rintro _ _ ⟨rfl,rfl⟩
 cbv
 refine call hQ c2 [.all 1] ?_ (ha:=by cbv;simp[hb])
 rintro _ _ ⟨rfl,rfl⟩
 cbv
 refine QN hb (fun a:Nat×List JN×List UInt8×Int=>a.1<=m/\bM a.1 (l2,e2)=(a.2.1,(a.2.2.1,a.2.2.2))) (fun a=>m-a.1) (fun a=>[(7, .a (.c (.p (.int .i64 (bx (Int.ofNat a.1))))))])
  (fun a=>[(1, .one (.row [.p (.str (bx (bs a.2.2.1))), .p (.int .i64 (bx a.2.2.2))] 173)),(2, .one (.row [.p (.int .i64 (bx n)), .sl 3 0 0 (bx a.2.1.length)] 24)),(3, .one (.bH (bx (dI a.2.1)) 79))])
  (0,[],l2,e2) ⟨by omega,rfl⟩
  0 (fun a:List JN×List UInt8×Int=>bM m (l2,e2)=(a.1,(a.2.1,a.2.2))) (fun _=>[])
  (fun a=>[(1, .one (.row [.p (.str (bx (bs a.2.1))), .p (.int .i64 (bx a.2.2))] 173)),(2, .one (.row [.p (.int .i64 (bx n)), .sl 3 0 0 (bx a.1.length)] 24)),(3, .one (.bH (bx (dI a.1)) 79))])
  (ent [] [.all 0, .all 1, .all 2, .jh] (hs:=by cbv;(repeat' (first|trivial|rfl|apply And.intro|(simp[hb];done)))) (he:=by cbv;(repeat' (first|trivial|rfl|apply And.intro|(simp[hb];done))))) ?_ ?_
 ·rintro⟨i,ns,l',e'⟩ ⟨i1,i3⟩
  dsimp only at i1 i3⊢
  cbv
  refine⟨fun hd=>?_,fun hd=>?_⟩<;>simp only[hb,pl]at hd
  ·cbv
   refine⟨fun he0=>?_,fun he0=>?_⟩<;>simp only[hb,pl]at he0
   ·have hlen:l'.length<=4611686018427387904:=by
     have:=(qV (l2,e2) i).2.2
     rw[i3]at this
     exact Nat.le_trans this hl2
    have i4:bM (i+1) (l2,e2)=(ns++[(lZ (l',e')).1],(lZ (l',e')).2):=by
     have:bM (i+1) (l2,e2)=if(bM i (l2,e2)).2.2≠0 then bM i (l2,e2)else((bM i (l2,e2)).1++[(lZ (bM i (l2,e2)).2).1],(lZ (bM i (l2,e2)).2).2):=rfl
     rw[this,i3]
     exact if_neg (by dsimp only;omega)
    have en:lZ (l',e')=({uid:=bs (textS (l',e')).1,kind:=(aC 255 2 (textS (l',e')).2).1,n:=(aB (aC 255 2 (textS (l',e')).2).2).1,ins:=(bQ aB (aC 12 3 (aB (aC 255 2 (textS (l',e')).2).2).2).1.toNat (aC 12 3 (aB (aC 255 2 (textS (l',e')).2).2).2).2).1,x:=(dY 17 (bQ aB (aC 12 3 (aB (aC 255 2 (textS (l',e')).2).2).2).1.toNat (aC 12 3 (aB (aC 255 2 (textS (l',e')).2).2).2).2).2).1},(dY 17 (bQ aB (aC 12 3 (aB (aC 255 2 (textS (l',e')).2).2).2).1.toNat (aC 12 3 (aB (aC 255 2 (textS (l',e')).2).2).2).2).2).2):=by simp only[lZ]
    rw[en]at i4
    clear en
    have f1:=yV (l',e')
    have k1:=aaZ hb l' e' hlen
    generalize textS (l',e')=t at i4 f1 k1
    obtain⟨tx,la,ea⟩:=t
    dsimp only at i4 f1 k1
    have hla:=Nat.le_trans f1.2 hlen
    have f2:=iY (m:=255) (by omega) 2 (la,ea)
    have k2:=xO hb 255 2 (by omega) la ea hla
    generalize aC 255 2 (la,ea)=t at i4 f2 k2
    obtain⟨kd,lb,eb⟩:=t
    dsimp only at i4 f2 k2
    have hlb:=Nat.le_trans f2.2.2 hla
    have f3:=dK (lb,eb)
    have k3:=zZ hb lb eb hlb
    generalize aB (lb,eb)=t at i4 f3 k3
    obtain⟨nn,lc,ec⟩:=t
    dsimp only at i4 f3 k3
    have hlc:=Nat.le_trans f3.2 hlb
    have f4:=iY (m:=12) (by omega) 3 (lc,ec)
    have k4:=xO hb 12 3 (by omega) lc ec hlc
    generalize aC 12 3 (lc,ec)=t at i4 f4 k4
    obtain⟨q,ld,ed⟩:=t
    dsimp only at i4 f4 k4
    have hld:=Nat.le_trans f4.2.2 hlc
    have⟨q',hq'⟩:=Jr f4.1
    rw[hq']at i4 f4 k4
    clear hq' q
    rename Nat=>q
    replace i4:bM (i+1) (l2,e2)=(ns++[{uid:=bs tx,kind:=kd,n:=nn,ins:=(bQ aB q (ld,ed)).1,x:=(dY 17 (bQ aB q (ld,ed)).2).1}],(dY 17 (bQ aB q (ld,ed)).2).2):=i4
    have hq:q<=12:=Int.ofNat_le.1 f4.2.1
    have w8:wr .u8 kd=kd:=by rw[sJ,IntKind.wrap_u8];omega
    cbv
    refine call hQ k1 [.all 1] ?_
    rintro _ _ ⟨rfl,rfl⟩
    cbv
    refine call hQ k2 [.all 1] ?_ (ha:=by cbv;simp[hb])
    rintro _ _ ⟨rfl,rfl⟩
    cbv
    refine call hQ k3 [.all 1] ?_
    rintro _ _ ⟨rfl,rfl⟩
    cbv
    refine call hQ k4 [.all 1] ?_ (ha:=by cbv;simp[hb])
    rintro _ _ ⟨rfl,rfl⟩
    cbv
    refine loop hb (fun a:Nat×List Int×List UInt8×Int=>a.1<=q/\bQ aB a.1 (ld,ed)=(a.2.1,(a.2.2.1,a.2.2.2))) (fun a=>q-a.1) (fun a=>[(10, .a (.c (.p (.int .i64 (bx (Int.ofNat a.1))))))])
     (fun a=>[(1, .one (.row [.p (.str (bx (bs a.2.2.1))), .p (.int .i64 (bx a.2.2.2))] 173)),(4, .one (.row [.p (.str (bx (bs tx))), .p (.int .u8 (bx kd)), .sl 5 0 0 (bx a.2.1.length), .p (.lit .u8 0), .p (.lit .i64 0), .p .bZ, .p (.int .i64 (bx nn))] 79)),(5, .one (.bH (bx (iO a.2.1)) 3))])
     (0,[],ld,ed) ⟨by omega,rfl⟩ (ent [] [.all 0, .all 1, .all 2, .all 3, .all 4, .jh] (hs:=by cbv;(repeat' (first|trivial|rfl|apply And.intro|(simp[hb,w8];done)))) (he:=by cbv;(repeat' (first|trivial|rfl|apply And.intro|(simp[hb];done))))) ?_
    rintro⟨k,is,ls,es⟩ ⟨p1,p2⟩
    dsimp only at p1 p2⊢
    have fk:=kK (f:=aB) (fun st=>(dK st).2) k (ld,ed)
    rw[p2]at fk
    have hls:=Nat.le_trans fk.2 hld
    have hil:is.length=k:=fk.1
    clear fk
    cbv
    refine⟨fun hk=>?_,fun hk=>?_⟩<;>simp only[hb,pl]at hk
    ·have p3:bQ aB (k+1) (ld,ed)=(is++[(aB (ls,es)).1],(aB (ls,es)).2):=by unfold bQ;rw[p2]
     have kn:=zZ hb ls es hls
     have gk:=dK (ls,es)
     generalize aB (ls,es)=t at p3 kn gk
     obtain⟨v,lt,et⟩:=t
     dsimp only at p3 kn gk
     have hv:=oL gk.1
     have hu:=mQ hb (k:=k) (by omega)
     cbv
     refine mD hb hQ eU [] [] [(1, .one (.row [.p (.str (bx (bs lt))), .p (.int .i64 (bx et))] 173)),(4, .one (.row [.p (.str (bx (bs tx))), .p (.int .u8 (bx kd)), .sl 5 0 0 (bx (is++[v]).length), .p (.lit .u8 0), .p (.lit .i64 0), .p .bZ, .p (.int .i64 (bx nn))] 79)),(5, .one (.bH (bx (iO (is++[v]))) 3))] ?_ ?_
     ·cbv
      repeat' (first
       |apply And.intro
       |(refine call (f:=109) hQ kn [.all 1] ?_;rintro _ _ ⟨rfl,rfl⟩;cbv)
       |(refine chk (by simp only[hb,mO,pW,uT];simp;omega) ?_;cbv)
       |exact⟨ent [] [.all 0, .all 1, .all 2, .all 3, .all 4, .all 7] (hs:=by cbv;(repeat' (first|trivial|rfl|apply And.intro|(simp only[hb,Ec,nC,pR];done)|(simp[hb];done))))⟩)
     ·cbv
      exact⟨(k+1,is++[v],lt,et),⟨by dsimp only;omega,p3⟩,by dsimp only;omega,ent [] [.all 0, .all 1, .all 2, .all 3, .all 4, .all 5] (he:=by cbv;(repeat' (first|trivial|rfl|apply And.intro|exact hu|(simp only[hb];done))))⟩
    ·have hkq:k=q:=by omega
     subst hkq
     rw[p2]at i4
     dsimp only at i4
     have kt:=P7 hb 17 ls es (by omega) hls
     generalize dY 17 (ls,es)=t at i4 kt
     obtain⟨x,lg,eg⟩:=t
     dsimp only at i4 kt
     cbv
     refine iM.Aa (args2:=[.c (.ptr 1 0 0), .c (.p (.lit .i64 17))]) [5] [.all 0, .all 1, .all 2, .all 3, .all 4, .gone 5] [.one (.row [.p (.lit .i64 0), .p .bZ] 24), .one (.row [.p (.str (bx (bs ls))), .p (.int .i64 (bx es))] 173), .one (.row [.p (.int .i64 (bx n)), .sl 3 0 0 (bx ns.length)] 24), .one (.bH (bx (dI ns)) 79), .one (.row [.p (.str (bx (bs tx))), .p (.int .u8 (bx kd)), .p (.fz (bx is.length) (bx (iO is))), .p (.lit .u8 0), .p (.lit .i64 0), .p .bZ, .p (.int .i64 (bx nn))] 79), .no] ?_
     cbv
     refine call hQ kt [.all 1] ?_ (ha:=by cbv;(repeat' (first|trivial|rfl|apply And.intro|(simp[hb];done))))
     rintro _ _ ⟨rfl,rfl⟩
     cbv
     have hnl:ns.length<=i:=by
      have:=(qV (l2,e2) i).2.1
      rw[i3]at this
      exact this
     obtain⟨nd,hnd⟩: ∃nd:JN,nd={uid:=bs tx,kind:=kd,n:=nn,ins:=is,x:=x}:=⟨_,rfl⟩
     rw[<-hnd]at i4
     have hP:dI (ns++[nd])=dI ns++[.str (bs tx), .int .u8 kd, .fz is.length (iO is), .int .u8 x.op, .int .i64 x.n, .fz x.args.length (gQ x.args), .int .i64 nn]:=by rw[Gf,hnd];rfl
     clear hnd
     have hu:=mQ hb (k:=i) (by omega)
     refine chk (by simp only[hb,mO,pW,wS];simp;omega) ?_
     cbv
     exact⟨(i+1,ns++[nd],lg,eg),⟨by dsimp only;omega,i4⟩,by dsimp only;omega,ent [] [.all 0, .all 1, .all 2, .all 7] (hs:=by cbv;(repeat' (first|trivial|rfl|apply And.intro|(simp only[hb,hP,nC,pR];done)|(simp[hb];done)))) (he:=by cbv;(repeat' (first|trivial|rfl|apply And.intro|exact hu|(simp only[hb];done))))⟩
   ·have hs:=DK (st:=(l2,e2)) (n:=i) (by rw[i3];exact he0) (m-i)
    rw[Nat.add_sub_cancel' (show i<=m by omega),i3]at hs
    cbv
    exact⟨(ns,l',e'),hs,rfl,ent [] [.all 0, .all 1, .all 2, .all 3]⟩
  ·have:i=m:=by omega
   subst this
   cbv
   exact⟨(ns,l',e'),i3,rfl,ent [] [.all 0, .all 1, .all 2, .all 3]⟩
 ·rintro⟨ns,l',e'⟩ j1
  dsimp only at j1⊢
  rw[j1]at hK
  dsimp only at hK
  have fj:nD ⟨n,ns⟩:=by
   have:=qV (l2,e2) m
   rw[j1]at this
   exact⟨by have:=this.2.1;show ns.length<=_;dsimp only at this;omega,this.1,b1⟩
  have km:=IZ hb ⟨n,ns⟩ fj.fit fj.sm
  have ej:EP ⟨n,ns⟩ (l',e')=if e'≠0 then(zJ,e')else if l'≠[]\/(dB ⟨n,ns⟩).2≠0 then(zJ,2)else(⟨n,ns⟩,0):=rfl
  rw[ej]at hK
  clear ej
  generalize dB ⟨n,ns⟩=t at hK km
  obtain⟨y,f⟩:=t
  dsimp only at hK km
  have bq:=agO l'
  cbv
  refine⟨fun h1=>?_,fun h1=>?_⟩<;>simp only[hb,pl]at h1
  ·rw[if_pos h1]at hK
   dsimp only at hK
   cbv
   refine draw hb hQ eU [] ?_
   cbv
   (repeat' (first|apply And.intro|exact hK _ _ (.aK [jM bx zJ, .c (.p (.int .i64 (bx e')))]) [] (aS [] [] (he:=by cbv;(repeat' (first|trivial|rfl|apply And.intro|(simp[hb];done))))) ⟨rfl,rfl⟩))
  ·rw[if_neg (by omega)]at hK
   cbv
   refine iM.Aa (args2:=[jM bx ⟨n,ns⟩]) [3] [.all 0, .all 1, .all 2, .gone 3] [.one (.row [.p (.lit .i64 0), .p .bZ] 24), .one (.row [.p (.str (bx (bs l'))), .p (.int .i64 (bx e'))] 173), .one (.row [.p (.int .i64 (bx n)), .p (.fz (bx ns.length) (bx (dI ns)))] 24), .no] ?_
   cbv
   refine call hQ km [] ?_
   rintro _ _ ⟨rfl,rfl⟩
   have bad:l'≠[]\/f≠0-> ∀{H:Hp},K (.aK [.agg [.p (.lit .i64 0), .p .bZ], .c (.p (.lit .i64 2))]) H:=fun h H=>by
    rw[if_pos h]at hK
    exact hK _ _ (.aK [jM bx zJ, .c (.p (.int .i64 (bx 2)))]) [] (aS [] [] (he:=by cbv;(repeat' (first|trivial|rfl|apply And.intro|(simp[hb];done))))) ⟨rfl,rfl⟩
   cbv
   refine⟨fun h2=>?_,fun h2=>?_⟩<;>simp only[hb,bq,pl]at h2
   ·cbv
    exact bad (.inl h2)
   ·cbv
    refine⟨fun h3=>?_,fun h3=>?_⟩<;>simp only[hb,pl]at h3
    ·cbv
     exact bad (.inr h3)
    ·rw[if_neg (by simp[h2,h3])]at hK
     cbv
     exact hK _ _ (.aK [jM bx ⟨n,ns⟩, .c (.p (.int .i64 (bx 0)))]) [] (aS [] [] (he:=by cbv;(repeat' (first|trivial|rfl|apply And.intro|(simp[hb];done))))) ⟨rfl,rfl⟩
end
end Sx
end
section
namespace Sx
open Go Go.RowKit
def ae7 {β:Type}(P:Program)(n:Nat)(J:β->Prop)(jx:Nat)(E:β->bK)(H:β->Hp)(k:KX):KX
 | .ret,e,h=>k .ret e h
 |x,e,h=>Out P n J jx E H x e h
theorem adX {α β:Type}{bx:{α:Type}->α->α}(hb: ∀{α:Type}(x:α),bx x=x){P:Program}{N n:Nat}{c:pq}{e:bK}{h:Hp}{k:KX}(I:α->Prop)(m:α->Nat)(V:α->List (Nat×RV))(U:α->List (Nat×gU))(a0:α)(i0:I a0)
 (jx:Nat) (J:β->Prop) (VX:β->List (Nat×RV)) (UX:β->List (Nat×gU))
 (h0:Tq P n e h (lH (oG c e) (V a0)) (jv h (U a0)))
 (hr: ∀a,I a->run bx P N n c (lH (oG c e) (V a)) (jv h (U a)) (rnd (ae7 P n J jx (fun b=>lH (oG c e) (VX b)) (fun b=>jv h (UX b)) k) (Next P n I m (fun a=>lH (oG c e) (V a)) (fun a=>jv h (U a)) a)))
 (hx: ∀b,J b->k (.exit jx) (lH (oG c e) (VX b)) (jv h (UX b)))
 (hl: ∀a,Nat.ble n (llen (jv h (U a)))=true:=by intro _;cbv) (hlx: ∀b,Nat.ble n (llen (jv h (UX b)))=true:=by intro _;cbv):O7 P N n c e h k:=by
 have D:=loop (k:=ae7 P n J jx (fun b=>lH (oG c e) (VX b)) (fun b=>jv h (UX b)) k) hb I m V U a0 i0 h0 hr hl
 refine⟨fun T hT code hc hn ρ O a w H hF K hK=>D.h T hT code hc hn ρ O a w H hF _ fun x e' h' ρ' O' a' w' q1 q2 q3 q4 q5 q6=>?_⟩
 have out:Out P n J jx (fun b=>lH (oG c e) (VX b)) (fun b=>jv h (UX b)) x e' h'->K x.to a' w':=fun q1=>by
  obtain⟨b,hjb,rfl,he⟩:=q1.h
  obtain⟨ρ3,O3,s1,s2,s3,s4⟩:=he ρ' O' a' w' N q4 q6
  exact hK (.exit jx) _ _ ρ3 O3 a' w' (hx b hjb) (q2.trans s1 (Nat.le_refl _)) (q3.trans s2) s3 (by rw[<-aI];exact Nat.le_of_ble_eq_true (hlx b)) s4
 cases x with
 |ret=>exact hK .ret _ _ ρ' O' a' w' q1 q2 q3 q4 q5 q6
 |normal=>exact out q1
 |exit i=>exact out q1
end Sx
end
end Go.Proofs.YtakhobfamnjnoaaGreatDoor
