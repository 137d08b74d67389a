/- Symbolic runs: jobs taken from bytes. -/
import Derived.Test.YtakhobfamnjnoaaGreatDoorC25
set_option linter.unusedVariables false
set_option linter.unusedSimpArgs false
set_option maxHeartbeats 1000000
set_option maxRecDepth 100000
namespace Go.Proofs.YtakhobfamnjnoaaGreatDoor
section
namespace Sx
open Go Go.RowKit _root_.Go.Proofs.Tryz
set_option maxRecDepth 100000
set_option maxHeartbeats 4000000
theorem nc (n:Nat):(NatCast.natCast n:Int)=Int.ofNat n:=rfl
theorem qF (l:List UInt8)(n:Nat):(bs l).extract n l.length=bs (l.drop n):=by
 apply ByteArray.ext
 simp[bs,ByteArray.data_extract,List.take_of_length_le]
theorem aat (l:List UInt8)(n m:Nat):(bs l).extract n m=bs ((l.drop n).take (m-n)):=by
 apply ByteArray.ext
 simp[bs,ByteArray.data_extract]
abbrev I13:List Pl:=[.all 0, .all 1, .all 2, .all 3, .all 4, .all 5, .all 6, .all 7, .all 8, .all 9, .all 10, .all 11, .all 12]
abbrev I4:List Pl:=[.all 0, .all 1, .all 2, .all 3]
abbrev I6:List Pl:=[.all 0, .all 1, .all 2, .all 3, .all 4, .all 5]
section
variable (bx:{α:Type}->α->α)
def pkH (l:List UInt8)(e:Int):Hp:=[
 .one (.row [.p (.str (bx (bs l)))] 9), .one (.row [.p (.int .i64 (bx e))] 30), .one (.clo 72 [] [.c (.ptr 1 0 0)]), .one (.row [.clo 2 0] 126),
 .one (.clo 73 [] [.c (.ptr 1 0 0), .c (.ptr 0 0 0), .c (.ptr 3 0 0)]), .one (.row [.clo 4 0] 65),
 .one (.clo 74 [] [.c (.ptr 5 0 0), .c (.ptr 3 0 0)]), .one (.row [.clo 6 0] 127),
 .one (.clo 75 [] [.c (.ptr 5 0 0), .c (.ptr 3 0 0)]), .one (.row [.clo 8 0] 128),
 .one (.row [.clo 11 0] 130), .one (.clo 77 [] [.c (.ptr 3 0 0), .c (.ptr 9 0 0), .c (.ptr 5 0 0), .c (.ptr 7 0 0), .c (.ptr 10 0 0)]),
 .one (.clo 76 [] [.c (.ptr 1 0 0), .c (.ptr 0 0 0), .c (.ptr 3 0 0)])]
def Df (l:List UInt8)(e:Int):Hp:=[
 .one (.row [.p (.str (bx (bs l)))] 9), .one (.row [.p (.int .i64 (bx e))] 30), .one (.clo 72 [] [.c (.ptr 1 0 0)]), .one (.row [.clo 2 0] 126)]
def Qi (l:List UInt8)(e:Int):Hp:=[
 .one (.row [.p (.str (bx (bs l)))] 9), .one (.row [.p (.int .i64 (bx e))] 30), .one (.clo 72 [] [.c (.ptr 1 0 0)]), .one (.row [.clo 2 0] 126),
 .one (.clo 73 [] [.c (.ptr 1 0 0), .c (.ptr 0 0 0), .c (.ptr 3 0 0)]), .one (.row [.clo 4 0] 65)]
end
section
variable {bx:{α:Type}->α->α} (hb: ∀{α:Type}(x:α),bx x=x)
include hb
theorem Wj (l:List UInt8)(hl:l.length<=maxLen):Ct prog 36 [.c (.p (.str (bx (bs l))))] [] fun r h=>r= .aK [.c (.p (.int .i64 (bx (dX l).1))), .c (.p (.int .i64 (bx (Int.ofNat (dX l).2.1)))), .c (.p (.int .i64 (bx (dX l).2.2)))]/\h=[]:=by
 have:=aeF hb (bs l) (by rw[cu];exact hl)
 rw[aeD]at this
 exact this
theorem Yl (l:List UInt8)(hl:l.length<=4611686018427387904):Ct prog 38 [.c (.p (.str (bx (bs l))))] [] fun r h=>r= .aK [.c (.p (.str (bx (bs (dA l).1)))), .c (.p (.int .i64 (bx (Int.ofNat (dA l).2.1)))), .c (.p (.int .i64 (bx (dA l).2.2)))]/\h=[]:=ct hb func38 fun Q hQ K hK=>by
 have hz:=cu l
 obtain⟨⟨n0,z,f⟩,ht⟩: ∃t,dX l=t:=⟨_,rfl⟩
 have hle:=xI l
 have c:=Wj hb l (by unfold maxLen;omega)
 have et:dA l=if f≠0 then([],0,f)else if n0<0 then([],0,21)else if 65536<n0 then([],0,3)else if Int.ofNat l.length-Int.ofNat z<n0 then([],0,20)else((l.drop z).take n0.toNat,z+n0.toNat,0):=by unfold dA;rw[ht]
 simp only[ht]at hle c
 clear ht
 have out: ∀{H:Hp}{r:RV}{a:List UInt8}{b:Nat}{c:Int},dA l=(a,b,c)->Gi [] (llen H) (fun _=>none) (.aK [.c (.p (.str (bx (bs a)))), .c (.p (.int .i64 (bx (Int.ofNat b)))), .c (.p (.int .i64 (bx c)))]) r->K r H:=fun{H r a b c} h1 h2=>by
  rw[h1]at hK
  exact hK _ _ (.aK [.c (.p (.str (bx (bs a)))), .c (.p (.int .i64 (bx (Int.ofNat b)))), .c (.p (.int .i64 (bx c)))]) [] (aS [] [] (he:=h2)) ⟨rfl,rfl⟩
 cbv
 refine call hQ c [] ?_
 rintro _ _ ⟨rfl,rfl⟩
 cbv
 refine⟨fun h1=>?_,fun h1=>?_⟩<;>simp only[hb,pl]at h1
 ·replace et:=et.trans (if_pos h1)
  cbv
  refine out et ?_
  cbv
  simp[hb,bs]
 ·replace et:=et.trans (if_neg (by omega))
  cbv
  refine⟨fun h2=>?_,fun h2=>?_⟩<;>simp only[hb,pl]at h2
  ·replace et:=et.trans (if_pos h2)
   cbv
   refine out et ?_
   cbv
   simp[hb,bs]
  ·replace et:=et.trans (if_neg h2)
   cbv
   refine⟨fun h3=>?_,fun h3=>?_⟩<;>simp only[hb,pl]at h3
   ·replace et:=et.trans (if_pos h3)
    cbv
    refine out et ?_
    cbv
    simp[hb,bs]
   ·replace et:=et.trans (if_neg h3)
    obtain⟨n,rfl⟩: ∃n:Nat,n0=Int.ofNat n:=⟨n0.toNat,by simp only[Int.ofNat_eq_natCast];omega⟩
    have hw:wr .i64 (Int.ofNat l.length-Int.ofNat z)=Int.ofNat l.length-Int.ofNat z:=rD (by simp only[Int.ofNat_eq_natCast];omega)
    cbv
    refine⟨fun h4=>?_,fun h4=>?_⟩<;>simp only[hb,hz,hw,decide_eq_true_eq,decide_eq_false_iff_not]at h4
    ·replace et:=et.trans (if_pos h4)
     cbv
     refine out et ?_
     cbv
     simp[hb,bs]
    ·replace et:=et.trans (if_neg h4)
     have h5:z+n<=l.length:=by simp only[Int.ofNat_eq_natCast]at h4;omega
     have hw2:wr .i64 (Int.ofNat z+Int.ofNat n)=Int.ofNat (z+n):=by rw[rD (by simp only[Int.ofNat_eq_natCast];omega)];simp
     cbv
     refine chk (by simp only[hb,hz,hw2,nc];simp only[Bool.and_eq_true,decide_eq_true_eq,Int.ofNat_eq_natCast];omega) ?_
     cbv
     refine out et ?_
     cbv
     (repeat' (first|trivial|rfl|apply And.intro))
     ·simp only[hb,hw2,aat]
      show PV.str (bs (List.take n (List.drop z l)))=PV.str (bs (List.take (z+n-z) (List.drop z l)))
      rw[Nat.add_sub_cancel_left]
     ·simp only[hb,hw2];rfl
     ·rw[hb]
theorem Fa (l:List UInt8)(e:Int)(hl:l.length<=4611686018427387904):Ct prog 73 [.c (.ptr 1 0 0), .c (.ptr 0 0 0), .c (.ptr 3 0 0)] (Df bx l e) fun r h=>r= .a (.c (.p (.int .i64 (bx (aB (l,e)).1))))/\h=Df bx (aB (l,e)).2.1 (aB (l,e)).2.2:=ct hb func73 fun Q hQ K hK=>by
 have hz:=cu l
 obtain⟨⟨n0,z,f⟩,ht⟩: ∃t,dX l=t:=⟨_,rfl⟩
 have hle:=xI l
 have c:=Wj hb l (by unfold maxLen;omega)
 have en:aB (l,e)=if e=0 then(n0,(l.drop z,f))else(0,(l,e)):=by unfold aB;dsimp only;rw[ht]
 simp only[ht]at hle c
 clear ht
 obtain⟨⟨n1,l1,e1⟩,hr⟩: ∃t,aB (l,e)=t:=⟨_,rfl⟩
 simp only[hr]at hK
 rw[en]at hr
 clear en
 cbv
 refine⟨fun h1=>?_,fun h1=>?_⟩<;>simp only[hb,pl]at h1
 ·rw[if_neg h1]at hr
  simp only[Prod.mk.injEq]at hr
  obtain⟨q1,q2,q3⟩:=hr
  cbv
  exact hK _ _ (.a (.c (.p (.int .i64 (bx n1))))) (Df bx l1 e1) (aS [] I4 (hs:=by cbv;(repeat' (first|trivial|rfl|apply And.intro|(simp only[hb,q2,q3];done)))) (he:=by cbv;simp[hb,<-q1])) ⟨rfl,rfl⟩
 ·subst h1
  rw[if_pos rfl]at hr
  simp only[Prod.mk.injEq]at hr
  obtain⟨q1,q2,q3⟩:=hr
  cbv
  refine call hQ c [] ?_
  rintro _ _ ⟨rfl,rfl⟩
  cbv
  refine ci hb hQ func72 ?_
  cbv
  refine⟨fun h2=>?_,fun h2=>?_⟩<;>simp only[hb,pl]at h2
  ·cbv
   refine chk (by simp only[hb,hz,nc];simp only[Bool.and_eq_true,decide_eq_true_eq,Int.ofNat_eq_natCast];omega) ?_
   cbv
   exact hK _ _ (.a (.c (.p (.int .i64 (bx n1))))) (Df bx l1 e1) (aS [] I4 (hs:=by
    cbv
    (repeat' (first|trivial|rfl|apply And.intro|(simp only[hb,<-q3];done)|(simp only[hb,hz,<-q2,<-q3,<-qF];rfl)))) (he:=by cbv;simp only[hb,q1])) ⟨rfl,rfl⟩
  ·exact absurd trivial h2
omit hb in
theorem Ap (l:List UInt8)(e w:Int):lG (l,e) w=(l,if e=0 then w else e):=by unfold lG;dsimp only;split<;>rfl
theorem Am (l:List UInt8)(e w:Int):Ct prog 72 [.c (.p (.int .i64 (bx w))), .c (.ptr 1 0 0)] (Df bx l e) fun r h=> ∃e',e'=(if e=0 then w else e)/\h=Df bx l e':=ct hb func72 fun Q hQ K hK=>by
 cbv
 refine⟨fun h1=>?_,fun h1=>?_⟩<;>simp only[hb,pl]at h1
 ·cbv
  exact hK _ _ .u (Df bx l w) (aS [] I4) ⟨_,(if_pos h1).symm,rfl⟩
 ·cbv
  exact hK _ _ .u (Df bx l e) (aS [] I4) ⟨_,(if_neg h1).symm,rfl⟩
theorem QF (m:Int)(l:List UInt8)(e:Int)(hl:l.length<=4611686018427387904):Ct prog 74 [.c (.p (.int .i64 (bx m))), .c (.ptr 5 0 0), .c (.ptr 3 0 0)] (Qi bx l e) fun r h=>r= .a (.c (.p (.int .i64 (bx (bT m (l,e)).1))))/\h=Qi bx (bT m (l,e)).2.1 (bT m (l,e)).2.2:=ct hb func74 fun Q hQ K hK=>by
 have c:=Fa hb l e hl
 have hf:=dK (l,e)
 obtain⟨⟨n,l1,e1⟩,hr⟩: ∃t,aB (l,e)=t:=⟨_,rfl⟩
 have em:bT m (l,e)=if n<0\/m<n then(0,(l1,if e1=0 then 3 else e1))else(n,(l1,e1)):=by unfold bT;rw[hr];dsimp only;rw[Ap]
 simp only[hr]at c hf
 clear hr
 have hw:=oL hf.1
 obtain⟨⟨n2,l2,e2⟩,hr⟩: ∃t,bT m (l,e)=t:=⟨_,rfl⟩
 simp only[hr]at hK
 rw[em]at hr
 clear em
 have bad:n<0\/m<n-> ∀e',e'=(if e1=0 then 3 else e1)-> ∀{H:Hp},EI Q 6 (.a (.c (.p (.lit .i64 0)))) H (.a (.c (.p (.int .i64 (bx 0))))) (Qi bx l1 e')->K (.a (.c (.p (.lit .i64 0)))) H:=fun h e' he {H} hE=>by
  rw[if_pos h,<-he]at hr
  cases hr
  exact hK _ _ _ _ hE ⟨rfl,rfl⟩
 have c2:=Am hb l1 e1 3
 cbv
 refine call hQ c I4 ?_
 rintro _ _ ⟨rfl,rfl⟩
 cbv
 refine⟨fun h1=>?_,fun h1=>?_⟩<;>simp only[hb,pl]at h1
 ·cbv
  refine call hQ c2 I4 ?_
  rintro _ _ ⟨e',he,rfl⟩
  cbv
  exact bad (.inl h1) e' he (aS [] I6)
 ·cbv
  refine⟨fun h2=>?_,fun h2=>?_⟩<;>simp only[hb,pl]at h2
  ·cbv
   refine call hQ c2 I4 ?_
   rintro _ _ ⟨e',he,rfl⟩
   cbv
   exact bad (.inr h2) e' he (aS [] I6)
  ·cbv
   rw[if_neg (by omega)]at hr
   cases hr
   exact hK _ _ (.a (.c (.p (.int .i64 (bx n))))) (Qi bx l1 e1) (aS [] I6) ⟨rfl,rfl⟩
theorem UC (l:List UInt8)(e:Int)(hl:l.length<=4611686018427387904):Ct prog 75 [.c (.ptr 5 0 0), .c (.ptr 3 0 0)] (Qi bx l e) fun r h=>r= .a (.c (.p (.int .u8 (bx (bP (l,e)).1))))/\h=Qi bx (bP (l,e)).2.1 (bP (l,e)).2.2:=ct hb func75 fun Q hQ K hK=>by
 have c:=Fa hb l e hl
 obtain⟨⟨n,l1,e1⟩,hr⟩: ∃t,aB (l,e)=t:=⟨_,rfl⟩
 have em:bP (l,e)=(IntKind.wrap .u8 n,if n<0\/255<n then(l1,if e1=0 then 2 else e1)else(l1,e1)):=by unfold bP;rw[hr];dsimp only;rw[Ap]
 simp only[hr]at c
 clear hr
 obtain⟨⟨n2,l2,e2⟩,hr⟩: ∃t,bP (l,e)=t:=⟨_,rfl⟩
 simp only[hr]at hK
 rw[em]at hr
 clear em
 simp only[Prod.mk.injEq]at hr
 obtain⟨q1,hr⟩:=hr
 have c2:=Am hb l1 e1 2
 have good: ∀e',(l1,e')=(l2,e2)-> ∀{H:Hp},EI Q 6 (.a (.c (.p (.int .u8 (bx (wr .u8 (bx n))))))) H (.a (.c (.p (.int .u8 (bx n2))))) (Qi bx l1 e')->K (.a (.c (.p (.int .u8 (bx (wr .u8 (bx n))))))) H:=fun e' he {H} hE=>by
  cases he
  exact hK _ _ _ _ hE ⟨rfl,rfl⟩
 cbv
 refine call hQ c I4 ?_
 rintro _ _ ⟨rfl,rfl⟩
 cbv
 refine⟨fun h1=>?_,fun h1=>?_⟩<;>simp only[hb,pl]at h1
 ·cbv
  refine call hQ c2 I4 ?_
  rintro _ _ ⟨e',he,rfl⟩
  cbv
  exact good e' (by rw[if_pos (.inl h1:n<0\/255<n)]at hr;rw[he];exact hr) (aS [] I6 (he:=by cbv;simp only[hb,<-q1];rfl))
 ·cbv
  refine⟨fun h2=>?_,fun h2=>?_⟩<;>simp only[hb,pl]at h2
  ·cbv
   refine call hQ c2 I4 ?_
   rintro _ _ ⟨e',he,rfl⟩
   cbv
   exact good e' (by rw[if_pos (.inr h2:n<0\/255<n)]at hr;rw[he];exact hr) (aS [] I6 (he:=by cbv;simp only[hb,<-q1];rfl))
  ·cbv
   exact good e1 (by rw[if_neg (by omega)]at hr;exact hr) (aS [] I6 (he:=by cbv;simp only[hb,<-q1];rfl))
theorem aeE (l:List UInt8)(e:Int)(hl:l.length<=4611686018427387904):Ct prog 76 [.c (.ptr 1 0 0), .c (.ptr 0 0 0), .c (.ptr 3 0 0)] (Df bx l e) fun r h=>r= .a (.c (.p (.str (bx (bs (textS (l,e)).1)))))/\h=Df bx (textS (l,e)).2.1 (textS (l,e)).2.2:=ct hb func76 fun Q hQ K hK=>by
 have hz:=cu l
 obtain⟨⟨n0,z,f⟩,ht⟩: ∃t,dA l=t:=⟨_,rfl⟩
 have hle:=(uD l).1
 have c:=Yl hb l hl
 have en:textS (l,e)=if e=0 then(n0,(l.drop z,f))else([],(l,e)):=by unfold textS;dsimp only;rw[ht]
 simp only[ht]at hle c
 clear ht
 obtain⟨⟨n1,l1,e1⟩,hr⟩: ∃t,textS (l,e)=t:=⟨_,rfl⟩
 simp only[hr]at hK
 rw[en]at hr
 clear en
 cbv
 refine⟨fun h1=>?_,fun h1=>?_⟩<;>simp only[hb,pl]at h1
 ·rw[if_neg h1]at hr
  simp only[Prod.mk.injEq]at hr
  obtain⟨q1,q2,q3⟩:=hr
  cbv
  exact hK _ _ (.a (.c (.p (.str (bx (bs n1)))))) (Df bx l1 e1) (aS [] I4 (hs:=by cbv;(repeat' (first|trivial|rfl|apply And.intro|(simp only[hb,q2,q3];done)))) (he:=by cbv;rw[hb,<-q1];rfl)) ⟨rfl,rfl⟩
 ·subst h1
  rw[if_pos rfl]at hr
  simp only[Prod.mk.injEq]at hr
  obtain⟨q1,q2,q3⟩:=hr
  cbv
  refine call hQ c [] ?_
  rintro _ _ ⟨rfl,rfl⟩
  cbv
  refine ci hb hQ func72 ?_
  cbv
  refine⟨fun h2=>?_,fun h2=>?_⟩<;>simp only[hb,pl]at h2
  ·cbv
   refine chk (by simp only[hb,hz,nc];simp only[Bool.and_eq_true,decide_eq_true_eq,Int.ofNat_eq_natCast];omega) ?_
   cbv
   exact hK _ _ (.a (.c (.p (.str (bx (bs n1)))))) (Df bx l1 e1) (aS [] I4 (hs:=by
    cbv
    (repeat' (first|trivial|rfl|apply And.intro|(simp only[hb,<-q3];done)|(simp only[hb,hz,<-q2,<-q3,<-qF];rfl)))) (he:=by cbv;simp only[hb,q1])) ⟨rfl,rfl⟩
  ·exact absurd trivial h2
theorem Ym: ∀(k:Nat)(l:List UInt8)(e:Int),k<=17->l.length<=4611686018427387904->Ct prog 77 [.c (.p (.int .i64 (bx (Int.ofNat k)))), .c (.ptr 3 0 0), .c (.ptr 9 0 0), .c (.ptr 5 0 0), .c (.ptr 7 0 0), .c (.ptr 10 0 0)] (pkH bx l e) fun r h=>r= .a (qK bx (fP k (l,e)).1)/\h=pkH bx (fP k (l,e)).2.1 (fP k (l,e)).2.2
 |0,l,e,_,hl=>ct hb func77 fun Q hQ K hK=>by
  have c2:=Am hb l e 3
  have em:fP 0 (l,e)=(.mk 0 0 [],(l,if e=0 then 3 else e)):=by unfold fP;rw[Ap]
  simp only[em]at hK
  clear em
  cbv
  refine⟨fun h1=>?_,fun h1=>?_⟩<;>simp only[hb,pl]at h1
  ·cbv
   refine call hQ c2 I4 ?_
   rintro _ _ ⟨e',he,rfl⟩
   rw[<-he]at hK
   cbv
   exact hK _ _ (.a (qK bx (.mk 0 0 []))) (pkH bx l e') (aS [] I13 (he:=by cbv;simp[hb,gQ,Ex.op,Ex.n,Ex.args])) ⟨rfl,rfl⟩
  ·exact absurd rfl h1
 |k+1,l,e,hk,hl=>ct hb func77 fun Q hQ K hK=>by
  have b1:=wJ (l,e)
  have c1:=UC hb l e hl
  obtain⟨⟨op,l1,e1⟩,h1⟩: ∃t,bP (l,e)=t:=⟨_,rfl⟩
  simp only[h1]at c1 b1
  have b2:=dK (l1,e1)
  have c2:=Fa hb l1 e1 (by omega)
  obtain⟨⟨n,l2,e2⟩,h2⟩: ∃t,aB (l1,e1)=t:=⟨_,rfl⟩
  simp only[h2]at c2 b2
  have b3:=rV (m:=3) (by omega) (l2,e2)
  have c3:=QF hb 3 l2 e2 (by omega)
  obtain⟨⟨m,l3,e3⟩,h3⟩: ∃t,bT 3 (l2,e2)=t:=⟨_,rfl⟩
  simp only[h3]at c3 b3
  obtain⟨m,rfl⟩: ∃a:Nat,m=Int.ofNat a:=⟨m.toNat,by simp only[Int.ofNat_eq_natCast];omega⟩
  have et:fP (k+1) (l,e)=(.mk op n (bQ (fP k) m (l3,e3)).1,(bQ (fP k) m (l3,e3)).2):=by unfold fP;rw[h1];dsimp only;rw[h2];dsimp only;rw[h3];rfl
  simp only[et]at hK
  clear et h1 h2 h3
  cbv
  refine⟨fun h1=>?_,fun h1=>?_⟩<;>simp only[hb,pl]at h1
  ·replace h1:Int.ofNat (k+1)=0:=h1
   simp only[Int.ofNat_eq_natCast]at h1
   omega
  ·cbv
   refine mD hb hQ eU [2] [(8, .a (.c (.ptr 14 0 0)))] [(0, .one (.row [.p (.str (bx (bs l2)))] 9)),(1, .one (.row [.p (.int .i64 (bx e2))] 30)),(14, .one (.row [.p (.int .u8 (bx op)), .p (.int .i64 (bx n)), .p .bZ] 77))] ?_ ?_
   ·cbv
    repeat' (first
     |apply And.intro
     |(refine call (f:=75) hQ c1 I6 ?_;rintro _ _ ⟨rfl,rfl⟩;cbv)
     |(refine call (f:=73) hQ c2 I4 ?_;rintro _ _ ⟨rfl,rfl⟩;cbv)
     |exact⟨ent [] (I13++[.all 13, .all 14])⟩)
   ·cbv
    refine call hQ c3 I6 ?_
    rintro _ _ ⟨rfl,rfl⟩
    cbv
    refine loop hb (fun a:Nat×List Ex×List UInt8×Int=>a.1<=m/\bQ (fP k) a.1 (l3,e3)=(a.2.1,(a.2.2.1,a.2.2.2))) (fun a=>m-a.1) (fun a=>[(21, .a (.c (.p (.int .i64 (bx (Int.ofNat a.1)))))),(8, .a (.c (.ptr 14 0 0)))])
     (fun a=>[(0, .one (.row [.p (.str (bx (bs a.2.2.1)))] 9)),(1, .one (.row [.p (.int .i64 (bx a.2.2.2))] 30)),(14, .one (.row [.p (.int .u8 (bx op)), .p (.int .i64 (bx n)), .sl 15 0 0 (bx a.2.1.length)] 77)),(15, .one (.bH (bx (gQ a.2.1)) 77))])
     (0,[],l3,e3) ⟨by omega,rfl⟩ (ent [] (I13++[.all 13, .all 14, .jh]) (hs:=by cbv;(repeat' (first|trivial|rfl|apply And.intro|(simp[hb,gQ];done)))) (he:=by cbv;(repeat' (first|trivial|rfl|apply And.intro|(simp[hb,gQ];done))))) ?_
    rintro⟨i,xs,l',e'⟩ ⟨i1,i2⟩
    dsimp only at i1 i2⊢
    have hx:=kK (fun st=>(vH k st).2) i (l3,e3)
    rw[i2]at hx
    dsimp only at hx
    have b4:m<=3:=by have:=b3.2.1;simp only[Int.ofNat_eq_natCast]at this;omega
    have hc: ∀x:Ex,gQ (xs++[x])=gQ xs++[.int .u8 x.op, .int .i64 x.n, .fz x.args.length (gQ x.args)]:=fun x=>by obtain⟨o,n,a⟩:=x;simp[lT,Au,Ex.op,Ex.n,Ex.args]
    cbv
    refine⟨fun hd=>?_,fun hd=>?_⟩<;>simp only[hb,pl]at hd
    ·cbv
     have i3:bQ (fP k) (i+1) (l3,e3)=(xs++[(fP k (l',e')).1],(fP k (l',e')).2):=by unfold bQ;rw[i2]
     have ci:=Ym k l' e' (by omega) (by omega)
     obtain⟨⟨x,l4,e4⟩,h4⟩: ∃t,fP k (l',e')=t:=⟨_,rfl⟩
     simp only[h4]at ci i3
     clear h4
     have hu:=mQ hb (k:=i) (by omega)
     have hw:wr .i64 (Int.ofNat (k+1)-1)=Int.ofNat k:=by rw[rD (by simp only[Int.ofNat_eq_natCast];omega)];simp
     refine mD hb hQ eU [] [] [(0, .one (.row [.p (.str (bx (bs l4)))] 9)),(1, .one (.row [.p (.int .i64 (bx e4))] 30)),(14, .one (.row [.p (.int .u8 (bx op)), .p (.int .i64 (bx n)), .sl 15 0 0 (bx (xs++[x]).length)] 77)),(15, .one (.bH (bx (gQ (xs++[x]))) 77))] ?_ ?_
     ·cbv
      repeat' (first
       |apply And.intro
       |(refine call (f:=77) hQ ci I13 ?_ (ha:=by cbv;(repeat' (first|trivial|rfl|apply And.intro|(simp only[hb,hw];done))));rintro _ _ ⟨rfl,rfl⟩;cbv)
       |(refine chk (by simp only[hb,mO,pW,Cm];simp;omega) ?_;cbv)
       |exact⟨ent [] (I13++[.all 13, .all 14, .all 17]) (hs:=by cbv;(repeat' (first|trivial|rfl|apply And.intro|(simp only[hb,hc,nC,pR];done)|(simp[hb];done))))⟩)
     ·cbv
      exact⟨(i+1,xs++[x],l4,e4),⟨by dsimp only;omega,i3⟩,by dsimp only;omega,ent [] (I13++[.all 13, .all 14, .all 15]) (he:=by cbv;(repeat' (first|trivial|rfl|apply And.intro|exact hu|(simp only[hb];done))))⟩
    ·cbv
     have:i=m:=by omega
     subst this
     rw[i2]at hK
     exact hK _ _ (.a (qK bx (.mk op n xs))) (pkH bx l' e') (aS [15] I13 (he:=by cbv;(repeat' (first|trivial|rfl|apply And.intro|(simp[hb,Ex.op,Ex.n,Ex.args];done))))) ⟨rfl,rfl⟩
end
end Sx
end
section
open Go Go.RowKit
attribute [local irreducible] kC
theorem EL {u0 u:Nat}{dn:List UInt8}(h:u0<18446744073709551616)(hd:gG u0=dn++gG u)(b:UInt8): ¬9223372036854775807<(strOf dn).size+(strOf [b]).size:=by
 have h1:=Ic 9 u0 (Nat.lt_of_lt_of_le h (by decide))
 rw[hd,List.length_append]at h1
 rw[wI,wI,List.length_singleton];omega
theorem one_byte (q:Nat)(h:q<256)(wr:World):(convert 107 9 (.slice (some ⟨wr.heap.size,0,none⟩) 1 1)).run Tryz.prog (wr.alloc (.cells #[.int .u8 (q:Int)] 5))= .ok (.string (strOf [UInt8.ofNat q])) (wr.alloc (.cells #[.int .u8 (q:Int)] 5)):=by
 refine run_convert_bytes_back _ 107 9 5 ⟨wr.heap.size,0,none⟩ 1 [UInt8.ofNat q] Tryz.underlying107 Tryz.underlying5 Tryz.underlying9 (fun j hj=>?_)
 obtain rfl:j=0:=by simpa using hj
 rw[Addr.add_zero',SC h]
 simp
theorem one_any (n:Int)(h:aO n)(w:World):Calls Tryz.prog 54 #[.int .i64 n] w fun e w'=>e= .returned (.string (strOf (gG (fE n))))/\Kept none' w w':=by
 unfold aO at h
 by_cases h0:n<0
 ·have hu0:2* -(n+1)+1=((fE n:Nat):Int):=by unfold fE;rw[if_neg (by omega)];omega
  have hlt:=Bd (n:=n) h
  obtain⟨u0,hu⟩: ∃u0,fE n=u0:=⟨_,rfl⟩
  rw[hu]at hu0 hlt⊢
  have HU:=Lib.hid hu0
  clear hu hu0
  go_enter Tryz.func54,Tryz.ntmps54
  go_wp2_with fail
  rw[HU.out]
  clear HU
  go_loopg [3,4] u0 (fun g vu vs wr=> ∃(u:Nat)(dn:List UInt8),vu= .int .u64 (u:Int)/\vs= .string (strOf dn)/\u<=g/\u<=u0/\gG u0=dn++gG u/\Kept none' w wr)
  case atStart=>exact⟨u0,[],rfl,rfl,Nat.le_refl _,Nat.le_refl _,rfl,Kept.refl _ _⟩
  case round=>
   obtain⟨u,dn,rfl,rfl,Dl,huu,hdig,hkp⟩:=hrel
   have hub:u<18446744073709551616:=by omega
   by_cases hbig:127<u
   ·have hi1:(127:Int)<(u:Int):=by omega
    obtain⟨q,hq⟩: ∃q,u%128=q:=⟨_,rfl⟩
    have eq1:(u:Int)%128=(q:Int):=by omega
    obtain⟨u2,hu2⟩: ∃u2,u/128=u2:=⟨_,rfl⟩
    have es:(u:Int)/128=(u2:Int):=by omega
    have hq2:q<128:=by omega
    have A:=Lib.hid (And.intro Dl (And.intro hdig (And.intro hq hu2)))
    clear Dl hdig hq hu2
    have hcv:=one_byte (q+128) (by omega) wr
    rw[show(((q+128:Nat)):Int)=(q:Int)+128 by omega]at hcv
    obtain⟨bb,hbb⟩: ∃bb,UInt8.ofNat (q+128)=bb:=⟨_,rfl⟩
    rw[hbb]at hcv
    have hsz:=EL hlt (by have:=A.out.2.1;exact this) bb
    have HB:=Lib.hid (And.intro hbb hkp)
    clear hbb hkp
    go_wp2_with fail
    go_roundg u2
    case rel=>
     refine⟨u2,dn++[bb],rfl,by rw[<-pI],Nat.le_refl _,by have:=A.out.2.2.2;omega,?_,HB.out.2.alloc _⟩
     rw[A.out.2.1,uX (by omega),A.out.2.2.1,A.out.2.2.2,HB.out.1];simp
    case measure=>have h1:=A.out.1;have h2:=A.out.2.2.2;omega
   ·have hi1: ¬(127:Int)<(u:Int):=by omega
    have hcv:=one_byte u (by omega) wr
    obtain⟨bb,hbb⟩: ∃bb,UInt8.ofNat u=bb:=⟨_,rfl⟩
    rw[hbb]at hcv
    have F:Hid (dn++[bb]=gG u0/\Kept none' w wr):=⟨by rw[hdig,nZ (by omega),hbb],hkp⟩
    have eu:(u:Int)%256=(u:Int):=by omega
    have hsz:=EL hlt hdig bb
    clear hdig hbb hkp Dl
    go_wp2_with fail
    go_ret
    exact⟨by show Ending.returned (Value.string (strOf dn++strOf [bb]))=_;rw[<-F.out.1,<-pI],F.out.2.alloc _⟩
 ·have hu0:2*n=((fE n:Nat):Int):=by unfold fE;rw[if_pos (by omega)];omega
  have hlt:=Bd (n:=n) h
  obtain⟨u0,hu⟩: ∃u0,fE n=u0:=⟨_,rfl⟩
  rw[hu]at hu0 hlt⊢
  have HU:=Lib.hid hu0
  clear hu hu0
  go_enter Tryz.func54,Tryz.ntmps54
  go_wp2_with fail
  rw[HU.out]
  clear HU
  go_loopg [3,4] u0 (fun g vu vs wr=> ∃(u:Nat)(dn:List UInt8),vu= .int .u64 (u:Int)/\vs= .string (strOf dn)/\u<=g/\u<=u0/\gG u0=dn++gG u/\Kept none' w wr)
  case atStart=>exact⟨u0,[],rfl,rfl,Nat.le_refl _,Nat.le_refl _,rfl,Kept.refl _ _⟩
  case round=>
   obtain⟨u,dn,rfl,rfl,Dl,huu,hdig,hkp⟩:=hrel
   have hub:u<18446744073709551616:=by omega
   by_cases hbig:127<u
   ·have hi1:(127:Int)<(u:Int):=by omega
    obtain⟨q,hq⟩: ∃q,u%128=q:=⟨_,rfl⟩
    have eq1:(u:Int)%128=(q:Int):=by omega
    obtain⟨u2,hu2⟩: ∃u2,u/128=u2:=⟨_,rfl⟩
    have es:(u:Int)/128=(u2:Int):=by omega
    have hq2:q<128:=by omega
    have A:=Lib.hid (And.intro Dl (And.intro hdig (And.intro hq hu2)))
    clear Dl hdig hq hu2
    have hcv:=one_byte (q+128) (by omega) wr
    rw[show(((q+128:Nat)):Int)=(q:Int)+128 by omega]at hcv
    obtain⟨bb,hbb⟩: ∃bb,UInt8.ofNat (q+128)=bb:=⟨_,rfl⟩
    rw[hbb]at hcv
    have hsz:=EL hlt (by have:=A.out.2.1;exact this) bb
    have HB:=Lib.hid (And.intro hbb hkp)
    clear hbb hkp
    go_wp2_with fail
    go_roundg u2
    case rel=>
     refine⟨u2,dn++[bb],rfl,by rw[<-pI],Nat.le_refl _,by have:=A.out.2.2.2;omega,?_,HB.out.2.alloc _⟩
     rw[A.out.2.1,uX (by omega),A.out.2.2.1,A.out.2.2.2,HB.out.1];simp
    case measure=>have h1:=A.out.1;have h2:=A.out.2.2.2;omega
   ·have hi1: ¬(127:Int)<(u:Int):=by omega
    have hcv:=one_byte u (by omega) wr
    obtain⟨bb,hbb⟩: ∃bb,UInt8.ofNat u=bb:=⟨_,rfl⟩
    rw[hbb]at hcv
    have F:Hid (dn++[bb]=gG u0/\Kept none' w wr):=⟨by rw[hdig,nZ (by omega),hbb],hkp⟩
    have eu:(u:Int)%256=(u:Int):=by omega
    have hsz:=EL hlt hdig bb
    clear hdig hbb hkp Dl
    go_wp2_with fail
    go_ret
    exact⟨by show Ending.returned (Value.string (strOf dn++strOf [bb]))=_;rw[<-F.out.1,<-pI],F.out.2.alloc _⟩
end
section
open Go Go.RowKit
theorem Y2 (v:Value)(l:List Int)(w:World)(h:Reads w 1 v (ints l))(h64: ∀n∈l,aO n)(hb:l.length<=1073741824):
 Calls Tryz.prog 23 #[v] w (Gives w (.string (strOf (ay l)))):=by
 obtain⟨a,cap,rfl,h1,h2,h3⟩:=h.at
 unfold maxLen at h2
 have H3:=Lib.hid h3
 have Oz:=Lib.hid h64
 clear h h3 h64
 go_enter Tryz.func23,Tryz.ntmps23
 go_wp2
 go_loopg [3,4] l.length (fun g vs vi wr=> ∃k:Nat,vi= .int .i64 (k:Int)/\vs= .string (strOf (ay (l.take k)))/\k<=l.length/\l.length-k<=g/\Kept none' w wr)
 case atStart=>exact⟨0,rfl,rfl,by omega,by omega,Kept.refl _ _⟩
 case round=>
  obtain⟨k,rfl,rfl,hk,hg,hkp⟩:=hrel
  by_cases hlt:k<l.length
  ·obtain⟨x,hx⟩: ∃x,l[k]?=some x:=⟨_,List.getElem?_eq_getElem hlt⟩
   obtain⟨b0,off,rfl,hcl⟩:=H3.out.resolve_left (fun h=>by rw[h]at hx;cases hx)
   have q0:=hkp.cell (p:=⟨b0,off+k,none⟩) (fun h=>h) (hcl k _ hx)
   have LU:=Oz.out x (List.mem_of_getElem? hx)
   have HT:=Lib.hid (fun W=>one_any x LU W)
   have F:=Lib.hid (And.intro hg (And.intro hkp (Nw hx)))
   obtain⟨P,hP⟩: ∃P,ay (l.take k)=P:=⟨_,rfl⟩
   obtain⟨D,hD⟩: ∃D,gG (fE x)=D:=⟨_,rfl⟩
   have hsz: ¬9223372036854775807<(strOf P).size+(strOf D).size:=by
    have e1:=iD (l:=l.take k) (fun n hn=>Oz.out n (List.mem_of_mem_take hn))
    have e2:=CO LU
    rw[List.length_take]at e1
    rw[wI,wI,<-hP,<-hD];omega
   rw[hP]
   have HP:=Lib.hid (And.intro hP hD)
   clear hcl hx LU hg hkp hP
   go_wp2_with fail
   refine(HT.out _).mono ?_
   rintro e w2 ⟨rfl,k2⟩
   rw[hD]
   clear hD
   go_wp2_with fail
   go_roundg (l.length-(k+1))
   case rel=>exact⟨k+1,by go_num,by rw[F.out.2.2,HP.out.1,HP.out.2,<-pI],by omega,Nat.le_refl _,F.out.2.1.trans k2⟩
   case measure=>have:=F.out.1;omega
  ·have hkl:k=l.length:=by omega
   subst hkl
   rw[List.take_of_length_le (Nat.le_refl _)]
   go_wp2_with fail
   go_ret
   exact⟨rfl,hkp⟩
end
end Go.Proofs.YtakhobfamnjnoaaGreatDoor
