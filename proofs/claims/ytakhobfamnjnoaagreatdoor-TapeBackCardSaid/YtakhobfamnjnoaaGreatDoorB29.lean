/- Symbolic runs: jobs taken from bytes. -/
import Derived.Test.YtakhobfamnjnoaaGreatDoorB28
set_option linter.unusedVariables false
set_option linter.unusedSimpArgs false
namespace Go.Proofs.YtakhobfamnjnoaaGreatDoor
section
namespace Sx
open Go Go.RowKit _root_.Go.Proofs.Tryz
set_option maxRecDepth 100000
set_option maxHeartbeats 4000000
theorem nc (n:Nat):(NatCast.natCast n:Int)=Int.ofNat n:=rfl
theorem Cc (l:List UInt8)(n:Nat):(bs l).extract n l.length=bs (l.drop n):=by
 apply ByteArray.ext
 simp[bs,ByteArray.data_extract,List.take_of_length_le]
theorem WR (l:List UInt8)(n m:Nat):(bs l).extract n m=bs ((l.drop n).take (m-n)):=by
 apply ByteArray.ext
 simp[bs,ByteArray.data_extract]
abbrev I13:List Pl:=[.all 0, .all 1, .all 2, .all 3, .all 4, .all 5, .all 6, .all 7, .all 8, .all 9, .all 10, .all 11, .all 12]
abbrev I4:List Pl:=[.all 0, .all 1, .all 2, .all 3]
abbrev I6:List Pl:=[.all 0, .all 1, .all 2, .all 3, .all 4, .all 5]
section
variable (bx:{α:Type}->α->α)
def Y6 (l:List UInt8)(e:Int):Hp:=[
 .one (.row [.p (.str (bx (bs l)))] 9), .one (.row [.p (.int .i64 (bx e))] 30), .one (.clo 72 [] [.c (.ptr 1 0 0)]), .one (.row [.clo 2 0] 126),
 .one (.clo 73 [] [.c (.ptr 1 0 0), .c (.ptr 0 0 0), .c (.ptr 3 0 0)]), .one (.row [.clo 4 0] 65),
 .one (.clo 74 [] [.c (.ptr 5 0 0), .c (.ptr 3 0 0)]), .one (.row [.clo 6 0] 127),
 .one (.clo 75 [] [.c (.ptr 5 0 0), .c (.ptr 3 0 0)]), .one (.row [.clo 8 0] 128),
 .one (.row [.clo 11 0] 130), .one (.clo 77 [] [.c (.ptr 3 0 0), .c (.ptr 9 0 0), .c (.ptr 5 0 0), .c (.ptr 7 0 0), .c (.ptr 10 0 0)]),
 .one (.clo 76 [] [.c (.ptr 1 0 0), .c (.ptr 0 0 0), .c (.ptr 3 0 0)])]
def zK (l:List UInt8)(e:Int):Hp:=[
 .one (.row [.p (.str (bx (bs l)))] 9), .one (.row [.p (.int .i64 (bx e))] 30), .one (.clo 72 [] [.c (.ptr 1 0 0)]), .one (.row [.clo 2 0] 126)]
def LH (l:List UInt8)(e:Int):Hp:=[
 .one (.row [.p (.str (bx (bs l)))] 9), .one (.row [.p (.int .i64 (bx e))] 30), .one (.clo 72 [] [.c (.ptr 1 0 0)]), .one (.row [.clo 2 0] 126),
 .one (.clo 73 [] [.c (.ptr 1 0 0), .c (.ptr 0 0 0), .c (.ptr 3 0 0)]), .one (.row [.clo 4 0] 65)]
end
section
variable {bx:{α:Type}->α->α} (hb: ∀{α:Type}(x:α),bx x=x)
include hb
theorem Ru (l:List UInt8)(hl:l.length<=maxLen):Ct prog 36 [.c (.p (.str (bx (bs l))))] [] fun r h=>r= .aN [.c (.p (.int .i64 (bx (eX l).1))), .c (.p (.int .i64 (bx (Int.ofNat (eX l).2.1)))), .c (.p (.int .i64 (bx (eX l).2.2)))]/\h=[]:=by
 have:=aa2 hb (bs l) (by rw[eG];exact hl)
 rw[aa0]at this
 exact this
theorem UC (l:List UInt8)(hl:l.length<=4611686018427387904):Ct prog 38 [.c (.p (.str (bx (bs l))))] [] fun r h=>r= .aN [.c (.p (.str (bx (bs (fO l).1)))), .c (.p (.int .i64 (bx (Int.ofNat (fO l).2.1)))), .c (.p (.int .i64 (bx (fO l).2.2)))]/\h=[]:=ct hb func38 fun Q hQ K hK=>by
 have hz:=eG l
 obtain⟨⟨n0,z,f⟩,ht⟩: ∃t,eX l=t:=⟨_,rfl⟩
 have hle:=Eu l
 have c:=Ru hb l (by unfold maxLen;omega)
 have et:fO l=if f≠0 then([],0,f)else if n0<0 then([],0,21)else if 65536<n0 then([],0,3)else if Int.ofNat l.length-Int.ofNat z<n0 then([],0,20)else((l.drop z).take n0.toNat,z+n0.toNat,0):=by unfold fO;rw[ht]
 simp only[ht]at hle c
 clear ht
 have out: ∀{H:Hp}{r:RV}{a:List UInt8}{b:Nat}{c:Int},fO l=(a,b,c)->Fv [] (llen H) (fun _=>none) (.aN [.c (.p (.str (bx (bs a)))), .c (.p (.int .i64 (bx (Int.ofNat b)))), .c (.p (.int .i64 (bx c)))]) r->K r H:=fun{H r a b c} h1 h2=>by
  rw[h1]at hK
  exact hK _ _ (.aN [.c (.p (.str (bx (bs a)))), .c (.p (.int .i64 (bx (Int.ofNat b)))), .c (.p (.int .i64 (bx c)))]) [] (aZ [] [] (he:=h2)) ⟨rfl,rfl⟩
 cbv
 refine call hQ c [] ?_
 rintro _ _ ⟨rfl,rfl⟩
 cbv
 refine⟨fun h1=>?_,fun h1=>?_⟩<;>simp only[hb,pl]at h1
 ·replace et:=et.trans (if_pos h1)
  cbv
  refine out et ?_
  cbv
  simp[hb,bs]
 ·replace et:=et.trans (if_neg (by omega))
  cbv
  refine⟨fun h2=>?_,fun h2=>?_⟩<;>simp only[hb,pl]at h2
  ·replace et:=et.trans (if_pos h2)
   cbv
   refine out et ?_
   cbv
   simp[hb,bs]
  ·replace et:=et.trans (if_neg h2)
   cbv
   refine⟨fun h3=>?_,fun h3=>?_⟩<;>simp only[hb,pl]at h3
   ·replace et:=et.trans (if_pos h3)
    cbv
    refine out et ?_
    cbv
    simp[hb,bs]
   ·replace et:=et.trans (if_neg h3)
    obtain⟨n,rfl⟩: ∃n:Nat,n0=Int.ofNat n:=⟨n0.toNat,by simp only[Int.ofNat_eq_natCast];omega⟩
    have hw:wr .i64 (Int.ofNat l.length-Int.ofNat z)=Int.ofNat l.length-Int.ofNat z:=vJ (by simp only[Int.ofNat_eq_natCast];omega)
    cbv
    refine⟨fun h4=>?_,fun h4=>?_⟩<;>simp only[hb,hz,hw,decide_eq_true_eq,decide_eq_false_iff_not]at h4
    ·replace et:=et.trans (if_pos h4)
     cbv
     refine out et ?_
     cbv
     simp[hb,bs]
    ·replace et:=et.trans (if_neg h4)
     have h5:z+n<=l.length:=by simp only[Int.ofNat_eq_natCast]at h4;omega
     have hw2:wr .i64 (Int.ofNat z+Int.ofNat n)=Int.ofNat (z+n):=by rw[vJ (by simp only[Int.ofNat_eq_natCast];omega)];simp
     cbv
     refine chk (by simp only[hb,hz,hw2,nc];simp only[Bool.and_eq_true,decide_eq_true_eq,Int.ofNat_eq_natCast];omega) ?_
     cbv
     refine out et ?_
     cbv
     (repeat' (first|trivial|rfl|apply And.intro))
     ·simp only[hb,hw2,WR]
      show PV.str (bs (List.take n (List.drop z l)))=PV.str (bs (List.take (z+n-z) (List.drop z l)))
      rw[Nat.add_sub_cancel_left]
     ·simp only[hb,hw2];rfl
     ·rw[hb]
theorem BK (l:List UInt8)(e:Int)(hl:l.length<=4611686018427387904):Ct prog 73 [.c (.ptr 1 0 0), .c (.ptr 0 0 0), .c (.ptr 3 0 0)] (zK bx l e) fun r h=>r= .a (.c (.p (.int .i64 (bx (aQ (l,e)).1))))/\h=zK bx (aQ (l,e)).2.1 (aQ (l,e)).2.2:=ct hb func73 fun Q hQ K hK=>by
 have hz:=eG l
 obtain⟨⟨n0,z,f⟩,ht⟩: ∃t,eX l=t:=⟨_,rfl⟩
 have hle:=Eu l
 have c:=Ru hb l (by unfold maxLen;omega)
 have en:aQ (l,e)=if e=0 then(n0,(l.drop z,f))else(0,(l,e)):=by unfold aQ;dsimp only;rw[ht]
 simp only[ht]at hle c
 clear ht
 obtain⟨⟨n1,l1,e1⟩,hr⟩: ∃t,aQ (l,e)=t:=⟨_,rfl⟩
 simp only[hr]at hK
 rw[en]at hr
 clear en
 cbv
 refine⟨fun h1=>?_,fun h1=>?_⟩<;>simp only[hb,pl]at h1
 ·rw[if_neg h1]at hr
  simp only[Prod.mk.injEq]at hr
  obtain⟨q1,q2,q3⟩:=hr
  cbv
  exact hK _ _ (.a (.c (.p (.int .i64 (bx n1))))) (zK bx l1 e1) (aZ [] I4 (hs:=by cbv;(repeat' (first|trivial|rfl|apply And.intro|(simp only[hb,q2,q3];done)))) (he:=by cbv;simp[hb,<-q1])) ⟨rfl,rfl⟩
 ·subst h1
  rw[if_pos rfl]at hr
  simp only[Prod.mk.injEq]at hr
  obtain⟨q1,q2,q3⟩:=hr
  cbv
  refine call hQ c [] ?_
  rintro _ _ ⟨rfl,rfl⟩
  cbv
  refine ci hb hQ func72 ?_
  cbv
  refine⟨fun h2=>?_,fun h2=>?_⟩<;>simp only[hb,pl]at h2
  ·cbv
   refine chk (by simp only[hb,hz,nc];simp only[Bool.and_eq_true,decide_eq_true_eq,Int.ofNat_eq_natCast];omega) ?_
   cbv
   exact hK _ _ (.a (.c (.p (.int .i64 (bx n1))))) (zK bx l1 e1) (aZ [] I4 (hs:=by
    cbv
    (repeat' (first|trivial|rfl|apply And.intro|(simp only[hb,<-q3];done)|(simp only[hb,hz,<-q2,<-q3,<-Cc];rfl)))) (he:=by cbv;simp only[hb,q1])) ⟨rfl,rfl⟩
  ·exact absurd trivial h2
omit hb in
theorem xR (l:List UInt8)(e w:Int):lH (l,e) w=(l,if e=0 then w else e):=by unfold lH;dsimp only;split<;>rfl
theorem xQ (l:List UInt8)(e w:Int):Ct prog 72 [.c (.p (.int .i64 (bx w))), .c (.ptr 1 0 0)] (zK bx l e) fun r h=> ∃e',e'=(if e=0 then w else e)/\h=zK bx l e':=ct hb func72 fun Q hQ K hK=>by
 cbv
 refine⟨fun h1=>?_,fun h1=>?_⟩<;>simp only[hb,pl]at h1
 ·cbv
  exact hK _ _ .u (zK bx l w) (aZ [] I4) ⟨_,(if_pos h1).symm,rfl⟩
 ·cbv
  exact hK _ _ .u (zK bx l e) (aZ [] I4) ⟨_,(if_neg h1).symm,rfl⟩
theorem MC (m:Int)(l:List UInt8)(e:Int)(hl:l.length<=4611686018427387904):Ct prog 74 [.c (.p (.int .i64 (bx m))), .c (.ptr 5 0 0), .c (.ptr 3 0 0)] (LH bx l e) fun r h=>r= .a (.c (.p (.int .i64 (bx (bg m (l,e)).1))))/\h=LH bx (bg m (l,e)).2.1 (bg m (l,e)).2.2:=ct hb func74 fun Q hQ K hK=>by
 have c:=BK hb l e hl
 have hf:=fZ (l,e)
 obtain⟨⟨n,l1,e1⟩,hr⟩: ∃t,aQ (l,e)=t:=⟨_,rfl⟩
 have em:bg m (l,e)=if n<0\/m<n then(0,(l1,if e1=0 then 3 else e1))else(n,(l1,e1)):=by unfold bg;rw[hr];dsimp only;rw[xR]
 simp only[hr]at c hf
 clear hr
 have hw:=yw hf.1
 obtain⟨⟨n2,l2,e2⟩,hr⟩: ∃t,bg m (l,e)=t:=⟨_,rfl⟩
 simp only[hr]at hK
 rw[em]at hr
 clear em
 have bad:n<0\/m<n-> ∀e',e'=(if e1=0 then 3 else e1)-> ∀{H:Hp},Ir Q 6 (.a (.c (.p (.lit .i64 0)))) H (.a (.c (.p (.int .i64 (bx 0))))) (LH bx l1 e')->K (.a (.c (.p (.lit .i64 0)))) H:=fun h e' he {H} hE=>by
  rw[if_pos h,<-he]at hr
  cases hr
  exact hK _ _ _ _ hE ⟨rfl,rfl⟩
 have c2:=xQ hb l1 e1 3
 cbv
 refine call hQ c I4 ?_
 rintro _ _ ⟨rfl,rfl⟩
 cbv
 refine⟨fun h1=>?_,fun h1=>?_⟩<;>simp only[hb,pl]at h1
 ·cbv
  refine call hQ c2 I4 ?_
  rintro _ _ ⟨e',he,rfl⟩
  cbv
  exact bad (.inl h1) e' he (aZ [] I6)
 ·cbv
  refine⟨fun h2=>?_,fun h2=>?_⟩<;>simp only[hb,pl]at h2
  ·cbv
   refine call hQ c2 I4 ?_
   rintro _ _ ⟨e',he,rfl⟩
   cbv
   exact bad (.inr h2) e' he (aZ [] I6)
  ·cbv
   rw[if_neg (by omega)]at hr
   cases hr
   exact hK _ _ (.a (.c (.p (.int .i64 (bx n))))) (LH bx l1 e1) (aZ [] I6) ⟨rfl,rfl⟩
theorem PG (l:List UInt8)(e:Int)(hl:l.length<=4611686018427387904):Ct prog 75 [.c (.ptr 5 0 0), .c (.ptr 3 0 0)] (LH bx l e) fun r h=>r= .a (.c (.p (.int .u8 (bx (aY (l,e)).1))))/\h=LH bx (aY (l,e)).2.1 (aY (l,e)).2.2:=ct hb func75 fun Q hQ K hK=>by
 have c:=BK hb l e hl
 obtain⟨⟨n,l1,e1⟩,hr⟩: ∃t,aQ (l,e)=t:=⟨_,rfl⟩
 have em:aY (l,e)=(IntKind.wrap .u8 n,if n<0\/255<n then(l1,if e1=0 then 2 else e1)else(l1,e1)):=by unfold aY;rw[hr];dsimp only;rw[xR]
 simp only[hr]at c
 clear hr
 obtain⟨⟨n2,l2,e2⟩,hr⟩: ∃t,aY (l,e)=t:=⟨_,rfl⟩
 simp only[hr]at hK
 rw[em]at hr
 clear em
 simp only[Prod.mk.injEq]at hr
 obtain⟨q1,hr⟩:=hr
 have c2:=xQ hb l1 e1 2
 have good: ∀e',(l1,e')=(l2,e2)-> ∀{H:Hp},Ir Q 6 (.a (.c (.p (.int .u8 (bx (wr .u8 (bx n))))))) H (.a (.c (.p (.int .u8 (bx n2))))) (LH bx l1 e')->K (.a (.c (.p (.int .u8 (bx (wr .u8 (bx n))))))) H:=fun e' he {H} hE=>by
  cases he
  exact hK _ _ _ _ hE ⟨rfl,rfl⟩
 cbv
 refine call hQ c I4 ?_
 rintro _ _ ⟨rfl,rfl⟩
 cbv
 refine⟨fun h1=>?_,fun h1=>?_⟩<;>simp only[hb,pl]at h1
 ·cbv
  refine call hQ c2 I4 ?_
  rintro _ _ ⟨e',he,rfl⟩
  cbv
  exact good e' (by rw[if_pos (.inl h1:n<0\/255<n)]at hr;rw[he];exact hr) (aZ [] I6 (he:=by cbv;simp only[hb,<-q1];rfl))
 ·cbv
  refine⟨fun h2=>?_,fun h2=>?_⟩<;>simp only[hb,pl]at h2
  ·cbv
   refine call hQ c2 I4 ?_
   rintro _ _ ⟨e',he,rfl⟩
   cbv
   exact good e' (by rw[if_pos (.inr h2:n<0\/255<n)]at hr;rw[he];exact hr) (aZ [] I6 (he:=by cbv;simp only[hb,<-q1];rfl))
  ·cbv
   exact good e1 (by rw[if_neg (by omega)]at hr;exact hr) (aZ [] I6 (he:=by cbv;simp only[hb,<-q1];rfl))
theorem aa1 (l:List UInt8)(e:Int)(hl:l.length<=4611686018427387904):Ct prog 76 [.c (.ptr 1 0 0), .c (.ptr 0 0 0), .c (.ptr 3 0 0)] (zK bx l e) fun r h=>r= .a (.c (.p (.str (bx (bs (textS (l,e)).1)))))/\h=zK bx (textS (l,e)).2.1 (textS (l,e)).2.2:=ct hb func76 fun Q hQ K hK=>by
 have hz:=eG l
 obtain⟨⟨n0,z,f⟩,ht⟩: ∃t,fO l=t:=⟨_,rfl⟩
 have hle:=(yD l).1
 have c:=UC hb l hl
 have en:textS (l,e)=if e=0 then(n0,(l.drop z,f))else([],(l,e)):=by unfold textS;dsimp only;rw[ht]
 simp only[ht]at hle c
 clear ht
 obtain⟨⟨n1,l1,e1⟩,hr⟩: ∃t,textS (l,e)=t:=⟨_,rfl⟩
 simp only[hr]at hK
 rw[en]at hr
 clear en
 cbv
 refine⟨fun h1=>?_,fun h1=>?_⟩<;>simp only[hb,pl]at h1
 ·rw[if_neg h1]at hr
  simp only[Prod.mk.injEq]at hr
  obtain⟨q1,q2,q3⟩:=hr
  cbv
  exact hK _ _ (.a (.c (.p (.str (bx (bs n1)))))) (zK bx l1 e1) (aZ [] I4 (hs:=by cbv;(repeat' (first|trivial|rfl|apply And.intro|(simp only[hb,q2,q3];done)))) (he:=by cbv;rw[hb,<-q1];rfl)) ⟨rfl,rfl⟩
 ·subst h1
  rw[if_pos rfl]at hr
  simp only[Prod.mk.injEq]at hr
  obtain⟨q1,q2,q3⟩:=hr
  cbv
  refine call hQ c [] ?_
  rintro _ _ ⟨rfl,rfl⟩
  cbv
  refine ci hb hQ func72 ?_
  cbv
  refine⟨fun h2=>?_,fun h2=>?_⟩<;>simp only[hb,pl]at h2
  ·cbv
   refine chk (by simp only[hb,hz,nc];simp only[Bool.and_eq_true,decide_eq_true_eq,Int.ofNat_eq_natCast];omega) ?_
   cbv
   exact hK _ _ (.a (.c (.p (.str (bx (bs n1)))))) (zK bx l1 e1) (aZ [] I4 (hs:=by
    cbv
    (repeat' (first|trivial|rfl|apply And.intro|(simp only[hb,<-q3];done)|(simp only[hb,hz,<-q2,<-q3,<-Cc];rfl)))) (he:=by cbv;simp only[hb,q1])) ⟨rfl,rfl⟩
  ·exact absurd trivial h2
theorem UE: ∀(k:Nat)(l:List UInt8)(e:Int),k<=17->l.length<=4611686018427387904->Ct prog 77 [.c (.p (.int .i64 (bx (Int.ofNat k)))), .c (.ptr 3 0 0), .c (.ptr 9 0 0), .c (.ptr 5 0 0), .c (.ptr 7 0 0), .c (.ptr 10 0 0)] (Y6 bx l e) fun r h=>r= .a (AZ bx (dR k (l,e)).1)/\h=Y6 bx (dR k (l,e)).2.1 (dR k (l,e)).2.2
 |0,l,e,_,hl=>ct hb func77 fun Q hQ K hK=>by
  have c2:=xQ hb l e 3
  have em:dR 0 (l,e)=(.mk 0 0 [],(l,if e=0 then 3 else e)):=by unfold dR;rw[xR]
  simp only[em]at hK
  clear em
  cbv
  refine⟨fun h1=>?_,fun h1=>?_⟩<;>simp only[hb,pl]at h1
  ·cbv
   refine call hQ c2 I4 ?_
   rintro _ _ ⟨e',he,rfl⟩
   rw[<-he]at hK
   cbv
   exact hK _ _ (.a (AZ bx (.mk 0 0 []))) (Y6 bx l e') (aZ [] I13 (he:=by cbv;simp[hb,iV,Ex.op,Ex.n,Ex.args])) ⟨rfl,rfl⟩
  ·exact absurd rfl h1
 |k+1,l,e,hk,hl=>ct hb func77 fun Q hQ K hK=>by
  have b1:=tq (l,e)
  have c1:=PG hb l e hl
  obtain⟨⟨op,l1,e1⟩,h1⟩: ∃t,aY (l,e)=t:=⟨_,rfl⟩
  simp only[h1]at c1 b1
  have b2:=fZ (l1,e1)
  have c2:=BK hb l1 e1 (by omega)
  obtain⟨⟨n,l2,e2⟩,h2⟩: ∃t,aQ (l1,e1)=t:=⟨_,rfl⟩
  simp only[h2]at c2 b2
  have b3:=oN (m:=3) (by omega) (l2,e2)
  have c3:=MC hb 3 l2 e2 (by omega)
  obtain⟨⟨m,l3,e3⟩,h3⟩: ∃t,bg 3 (l2,e2)=t:=⟨_,rfl⟩
  simp only[h3]at c3 b3
  obtain⟨m,rfl⟩: ∃a:Nat,m=Int.ofNat a:=⟨m.toNat,by simp only[Int.ofNat_eq_natCast];omega⟩
  have et:dR (k+1) (l,e)=(.mk op n (dD (dR k) m (l3,e3)).1,(dD (dR k) m (l3,e3)).2):=by unfold dR;rw[h1];dsimp only;rw[h2];dsimp only;rw[h3];rfl
  simp only[et]at hK
  clear et h1 h2 h3
  cbv
  refine⟨fun h1=>?_,fun h1=>?_⟩<;>simp only[hb,pl]at h1
  ·replace h1:Int.ofNat (k+1)=0:=h1
   simp only[Int.ofNat_eq_natCast]at h1
   omega
  ·cbv
   refine rZ hb hQ iW [2] [(8, .a (.c (.ptr 14 0 0)))] [(0, .one (.row [.p (.str (bx (bs l2)))] 9)),(1, .one (.row [.p (.int .i64 (bx e2))] 30)),(14, .one (.row [.p (.int .u8 (bx op)), .p (.int .i64 (bx n)), .p .bW] 77))] ?_ ?_
   ·cbv
    repeat' (first
     |apply And.intro
     |(refine call (f:=75) hQ c1 I6 ?_;rintro _ _ ⟨rfl,rfl⟩;cbv)
     |(refine call (f:=73) hQ c2 I4 ?_;rintro _ _ ⟨rfl,rfl⟩;cbv)
     |exact⟨ent [] (I13++[.all 13, .all 14])⟩)
   ·cbv
    refine call hQ c3 I6 ?_
    rintro _ _ ⟨rfl,rfl⟩
    cbv
    refine loop hb (fun a:Nat×List Ex×List UInt8×Int=>a.1<=m/\dD (dR k) a.1 (l3,e3)=(a.2.1,(a.2.2.1,a.2.2.2))) (fun a=>m-a.1) (fun a=>[(21, .a (.c (.p (.int .i64 (bx (Int.ofNat a.1)))))),(8, .a (.c (.ptr 14 0 0)))])
     (fun a=>[(0, .one (.row [.p (.str (bx (bs a.2.2.1)))] 9)),(1, .one (.row [.p (.int .i64 (bx a.2.2.2))] 30)),(14, .one (.row [.p (.int .u8 (bx op)), .p (.int .i64 (bx n)), .sl 15 0 0 (bx a.2.1.length)] 77)),(15, .one (.bG (bx (iV a.2.1)) 77))])
     (0,[],l3,e3) ⟨by omega,rfl⟩ (ent [] (I13++[.all 13, .all 14, .iE]) (hs:=by cbv;(repeat' (first|trivial|rfl|apply And.intro|(simp[hb,iV];done)))) (he:=by cbv;(repeat' (first|trivial|rfl|apply And.intro|(simp[hb,iV];done))))) ?_
    rintro⟨i,xs,l',e'⟩ ⟨i1,i2⟩
    dsimp only at i1 i2⊢
    have hx:=oQ (fun st=>(rO k st).2) i (l3,e3)
    rw[i2]at hx
    dsimp only at hx
    have b4:m<=3:=by have:=b3.2.1;simp only[Int.ofNat_eq_natCast]at this;omega
    have hc: ∀x:Ex,iV (xs++[x])=iV xs++[.int .u8 x.op, .int .i64 x.n, .fz x.args.length (iV x.args)]:=fun x=>by obtain⟨o,n,a⟩:=x;simp[oU,zQ,Ex.op,Ex.n,Ex.args]
    cbv
    refine⟨fun hd=>?_,fun hd=>?_⟩<;>simp only[hb,pl]at hd
    ·cbv
     have i3:dD (dR k) (i+1) (l3,e3)=(xs++[(dR k (l',e')).1],(dR k (l',e')).2):=by unfold dD;rw[i2]
     have ci:=UE k l' e' (by omega) (by omega)
     obtain⟨⟨x,l4,e4⟩,h4⟩: ∃t,dR k (l',e')=t:=⟨_,rfl⟩
     simp only[h4]at ci i3
     clear h4
     have hu:=uz hb (k:=i) (by omega)
     have hw:wr .i64 (Int.ofNat (k+1)-1)=Int.ofNat k:=by rw[vJ (by simp only[Int.ofNat_eq_natCast];omega)];simp
     refine rZ hb hQ iW [] [] [(0, .one (.row [.p (.str (bx (bs l4)))] 9)),(1, .one (.row [.p (.int .i64 (bx e4))] 30)),(14, .one (.row [.p (.int .u8 (bx op)), .p (.int .i64 (bx n)), .sl 15 0 0 (bx (xs++[x]).length)] 77)),(15, .one (.bG (bx (iV (xs++[x]))) 77))] ?_ ?_
     ·cbv
      repeat' (first
       |apply And.intro
       |(refine call (f:=77) hQ ci I13 ?_ (ha:=by cbv;(repeat' (first|trivial|rfl|apply And.intro|(simp only[hb,hw];done))));rintro _ _ ⟨rfl,rfl⟩;cbv)
       |(refine chk (by simp only[hb,pO,wP,DX];simp;omega) ?_;cbv)
       |exact⟨ent [] (I13++[.all 13, .all 14, .all 17]) (hs:=by cbv;(repeat' (first|trivial|rfl|apply And.intro|(simp only[hb,hc,qM,wM];done)|(simp[hb];done))))⟩)
     ·cbv
      exact⟨(i+1,xs++[x],l4,e4),⟨by dsimp only;omega,i3⟩,by dsimp only;omega,ent [] (I13++[.all 13, .all 14, .all 15]) (he:=by cbv;(repeat' (first|trivial|rfl|apply And.intro|exact hu|(simp only[hb];done))))⟩
    ·cbv
     have:i=m:=by omega
     subst this
     rw[i2]at hK
     exact hK _ _ (.a (AZ bx (.mk op n xs))) (Y6 bx l' e') (aZ [15] I13 (he:=by cbv;(repeat' (first|trivial|rfl|apply And.intro|(simp[hb,Ex.op,Ex.n,Ex.args];done))))) ⟨rfl,rfl⟩
end
end Sx
end
section
namespace Sx
open Go Go.RowKit
structure Out {β:Type}(P:Program)(n:Nat)(J:β->Prop)(jx:Nat)(E:β->aX)(H:β->Hp)(x:Xt)(e:aX)(h:Hp):Prop where
 h: ∃b,J b/\x= .exit jx/\Q8 P n e h (E b) (H b)
theorem VF {α β:Type}{bx:{α:Type}->α->α}(hb: ∀{α:Type}(x:α),bx x=x){P:Program}{N n:Nat}{c:nR}{e:aX}{h:Hp}{k:KX}(I:α->Prop)(m:α->Nat)(V:α->List (Nat×RV))(U:α->List (Nat×eH))(a0:α)(i0:I a0)
 (jx:Nat) (J:β->Prop) (VX:β->List (Nat×RV)) (UX:β->List (Nat×eH))
 (h0:Q8 P n e h (oC (qE c e) (V a0)) (kV h (U a0)))
 (hr: ∀a,I a->run bx P N n c (oC (qE c e) (V a)) (kV h (U a)) (rnd (fun x e' h'=>Out P n J jx (fun b=>oC (qE c e) (VX b)) (fun b=>kV h (UX b)) x e' h') (Next P n I m (fun a=>oC (qE c e) (V a)) (fun a=>kV h (U a)) a)))
 (hx: ∀b,J b->k (.exit jx) (oC (qE c e) (VX b)) (kV h (UX b)))
 (hl: ∀a,Nat.ble n (llen (kV h (U a)))=true:=by intro _;cbv) (hlx: ∀b,Nat.ble n (llen (kV h (UX b)))=true:=by intro _;cbv):Ui P N n c e h k:=by
 have D:=loop (k:=fun x e' h'=>Out P n J jx (fun b=>oC (qE c e) (VX b)) (fun b=>kV h (UX b)) x e' h') hb I m V U a0 i0 h0 hr hl
 refine⟨fun T hT code hc hn ρ O a w H hF K hK=>D.h T hT code hc hn ρ O a w H hF _ fun x e' h' ρ' O' a' w' q1 q2 q3 q4 q5 q6=>?_⟩
 obtain⟨b,hjb,rfl,he⟩:=q1.h
 obtain⟨ρ3,O3,s1,s2,s3,s4⟩:=he ρ' O' a' w' N q4 q6
 exact hK (.exit jx) _ _ ρ3 O3 a' w' (hx b hjb) (q2.trans s1 (Nat.le_refl _)) (q3.trans s2) s3 (by rw[<-aG];exact Nat.le_of_ble_eq_true (hlx b)) s4
end Sx
end
section
namespace Sx
open Go Go.RowKit _root_.Go.Proofs.Tryz
set_option maxRecDepth 100000
set_option maxHeartbeats 4000000
abbrev JA:List Pl:=[.all 0, .all 2, .all 3, .all 4]
abbrev JB:List Pl:=[.all 0, .all 2, .all 3, .all 4, .all 5, .all 6]
abbrev J39:List Pl:=[.all 0, .all 2, .all 3, .all 4, .all 5, .all 6, .all 7, .all 8, .all 9, .all 10, .all 12, .all 13, .all 11]
abbrev CZ:List Pl:=[.all 0, .all 1, .all 2, .all 3, .all 4, .all 5, .all 6, .all 7, .all 8, .all 9, .all 10, .all 11, .all 12, .all 13, .all 14]
theorem L9 {m:Int}(h:0<=m): ∃a:Nat,m=Int.ofNat a:=⟨m.toNat,(Int.toNat_of_nonneg h).symm⟩
theorem Vw (st:St):(aQ st).2.2≠0->(aQ st).1=0:=by
 unfold aQ
 split
 ·intro h
  have:eX st.1=(0,0,(eX st.1).2.2):=sZ st.1 0 0 h
  dsimp only
  rw[this]
 ·intro _;rfl
theorem Sz (m:Int)(st:St):(bg m st).2.2≠0->(bg m st).1=0:=by
 unfold bg
 split
 ·intro _;rfl
 ·exact Vw st
theorem CG {st:St}{n:Nat}(h:(bD n st).2.2≠0): ∀k,bD (n+k) st=bD n st
 |0=>rfl
 |k+1=>by
  have ih:=CG h k
  have:bD (n+k+1) st=if(bD (n+k) st).2.2≠0 then bD (n+k) st else((bD (n+k) st).1++[(mD (bD (n+k) st).2).1],(mD (bD (n+k) st).2).2):=rfl
  rw[<-Nat.add_assoc,this,ih,if_pos h]
theorem VT (l:List Int)(v:Int):l9 (l++[v])=l9 l++[.int .i64 v]:=by simp[l9]
theorem OL (l:List JN)(d:JN):dO (l++[d])=dO l++wo d:=by simp[dO]
def h39 (bx:{α:Type}->α->α)(l:List UInt8)(e:Int)(jr:List SV):Hp:=[
 .one (.row [.p (.str (bx (bs l)))] 9), .one (.row [.p (.lit .i64 0), .p .bW] 24), .one (.row [.p (.int .i64 (bx e))] 30), .one (.clo 72 [] [.c (.ptr 2 0 0)]), .one (.row [.clo 3 0] 126),
 .one (.clo 73 [] [.c (.ptr 2 0 0), .c (.ptr 0 0 0), .c (.ptr 4 0 0)]), .one (.row [.clo 5 0] 65), .one (.clo 74 [] [.c (.ptr 6 0 0), .c (.ptr 4 0 0)]), .one (.row [.clo 7 0] 127),
 .one (.clo 75 [] [.c (.ptr 6 0 0), .c (.ptr 4 0 0)]), .one (.row [.clo 9 0] 128), .one (.clo 76 [] [.c (.ptr 2 0 0), .c (.ptr 0 0 0), .c (.ptr 4 0 0)]), .one (.row [.clo 13 0] 130),
 .one (.clo 77 [] [.c (.ptr 4 0 0), .c (.ptr 10 0 0), .c (.ptr 6 0 0), .c (.ptr 8 0 0), .c (.ptr 12 0 0)]), .one (.row jr 24)]
section
variable {bx:{α:Type}->α->α} (hb: ∀{α:Type}(x:α),bx x=x)
include hb
theorem adG (l:List UInt8)(hl:l.length<=4611686018427387904):Ct prog 39 [.c (.p (.str (bx (bs l))))] [] fun r h=>r= .aN [qR bx (pR l).1, .c (.p (.int .i64 (bx (pR l).2)))]/\h=[]:=ct hb func39 fun Q hQ K hK=>by
 have b1:=fZ (l,0)
 have c1:=BK hb l 0 hl
 have e0:pR l=LM ⟨(aQ (l,0)).1,(bD (bg 12 (aQ (l,0)).2).1.toNat (bg 12 (aQ (l,0)).2).2).1⟩ (Ie ⟨(aQ (l,0)).1,(bD (bg 12 (aQ (l,0)).2).1.toNat (bg 12 (aQ (l,0)).2).2).1⟩ (bD (bg 12 (aQ (l,0)).2).1.toNat (bg 12 (aQ (l,0)).2).2).2):=by simp only[pR]
 generalize h1:aQ (l,0)=t1 at c1 b1 e0
 obtain⟨n,l1,e1⟩:=t1
 dsimp only at c1 b1 e0
 have b2:=oN (m:=12) (by omega) (l1,e1)
 have hl1:l1.length<=4611686018427387904:=Nat.le_trans b1.2 hl
 have hl2:=Nat.le_trans b2.2.2 hl1
 have z2:=Sz 12 (l1,e1)
 have c2:=MC hb 12 l1 e1 hl1
 generalize h2:bg 12 (l1,e1)=t2 at c2 b2 z2 e0 hl2
 obtain⟨m,l2,e2⟩:=t2
 dsimp only at c2 b2 z2 e0 hl2
 have⟨m',hm'⟩:=L9 b2.1
 rw[hm']at c2 b2 z2 e0
 clear h2 hm' m
 rename Nat=>m
 have hm:m<=12:=Int.ofNat_le.1 b2.2.1
 have hz2:0<m->e2=0:=fun h=>Classical.byContradiction fun h'=>Nat.ne_of_gt h (Int.ofNat.inj (z2 h'))
 replace e0:pR l=LM ⟨n,(bD m (l2,e2)).1⟩ (Ie ⟨n,(bD m (l2,e2)).1⟩ (bD m (l2,e2)).2):=e0
 rw[e0]at hK
 have b1:=b1.1
 clear h1 b2 z2 e0
 cbv
 refine call hQ c1 JA ?_
 rintro _ _ ⟨rfl,rfl⟩
 cbv
 refine call hQ c2 JB ?_
 rintro _ _ ⟨rfl,rfl⟩
 cbv
 refine VF hb (fun a:Nat×List JN×List UInt8×Int=>a.1<=m/\(a.1<m->a.2.2.2=0)/\bD a.1 (l2,e2)=(a.2.1,(a.2.2.1,a.2.2.2))) (fun a=>m-a.1) (fun a=>[(26, .a (.c (.p (.int .i64 (bx (Int.ofNat a.1))))))])
  (fun a=>[(0, .one (.row [.p (.str (bx (bs a.2.2.1)))] 9)),(2, .one (.row [.p (.int .i64 (bx a.2.2.2))] 30)),(14, .one (.row [.p (.int .i64 (bx n)), .sl 15 0 0 (bx a.2.1.length)] 24)),(15, .one (.bG (bx (dO a.2.1)) 79))])
  (0,[],l2,e2) ⟨by omega,hz2,rfl⟩
  0 (fun a:List JN×List UInt8×Int=>bD m (l2,e2)=(a.1,(a.2.1,a.2.2))) (fun _=>[])
  (fun a=>[(0, .one (.row [.p (.str (bx (bs a.2.1)))] 9)),(2, .one (.row [.p (.int .i64 (bx a.2.2))] 30)),(14, .one (.row [.p (.int .i64 (bx n)), .sl 15 0 0 (bx a.1.length)] 24)),(15, .one (.bG (bx (dO a.1)) 79))])
  (ent [] (CZ++[.iE]) (hs:=by cbv;(repeat' (first|trivial|rfl|apply And.intro|(simp[hb];done)))) (he:=by cbv;(repeat' (first|trivial|rfl|apply And.intro|(simp[hb];done))))) ?_ ?_
 ·rintro⟨i,ns,l',e'⟩ ⟨i1,i2,i3⟩
  dsimp only at i1 i2 i3⊢
  cbv
  refine⟨fun hd=>?_,fun hd=>?_⟩<;>simp only[hb,pl]at hd
  ·have he0:e'=0:=i2 hd
   have hlen:l'.length<=4611686018427387904:=by
    have:=(pK (l2,e2) (by unfold maxLen;dsimp only;omega) i).2.2
    rw[i3]at this
    exact Nat.le_trans this hl2
   have i4:bD (i+1) (l2,e2)=(ns++[(mD (l',e')).1],(mD (l',e')).2):=by
    have:bD (i+1) (l2,e2)=if(bD i (l2,e2)).2.2≠0 then bD i (l2,e2)else((bD i (l2,e2)).1++[(mD (bD i (l2,e2)).2).1],(mD (bD i (l2,e2)).2).2):=rfl
    rw[this,i3]
    exact if_neg (by dsimp only;omega)
   have en:mD (l',e')=({uid:=bs (textS (l',e')).1,kind:=(aY (textS (l',e')).2).1,n:=(aQ (aY (textS (l',e')).2).2).1,ins:=(dD aQ (bg 12 (aQ (aY (textS (l',e')).2).2).2).1.toNat (bg 12 (aQ (aY (textS (l',e')).2).2).2).2).1,x:=(dR 17 (dD aQ (bg 12 (aQ (aY (textS (l',e')).2).2).2).1.toNat (bg 12 (aQ (aY (textS (l',e')).2).2).2).2).2).1},(dR 17 (dD aQ (bg 12 (aQ (aY (textS (l',e')).2).2).2).1.toNat (bg 12 (aQ (aY (textS (l',e')).2).2).2).2).2).2):=by simp only[mD]
   rw[en]at i4
   clear en
   have f1:=IE (l',e')
   have k1:=aa1 hb l' e' hlen
   generalize textS (l',e')=t at i4 f1 k1
   obtain⟨tx,la,ea⟩:=t
   dsimp only at i4 f1 k1
   have hla:=Nat.le_trans f1.2 hlen
   have f2:=tq (la,ea)
   have k2:=PG hb la ea hla
   generalize aY (la,ea)=t at i4 f2 k2
   obtain⟨kd,lb,eb⟩:=t
   dsimp only at i4 f2 k2
   have hlb:=Nat.le_trans f2.2.2 hla
   have f3:=fZ (lb,eb)
   have k3:=BK hb lb eb hlb
   generalize aQ (lb,eb)=t at i4 f3 k3
   obtain⟨nn,lc,ec⟩:=t
   dsimp only at i4 f3 k3
   have hlc:=Nat.le_trans f3.2 hlb
   have f4:=oN (m:=12) (by omega) (lc,ec)
   have k4:=MC hb 12 lc ec hlc
   generalize bg 12 (lc,ec)=t at i4 f4 k4
   obtain⟨q,ld,ed⟩:=t
   dsimp only at i4 f4 k4
   have hld:=Nat.le_trans f4.2.2 hlc
   have⟨q',hq'⟩:=L9 f4.1
   rw[hq']at i4 f4 k4
   clear hq' q
   rename Nat=>q
   replace i4:bD (i+1) (l2,e2)=(ns++[{uid:=bs tx,kind:=kd,n:=nn,ins:=(dD aQ q (ld,ed)).1,x:=(dR 17 (dD aQ q (ld,ed)).2).1}],(dR 17 (dD aQ q (ld,ed)).2).2):=i4
   have hq:q<=12:=Int.ofNat_le.1 f4.2.1
   have fl:=oQ (f:=aQ) (fun st=>(fZ st).2) q (ld,ed)
   cbv
   refine rZ hb hQ iW [4] [(12, .a (.c (.ptr 16 0 0)))] [(0, .one (.row [.p (.str (bx (bs lc)))] 9)),(2, .one (.row [.p (.int .i64 (bx ec))] 30)),(16, .one (.row [.p (.str (bx (bs tx))), .p (.int .u8 (bx kd)), .p .bW, .p (.lit .u8 0), .p (.lit .i64 0), .p .bW, .p (.int .i64 (bx nn))] 79))] ?_ ?_
   ·cbv
    repeat' (first
     |apply And.intro
     |(refine call (f:=76) hQ k1 JA ?_;rintro _ _ ⟨rfl,rfl⟩;cbv)
     |(refine call (f:=75) hQ k2 JB ?_;rintro _ _ ⟨rfl,rfl⟩;cbv)
     |(refine call (f:=73) hQ k3 JA ?_;rintro _ _ ⟨rfl,rfl⟩;cbv)
     |exact⟨ent [] (CZ++[.all 15, .all 16])⟩)
   ·cbv
    refine call hQ k4 JB ?_
    rintro _ _ ⟨rfl,rfl⟩
    cbv
    refine loop hb (fun a:Nat×List Int×List UInt8×Int=>a.1<=q/\dD aQ a.1 (ld,ed)=(a.2.1,(a.2.2.1,a.2.2.2))) (fun a=>q-a.1) (fun a=>[(37, .a (.c (.p (.int .i64 (bx (Int.ofNat a.1))))))])
     (fun a=>[(0, .one (.row [.p (.str (bx (bs a.2.2.1)))] 9)),(2, .one (.row [.p (.int .i64 (bx a.2.2.2))] 30)),(16, .one (.row [.p (.str (bx (bs tx))), .p (.int .u8 (bx kd)), .sl 17 0 0 (bx a.2.1.length), .p (.lit .u8 0), .p (.lit .i64 0), .p .bW, .p (.int .i64 (bx nn))] 79)),(17, .one (.bG (bx (l9 a.2.1)) 3))])
     (0,[],ld,ed) ⟨by omega,rfl⟩ (ent [] (CZ++[.all 15, .all 16, .iE]) (hs:=by cbv;(repeat' (first|trivial|rfl|apply And.intro|(simp[hb];done)))) (he:=by cbv;(repeat' (first|trivial|rfl|apply And.intro|(simp[hb];done))))) ?_
    rintro⟨k,is,ls,es⟩ ⟨p1,p2⟩
    dsimp only at p1 p2⊢
    have fk:=oQ (f:=aQ) (fun st=>(fZ st).2) k (ld,ed)
    rw[p2]at fk
    have hls:=Nat.le_trans fk.2 hld
    have hil:is.length=k:=fk.1
    clear fk
    cbv
    refine⟨fun hk=>?_,fun hk=>?_⟩<;>simp only[hb,pl]at hk
    ·have p3:dD aQ (k+1) (ld,ed)=(is++[(aQ (ls,es)).1],(aQ (ls,es)).2):=by unfold dD;rw[p2]
     have kn:=BK hb ls es hls
     have gk:=fZ (ls,es)
     generalize aQ (ls,es)=t at p3 kn gk
     obtain⟨v,lt,et⟩:=t
     dsimp only at p3 kn gk
     have hv:=yw gk.1
     have hu:=uz hb (k:=k) (by omega)
     cbv
     refine rZ hb hQ iW [] [] [(0, .one (.row [.p (.str (bx (bs lt)))] 9)),(2, .one (.row [.p (.int .i64 (bx et))] 30)),(16, .one (.row [.p (.str (bx (bs tx))), .p (.int .u8 (bx kd)), .sl 17 0 0 (bx (is++[v]).length), .p (.lit .u8 0), .p (.lit .i64 0), .p .bW, .p (.int .i64 (bx nn))] 79)),(17, .one (.bG (bx (l9 (is++[v]))) 3))] ?_ ?_
     ·cbv
      repeat' (first
       |apply And.intro
       |(refine call (f:=73) hQ kn JA ?_;rintro _ _ ⟨rfl,rfl⟩;cbv)
       |(refine chk (by simp only[hb,pO,wP,DN];simp;omega) ?_;cbv)
       |exact⟨ent [] (CZ++[.all 15, .all 16, .all 19]) (hs:=by cbv;(repeat' (first|trivial|rfl|apply And.intro|(simp only[hb,VT,qM,wM];done)|(simp[hb];done))))⟩)
     ·cbv
      exact⟨(k+1,is++[v],lt,et),⟨by dsimp only;omega,p3⟩,by dsimp only;omega,ent [] (CZ++[.all 15, .all 16, .all 17]) (he:=by cbv;(repeat' (first|trivial|rfl|apply And.intro|exact hu|(simp only[hb];done))))⟩
    ·have hkq:k=q:=by omega
     subst hkq
     rw[p2]at i4
     dsimp only at i4
     have kt:=UE hb 17 ls es (by omega) hls
     have ft:=rO 17 (ls,es)
     generalize dR 17 (ls,es)=t at i4 kt ft
     obtain⟨x,lg,eg⟩:=t
     dsimp only at i4 kt ft
     cbv
     refine gJ.Ll (args2:=[.c (.p (.lit .i64 17)), .c (.ptr 4 0 0), .c (.ptr 10 0 0), .c (.ptr 6 0 0), .c (.ptr 8 0 0), .c (.ptr 12 0 0)]) [17] (CZ++[.all 15, .all 16, .gone 17]) (h39 bx ls es [.p (.int .i64 (bx n)), .sl 15 0 0 (bx ns.length)]++[.one (.bG (bx (dO ns)) 79), .one (.row [.p (.str (bx (bs tx))), .p (.int .u8 (bx kd)), .p (.fz (bx is.length) (bx (l9 is))), .p (.lit .u8 0), .p (.lit .i64 0), .p .bW, .p (.int .i64 (bx nn))] 79), .no]) ?_
     cbv
     refine call hQ kt J39 ?_ (ha:=by cbv;(repeat' (first|trivial|rfl|apply And.intro|(simp[hb];done))))
     rintro _ _ ⟨rfl,rfl⟩
     cbv
     have hnl:ns.length<=i:=by
      have:=(pK (l2,e2) (by unfold maxLen;dsimp only;omega) i).2.1
      rw[i3]at this
      exact this
     obtain⟨nd,hnd⟩: ∃nd:JN,nd={uid:=bs tx,kind:=kd,n:=nn,ins:=is,x:=x}:=⟨_,rfl⟩
     rw[<-hnd]at i4
     have hP:dO (ns++[nd])=dO ns++[.str (bs tx), .int .u8 kd, .fz is.length (l9 is), .int .u8 x.op, .int .i64 x.n, .fz x.args.length (iV x.args), .int .i64 nn]:=by rw[OL,hnd];rfl
     clear hnd
     have hu:=uz hb (k:=i) (by omega)
     refine chk (by simp only[hb,pO,wP,yS];simp;omega) ?_
     cbv
     refine⟨fun he=>?_,fun he=>?_⟩<;>simp only[hb,pl]at he
     ·have hs:=CG (st:=(l2,e2)) (n:=i+1) (by rw[i4];exact he) (m-(i+1))
      rw[Nat.add_sub_cancel' (show i+1<=m by omega),i4]at hs
      cbv
      exact⟨(ns++[nd],lg,eg),hs,rfl,ent [] (CZ++[.all 19]) (hs:=by cbv;(repeat' (first|trivial|rfl|apply And.intro|(simp only[hb,hP,qM,wM];done)|(simp[hb];done))))⟩
     ·cbv
      exact⟨(i+1,ns++[nd],lg,eg),⟨by dsimp only;omega,fun _=>he,i4⟩,by dsimp only;omega,ent [] (CZ++[.all 19]) (hs:=by cbv;(repeat' (first|trivial|rfl|apply And.intro|(simp only[hb,hP,qM,wM];done)|(simp[hb];done)))) (he:=by cbv;(repeat' (first|trivial|rfl|apply And.intro|exact hu|(simp only[hb];done))))⟩
  ·cbv
   have:i=m:=by omega
   subst this
   exact⟨(ns,l',e'),i3,rfl,ent [] (CZ++[.all 15])⟩
 ·rintro⟨ns,l',e'⟩ j1
  dsimp only at j1⊢
  rw[j1]at hK
  dsimp only at hK
  have fj:gK ⟨n,ns⟩:=by
   have:=pK (l2,e2) (by unfold maxLen;dsimp only;omega) m
   rw[j1]at this
   exact⟨by have:=this.2.1;show ns.length<_;dsimp only at this;omega,this.1,b1⟩
  have km:=J5 hb ⟨n,ns⟩ fj
  have ej:Ie ⟨n,ns⟩ (l',e')=if(dV ⟨n,ns⟩).2=0 then(if l'=[]then(l',e')else lH (l',e') 2)else lH (if l'=[]then(l',e')else lH (l',e') 2) 2:=rfl
  rw[ej]at hK
  clear ej
  generalize dV ⟨n,ns⟩=t at hK km
  obtain⟨y,f⟩:=t
  dsimp only at hK km
  have ka:=xQ hb l' e' 2
  cbv
  have bq:((bs l').toList==(⟨⟨[]⟩⟩:ByteArray).toList)=decide (l'=[]):=by
   have:=su (bs l') ⟨⟨[]⟩⟩
   have h2:((bs l').toList==(⟨⟨[]⟩⟩:ByteArray).toList)=(bs l'==(⟨⟨[]⟩⟩:ByteArray)):=by rw[<-beq_toListBytes]
   rw[h2,this]
   congr 1
   exact propext ⟨fun h=>by have:=congrArg (fun b:ByteArray=>b.data.toList) h;simpa[bs]using this,fun h=>by rw[h];rfl⟩
  refine⟨fun h1=>?ua,fun h1=>?ub⟩<;>simp only[hb,bq,pl]at h1
  case' ua=>
   cbv
   refine call hQ ka JA ?_
   rintro _ _ ⟨e2,he2,rfl⟩
   have hst:(if l'=[]then(l',e')else lH (l',e') 2)=(l',e2):=by rw[if_neg h1,xR,he2]
   clear he2 ka
   cbv
  case' ub=>
   clear ka
   obtain⟨e2,he2⟩: ∃e2,e2=e':=⟨_,rfl⟩
   subst he2
   have hst:(if l'=[]then(l',e2)else lH (l',e2) 2)=(l',e2):=if_pos h1
   cbv
  all_goals
   rw[hst]at hK
   clear hst
   refine gJ.Ll (args2:=[qR bx ⟨n,ns⟩]) [15] (CZ++[.gone 15]) (h39 bx l' e2 [.p (.int .i64 (bx n)), .p (.fz (bx ns.length) (bx (dO ns)))]++[.no]) ?_
   cbv
   refine call hQ km [] ?_
   rintro _ _ ⟨rfl,rfl⟩
   have kb:=xQ hb l' e2 2
   cbv
   refine⟨fun h2=>?_,fun h2=>?_⟩<;>simp only[hb,pl]at h2
   all_goals first
    |(rw[if_neg h2,xR]at hK
      cbv
      refine call hQ kb JA ?_
      rintro _ _ ⟨e3,he3,rfl⟩
      rw[<-he3]at hK
      clear he3 kb
      cbv)
    |(rw[if_pos h2]at hK
      clear kb
      obtain⟨e3,he3⟩: ∃e3,e3=e2:=⟨_,rfl⟩
      subst he3
      cbv)
   all_goals
    have eo:LM ⟨n,ns⟩ (l',e3)=if e3=0 then(⟨n,ns⟩,0)else(zJ,e3):=rfl
    rw[eo]at hK
    clear eo
    refine⟨fun h3=>?_,fun h3=>?_⟩<;>simp only[hb,pl]at h3
    ·rw[if_neg h3]at hK
     dsimp only at hK
     cbv
     refine draw hb hQ iW [] ?_
     cbv
     (repeat' (first|apply And.intro|exact hK _ _ (.aN [qR bx zJ, .c (.p (.int .i64 (bx e3)))]) [] (aZ [] [] (he:=by cbv;(repeat' (first|trivial|rfl|apply And.intro|(simp[hb];done))))) ⟨rfl,rfl⟩))
    ·rw[if_pos h3]at hK
     dsimp only at hK
     cbv
     exact hK _ _ (.aN [qR bx ⟨n,ns⟩, .c (.p (.int .i64 (bx 0)))]) [] (aZ [] [] (he:=by cbv;(repeat' (first|trivial|rfl|apply And.intro|(simp[hb];done))))) ⟨rfl,rfl⟩
end
end Sx
end
end Go.Proofs.YtakhobfamnjnoaaGreatDoor
