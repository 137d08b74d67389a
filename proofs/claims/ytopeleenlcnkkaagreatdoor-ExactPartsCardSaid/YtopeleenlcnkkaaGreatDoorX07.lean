/- slices.insertionSort over records: a stretch comes sorted, those of one place as they were. -/
import Derived.Test.YtopeleenlcnkkaaGreatDoorX06
set_option linter.unusedVariables false
set_option linter.unusedSimpArgs false
set_option maxHeartbeats 1000000
set_option maxRecDepth 100000
namespace Go.Proofs.YtopeleenlcnkkaaGreatDoor
open Go Go.RowKit
attribute [local irreducible] bU cZ
theorem Bq (x y:Rec)(w:World):Calls Tryz.prog 91 #[.agg #[.int .i64 x.pos, .int .i64 x.key, .int .i64 x.val], .agg #[.int .i64 y.pos, .int .i64 y.key, .int .i64 y.val]] w (Gives w (.int .i64 (fJ x.pos y.pos))):=by
 go_enter Tryz.func91,Tryz.ntmps91
 go_wp2_with fail
 refine(Z9 _ _ _).mono ?_
 rintro e w' ⟨rfl,rfl⟩
 go_wp2_with fail
 go_ret
 exact⟨rfl,((Kept.refl _ _).alloc _).alloc _⟩
theorem pY (a b:Int):(fJ a b<0)=(a<b):=by
 unfold fJ;simp only[eq_iff_iff]
 split
 ·constructor<;>intro<;>omega
 ·split<;>constructor<;>intro<;>omega
def iQ (w:World)(b off:Nat)(P X S:List Rec)(e:Ending)(w':World):Prop:= ∃X',Same X X'/\Sorted X'/\Moves w b off (P++X'++S) e w'
theorem Gf {P A2 R:List Rec}{x y:Rec}{i j:Nat}(hi:P.length=i)(hj:i+1=j):(((P++y::x::(A2++R)).set j y).set i x)=P++x::y::(A2++R):=by
 subst hj
 rw[show P++y::x::(A2++R)=(P++[y])++x::(A2++R) by simp,set_mid (by simpa using hi),show P++[y]++y::(A2++R)=P++y::y::(A2++R) by simp,set_mid hi]
theorem zB (b off cap N a n:Nat)(P X S:List Rec)(w:World)(h:RW w b off (P++X++S))(hN:(P++X++S).length=N)(pW:N<1099511627776)(ha:P.length=a)(hn:(P++X).length=n):
 Calls Tryz.prog 141 #[.slice (some ⟨b,off,none⟩) N cap, .int .i64 a, .int .i64 n, .func (.func 91) #[] #[]] w (iQ w b off P X S):=by
 have H:=Lib.hid h
 have HN:=Lib.hid hN
 have HA:=Lib.hid ha
 have LN:(P++X++S).length=P.length+X.length+S.length:=by simp;omega
 have LM:(P++X).length=P.length+X.length:=by simp
 have b1:a<=n/\n<=N:=by omega
 have HX:=Lib.hid (show a+X.length=n by omega)
 clear h hN ha hn LN LM
 have e1:IntKind.i64.wrap ((a:Int)+1)=((a+1:Nat):Int):=aT (n:=a+1) (by omega)
 go_enter Tryz.func141,Tryz.ntmps141
 go_wp2
 go_loopg [8] X.length (fun g i wr=> ∃(i':Nat)(A R:List Rec),i= .int .i64 (i':Int)/\R.length<=g/\(i'=a+A.length/\A≠[]\/A=[]/\R=[]/\i'=a+1)/\a+A.length+R.length=n/\Sorted A/\Same X (A++R)/\RW wr b off (P++A++R++S)/\Kept (one b) w wr)
 case atStart=>
  cases X with
  |nil=>exact⟨a+1,[],[],by go_num,Nat.le_refl _, .inr ⟨rfl,rfl,rfl⟩,by simpa using HX.out,List.Pairwise.nil,Same.refl _,by simpa using H.out,Kept.refl _ _⟩
  |cons x R=>
   refine⟨a+1,[x],R,by go_num,?_, .inl ⟨rfl,by simp⟩,?_,by simp[Sorted],Same.refl _,by simpa using H.out,Kept.refl _ _⟩
   ·simp
   ·have:=HX.out;simp only[List.length_cons,List.length_nil]at this⊢;omega
 case round=>
  obtain⟨i',A,R,rfl,hg,hi,hn,hs,hsame,hr,hkp⟩:=hrel
  cases R with
  |nil=>
   have hlt: ¬(i':Int)<n:=by
    simp only[List.length_nil]at hn
    rcases hi with⟨h1,_⟩|⟨h1,_,h2⟩
    ·omega
    ·rw[h1]at hn;simp only[List.length_nil]at hn;omega
   have F:iQ w b off P X S (.returned (.tuple #[])) wr:=⟨A,by simpa using hsame,hs,rfl,by simpa using hr,hkp⟩
   have FF:=Lib.hid F
   clear F hg hi hn hs hsame hr hkp
   go_wp2_with fail
   go_end0
   exact FF.out
  |cons x R=>
   obtain⟨rfl,hA⟩:i'=a+A.length/\A≠[]:=by
    rcases hi with h|⟨_,h,_⟩
    ·exact h
    ·cases h
   have hn':a+A.length<n:=by simp only[List.length_cons]at hn;omega
   have hlt:((a+A.length:Nat):Int)<n:=by omega
   obtain⟨i,hi'⟩: ∃i,a+A.length=i:=⟨_,rfl⟩
   have HH:=Lib.hid (And.intro hg (And.intro hn (And.intro hs hsame)))
   have HR:=Lib.hid hr
   clear hg hi hn hs hsame hr
   rw[hi']at hn' hlt⊢
   have HI:=Lib.hid hi'
   clear hi'
   go_wp2_with fail
   go_loopg [9] A.length (fun g j wr=> ∃(A1 A2:List Rec),A=A1++A2/\j= .int .i64 ((a+A1.length:Nat):Int)/\A1.length=g/\(∀y∈A2,x.pos<y.pos)/\RW wr b off (P++A1++x::A2++R++S)/\Kept (one b) w wr)
   case atStart=>exact⟨A,[],by simp,by rw[HI.out],rfl,by simp,by simpa using HR.out,hkp⟩
   case round=>
    clear HR hkp
    obtain⟨A1,A2,rfl,rfl,hg,hgt,hr,hkp⟩:=hrel
    have hxi:=HI.out
    rw[List.length_append]at hxi
    rcases List.eq_nil_or_concat A1 with rfl|⟨A1,y,rfl⟩
    ·
     have hn0: ¬a<a+([]:List Rec).length:=by simp
     obtain⟨j,hj⟩: ∃j,a+([]:List Rec).length=j:=⟨_,rfl⟩
     rw[hj]at hn0⊢
     have hn1:decide (a<j)=false:=decide_eq_false hn0
     have hn2:decide ((a:Int)<(j:Int))=false:=decide_eq_false (by omega)
     have hi1:IntKind.i64.wrap ((i:Int)+1)=((i+1:Nat):Int):=aT (n:=i+1) (by omega)
     have F: ∃(i':Nat)(A R':List Rec),Value.int .i64 ((i+1:Nat):Int)= .int .i64 (i':Int)/\R'.length<=R.length/\(i'=a+A.length/\A≠[]\/A=[]/\R'=[]/\i'=a+1)/\a+A.length+R'.length=n/\Sorted A/\Same X (A++R')/\RW wr.drew b off (P++A++R'++S)/\Kept (one b) w wr.drew:=by
      obtain⟨h1,h2,h3,h4⟩:=HH.out
      refine⟨_,x::A2,R,rfl,Nat.le_refl _, .inl ⟨?_,by simp⟩,?_,?_,?_,?_,hkp.drew⟩
      ·simp only[List.length_nil,List.length_cons]at hxi⊢;omega
      ·simp only[List.length_append,List.length_cons,List.length_nil]at h2⊢;omega
      ·exact List.pairwise_cons.2 ⟨fun y hy=>Int.le_of_lt (hgt y hy),h3⟩
      ·refine h4.trans ?_
       have:=(Same.comm (A:=A2) (B:=[x]) (fun a ha b hb=>by have:=hgt a ha;simp at hb;subst hb;omega)).append (Same.refl R)
       simpa using this
      ·simpa using hr.pure (Kept.refl _ _).drew
     have FF:=Lib.hid F
     clear F hr hg hgt hkp hxi hj
     go_wp2_with fail
     refine ak [0,1,2,3,4,5,6,7,8,9,10,11,12,13,14,15,16] (fun W=>Kept none' wr W) (by kernel_rfl) (by kernel_rfl) rfl (Kept.refl _ _).drew ?_
     simp only[List.map_cons,List.map_nil,List.getElem?_toArray,List.getElem?_cons_zero,List.getElem?_cons_succ,Option.getD_some]
     iterate 4 (apply aj rfl rfl;(intro W hW;go_simp;rfl);go_frame)
     skip
     iterate 12 (apply fM rfl;go_frame)
     apply aj rfl rfl
     ·intro W hW;go_simp;rfl
     go_frame
     refine aG (fun _=>(Kept.refl _ _).drew) ?_
     go_wp2_with fail
     go_roundg R.length
     case rel=>exact FF.out
     case measure=>have:=HH.out;simp at this;omega
    ·
     obtain⟨q,hq⟩: ∃q,a+A1.length=q:=⟨_,rfl⟩
     obtain⟨j,hj⟩: ∃j,q+1=j:=⟨_,rfl⟩
     have hjj:a+(A1.concat y).length=j:=by rw[List.concat_eq_append,List.length_append];simp only[List.length_cons,List.length_nil];omega
     rw[hjj]
     rw[List.concat_eq_append]at hr
     have hA1:=HA.out
     have Es:(P++A1).length=q:=by rw[List.length_append];omega
     have hPj:(P++A1++[y]).length=j:=by simp only[List.length_append,List.length_cons,List.length_nil]at Es⊢;omega
     have gx:(P++(A1++[y])++x::A2++R++S)[j]?=some x:=by
      rw[show P++(A1++[y])++x::A2++R++S=(P++A1++[y])++x::(A2++R++S) by simp]
      exact jI hPj
     have gy:(P++(A1++[y])++x::A2++R++S)[q]?=some y:=by
      rw[show P++(A1++[y])++x::A2++R++S=(P++A1)++y::(x::A2++R++S) by simp]
      exact jI Es
     have hjN:j<(P++(A1++[y])++x::A2++R++S).length:=(List.getElem?_eq_some_iff.1 gx).1
     have o9:(P++(A1++[y])++x::A2++R++S).length=N:=by
      have h1:=HN.out
      have h2:=HX.out
      have h3:=HH.out.2.1
      simp only[List.concat_eq_append,List.length_append,List.length_cons,List.length_nil]at h1 h2 h3⊢
      omega
     have hjN':j<N:=by omega
     have hqN':q<N:=by omega
     obtain⟨x0,x1,x2⟩:=hr.recs _ _ gx
     obtain⟨y0,y1,y2⟩:=hr.recs _ _ gy
     obtain⟨Z7,Z5,Z4⟩:=hr.soft j (by omega)
     obtain⟨ZY,ZX,ZW⟩:=hr.soft q (by omega)
     have hn0:a<j:=by omega
     have hn1:decide (a<j)=true:=decide_eq_true hn0
     have hn2:decide ((a:Int)<(j:Int))=true:=decide_eq_true (by omega)
     have e3:IntKind.i64.wrap ((j:Int)-1)=(q:Int):=by rw[show(j:Int)-1=((q:Nat):Int) by omega];exact aT (by omega)
     have HJ:=Lib.hid (And.intro hq (And.intro hj (And.intro hg (And.intro hgt hkp))))
     have HPQ:=Lib.hid (And.intro Es (And.intro hPj o9))
     have HXI:=Lib.hid hxi
     have HR:=Lib.hid hr
     have ine:i<N:=by omega
     clear hq hj hg hgt hkp Es hPj o9 hxi hr gx gy hjj hA1 hjN
     go_wp2_with fail
     refine ak [0,1,2,3,4,5,6,7,8,9,10,11,12,13,14,15,16] (fun W=>Kept none' wr W) (by kernel_rfl) (by kernel_rfl) rfl (Kept.refl _ _).drew ?_
     simp only[List.map_cons,List.map_nil,List.getElem?_toArray,List.getElem?_cons_zero,List.getElem?_cons_succ,Option.getD_some]
     iterate 14 (apply aj rfl rfl;(intro W hW;have c0:=hW.cell (fun h=>h) x0;have c1:=hW.cell (fun h=>h) x1;have c2:=hW.cell (fun h=>h) x2;have d0:=hW.cell (fun h=>h) y0;have d1:=hW.cell (fun h=>h) y1;have d2:=hW.cell (fun h=>h) y2;go_simp;rfl);go_frame)
     apply aA rfl rfl
     intro K hK
     go_wp2_with fail
     refine(Bq x y _).mono ?_
     rintro e w3 ⟨rfl,k3⟩
     have dQ:Kept none' wr w3:=k3.aQ
     by_cases hxy:x.pos<y.pos
     ·have hc:fJ x.pos y.pos<0:=by rw[pY];exact hxy
      go_wp2_with fail
      refine hK _ _ (fun _=>dQ) ?_
      clear hK
      iterate 2 (apply aj rfl rfl;(intro W hW;go_simp;rfl);go_frame)
      refine aG (fun _=>dQ) ?_
      have hr3:=HR.out.pure dQ
      have hstep:((P++(A1++[y])++x::A2++R++S).set j y).set q x=P++A1++x::(y::A2)++R++S:=by
       rw[show P++(A1++[y])++x::A2++R++S=(P++A1)++y::x::(A2++(R++S)) by simp,Gf HPQ.out.1 HJ.out.2.1]
       simp
      have hsw:=hr3.swap x y (i:=j) (j:=q) (by rw[HPQ.out.2.2];omega) (by rw[HPQ.out.2.2];omega)
      rw[hstep]at hsw
      have F:=Lib.hid (And.intro (hsw.pure (Kept.refl _ _).drew) ((HJ.out.2.2.2.2.trans dQ.pure).trans ((vO w3 b (off+j*3) (off+q*3) x y).drew)))
      have s0:=dQ.cell (fun h=>h) x0
      have s1:=dQ.cell (fun h=>h) x1
      have s2:=dQ.cell (fun h=>h) x2
      have t0:=dQ.cell (fun h=>h) y0
      have t1:=dQ.cell (fun h=>h) y1
      have t2:=dQ.cell (fun h=>h) y2
      obtain⟨gx0,gx1,gx2⟩:=hr3.soft j (by rw[HPQ.out.2.2];omega)
      obtain⟨gy0,gy1,gy2⟩:=hr3.soft q (by rw[HPQ.out.2.2];omega)
      clear x0 x1 x2 y0 y1 y2 Z7 Z5 Z4 ZY ZX ZW hr3 hstep hsw k3
      have hne:j≠q:=by have:=HJ.out.2.1;omega
      go_wp2_with fail
      refine gI [0,1,2,3,4,5,6,7,8,9,10,11,12,13,14,15,16,17] (fun W=>Kept none' w3 W) (by kernel_rfl) (by kernel_rfl) rfl (Kept.refl _ _).drew ?_
      simp only[List.map_cons,List.map_nil,List.getElem?_toArray,List.getElem?_cons_zero,List.getElem?_cons_succ,Option.getD_some]
      iterate 15 (first|(apply fB rfl rfl;(intro W;go_simp;rfl);go_frame)|(apply l7 rfl rfl rfl;(intro W hW;have c0:=hW.cell (fun h=>h) s0;have c1:=hW.cell (fun h=>h) s1;have c2:=hW.cell (fun h=>h) s2;have d0:=hW.cell (fun h=>h) t0;have d1:=hW.cell (fun h=>h) t1;have d2:=hW.cell (fun h=>h) t2;go_simp;rfl);go_frame))
      apply jH rfl rfl rfl
      intro K hK
      go_wp2_with fail
      apply fB rfl rfl
      ·intro W;go_simp;rfl
      go_frame
      apply jH rfl rfl rfl
      intro K2 hK2
      go_wp2_with fail
      apply oC
      go_wp2_with fail
      go_roundg A1.length
      case rel=>
       refine⟨A1,y::A2,by simp,?_,rfl,?_,F.out.1,F.out.2⟩
       ·have:=HJ.out.1;rw[this]
       ·intro z hz
        rcases List.mem_cons.1 hz with rfl|hz
        ·exact hxy
        ·exact HJ.out.2.2.2.1 z hz
      case measure=>have:=HJ.out.2.2.1;rw[List.concat_eq_append,List.length_append]at this;simp at this;omega
     ·have hc: ¬fJ x.pos y.pos<0:=by rw[pY];exact hxy
      go_wp2_with fail
      refine hK _ _ (fun _=>dQ) ?_
      clear hK
      iterate 2 (apply aj rfl rfl;(intro W hW;go_simp;rfl);go_frame)
      refine aG (fun _=>dQ) ?_
      have hi1:IntKind.i64.wrap ((i:Int)+1)=((i+1:Nat):Int):=aT (n:=i+1) (by omega)
      have F: ∃(i':Nat)(A R':List Rec),Value.int .i64 ((i+1:Nat):Int)= .int .i64 (i':Int)/\R'.length<=R.length/\(i'=a+A.length/\A≠[]\/A=[]/\R'=[]/\i'=a+1)/\a+A.length+R'.length=n/\Sorted A/\Same X (A++R')/\RW w3 b off (P++A++R'++S)/\Kept (one b) w w3:=by
       obtain⟨h1,h2,h3,h4⟩:=HH.out
       have h5:=HXI.out
       have h6:=HJ.out
       rw[List.concat_eq_append]at h2 h3 h4 h5
       refine⟨_,A1++[y]++x::A2,R,rfl,Nat.le_refl _, .inl ⟨?_,by simp⟩,?_,?_,?_,?_,h6.2.2.2.2.trans dQ.pure⟩
       ·simp only[List.length_append,List.length_cons,List.length_nil]at h5⊢;omega
       ·simp only[List.length_append,List.length_cons,List.length_nil]at h2⊢;omega
       ·refine Sorted.append h3.left (List.pairwise_cons.2 ⟨fun z hz=>Int.le_of_lt (h6.2.2.2.1 z hz),h3.right⟩) ?_
        intro u hu v hv
        have h7:u.pos<=y.pos:=by
         rcases List.mem_append.1 hu with hu|hu
         ·exact h3.left.le u hu y (by simp)
         ·simp at hu;rw[hu];exact Int.le_refl _
        rcases List.mem_cons.1 hv with rfl|hv
        ·omega
        ·have:=h6.2.2.2.1 v hv;omega
       ·refine h4.trans ?_
        have:=((Same.refl (A1++[y])).append (Same.comm (A:=A2) (B:=[x]) (fun u hu v hv=>by have:=h6.2.2.2.1 u hu;simp at hv;subst hv;omega))).append (Same.refl R)
        simpa using this
       ·simpa using HR.out.pure dQ
      have FF:=Lib.hid F
      clear F
      go_wp2_with fail
      go_roundg R.length
      case rel=>exact FF.out
      case measure=>have:=HH.out.1;simp at this;omega
theorem Lr {L:List Rec}{t:Nat}(h:t<L.length): ∃C1 y C2,L=C1++y::C2/\C1.length=t:=
 ⟨L.take t,L[t],L.drop (t+1),by rw[<-List.drop_eq_getElem_cons h,List.take_append_drop],by rw[List.length_take];omega⟩
theorem aaA {P A2 R:List Rec}{x y:Rec}{i j:Nat}(hi:P.length=i)(hj:i+1=j):(((P++x::y::(A2++R)).set i y).set j x)=P++y::x::(A2++R):=by
 subst hj
 rw[set_mid hi,show P++y::y::(A2++R)=(P++[y])++y::(A2++R) by simp,set_mid (by simpa using hi)]
 simp
theorem aaz (b off cap N a m n:Nat)(P B S:List Rec)(x:Rec)(w:World)(h:RW w b off (P++x::B++S))(hN:(P++x::B++S).length=N)(pW:N<1099511627776)
 (ha:P.length=a) (hm:a+1=m) (hn:m+B.length=n) (hB:Sorted B):
 Calls Tryz.prog 142 #[.slice (some ⟨b,off,none⟩) N cap, .int .i64 a, .int .i64 m, .int .i64 n, .func (.func 91) #[] #[]] w (iQ w b off P (x::B) S):=by
 have H:=Lib.hid h
 have HN:=Lib.hid hN
 have HL:=Lib.hid (And.intro ha (And.intro hm (And.intro hn hB)))
 have LN:(P++x::B++S).length=P.length+1+B.length+S.length:=by simp;omega
 have b1:a<m/\m<=n/\n<=N:=by omega
 have e1:IntKind.i64.wrap ((m:Int)-a)=1:=by rw[show(m:Int)-a=((1:Nat):Int) by omega];exact aT (by omega)
 have gx:(P++x::B++S)[a]?=some x:=by rw[show P++x::B++S=P++x::(B++S) by simp];exact jI ha
 have HG:=Lib.hid gx
 clear h hN ha hm hn hB LN gx
 go_enter Tryz.func142,Tryz.ntmps142
 go_wp2
 go_loopg [10,11] B.length (fun g i j wr=> ∃(B1 B2 B3:List Rec),i= .int .i64 ((m+B1.length:Nat):Int)/\j= .int .i64 ((m+B1.length+B2.length:Nat):Int)/\B2.length<=g/\B=B1++B2++B3/\(∀y∈B1,y.pos<x.pos)/\(∀y∈B3,x.pos<=y.pos)/\Kept none' w wr)
 case atStart=>exact⟨[],B,[],by simp,by rw[<-HL.out.2.2.1];simp,Nat.le_refl _,by simp,by simp,by simp,Kept.refl _ _⟩
 case round=>
  obtain⟨B1,B2,B3,rfl,rfl,hg,hB,h1,h3,hkp⟩:=hrel
  obtain⟨i,hi⟩: ∃i,m+B1.length=i:=⟨_,rfl⟩
  obtain⟨j,hj⟩: ∃j,i+B2.length=j:=⟨_,rfl⟩
  rw[hi,hj]
  have hjn:j<=n:=by have:=HL.out.2.2.1;rw[hB]at this;simp only[List.length_append]at this;omega
  have A:=Lib.hid (And.intro hi (And.intro hj (And.intro hg (And.intro hB (And.intro h1 (And.intro h3 hkp))))))
  clear hg hB h1 h3 hkp
  by_cases hlt:i<j
  ·obtain⟨h,hh⟩: ∃h,(i+j)/2=h:=⟨_,rfl⟩
   have hb:i<=h/\h<j:=by omega
   have e2:((i:Int)+(j:Int))/2=(h:Int):=by omega
   clear hi hj hh
   obtain⟨C1,y,C2,hC,lC⟩: ∃C1 y C2,B2=C1++y::C2/\C1.length=h-i:=Lr (by have:=A.out.2.1;omega)
   have gy:(P++x::B++S)[h]?=some y:=by
    rw[A.out.2.2.2.1,hC,show P++x::(B1++(C1++y::C2)++B3)++S=(P++x::(B1++C1))++y::(C2++B3++S) by simp]
    refine jI ?_
    have h1:=HL.out;have h2:=A.out.1
    simp only[List.length_append,List.length_cons];omega
   have hr:=H.out.pure A.out.2.2.2.2.2.2
   obtain⟨x0,x1,x2⟩:=hr.recs _ _ HG.out
   obtain⟨y0,y1,y2⟩:=hr.recs _ _ gy
   have hC':=Lib.hid (And.intro hC lC)
   have hhN:h<N:=by omega
   have haN:a<N:=by omega
   clear hr gy hC lC
   go_wp2_with fail
   refine ak [0,1,2,3,4,5,6,7,8,9,10] (fun W=>Kept none' wr W) (by kernel_rfl) (by kernel_rfl) rfl (Kept.refl _ _).drew ?_
   simp only[List.map_cons,List.map_nil,List.getElem?_toArray,List.getElem?_cons_zero,List.getElem?_cons_succ,Option.getD_some]
   iterate 9 (apply aj rfl rfl;(intro W hW;have c0:=hW.cell (fun h=>h) x0;have c1:=hW.cell (fun h=>h) x1;have c2:=hW.cell (fun h=>h) x2;have d0:=hW.cell (fun h=>h) y0;have d1:=hW.cell (fun h=>h) y1;have d2:=hW.cell (fun h=>h) y2;go_simp;rfl);go_frame)
   apply aA rfl rfl
   intro K hK
   go_wp2_with fail
   refine(Bq y x _).mono ?_
   rintro e w3 ⟨rfl,k3⟩
   have dQ:Kept none' wr w3:=k3.aQ
   by_cases hxy:y.pos<x.pos
   ·have hc:fJ y.pos x.pos<0:=by rw[pY];exact hxy
    have e3:IntKind.i64.wrap ((h:Int)+1)=((h+1:Nat):Int):=aT (n:=h+1) (by omega)
    go_wp2_with fail
    refine hK _ _ (fun _=>dQ) ?_
    clear hK
    iterate 1 (apply aj rfl rfl;(intro W hW;go_simp;rfl);go_frame)
    refine aG (fun _=>dQ) ?_
    go_wp2_with fail
    go_roundg C2.length
    case rel=>
     obtain⟨q1,q2,q3,q4,q5,q6,q7⟩:=A.out
     obtain⟨u1,u2⟩:=hC'.out
     rw[u1]at q2 q4
     simp only[List.length_append,List.length_cons]at q2
     have hs:=HL.out.2.2.2
     rw[q4]at hs
     refine⟨B1++C1++[y],C2,B3,?_,?_,Nat.le_refl _,?_,?_,q6,q7.trans dQ.pure⟩
     ·congr 1;simp only[List.length_append,List.length_cons,List.length_nil];omega
     ·congr 1;simp only[List.length_append,List.length_cons,List.length_nil];omega
     ·rw[q4];simp
     ·intro z hz
      rcases List.mem_append.1 hz with hz|hz
      ·rcases List.mem_append.1 hz with hz|hz
       ·exact q5 z hz
       ·have:=hs.left.right.le z hz y (by simp);omega
      ·simp at hz;rw[hz];exact hxy
    case measure=>
     have u1:=hC'.out.1
     have q3:=A.out.2.2.1
     rw[u1]at q3
     simp only[List.length_append,List.length_cons]at q3;omega
   ·have hc: ¬fJ y.pos x.pos<0:=by rw[pY];exact hxy
    go_wp2_with fail
    refine hK _ _ (fun _=>dQ) ?_
    clear hK
    iterate 1 (apply aj rfl rfl;(intro W hW;go_simp;rfl);go_frame)
    refine aG (fun _=>dQ) ?_
    go_wp2_with fail
    go_roundg C1.length
    case rel=>
     obtain⟨q1,q2,q3,q4,q5,q6,q7⟩:=A.out
     obtain⟨u1,u2⟩:=hC'.out
     rw[u1]at q2 q4
     have hs:=HL.out.2.2.2
     rw[q4]at hs
     refine⟨B1,C1,y::C2++B3,?_,?_,Nat.le_refl _,?_,q5,?_,q7.trans dQ.pure⟩
     ·rw[q1]
     ·congr 1;omega
     ·rw[q4];simp
     ·intro z hz
      rcases List.mem_append.1 hz with hz|hz
      ·rcases List.mem_cons.1 hz with rfl|hz
       ·omega
       ·have:=(List.pairwise_cons.1 hs.left.right.right).1 z hz;omega
      ·exact q6 z hz
    case measure=>
     have u1:=hC'.out.1
     have q3:=A.out.2.2.1
     rw[u1]at q3
     simp only[List.length_append,List.length_cons]at q3;omega
  ·have hB2:B2=[]:=by
    have:=A.out.2.1
    exact List.eq_nil_of_length_eq_zero (by omega)
   subst hB2
   have hiN:i<=N:=by simp only[List.length_nil]at hj;omega
   have e3:IntKind.i64.wrap ((i:Int)-1)=((i-1:Nat):Int):=by rw[show(i:Int)-1=((i-1:Nat):Int) by omega];exact aT (by omega)
   clear hi hj
   go_wp2_with fail
   go_loopg [13] B1.length (fun g k wr2=> ∃(D1 D2:List Rec),k= .int .i64 ((a+D1.length:Nat):Int)/\B1=D1++D2/\D2.length<=g/\RW wr2 b off (P++D1++x::D2++B3++S)/\Kept (one b) w wr2)
   case atStart=>
    have q:=A.out
    refine⟨[],B1,by simp,rfl,Nat.le_refl _,?_,q.2.2.2.2.2.2.pure⟩
    have:=H.out.pure q.2.2.2.2.2.2
    rw[q.2.2.2.1]at this
    simpa using this
   case round=>
    obtain⟨D1,D2,rfl,hD,hg2,hr,hkp⟩:=hrel
    obtain⟨k,hk⟩: ∃k,a+D1.length=k:=⟨_,rfl⟩
    rw[hk]
    cases D2 with
    |nil=>
     have hn0: ¬(k:Int)<((i-1:Nat):Int):=by
      have h1:=A.out.1;have h2:=HL.out
      rw[hD]at h1;simp only[List.length_append,List.length_nil]at h1;omega
     have F:iQ w b off P (x::B) S (.returned (.tuple #[])) wr:=by
      obtain⟨q1,q2,q3,q4,q5,q6,q7⟩:=A.out
      have hs:=HL.out.2.2.2
      rw[List.append_nil]at hD
      subst hD
      rw[q4]at hs
      refine⟨B1++x::B3,?_,?_,rfl,by simpa using hr,hkp⟩
      ·rw[q4]
       have:=(Same.comm (A:=[x]) (B:=B1) (fun u hu v hv=>by simp at hu;subst hu;have:=q5 v hv;omega)).append (Same.refl B3)
       simpa using this
      ·refine Sorted.append hs.left.left (List.pairwise_cons.2 ⟨fun z hz=>q6 z hz,hs.right⟩) ?_
       intro u hu v hv
       have:=q5 u hu
       rcases List.mem_cons.1 hv with rfl|hv
       ·omega
       ·have:=q6 v hv;omega
     have FF:=Lib.hid F
     clear F hr hkp hD hk
     go_wp2_with fail
     go_end0
     exact FF.out
    |cons y D2=>
     have hB1:m+D1.length+1+D2.length=i:=by
      have h1:=A.out.1
      rw[hD]at h1;simp only[List.length_append,List.length_cons]at h1;omega
     have hm2:=HL.out.2.1
     obtain⟨k1,hk1⟩: ∃k1,k+1=k1:=⟨_,rfl⟩
     have hn0:(k:Int)<((i-1:Nat):Int):=by omega
     have e4:IntKind.i64.wrap ((k:Int)+1)=(k1:Int):=by rw[show(k:Int)+1=((k1:Nat):Int) by omega];exact aT (by omega)
     have ZP:(P++D1).length=k:=by rw[List.length_append,HL.out.1];exact hk
     have gx:(P++D1++x::(y::D2)++B3++S)[k]?=some x:=by
      rw[show P++D1++x::(y::D2)++B3++S=(P++D1)++x::(y::D2++B3++S) by simp];exact jI ZP
     have gy:(P++D1++x::(y::D2)++B3++S)[k1]?=some y:=by
      rw[show P++D1++x::(y::D2)++B3++S=(P++D1++[x])++y::(D2++B3++S) by simp]
      exact jI (by rw[List.length_append,ZP];exact hk1)
     have o9:(P++D1++x::(y::D2)++B3++S).length=N:=by
      have h1:=HN.out
      rw[A.out.2.2.2.1,hD]at h1
      simp only[List.length_append,List.length_cons,List.length_nil]at h1⊢;omega
     have hk1N:k1<N:=by rw[<-o9];exact(List.getElem?_eq_some_iff.1 gy).1
     have hkN:k<N:=by omega
     obtain⟨x0,x1,x2⟩:=hr.recs _ _ gx
     obtain⟨y0,y1,y2⟩:=hr.recs _ _ gy
     obtain⟨Z7,Z5,Z4⟩:=hr.soft k (by omega)
     obtain⟨ZY,ZX,ZW⟩:=hr.soft k1 (by omega)
     have hstep:((P++D1++x::(y::D2)++B3++S).set k y).set k1 x=P++(D1++[y])++x::D2++B3++S:=by
      rw[show P++D1++x::(y::D2)++B3++S=(P++D1)++x::y::(D2++(B3++S)) by simp,aaA ZP hk1]
      simp
     have hsw:=hr.swap x y (i:=k) (j:=k1) (by omega) (by omega)
     rw[hstep]at hsw
     have F:=Lib.hid (And.intro (hsw.pure (Kept.refl _ _).drew) (hkp.trans ((vO wr b (off+k*3) (off+k1*3) x y).drew)))
     have HD:=Lib.hid hD
     have HK:=Lib.hid (And.intro hk (And.intro hg2 hk1))
     have hne:k≠k1:=by omega
     clear hr hkp hD ZP gx gy o9 hstep hsw hk hB1 hm2 hk1 hg2
     go_wp2_with fail
     refine gI [0,1,2,3,4,5,6,7,8,9,10,11,12,13,14,15,16,17] (fun W=>Kept none' wr W) (by kernel_rfl) (by kernel_rfl) rfl (Kept.refl _ _).drew ?_
     simp only[List.map_cons,List.map_nil,List.getElem?_toArray,List.getElem?_cons_zero,List.getElem?_cons_succ,Option.getD_some]
     iterate 15 (first|(apply fB rfl rfl;(intro W;go_simp;rfl);go_frame)|(apply l7 rfl rfl rfl;(intro W hW;have c0:=hW.cell (fun h=>h) x0;have c1:=hW.cell (fun h=>h) x1;have c2:=hW.cell (fun h=>h) x2;have d0:=hW.cell (fun h=>h) y0;have d1:=hW.cell (fun h=>h) y1;have d2:=hW.cell (fun h=>h) y2;go_simp;rfl);go_frame))
     apply jH rfl rfl rfl
     intro K hK
     go_wp2_with fail
     apply fB rfl rfl
     ·intro W;go_simp;rfl
     go_frame
     apply jH rfl rfl rfl
     intro K2 hK2
     go_wp2_with fail
     apply oC
     go_wp2_with fail
     go_roundg D2.length
     case rel=>
      refine⟨D1++[y],D2,?_,by rw[HD.out];simp,Nat.le_refl _,F.out.1,F.out.2⟩
      have h5:=HK.out.1
      have h6:=HK.out.2.2
      rw[List.length_append]
      first|(congr 1;simp only[List.length_cons,List.length_nil];omega)|(simp only[List.length_cons,List.length_nil];go_num)
     case measure=>have:=HK.out.2.1;simp only[List.length_cons]at this;omega
theorem XB (b off cap N a m n:Nat)(P B S:List Rec)(x:Rec)(w:World)(h:RW w b off (P++B++x::S))(hN:(P++B++x::S).length=N)(pW:N<1099511627776)
 (ha:P.length=a) (hm:a+B.length=m) (hn:m+1=n) (hB:Sorted B) (h2:2<=B.length):
 Calls Tryz.prog 142 #[.slice (some ⟨b,off,none⟩) N cap, .int .i64 a, .int .i64 m, .int .i64 n, .func (.func 91) #[] #[]] w (iQ w b off P (B++[x]) S):=by
 have H:=Lib.hid h
 have HN:=Lib.hid hN
 have HL:=Lib.hid (And.intro ha (And.intro hm (And.intro hn hB)))
 have LN:(P++B++x::S).length=P.length+B.length+1+S.length:=by simp;omega
 have b1:a+2<=m/\m<n/\n<=N:=by omega
 obtain⟨u,hu⟩: ∃u,m-a=u:=⟨_,rfl⟩
 have e1:IntKind.i64.wrap ((m:Int)-a)=(u:Int):=by rw[show(m:Int)-a=((u:Nat):Int) by omega];exact aT (by omega)
 have hu1:((u:Int)==1)=false:=by simp;omega
 have e0:IntKind.i64.wrap ((n:Int)-m)=1:=by rw[show(n:Int)-m=((1:Nat):Int) by omega];exact aT (by omega)
 have gx:(P++B++x::S)[m]?=some x:=jI (by rw[List.length_append];omega)
 have HG:=Lib.hid gx
 clear h hN ha hm hn hB LN gx hu h2
 go_enter Tryz.func142,Tryz.ntmps142
 go_wp2
 go_loopg [14,15] B.length (fun g i j wr=> ∃(B1 B2 B3:List Rec),i= .int .i64 ((a+B1.length:Nat):Int)/\j= .int .i64 ((a+B1.length+B2.length:Nat):Int)/\B2.length<=g/\B=B1++B2++B3/\(∀y∈B1,y.pos<=x.pos)/\(∀y∈B3,x.pos<y.pos)/\Kept none' w wr)
 case atStart=>exact⟨[],B,[],by simp,by rw[<-HL.out.2.1];simp,Nat.le_refl _,by simp,by simp,by simp,Kept.refl _ _⟩
 case round=>
  obtain⟨B1,B2,B3,rfl,rfl,hg,hB,h1,h3,hkp⟩:=hrel
  obtain⟨i,hi⟩: ∃i,a+B1.length=i:=⟨_,rfl⟩
  obtain⟨j,hj⟩: ∃j,i+B2.length=j:=⟨_,rfl⟩
  rw[hi,hj]
  have hjn:j<=m:=by have:=HL.out.2.1;rw[hB]at this;simp only[List.length_append]at this;omega
  have A:=Lib.hid (And.intro hi (And.intro hj (And.intro hg (And.intro hB (And.intro h1 (And.intro h3 hkp))))))
  clear hg hB h1 h3 hkp
  by_cases hlt:i<j
  ·obtain⟨h,hh⟩: ∃h,(i+j)/2=h:=⟨_,rfl⟩
   have hb:i<=h/\h<j:=by omega
   have e2:((i:Int)+(j:Int))/2=(h:Int):=by omega
   clear hi hj hh
   obtain⟨C1,y,C2,hC,lC⟩: ∃C1 y C2,B2=C1++y::C2/\C1.length=h-i:=Lr (by have:=A.out.2.1;omega)
   have gy:(P++B++x::S)[h]?=some y:=by
    rw[A.out.2.2.2.1,hC,show P++(B1++(C1++y::C2)++B3)++x::S=(P++B1++C1)++y::(C2++B3++x::S) by simp]
    refine jI ?_
    have h1:=HL.out;have h2:=A.out.1
    simp only[List.length_append];omega
   have hr:=H.out.pure A.out.2.2.2.2.2.2
   obtain⟨x0,x1,x2⟩:=hr.recs _ _ HG.out
   obtain⟨y0,y1,y2⟩:=hr.recs _ _ gy
   have hC':=Lib.hid (And.intro hC lC)
   have hhN:h<N:=by omega
   have hmN:m<N:=by omega
   clear hr gy hC lC
   go_wp2_with fail
   refine ak [0,1,2,3,4,5,6,7,8,9,10,11] (fun W=>Kept none' wr W) (by kernel_rfl) (by kernel_rfl) rfl (Kept.refl _ _).drew ?_
   simp only[List.map_cons,List.map_nil,List.getElem?_toArray,List.getElem?_cons_zero,List.getElem?_cons_succ,Option.getD_some]
   iterate 9 (apply aj rfl rfl;(intro W hW;have c0:=hW.cell (fun h=>h) x0;have c1:=hW.cell (fun h=>h) x1;have c2:=hW.cell (fun h=>h) x2;have d0:=hW.cell (fun h=>h) y0;have d1:=hW.cell (fun h=>h) y1;have d2:=hW.cell (fun h=>h) y2;go_simp;rfl);go_frame)
   apply aA rfl rfl
   intro K hK
   go_wp2_with fail
   refine(Bq x y _).mono ?_
   rintro e w3 ⟨rfl,k3⟩
   have dQ:Kept none' wr w3:=k3.aQ
   by_cases hxy:x.pos<y.pos
   ·have hc:fJ x.pos y.pos<0:=by rw[pY];exact hxy
    have hcn:(!decide (fJ x.pos y.pos<0))=false:=by rw[decide_eq_true hc];rfl
    go_wp2_with fail
    refine hK _ _ (fun _=>dQ) ?_
    clear hK
    iterate 2 (apply aj rfl rfl;(intro W hW;go_simp;rfl);go_frame)
    refine aG (fun _=>dQ) ?_
    go_wp2_with fail
    go_roundg C1.length
    case rel=>
     obtain⟨q1,q2,q3,q4,q5,q6,q7⟩:=A.out
     obtain⟨u1,u2⟩:=hC'.out
     rw[u1]at q2 q4
     have hs:=HL.out.2.2.2
     rw[q4]at hs
     refine⟨B1,C1,y::C2++B3,?_,?_,Nat.le_refl _,?_,q5,?_,q7.trans dQ.pure⟩
     ·rw[q1]
     ·congr 1;omega
     ·rw[q4];simp
     ·intro z hz
      rcases List.mem_append.1 hz with hz|hz
      ·rcases List.mem_cons.1 hz with rfl|hz
       ·omega
       ·have:=(List.pairwise_cons.1 hs.left.right.right).1 z hz;omega
      ·exact q6 z hz
    case measure=>
     have u1:=hC'.out.1
     have q3:=A.out.2.2.1
     rw[u1]at q3
     simp only[List.length_append,List.length_cons]at q3;omega
   ·have hc: ¬fJ x.pos y.pos<0:=by rw[pY];exact hxy
    have hcn:(!decide (fJ x.pos y.pos<0))=true:=by rw[decide_eq_false hc];rfl
    have e3:IntKind.i64.wrap ((h:Int)+1)=((h+1:Nat):Int):=aT (n:=h+1) (by omega)
    go_wp2_with fail
    refine hK _ _ (fun _=>dQ) ?_
    clear hK
    iterate 2 (apply aj rfl rfl;(intro W hW;go_simp;rfl);go_frame)
    refine aG (fun _=>dQ) ?_
    go_wp2_with fail
    go_roundg C2.length
    case rel=>
     obtain⟨q1,q2,q3,q4,q5,q6,q7⟩:=A.out
     obtain⟨u1,u2⟩:=hC'.out
     rw[u1]at q2 q4
     simp only[List.length_append,List.length_cons]at q2
     have hs:=HL.out.2.2.2
     rw[q4]at hs
     refine⟨B1++C1++[y],C2,B3,?_,?_,Nat.le_refl _,?_,?_,q6,q7.trans dQ.pure⟩
     ·congr 1;simp only[List.length_append,List.length_cons,List.length_nil];omega
     ·congr 1;simp only[List.length_append,List.length_cons,List.length_nil];omega
     ·rw[q4];simp
     ·intro z hz
      rcases List.mem_append.1 hz with hz|hz
      ·rcases List.mem_append.1 hz with hz|hz
       ·exact q5 z hz
       ·have:=hs.left.right.le z hz y (by simp);omega
      ·simp at hz;rw[hz];omega
    case measure=>
     have u1:=hC'.out.1
     have q3:=A.out.2.2.1
     rw[u1]at q3
     simp only[List.length_append,List.length_cons]at q3;omega
  ·have hB2:B2=[]:=by
    have:=A.out.2.1
    exact List.eq_nil_of_length_eq_zero (by omega)
   subst hB2
   have hiN:i<=m:=by simp only[List.length_nil]at hj;omega
   clear hi hj
   go_wp2_with fail
   go_loopg [17] B3.length (fun g k wr2=> ∃(D1 D2:List Rec),k= .int .i64 ((i+D1.length:Nat):Int)/\B3=D1++D2/\D1.length<=g/\RW wr2 b off (P++B1++D1++x::D2++S)/\Kept (one b) w wr2)
   case atStart=>
    have q:=A.out
    refine⟨B3,[],?_,by simp,Nat.le_refl _,?_,q.2.2.2.2.2.2.pure⟩
    ·have h1:=q.2.2.2.1;have h2:=HL.out.2.1;rw[h1]at h2;simp only[List.length_append,List.length_nil]at h2
     have:=q.1
     congr 1;omega
    ·have:=H.out.pure q.2.2.2.2.2.2
     rw[q.2.2.2.1]at this
     simpa using this
   case round=>
    obtain⟨D1,D2,rfl,hD,hg2,hr,hkp⟩:=hrel
    rcases List.eq_nil_or_concat D1 with rfl|⟨D1,y,rfl⟩
    ·obtain⟨k,hk⟩: ∃k,i+([]:List Rec).length=k:=⟨_,rfl⟩
     rw[hk]
     have hn0: ¬(i:Int)<(k:Int):=by simp only[List.length_nil]at hk;omega
     have F:iQ w b off P (B++[x]) S (.returned (.tuple #[])) wr:=by
      obtain⟨q1,q2,q3,q4,q5,q6,q7⟩:=A.out
      have hs:=HL.out.2.2.2
      rw[List.nil_append]at hD
      subst hD
      rw[q4]at hs
      refine⟨B1++x::B3,?_,?_,rfl,by simpa using hr,hkp⟩
      ·rw[q4]
       have:=(Same.refl B1).append (Same.comm (A:=B3) (B:=[x]) (fun u hu v hv=>by simp at hv;subst hv;have:=q6 u hu;omega))
       simpa using this
      ·refine Sorted.append hs.left.left (List.pairwise_cons.2 ⟨fun z hz=>Int.le_of_lt (q6 z hz),hs.right⟩) ?_
       intro u hu v hv
       have:=q5 u hu
       rcases List.mem_cons.1 hv with rfl|hv
       ·omega
       ·have:=q6 v hv;omega
     have FF:=Lib.hid F
     clear F hr hkp hD hk
     go_wp2_with fail
     go_end0
     exact FF.out
    ·rw[List.concat_eq_append]at hr hD hg2
     have hB1:i+D1.length+1<=m:=by
      have h1:=A.out.2.2.2.1;have h2:=HL.out.2.1;have h3:=A.out.1
      rw[h1,hD]at h2;simp only[List.length_append,List.length_cons,List.length_nil]at h2;omega
     obtain⟨q,hq⟩: ∃q,i+D1.length=q:=⟨_,rfl⟩
     obtain⟨k,hk⟩: ∃k,q+1=k:=⟨_,rfl⟩
     have hkk:i+(D1.concat y).length=k:=by rw[List.concat_eq_append,List.length_append];simp only[List.length_cons,List.length_nil];omega
     rw[hkk]
     have hn0:(i:Int)<(k:Int):=by omega
     have e4:IntKind.i64.wrap ((k:Int)-1)=(q:Int):=by rw[show(k:Int)-1=((q:Nat):Int) by omega];exact aT (by omega)
     have Es:(P++B1++D1).length=q:=by rw[List.length_append,List.length_append,HL.out.1,A.out.1];exact hq
     have gy:(P++B1++(D1++[y])++x::D2++S)[q]?=some y:=by
      rw[show P++B1++(D1++[y])++x::D2++S=(P++B1++D1)++y::(x::D2++S) by simp];exact jI Es
     have gx:(P++B1++(D1++[y])++x::D2++S)[k]?=some x:=by
      rw[show P++B1++(D1++[y])++x::D2++S=(P++B1++D1++[y])++x::(D2++S) by simp]
      exact jI (by rw[List.length_append,Es];exact hk)
     have o9:(P++B1++(D1++[y])++x::D2++S).length=N:=by
      have h1:=HN.out
      rw[A.out.2.2.2.1,hD]at h1
      simp only[List.length_append,List.length_cons,List.length_nil]at h1⊢;omega
     have hkN:k<N:=by omega
     have hqN:q<N:=by omega
     obtain⟨x0,x1,x2⟩:=hr.recs _ _ gx
     obtain⟨y0,y1,y2⟩:=hr.recs _ _ gy
     obtain⟨Z7,Z5,Z4⟩:=hr.soft k (by omega)
     obtain⟨ZY,ZX,ZW⟩:=hr.soft q (by omega)
     have hstep:((P++B1++(D1++[y])++x::D2++S).set k y).set q x=P++B1++D1++x::(y::D2)++S:=by
      rw[show P++B1++(D1++[y])++x::D2++S=(P++B1++D1)++y::x::(D2++S) by simp,Gf Es hk]
      simp
     have hsw:=hr.swap x y (i:=k) (j:=q) (by omega) (by omega)
     rw[hstep]at hsw
     have F:=Lib.hid (And.intro (hsw.pure (Kept.refl _ _).drew) (hkp.trans ((vO wr b (off+k*3) (off+q*3) x y).drew)))
     have HD:=Lib.hid hD
     have HK:=Lib.hid (And.intro hq hg2)
     have hne:k≠q:=by omega
     clear hr hkp hD Es gx gy o9 hstep hsw hk hB1 hq hg2 hkk
     go_wp2_with fail
     refine gI [0,1,2,3,4,5,6,7,8,9,10,11,12,13,14,15,16,17] (fun W=>Kept none' wr W) (by kernel_rfl) (by kernel_rfl) rfl (Kept.refl _ _).drew ?_
     simp only[List.map_cons,List.map_nil,List.getElem?_toArray,List.getElem?_cons_zero,List.getElem?_cons_succ,Option.getD_some]
     iterate 15 (first|(apply fB rfl rfl;(intro W;go_simp;rfl);go_frame)|(apply l7 rfl rfl rfl;(intro W hW;have c0:=hW.cell (fun h=>h) x0;have c1:=hW.cell (fun h=>h) x1;have c2:=hW.cell (fun h=>h) x2;have d0:=hW.cell (fun h=>h) y0;have d1:=hW.cell (fun h=>h) y1;have d2:=hW.cell (fun h=>h) y2;go_simp;rfl);go_frame))
     apply jH rfl rfl rfl
     intro K hK
     go_wp2_with fail
     apply fB rfl rfl
     ·intro W;go_simp;rfl
     go_frame
     apply jH rfl rfl rfl
     intro K2 hK2
     go_wp2_with fail
     apply oC
     go_wp2_with fail
     go_roundg D1.length
     case rel=>
      refine⟨D1,y::D2,?_,by rw[HD.out];simp,Nat.le_refl _,F.out.1,F.out.2⟩
      rw[HK.out.1]
     case measure=>have:=HK.out.2;simp only[List.length_append,List.length_cons,List.length_nil]at this;omega
end Go.Proofs.YtopeleenlcnkkaaGreatDoor
