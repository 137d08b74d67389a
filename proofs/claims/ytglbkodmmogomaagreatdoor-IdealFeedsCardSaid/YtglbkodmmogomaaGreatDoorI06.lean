/- slices.symMerge over records: what follows its search: the rotation, and the two halves merged. -/
import Derived.Test.YtglbkodmmogomaaGreatDoorI05
import Derived.Deep.DeepCutAuto
set_option linter.unusedVariables false
set_option linter.unusedSimpArgs false
set_option maxHeartbeats 1000000
set_option maxRecDepth 1000000
namespace Go.Proofs.YtglbkodmmogomaaGreatDoor
open Go Go.RowKit
attribute [local irreducible] cZ dX
theorem Sorted.get {L:List Rec}(h:Sorted L){i j:Nat}{u v:Rec}(hu:L[i]?=some u)(hv:L[j]?=some v)(hij:i<=j):u.pos<=v.pos:=by
 obtain⟨h1,rfl⟩:=μ.1 hu;obtain⟨h2,rfl⟩:=μ.1 hv
 rcases Nat.lt_or_eq_of_le hij with hlt|rfl
 ·exact List.pairwise_iff_getElem.1 h i j h1 h2 hlt
 ·exact Int.le_refl _
def Found (A B:List Rec)(a m p lo hi:Nat)(gt:Bool):Prop:= ∀c,lo<=c->c<hi-> ∀u v,A[c-a]?=some u->B[p-c-m]?=some v->decide (v.pos<u.pos)=gt
def Bnd (a m n mid s0 r0:Nat):Prop:=mid=(a+n)/2/\a<m/\m<n/\(mid<m/\s0+n=mid+m/\r0=mid\/m<=mid/\s0=a/\r0=m)
theorem XE {A B:List Rec}{a m n mid s0 r0 s:Nat}(hA:Sorted A)(hB:Sorted B)(hm:a+A.length=m)(hn:m+B.length=n)(hb:Bnd a m n mid s0 r0)(h0:s0<=s)(h1:s<=r0)
 (f1:Found A B a m (mid+m-1) s0 s false) (f2:Found A B a m (mid+m-1) s r0 true):
 ∃A1 A2 B1 B2,A=A1++A2/\B=B1++B2/\a+A1.length=s/\m+B1.length+s=mid+m/\(∀u∈A1,∀v∈B2,u.pos<=v.pos)/\(∀u∈A2,∀v∈B1,v.pos<u.pos):=by
 obtain⟨b1,b2,b3,b4⟩:=hb;refine⟨A.take (s-a),A.drop (s-a),B.take (mid-s),B.drop (mid-s),(List.take_append_drop _ _).symm,(List.take_append_drop _ _).symm,?_,?_,?_,?_⟩
 ·rw[υ];omega
 ·rw[υ];omega
 ·intro u hu v hv
  obtain⟨i,hi⟩:=List.getElem?_of_mem hu;obtain⟨j,hj⟩:=List.getElem?_of_mem hv;rw[abO]at hi;rw[List.getElem?_drop]at hj;split at hi
  ·rename_i hlt
   have h2:=(μ.1 hj).1;have h3:=(μ.1 hi).1;obtain⟨x,hx⟩: ∃x,A[s-1-a]?=some x:=⟨_,ι (by omega)⟩;obtain⟨y,hy⟩: ∃y,B[mid-s]?=some y:=⟨_,ι (by omega)⟩;have h4:=hA.get hi hx (by omega);have h5:=hB.get hy hj (by omega);have h6:=f1 (s-1) (by omega) (by omega) x y hx (by rw[show mid+m-1-(s-1)-m=mid-s by omega];exact hy);have h7:=of_decide_eq_false h6;omega
  ·cases hi
 ·intro u hu v hv
  obtain⟨i,hi⟩:=List.getElem?_of_mem hu;obtain⟨j,hj⟩:=List.getElem?_of_mem hv;rw[List.getElem?_drop]at hi;rw[abO]at hj;split at hj
  ·rename_i hlt
   have h2:=(μ.1 hj).1;have h3:=(μ.1 hi).1;obtain⟨x,hx⟩: ∃x,A[s-a]?=some x:=⟨_,ι (by omega)⟩;obtain⟨y,hy⟩: ∃y,B[mid-s-1]?=some y:=⟨_,ι (by omega)⟩;have h4:=hA.get hx hi (by omega);have h5:=hB.get hj hy (by omega);have h6:=f2 s (ξ _) (by omega) x y hx (by rw[show mid+m-1-s-m=mid-s-1 by omega];exact hy);have h7:=of_decide_eq_true h6;omega
  ·cases hj
theorem Found.left {A B:List Rec}{a m p lo c:Nat}(hA:Sorted A)(hB:Sorted B)(h1:a<=lo){u v:Rec}(hu:A[c-a]?=some u)(hv:B[p-c-m]?=some v)(hle:u.pos<=v.pos):Found A B a m p lo (c+1) false:=by intro d h2 h3 x y hx hy;have h4:=hA.get hx hu (by omega);have h5:=hB.get hv hy (by omega);exact decide_eq_false (by omega)
theorem Found.right {A B:List Rec}{a m p hi c:Nat}(hA:Sorted A)(hB:Sorted B)(h1:a<=c){u v:Rec}(hu:A[c-a]?=some u)(hv:B[p-c-m]?=some v)(hlt:v.pos<u.pos):Found A B a m p c hi true:=by intro d h2 h3 x y hx hy;have h4:=hA.get hu hx (by omega);have h5:=hB.get hy hv (by omega);exact decide_eq_true (by omega)
noncomputable def Ua:Code->Option Nat
 | .region k _ _=>some k
 | .seq a _=>Ua a
 |_=>none
noncomputable def oM (k:Nat):Code->Option Code
 | .seq a b=>if Ua a=some k then some (.seq a b)else match oM k a with
   |some c=>some c
   |none=>oM k b
 | .loop c=>oM k c
 | .block _ c=>oM k c
 | .scope c=>oM k c
 | .cond _ a b=>match oM k a with
   |some c=>some c
   |none=>oM k b
 |_=>none
noncomputable def IK:Code:=(Tryz.f177.body.bind (oM 38)).getD .skip
noncomputable def IJ:Code:=(Tryz.f177.body.bind (oM 41)).getD .skip
noncomputable def II:Code:=(Tryz.f177.body.bind (oM 43)).getD .skip
theorem zJ (b off cap N fuel:Nat)
 (IH:ace (∀(a m n:Nat)(P A B S:List Rec)(w:World),A.length+B.length<=fuel->RW w b off (P++A++B++S)->(P++A++B++S).length=N->
 P.length=a->a+A.length=m->m+B.length=n->Sorted A->Sorted B->A≠[]->B≠[]->
 Calls Tryz.prog 177 #[.slice (some ⟨b,off,none⟩) N cap,.int .i64 a,.int .i64 m,.int .i64 n,.func (.func 117) #[] #[]] w (jq w b off P (A++B) S)))
 (a m n mid nn i e:Nat) (P A1 A2 B1 B2 S:List Rec) (w wr:World) (u5 u6 u7 u8 u9 u10 u11 u12 u13 u14 u15 u16 Xw u21 u22 u23 u25 u26 u27 u28 u29 u30 u31 u32 u33 u34 u35 u36 u37 u38 Xv u40 Xu u42 Xt u44 u45 u46 Xr u48 u49 Xq u51 Xp u53 Xo u55 Xn Xm u58 u59 u60 u61 Xl u63 u64 Xk u66 Xj u68 u69 u70 Xi u72 u73 Xh u75 Xg Xf Xe Xd Xc Xb Xa WZ WY WX WU WT WS WR WQ WO WL u93 WJ WI WH WG Wy Wx Ot Oq Oo Om Ol u105 Oj Oi Oh Og Oe Oc Ob Oa N9 N8 N7 NZ NY u119 NW NV NU NS u124 NR NQ u127 NP NM NK u131 NJ NI NH NG NC Nz u138 u139 Ny Nw Nv Nu Ns Nr Nq Np Nl Nk Nj Nh u152 Nc u154 Nb Na MZ MX MW MV MS u162 MR u164 MQ MO MN ML MK MJ MI MH MG MF MB Me Md Mc L9 L8 L6 LZ LY LX LW LU LQ LP LK LJ LH LG u193 u194 LD u196 LC u198 Lu Ls u201 Lr Lp Lm Ll u206 Lj u208 Lh u210 Le Ld Lc La KZ KY KX KU KO:Value)
 (HN:ace ((P++(A1++A2)++(B1++B2)++S).length=N))
 (HL:ace (Sorted (A1++A2)/\Sorted (B1++B2)/\(A1++A2).length+(B1++B2).length<=fuel+1))
 (L:ace ((P.length=a/\a+A1.length=i/\i+A2.length=m/\m+B1.length=e/\e+B2.length=n/\mid+A2.length=e/\i+B1.length=mid/\a<mid/\mid<n)/\
   (∀u∈A1,∀v∈B2,u.pos<=v.pos)/\(∀u∈A2,∀v∈B1,v.pos<u.pos)))
 (X1:List Rec) (R2:ace (Same (A1++B1) X1/\Sorted X1/\RW wr b off (P++X1++A2++B2++S)/\ε (one b) w wr)):
 Code.wp Tryz.prog II (bodyPost Tryz.prog Tryz.f177 (jq w b off P (A1++A2++(B1++B2)) S)) ⟨List.toArray (.slice (some ⟨b,off,none⟩) N cap:: .int .i64 a:: .int .i64 m:: .int .i64 n:: .func (.func 117) #[] #[]::u5::u6::u7::u8::u9::u10::u11::u12::u13::u14::u15::u16::Xw:: .int .i64 mid:: .int .i64 nn:: .int .i64 i::u21::u22::u23:: .int .i64 e::u25::u26::u27::u28::u29::u30::u31::u32::u33::u34::u35::u36::u37::u38::Xv::u40::Xu::u42::Xt::u44::u45::u46::Xr::u48::u49::Xq::u51::Xp::u53::Xo::u55::Xn::Xm::u58::u59::u60::u61::Xl::u63::u64::Xk::u66::Xj::u68::u69::u70::Xi::u72::u73::Xh::u75::Xg::Xf::Xe::Xd::Xc::Xb::Xa::WZ::WY::WX::WU::WT::WS::WR::WQ::WO::WL::u93::WJ::WI::WH::WG::Wy::Wx::Ot::Oq::Oo::Om::Ol::u105::Oj::Oi::Oh::Og::Oe::Oc::Ob::Oa::N9::N8::N7::NZ::NY::u119::NW::NV::NU::NS::u124::NR::NQ::u127::NP::NM::NK::u131::NJ::NI::NH::NG::NC::Nz::u138::u139::Ny::Nw::Nv::Nu::Ns::Nr::Nq::Np::Nl::Nk::Nj::Nh::u152::Nc::u154::Nb::Na::MZ::MX::MW::MV::MS::u162::MR::u164::MQ::MO::MN::ML::MK::MJ::MI::MH::MG::MF::MB::Me::Md::Mc::L9::L8::L6::LZ::LY::LX::LW::LU::LQ::LP::LK::LJ::LH::LG::u193::u194::LD::u196::LC::u198::Lu::Ls::u201::Lr::Lp::Lm::Ll::u206::Lj::u208::Lh::u210::Le::Ld::Lc::La::KZ::KY::KX::KU::KO::[]),[]⟩ wr:=by
 conv=>arg 2;whnf
 have fin: ∀X2,Same (A2++B2) X2->Sorted X2-> ∀w2,RW w2 b off (P++X1++X2++S)->ε (one b) w w2->jq w b off P (A1++A2++(B1++B2)) S (.returned (.tuple #[])) w2:=by
  intro X2 h1 h2 w2 h3 h4;obtain⟨q1,q2,_,_⟩:=R2.o;obtain⟨_,p3,p4⟩:=L.o;have sA:=HL.o.1;have sB:=HL.o.2.1;refine⟨X1++X2,?_,Sorted.append q2 h2 ?_,rfl,by simpa using h3,h4⟩
  ·have e1:Same (A1++A2++(B1++B2)) ((A1++B1)++(A2++B2)):=by
    have:=((Same.refl A1).append (Same.comm (A:=A2) (B:=B1) (fun u hu v hv=>by have:=p4 u hu v hv;omega))).append (Same.refl B2);simpa using this
   exact e1.trans (q1.append h1)
  ·intro u hu v hv
   have hu':=q1.mem.2 hu;have hv':=h1.mem.2 hv
   rcases abL.1 hu' with hu'|hu'<;>rcases abL.1 hv' with hv'|hv'
   ·exact sA.le u hu' v hv'
   ·exact p3 u hu' v hv'
   ·have:=p4 v hv' u hu';omega
   ·exact sB.le u hu' v hv'
 have no: ¬(mid<e/\e<n)->jq w b off P (A1++A2++(B1++B2)) S (.returned (.tuple #[])) wr:=by
  intro h2;have h1:=L.o.1;have h6:Sorted (A2++B2):=by
   by_cases h4:mid<e
   ·have h5:B2=[]:=τ (by omega)
    rw[h5];simpa using HL.o.1.right
   ·have h5:A2=[]:=τ (by omega)
    rw[h5];simpa using HL.o.2.1.right
  exact fin (A2++B2) (Same.refl _) h6 _ (by simpa using R2.o.2.2.1) R2.o.2.2.2
 have FIN:=γ fin;have NO:=γ no;clear fin no;by_cases g1:mid<e
 ·by_cases g2:e<n
  ·go_wp2_with fail
   refine(IH.o mid e n (P++X1) A2 B2 S _ ?_ (by simpa using R2.o.2.2.1) ?_ ?_ ?_ ?_ HL.o.1.right HL.o.2.1.right ?_ ?_).mono ?_
   ·have h1:=L.o.1;have h2:=HL.o.2.2;simp only[ν]at h2;omega
   ·have h1:=HN.o;have h2:=R2.o.1.length;simp only[ν]at h1 h2⊢;omega
   ·have h1:=L.o.1;have h2:=R2.o.1.length;simp only[ν]at h2⊢;omega
   ·exact L.o.1.2.2.2.2.2.1
   ·exact L.o.1.2.2.2.2.1
   ·intro h0;have h1:=L.o.1;rw[h0]at h1;simp only[Γ]at h1;omega
   ·intro h0;have h1:=L.o.1;rw[h0]at h1;simp only[Γ]at h1;omega
   ·rintro e2 w2 ⟨X2,hX1,hX2,rfl,hr2,hk2⟩
    have F:=γ (FIN.o X2 hX1 hX2 w2 hr2 (R2.o.2.2.2.trans hk2));clear hX1 hX2 hr2 hk2;go_wp2_with fail
    go_end0
    exact F.o
  ·go_wp2_with fail
   go_end0
   exact NO.o (fun h=>g2 h.2)
 ·go_wp2_with fail
  go_end0
  exact NO.o (fun h=>g1 h.1)
theorem zK (b off cap N fuel:Nat)
 (IH:ace (∀(a m n:Nat)(P A B S:List Rec)(w:World),A.length+B.length<=fuel->RW w b off (P++A++B++S)->(P++A++B++S).length=N->
 P.length=a->a+A.length=m->m+B.length=n->Sorted A->Sorted B->A≠[]->B≠[]->
 Calls Tryz.prog 177 #[.slice (some ⟨b,off,none⟩) N cap,.int .i64 a,.int .i64 m,.int .i64 n,.func (.func 117) #[] #[]] w (jq w b off P (A++B) S)))
 (a m n mid nn i e:Nat) (P A1 A2 B1 B2 S:List Rec) (w wr:World) (u5 u6 u7 u8 u9 u10 u11 u12 u13 u14 u15 u16 Xw u21 u22 u23 u25 u26 u27 u28 u29 u30 u31 u32 u33 u34 u35 u36 u37 u38 Xv u40 Xu u42 Xt u44 u45 u46 Xr u48 u49 Xq u51 Xp u53 Xo u55 Xn Xm u58 u59 u60 u61 Xl u63 u64 Xk u66 Xj u68 u69 u70 Xi u72 u73 Xh u75 Xg Xf Xe Xd Xc Xb Xa WZ WY WX WU WT WS WR WQ WO WL u93 WJ WI WH WG Wy Wx Ot Oq Oo Om Ol u105 Oj Oi Oh Og Oe Oc Ob Oa N9 N8 N7 NZ NY u119 NW NV NU NS u124 NR NQ u127 NP NM NK u131 NJ NI NH NG NC Nz u138 u139 Ny Nw Nv Nu Ns Nr Nq Np Nl Nk Nj Nh u152 Nc u154 Nb Na MZ MX MW MV MS u162 MR u164 MQ MO MN ML MK MJ MI MH MG MF MB Me Md Mc L9 L8 L6 LZ LY LX LW LU LQ LP LK LJ LH LG u193 u194 LD u196 LC u198 Lu Ls u201 Lr Lp Lm Ll u206 Lj u208 Lh u210 Le Ld Lc La KZ KY KX KU KO:Value)
 (HN:ace ((P++(A1++A2)++(B1++B2)++S).length=N))
 (HL:ace (Sorted (A1++A2)/\Sorted (B1++B2)/\(A1++A2).length+(B1++B2).length<=fuel+1))
 (L:ace ((P.length=a/\a+A1.length=i/\i+A2.length=m/\m+B1.length=e/\e+B2.length=n/\mid+A2.length=e/\i+B1.length=mid/\a<mid/\mid<n)/\
   (∀u∈A1,∀v∈B2,u.pos<=v.pos)/\(∀u∈A2,∀v∈B1,v.pos<u.pos)))
 (R1:ace (RW wr b off (P++A1++B1++A2++B2++S)/\ε (one b) w wr)):
 Code.wp Tryz.prog IJ (bodyPost Tryz.prog Tryz.f177 (jq w b off P (A1++A2++(B1++B2)) S)) ⟨List.toArray (.slice (some ⟨b,off,none⟩) N cap:: .int .i64 a:: .int .i64 m:: .int .i64 n:: .func (.func 117) #[] #[]::u5::u6::u7::u8::u9::u10::u11::u12::u13::u14::u15::u16::Xw:: .int .i64 mid:: .int .i64 nn:: .int .i64 i::u21::u22::u23:: .int .i64 e::u25::u26::u27::u28::u29::u30::u31::u32::u33::u34::u35::u36::u37::u38::Xv::u40::Xu::u42::Xt::u44::u45::u46::Xr::u48::u49::Xq::u51::Xp::u53::Xo::u55::Xn::Xm::u58::u59::u60::u61::Xl::u63::u64::Xk::u66::Xj::u68::u69::u70::Xi::u72::u73::Xh::u75::Xg::Xf::Xe::Xd::Xc::Xb::Xa::WZ::WY::WX::WU::WT::WS::WR::WQ::WO::WL::u93::WJ::WI::WH::WG::Wy::Wx::Ot::Oq::Oo::Om::Ol::u105::Oj::Oi::Oh::Og::Oe::Oc::Ob::Oa::N9::N8::N7::NZ::NY::u119::NW::NV::NU::NS::u124::NR::NQ::u127::NP::NM::NK::u131::NJ::NI::NH::NG::NC::Nz::u138::u139::Ny::Nw::Nv::Nu::Ns::Nr::Nq::Np::Nl::Nk::Nj::Nh::u152::Nc::u154::Nb::Na::MZ::MX::MW::MV::MS::u162::MR::u164::MQ::MO::MN::ML::MK::MJ::MI::MH::MG::MF::MB::Me::Md::Mc::L9::L8::L6::LZ::LY::LX::LW::LU::LQ::LP::LK::LJ::LH::LG::u193::u194::LD::u196::LC::u198::Lu::Ls::u201::Lr::Lp::Lm::Ll::u206::Lj::u208::Lh::u210::Le::Ld::Lc::La::KZ::KY::KX::KU::KO::[]),[]⟩ wr:=by
 conv=>arg 2;whnf
 change Code.wp Tryz.prog (Code.seq _ II) _ _ _;have no: ¬(a<i/\i<mid)->ace (Same (A1++B1) (A1++B1)/\Sorted (A1++B1)/\RW wr b off (P++(A1++B1)++A2++B2++S)/\ε (one b) w wr):=by
  intro h2;have h1:=L.o.1;refine⟨Same.refl _,?_,by simpa using R1.o.1,R1.o.2⟩;by_cases h4:a<i
  ·have h5:B1=[]:=τ (by omega)
   rw[h5];simpa using HL.o.1.left
  ·have h5:A1=[]:=τ (by omega)
   rw[h5];simpa using HL.o.2.1.left
 have NO:=γ no;clear no;by_cases g1:a<i
 ·by_cases g2:i<mid
  ·go_wp2_with fail
   refine(IH.o a i mid P A1 B1 (A2++B2++S) _ ?_ (by simpa using R1.o.1) ?_ ?_ ?_ ?_ HL.o.1.left HL.o.2.1.left ?_ ?_).mono ?_
   ·have h1:=L.o.1;have h2:=HL.o.2.2;simp only[ν]at h2;omega
   ·have:=HN.o;simp only[ν]at this⊢;omega
   ·exact L.o.1.1
   ·exact L.o.1.2.1
   ·exact L.o.1.2.2.2.2.2.2.1
   ·intro h0;have h1:=L.o.1;rw[h0]at h1;simp only[Γ]at h1;omega
   ·intro h0;have h1:=L.o.1;rw[h0]at h1;simp only[Γ]at h1;omega
   ·rintro e2 w2 ⟨X1,hX1,hX2,rfl,hr2,hk2⟩
    have F:ace (Same (A1++B1) X1/\Sorted X1/\RW w2 b off (P++X1++A2++B2++S)/\ε (one b) w w2):=⟨hX1,hX2,by simpa using hr2,R1.o.2.trans hk2⟩;clear hX1 hX2 hr2 hk2;go_wp2_with fail;exact zJ b off cap N fuel IH a m n mid nn i e P A1 A2 B1 B2 S w w2 _ _ _ _ _ _ _ _ _ _ _ _ _ _ _ _ _ _ _ _ _ _ _ _ _ _ _ _ _ _ _ _ _ _ _ _ _ _ _ _ _ _ _ _ _ _ _ _ _ _ _ _ _ _ _ _ _ _ _ _ _ _ _ _ _ _ _ _ _ _ _ _ _ _ _ _ _ _ _ _ _ _ _ _ _ _ _ _ _ _ _ _ _ _ _ _ _ _ _ _ _ _ _ _ _ _ _ _ _ _ _ _ _ _ _ _ _ _ _ _ _ _ _ _ _ _ _ _ _ _ _ _ _ _ _ _ _ _ _ _ _ _ _ _ _ _ _ _ _ _ _ _ _ _ _ _ _ _ _ _ _ _ _ _ _ _ _ _ _ _ _ _ _ _ _ _ _ _ _ _ _ _ _ _ _ _ _ _ _ _ _ _ _ _ _ _ _ _ _ _ _ _ _ _ _ _ _ _ _ _ _ HN HL L X1 F
  ·go_wp2_with fail
   exact zJ b off cap N fuel IH a m n mid nn i e P A1 A2 B1 B2 S w wr _ _ _ _ _ _ _ _ _ _ _ _ _ _ _ _ _ _ _ _ _ _ _ _ _ _ _ _ _ _ _ _ _ _ _ _ _ _ _ _ _ _ _ _ _ _ _ _ _ _ _ _ _ _ _ _ _ _ _ _ _ _ _ _ _ _ _ _ _ _ _ _ _ _ _ _ _ _ _ _ _ _ _ _ _ _ _ _ _ _ _ _ _ _ _ _ _ _ _ _ _ _ _ _ _ _ _ _ _ _ _ _ _ _ _ _ _ _ _ _ _ _ _ _ _ _ _ _ _ _ _ _ _ _ _ _ _ _ _ _ _ _ _ _ _ _ _ _ _ _ _ _ _ _ _ _ _ _ _ _ _ _ _ _ _ _ _ _ _ _ _ _ _ _ _ _ _ _ _ _ _ _ _ _ _ _ _ _ _ _ _ _ _ _ _ _ _ _ _ _ _ _ _ _ _ _ _ _ _ _ _ HN HL L _ (NO.o (fun h=>g2 h.2))
 ·go_wp2_with fail
  exact zJ b off cap N fuel IH a m n mid nn i e P A1 A2 B1 B2 S w wr _ _ _ _ _ _ _ _ _ _ _ _ _ _ _ _ _ _ _ _ _ _ _ _ _ _ _ _ _ _ _ _ _ _ _ _ _ _ _ _ _ _ _ _ _ _ _ _ _ _ _ _ _ _ _ _ _ _ _ _ _ _ _ _ _ _ _ _ _ _ _ _ _ _ _ _ _ _ _ _ _ _ _ _ _ _ _ _ _ _ _ _ _ _ _ _ _ _ _ _ _ _ _ _ _ _ _ _ _ _ _ _ _ _ _ _ _ _ _ _ _ _ _ _ _ _ _ _ _ _ _ _ _ _ _ _ _ _ _ _ _ _ _ _ _ _ _ _ _ _ _ _ _ _ _ _ _ _ _ _ _ _ _ _ _ _ _ _ _ _ _ _ _ _ _ _ _ _ _ _ _ _ _ _ _ _ _ _ _ _ _ _ _ _ _ _ _ _ _ _ _ _ _ _ _ _ _ _ _ _ _ HN HL L _ (NO.o (fun h=>g1 h.1))
theorem UL (b off cap N fuel:Nat)(rY:N<1099511627776)
 (IH:ace (∀(a m n:Nat)(P A B S:List Rec)(w:World),A.length+B.length<=fuel->RW w b off (P++A++B++S)->(P++A++B++S).length=N->
 P.length=a->a+A.length=m->m+B.length=n->Sorted A->Sorted B->A≠[]->B≠[]->
 Calls Tryz.prog 177 #[.slice (some ⟨b,off,none⟩) N cap,.int .i64 a,.int .i64 m,.int .i64 n,.func (.func 117) #[] #[]] w (jq w b off P (A++B) S)))
 (a m n mid nn i e:Nat) (P A1 A2 B1 B2 S:List Rec) (w wr:World) (u5 u6 u7 u8 u9 u10 u11 u12 u13 u14 u15 u16 Xw u21 u22 u23 u24 u25 u26 u27 u28 u29 u30 u31 u32 u33 u34 u35 u36 u37 u38 Xv u40 Xu u42 Xt u44 u45 u46 Xr u48 u49 Xq u51 Xp u53 Xo u55 Xn Xm u58 u59 u60 u61 Xl u63 u64 Xk u66 Xj u68 u69 u70 Xi u72 u73 Xh u75 Xg Xf Xe Xd Xc Xb Xa WZ WY WX WU WT WS WR WQ WO WL u93 WJ WI WH WG Wy Wx Ot Oq Oo Om Ol u105 Oj Oi Oh Og Oe Oc Ob Oa N9 N8 N7 NZ NY u119 NW NV NU NS u124 NR NQ u127 NP NM NK u131 NJ NI NH NG NC Nz u138 u139 Ny Nw Nv Nu Ns Nr Nq Np Nl Nk Nj Nh u152 Nc u154 Nb Na MZ MX MW MV MS u162 MR u164 MQ MO MN ML MK MJ MI MH MG MF MB Me Md Mc L9 L8 L6 LZ LY LX LW LU LQ LP LK LJ LH LG u193 u194 LD u196 LC u198 Lu Ls u201 Lr Lp Lm Ll u206 Lj u208 Lh u210 Le Ld Lc La KZ KY KX KU KO:Value)
 (HN:ace ((P++(A1++A2)++(B1++B2)++S).length=N))
 (HL:ace (Sorted (A1++A2)/\Sorted (B1++B2)/\(A1++A2).length+(B1++B2).length<=fuel+1))
 (L:ace ((P.length=a/\a+A1.length=i/\i+A2.length=m/\m+B1.length=e/\e+B2.length=n/\mid+A2.length=e/\i+B1.length=mid/\a<mid/\mid<n)/\
   (∀u∈A1,∀v∈B2,u.pos<=v.pos)/\(∀u∈A2,∀v∈B1,v.pos<u.pos)))
 (hNn:ace (n<=N/\nn=i+e)) (R0:ace (RW wr b off (P++(A1++A2)++(B1++B2)++S)/\ε η w wr)):
 Code.wp Tryz.prog IK (bodyPost Tryz.prog Tryz.f177 (jq w b off P (A1++A2++(B1++B2)) S)) ⟨List.toArray (.slice (some ⟨b,off,none⟩) N cap:: .int .i64 a:: .int .i64 m:: .int .i64 n:: .func (.func 117) #[] #[]::u5::u6::u7::u8::u9::u10::u11::u12::u13::u14::u15::u16::Xw:: .int .i64 mid:: .int .i64 nn:: .int .i64 i::u21::u22::u23::u24::u25::u26::u27::u28::u29::u30::u31::u32::u33::u34::u35::u36::u37::u38::Xv::u40::Xu::u42::Xt::u44::u45::u46::Xr::u48::u49::Xq::u51::Xp::u53::Xo::u55::Xn::Xm::u58::u59::u60::u61::Xl::u63::u64::Xk::u66::Xj::u68::u69::u70::Xi::u72::u73::Xh::u75::Xg::Xf::Xe::Xd::Xc::Xb::Xa::WZ::WY::WX::WU::WT::WS::WR::WQ::WO::WL::u93::WJ::WI::WH::WG::Wy::Wx::Ot::Oq::Oo::Om::Ol::u105::Oj::Oi::Oh::Og::Oe::Oc::Ob::Oa::N9::N8::N7::NZ::NY::u119::NW::NV::NU::NS::u124::NR::NQ::u127::NP::NM::NK::u131::NJ::NI::NH::NG::NC::Nz::u138::u139::Ny::Nw::Nv::Nu::Ns::Nr::Nq::Np::Nl::Nk::Nj::Nh::u152::Nc::u154::Nb::Na::MZ::MX::MW::MV::MS::u162::MR::u164::MQ::MO::MN::ML::MK::MJ::MI::MH::MG::MF::MB::Me::Md::Mc::L9::L8::L6::LZ::LY::LX::LW::LU::LQ::LP::LK::LJ::LH::LG::u193::u194::LD::u196::LC::u198::Lu::Ls::u201::Lr::Lp::Lm::Ll::u206::Lj::u208::Lh::u210::Le::Ld::Lc::La::KZ::KY::KX::KU::KO::[]),[]⟩ wr:=by
 conv=>arg 2;whnf
 change Code.wp Tryz.prog (Code.seq _ (Code.seq _ IJ)) _ _ _;have e6:IntKind.i64.wrap ((nn:Int)-i)=(e:Int):=(by have h1:=L.o.1;have h2:=hNn.o;rw[show(nn:Int)-i=((e:Nat):Int) by omega];exact bI (by omega));have no: ¬(i<m/\m<e)->ace (RW wr b off (P++A1++B1++A2++B2++S)/\ε (one b) w wr):=by
  intro h2;have h1:=L.o.1;have h3:=R0.o.1;refine⟨?_,R0.o.2.pure⟩;by_cases h4:i<m
  ·have h5:B1=[]:=τ (by omega)
   rw[h5]at h3⊢;simpa using h3
  ·have h5:A2=[]:=τ (by omega)
   rw[h5]at h3⊢;simpa using h3
 have NO:=γ no;clear no;by_cases g1:i<m
 ·by_cases g2:m<e
  ·go_wp2_with fail
   refine(U4 b off cap N i m e (P++A1) A2 B1 (B2++S) _ (by simpa using R0.o.1) ?_ rY ?_ ?_ ?_ ?_ ?_).mono ?_
   ·have:=HN.o
    simp only[ν]at this⊢;omega
   ·have:=L.o.1;rw[ν];omega
   ·have:=L.o.1;rw[ν,ν];omega
   ·have:=L.o.1;rw[ν,ν,ν];omega
   ·intro h0;have h1:=L.o.1;rw[h0]at h1;simp only[Γ]at h1;omega
   ·intro h0;have h1:=L.o.1;rw[h0]at h1;simp only[Γ]at h1;omega
   ·rintro e2 w2 ⟨rfl,hr2,hk2⟩
    have F:ace (RW w2 b off (P++A1++B1++A2++B2++S)/\ε (one b) w w2):=⟨by simpa using hr2,R0.o.2.pure.trans hk2⟩;clear hr2 hk2;go_wp2_with fail;exact zK b off cap N fuel IH a m n mid nn i e P A1 A2 B1 B2 S w w2 _ _ _ _ _ _ _ _ _ _ _ _ _ _ _ _ _ _ _ _ _ _ _ _ _ _ _ _ _ _ _ _ _ _ _ _ _ _ _ _ _ _ _ _ _ _ _ _ _ _ _ _ _ _ _ _ _ _ _ _ _ _ _ _ _ _ _ _ _ _ _ _ _ _ _ _ _ _ _ _ _ _ _ _ _ _ _ _ _ _ _ _ _ _ _ _ _ _ _ _ _ _ _ _ _ _ _ _ _ _ _ _ _ _ _ _ _ _ _ _ _ _ _ _ _ _ _ _ _ _ _ _ _ _ _ _ _ _ _ _ _ _ _ _ _ _ _ _ _ _ _ _ _ _ _ _ _ _ _ _ _ _ _ _ _ _ _ _ _ _ _ _ _ _ _ _ _ _ _ _ _ _ _ _ _ _ _ _ _ _ _ _ _ _ _ _ _ _ _ _ _ _ _ _ _ _ _ _ _ _ _ HN HL L F
  ·go_wp2_with fail
   exact zK b off cap N fuel IH a m n mid nn i e P A1 A2 B1 B2 S w wr _ _ _ _ _ _ _ _ _ _ _ _ _ _ _ _ _ _ _ _ _ _ _ _ _ _ _ _ _ _ _ _ _ _ _ _ _ _ _ _ _ _ _ _ _ _ _ _ _ _ _ _ _ _ _ _ _ _ _ _ _ _ _ _ _ _ _ _ _ _ _ _ _ _ _ _ _ _ _ _ _ _ _ _ _ _ _ _ _ _ _ _ _ _ _ _ _ _ _ _ _ _ _ _ _ _ _ _ _ _ _ _ _ _ _ _ _ _ _ _ _ _ _ _ _ _ _ _ _ _ _ _ _ _ _ _ _ _ _ _ _ _ _ _ _ _ _ _ _ _ _ _ _ _ _ _ _ _ _ _ _ _ _ _ _ _ _ _ _ _ _ _ _ _ _ _ _ _ _ _ _ _ _ _ _ _ _ _ _ _ _ _ _ _ _ _ _ _ _ _ _ _ _ _ _ _ _ _ _ _ _ HN HL L (NO.o (fun h=>g2 h.2))
 ·go_wp2_with fail
  exact zK b off cap N fuel IH a m n mid nn i e P A1 A2 B1 B2 S w wr _ _ _ _ _ _ _ _ _ _ _ _ _ _ _ _ _ _ _ _ _ _ _ _ _ _ _ _ _ _ _ _ _ _ _ _ _ _ _ _ _ _ _ _ _ _ _ _ _ _ _ _ _ _ _ _ _ _ _ _ _ _ _ _ _ _ _ _ _ _ _ _ _ _ _ _ _ _ _ _ _ _ _ _ _ _ _ _ _ _ _ _ _ _ _ _ _ _ _ _ _ _ _ _ _ _ _ _ _ _ _ _ _ _ _ _ _ _ _ _ _ _ _ _ _ _ _ _ _ _ _ _ _ _ _ _ _ _ _ _ _ _ _ _ _ _ _ _ _ _ _ _ _ _ _ _ _ _ _ _ _ _ _ _ _ _ _ _ _ _ _ _ _ _ _ _ _ _ _ _ _ _ _ _ _ _ _ _ _ _ _ _ _ _ _ _ _ _ _ _ _ _ _ _ _ _ _ _ _ _ _ HN HL L (NO.o (fun h=>g1 h.1))
