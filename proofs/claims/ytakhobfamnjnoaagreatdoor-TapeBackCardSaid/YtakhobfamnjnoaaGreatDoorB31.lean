/- Symbolic runs: what is too heavy. -/
import Derived.Test.YtakhobfamnjnoaaGreatDoorB30
set_option linter.unusedVariables false
set_option linter.unusedSimpArgs false
namespace Go.Proofs.YtakhobfamnjnoaaGreatDoor
section
namespace Sx
open Go Go.RowKit _root_.Go.Proofs.Tryz
set_option maxRecDepth 100000
set_option maxHeartbeats 4000000
section
variable {bx:{α:Type}->α->α} (hb: ∀{α:Type}(x:α),bx x=x)
include hb
theorem UQ (x:Ex)(hx:iO x):Ct prog 42 [AZ bx x] [] fun r h=>(∃n:Int,r= .a (.c (.p (.int .i64 (bx n)))))/\h=[]:=by
 have ih: ∀z,∀hz:z∈x.args,iO z->Ct prog 42 [AZ bx z] [] fun r h=>(∃n:Int,r= .a (.c (.p (.int .i64 (bx n)))))/\h=[]:=fun z hz=>UQ z
 obtain⟨ha,hfa⟩:=hx.args
 refine ct hb func42 fun Q hQ K hK=>?_
 cbv
 refine loop hb (fun a:Nat×Int=>a.1<=x.args.length) (fun a=>x.args.length-a.1) (fun a=>[(9, .a (.c (.p (.int .i64 (bx (Int.ofNat a.1)))))),(3, .a (.c (.p (.int .i64 (bx a.2)))))]) (fun _=>[]) (0,1) (Nat.zero_le _) (ent [] [.all 0] (he:=by cbv;(repeat' (first|trivial|rfl|apply And.intro|(simp[hb];done))))) ?_
 rintro⟨k,n⟩ hI
 dsimp only at hI⊢
 cbv
 refine⟨fun hd=>?_,fun hd=>?_⟩<;>simp only[hb,pl]at hd
 ·obtain⟨z,hz⟩: ∃z,x.args[k]?=some z:=⟨_,List.getElem?_eq_getElem hd⟩
  have hm:=List.mem_of_getElem? hz
  have hu:=uz hb (k:=k) (by omega)
  cbv
  refine get (QL bx z) (jZ hb oV (oU x.args) hz (Gh hb z)) (chk (kC hb hd (by omega)) ?_)
  cbv
  refine⟨fun h2=>?_,fun h2=>?_⟩
  ·cbv
   refine call hQ (ih z hm (qg hfa hm)) [] ?_
   rintro _ _ ⟨⟨q,rfl⟩,rfl⟩
   cbv
   exact⟨(k+1,wr .i64 (n+q)),by dsimp only;omega,by dsimp only;omega,ent [] [.all 0] (he:=by cbv;(repeat' (first|trivial|rfl|apply And.intro|exact hu|(simp only[hb];done))))⟩
  ·cbv
   exact⟨(k+1,n),by dsimp only;omega,by dsimp only;omega,ent [] [.all 0] (he:=by cbv;(repeat' (first|trivial|rfl|apply And.intro|exact hu|(simp only[hb];done))))⟩
 ·cbv
  exact hK _ _ (.a (.c (.p (.int .i64 (bx (E8 true n 2000)))))) [] (aZ [] [] (he:=by cbv;(repeat' (first|trivial|rfl|apply And.intro|(simp only[hb];done))))) ⟨⟨_,rfl⟩,rfl⟩
termination_by SizeOf.sizeOf x
decreasing_by exact Ii hz
theorem QH (j:Jb)(hj:gK j):Ct prog 15 [qR bx j] [] fun r h=>(∃b:Bool,r= .a (.c (.p (.bool (bx b)))))/\h=[]:=ct hb func15 fun Q hQ K hK=>by
 have yes: ∀{H:Hp},K (.a (.c (.p .tt))) H:=hK _ _ (.a (.c (.p (.bool (bx true))))) [] (aZ [] [] (he:=by cbv;simp[hb])) ⟨⟨_,rfl⟩,rfl⟩
 have no: ∀{H:Hp},K (.a (.c (.p .ff))) H:=hK _ _ (.a (.c (.p (.bool (bx false))))) [] (aZ [] [] (he:=by cbv;simp[hb])) ⟨⟨_,rfl⟩,rfl⟩
 obtain⟨f1,f2,f3⟩:=hj
 cbv
 refine⟨fun h1=>?_,fun h1=>?_⟩<;>simp only[hb,pl]at h1
 ·cbv
  exact yes
 ·cbv
  refine loop hb (fun a:Nat×Int=>a.1<=j.nodes.length) (fun a=>j.nodes.length-a.1) (fun a=>[(13, .a (.c (.p (.int .i64 (bx (Int.ofNat a.1)))))),(3, .a (.c (.p (.int .i64 (bx a.2)))))]) (fun _=>[]) (0,0) (Nat.zero_le _) (ent [] [.all 0] (he:=by cbv;(repeat' (first|trivial|rfl|apply And.intro|(simp[hb];done))))) ?_
  rintro⟨k,n⟩ hI
  dsimp only at hI⊢
  cbv
  refine⟨fun hd=>?_,fun hd=>?_⟩<;>simp only[hb,pl]at hd
  ·obtain⟨d,hx⟩: ∃d,j.nodes[k]?=some d:=⟨_,List.getElem?_eq_getElem hd⟩
   have fd:=f2 d (List.mem_of_getElem? hx)
   have hu:=uz hb (k:=k) (by omega)
   cbv
   refine get (BL bx d) (jZ hb mQ rfl hx (yT hb d)) (chk (kC hb hd (by omega)) ?_)
   cbv
   refine call hQ (UQ hb d.x fd.2.1) [] ?_
   rintro _ _ ⟨⟨q,rfl⟩,rfl⟩
   cbv
   refine⟨fun h2=>?_,fun h2=>?_⟩
   ·cbv
    exact yes
   ·cbv
    refine⟨fun h3=>?_,fun h3=>?_⟩
    ·cbv
     exact yes
    ·cbv
     refine⟨fun h4=>?_,fun h4=>?_⟩
     ·cbv
      exact yes
     ·cbv
      exact⟨(k+1,wr .i64 (n+q)),by dsimp only;omega,by dsimp only;omega,ent [] [.all 0] (he:=by cbv;(repeat' (first|trivial|rfl|apply And.intro|exact hu|(simp only[hb];done))))⟩
  ·cbv
   exact no
theorem aci (t:Tp)(hf:gQ t):Ct prog 5 [jX bx t] [] fun r h=>(∃b:Bool,r= .a (.c (.p (.bool (bx b)))))/\h=[]:=ct hb func5 fun Q hQ K hK=>by
 have yes: ∀{H:Hp},K (.a (.c (.p .tt))) H:=hK _ _ (.a (.c (.p (.bool (bx true))))) [] (aZ [] [] (he:=by cbv;simp[hb])) ⟨⟨_,rfl⟩,rfl⟩
 have no: ∀{H:Hp},K (.a (.c (.p .ff))) H:=hK _ _ (.a (.c (.p (.bool (bx false))))) [] (aZ [] [] (he:=by cbv;simp[hb])) ⟨⟨_,rfl⟩,rfl⟩
 obtain⟨f1,f2,f3,f4,f5⟩:=hf
 cbv
 refine loop hb (fun k:Nat=>k<=t.acts.length) (fun k=>t.acts.length-k) (fun k=>[(8, .a (.c (.p (.int .i64 (bx (Int.ofNat k))))))]) (fun _=>[]) 0 (Nat.zero_le _) (ent [] [.all 0] (he:=by cbv;(repeat' (first|trivial|rfl|apply And.intro|(simp[hb];done))))) fun k hI=>?_
 cbv
 refine⟨fun hd=>?_,fun hd=>?_⟩<;>simp only[hb,pl]at hd
 ·obtain⟨a,hx⟩: ∃a,t.acts[k]?=some a:=⟨_,List.getElem?_eq_getElem hd⟩
  have fa:=f5 a (List.mem_of_getElem? hx)
  have hu:=uz hb (k:=k) (by omega)
  cbv
  refine get (Ed bx a) (jZ hb oK rfl hx (yh hb a)) (chk (kC hb hd (by omega)) ?_)
  cbv
  refine call hQ (QH hb a.j fa.2.2.2.2.2.2.2) [] ?_
  rintro _ _ ⟨⟨q,rfl⟩,rfl⟩
  cbv
  refine⟨fun h2=>?_,fun h2=>?_⟩
  ·cbv
   exact yes
  ·cbv
   exact⟨k+1,by omega,by omega,ent [] [.all 0] (he:=by cbv;(repeat' (first|trivial|rfl|apply And.intro|exact hu|(simp only[hb];done))))⟩
 ·cbv
  refine call hQ (QH hb t.first f3) [] ?_
  rintro _ _ ⟨⟨q,rfl⟩,rfl⟩
  cbv
  refine⟨fun h2=>?_,fun h2=>?_⟩
  ·cbv
   exact yes
  ·cbv
   exact hK _ _ (.a (.c (.p (.bool (bx (decide (2100<Int.ofNat t.acts.length))))))) [] (aZ [] [] (he:=rE (by simp only[hb]))) ⟨⟨_,rfl⟩,rfl⟩
end
end Sx
end
section
namespace Sx
open Go Go.RowKit _root_.Go.Proofs.Tryz
set_option maxRecDepth 100000
set_option maxHeartbeats 4000000
structure Q5 (t:Tp):Prop where
 back:kX (eY t)=(t,0)
 cut: ∀k,k<(eY t).length->(kX ((eY t).take k)).2=21
 more: ∀m,((kX (eY t++m)).2=0)↔m=[]
 same:Jy t t=true
 len:(eY t).length<=1000000000
section
variable {bx:{α:Type}->α->α} (hb: ∀{α:Type}(x:α),bx x=x)
include hb
theorem tb4 (t:Tp)(n:Int)(m:List UInt8)(hf:gQ t)(hS:nI)(hL:iU t=true->Q5 t)(hW:Ct prog 6 [] [] fun r h=>r= .a (.c (.p (.bool (bx true))))/\h=[]):
 Ct prog 4 [jX bx t, .c (.p (.int .i64 (bx n))), .c (.p (.str (bx (bs m))))] [] fun r h=>r= .a (.c (.p (.bool (bx true))))/\h=[]:=ct hb func4 fun Q hQ K hK=>by
 have hz:=eG m
 have kp:=abk hb t hS hf
 cbv
 refine call hQ (aci hb t hf) [] ?_
 rintro _ _ ⟨⟨q,rfl⟩,rfl⟩
 cbv
 refine⟨fun h1=>?_,fun h1=>?_⟩
 ·cbv
  refine call hQ hW [] ?_
  rintro _ _ ⟨rfl,rfl⟩
  cbv
  exact hK _ _ (.a (.c (.p (.bool (bx true))))) [] (aZ [] []) ⟨rfl,rfl⟩
 ·cbv
  refine⟨fun h2=>?_,fun h2=>?_⟩<;>simp only[hb,hz,pl]at h2
  ·cbv
   refine call hQ hW [] ?_
   rintro _ _ ⟨rfl,rfl⟩
   cbv
   exact hK _ _ (.a (.c (.p (.bool (bx true))))) [] (aZ [] []) ⟨rfl,rfl⟩
  ·cbv
   refine call hQ kp [] ?_
   rintro rr _ ⟨rfl,hr⟩
   by_cases Jq:iU t=true
   ·rw[if_pos Jq]at hr
    subst hr
    obtain⟨L1,L2,L3,L4,L5⟩:=hL Jq
    have hm:m.length<=100:=Int.ofNat_le.1 (Int.not_lt.1 h2)
    obtain⟨pt,hpt⟩: ∃l,l=eY t:=⟨_,rfl⟩
    rw[<-hpt]at L1 L2 L3 L5⊢
    have hzp:=eG pt
    have k1:=KQ hb pt hS (by omega)
    rw[L1]at k1
    dsimp only at k1
    have k2:=abb hb t t hf
    rw[L4]at k2
    clear kp L1 L4 hL hpt
    cbv
    refine⟨fun h3=>?_,fun _=>?_⟩
    ·rw[hb]at h3
     exact absurd h3 (by decide)
    cbv
    refine call hQ k1 [] ?_
    rintro _ _ ⟨rfl,rfl⟩
    cbv
    refine⟨fun h3=>?_,fun _=>?_⟩
    ·simp[hb]at h3
    cbv
    refine call hQ k2 [] ?_
    rintro _ _ ⟨rfl,rfl⟩
    cbv
    refine⟨fun h3=>?_,fun _=>?_⟩
    ·simp[hb]at h3
    cbv
    refine⟨fun h3=>?tc,fun h3=>?td⟩<;>simp only[hb,pl]at h3
    case' tc=>
     cbv
     refine⟨fun h4=>?te,fun h4=>?tf⟩<;>simp only[hb,hzp,pl]at h4
     case' te=>
      have⟨k,hk⟩:=L9 h3
      have hk2:k<pt.length:=by rw[hk]at h4;exact Int.ofNat_lt.1 h4
      have kk:=KQ hb (pt.take k) hS (by simp;omega)
      have e21:=L2 k hk2
      generalize kX (pt.take k)=u at kk e21
      obtain⟨u,ue⟩:=u
      dsimp only at kk e21
      subst e21
      have hsl:(bs pt).extract 0 k=bs (pt.take k):=by rw[WR];simp
      cbv
      refine chk (by simp only[hb,hzp,hk];simp;omega) ?_
      cbv
      refine call hQ kk [] ?_ (ha:=by cbv;(repeat' (first|trivial|rfl|apply And.intro|(simp only[hb,hk];exact congrArg PV.str hsl.symm))))
      rintro _ _ ⟨rfl,rfl⟩
      cbv
      refine⟨fun h5=>absurd h5 (by simp[hb]),fun _=>?_⟩
      cbv
     case' tf=>cbv
    case' td=>cbv
    all_goals
     have k3:=KQ hb (pt++m) hS (by simp;omega)
     have l3:=L3 m
     generalize kX (pt++m)=u at k3 l3
     obtain⟨v,ve⟩:=u
     dsimp only at k3 l3
     refine chk (by simp only[hb,hzp,hz,decide_eq_true_eq];omega) ?_
     cbv
     refine call hQ k3 [] ?_ (ha:=by cbv;(repeat' (first|trivial|rfl|apply And.intro|(simp only[hb,gB];done))))
     rintro _ _ ⟨rfl,rfl⟩
     have bq:((bs m).toList==(⟨⟨[]⟩⟩:ByteArray).toList)=decide (m=[]):=by
      rw[<-beq_toListBytes,su]
      congr 1
      exact propext ⟨fun h=>by have:=congrArg (fun b:ByteArray=>b.data.toList) h;simpa[bs]using this,fun h=>by rw[h];rfl⟩
     have key:(decide (ve=0)==decide (m=[]))=true:=by simp only[l3];simp
     cbv
     refine⟨fun _=>?_,fun h6=>?_⟩
     ·cbv
      refine call hQ hW [] ?_
      rintro _ _ ⟨rfl,rfl⟩
      cbv
      exact hK _ _ (.a (.c (.p (.bool (bx true))))) [] (aZ [] []) ⟨rfl,rfl⟩
     ·have h7:(decide (ve=0)==decide (m=[]))=false:=by simpa only[hb,bq,qX]using h6
      rw[key]at h7
      cases h7
   ·rw[if_neg Jq]at hr
    subst hr
    cbv
    refine⟨fun _=>?_,fun h3=>?_⟩
    ·cbv
     refine⟨fun _=>?_,fun h4=>?_⟩
     ·cbv
      refine call hQ hW [] ?_
      rintro _ _ ⟨rfl,rfl⟩
      cbv
      exact hK _ _ (.a (.c (.p (.bool (bx true))))) [] (aZ [] []) ⟨rfl,rfl⟩
     ·rw[hb]at h4
      simp at h4
    ·rw[hb]at h3
     exact absurd h3 (by decide)
end
end Sx
end
section
namespace Sx
open Go Go.RowKit
def o7:Prop:= ∀j,gK j->(dV j).2=0->xO j/\(mP j).length<=65536
theorem o7.small (h:o7):nI:=fun j h1 h2=>(h j h1 h2).2
theorem Cj (hG:o7){t:Tp}(hf:gQ t)(hm:iU t=true):uD t:=by
 have h:=hm
 unfold iU at h
 simp only[Bool.and_eq_true,decide_eq_true_eq]at h
 obtain⟨g1,g2⟩:=hG t.first hf.2.2.1 h.1.1.2
 refine⟨hf,hm,g1,g2,fun a ha=>?_⟩
 have hma:=List.all_eq_true.1 h.2 a ha
 have hfa:=hf.2.2.2.2 a ha
 exact⟨hfa,hma,fun h5=>hG a.j hfa.2.2.2.2.2.2.2 (X4 hma h5)⟩
theorem U3 (l:List UInt8)(hl:l.length<=maxLen):gQ (vU l).1:=by
 have q1:=dU (l,0)
 have q2:=dU (aI (l,0)).2
 have l2:=Nat.le_trans q2.2 (Nat.le_trans q1.2 hl)
 have q3:=Dc (aI (aI (l,0)).2).2 l2
 have q4:=dU (iR (aI (aI (l,0)).2).2).2
 have q5:=sD (aI (iR (aI (aI (l,0)).2).2).2).2 (Nat.le_trans q4.2 (Nat.le_trans q3.2 l2)) (lJ (aI (iR (aI (aI (l,0)).2).2).2).1)
 have hc:=QU (aI (iR (aI (aI (l,0)).2).2).2).1
 refine⟨q1.1,q2.1,q3.1,?_,q5.1⟩
 exact Nat.lt_of_le_of_lt q5.2.1 (Nat.lt_of_le_of_lt hc (by omega))
theorem UD (hG:o7){t:Tp}(h:uD t)(hl:(eY t).length<=maxLen)(k:Nat)(hk:k<(eY t).length):(kX ((eY t).take k)).2=21:=by
 obtain⟨p,hp⟩: ∃p,p=(eY t).take k:=⟨_,rfl⟩
 have hpl:p.length=k:=by rw[hp,List.length_take];omega
 rw[<-hp]
 unfold kX DZ
 split
 ·rfl
 ·split
  ·rename_i h2
   have hf:=U3 p (by omega)
   have hg:=Cj hG hf h2.1
   have e1:=vT hg ((eY t).drop k)
   have e2:eY (vU p).1++(eY t).drop k=eY t:=by rw[h2.2,hp,List.take_append_drop]
   have e3:=vT h []
   rw[List.append_nil]at e3
   rw[e2,e3]at e1
   have e4:t=(vU p).1:=congrArg Prod.fst e1
   have e5:eY t=p:=by rw[e4];exact h2.2
   rw[e5]at hk
   omega
  ·rfl
mutual
theorem NS: ∀x:Ex,wC x x=true
 | .mk o n l=>by simp[wC,Jw l]
theorem Jw: ∀l:List Ex,kP l l=true
 |[]=>by simp[kP]
 |x::l=>by simp[kP,NS x,Jw l]
end
theorem JC: ∀l:List JN,kQ l l=true
 |[]=>rfl
 |a::l=>by simp[kQ,eqN,JC l,NS]
theorem NU (j:Jb):zS j j=true:=by simp[zS,JC]
theorem JE: ∀l:List Ac,lI l l=true
 |[]=>rfl
 |a::l=>by simp[lI,wE,JE l,NU]
theorem YB (t:Tp):Jy t t=true:=by simp[Jy,NU,JE]
theorem XE (hG:o7){t:Tp}(hf:gQ t)(hm:iU t=true):(eY t).length<=1000000000:=by
 have h:=hm
 unfold iU at h
 simp only[Bool.and_eq_true,decide_eq_true_eq]at h
 have a1:=Dq hG.small hf.2.2.1 h.1.1.2
 have a2:=Ja hG.small hf.2.2.2.2 h.2
 have g1: ∀n∈[t.bytes,t.room],aS n:=by
  intro n hn
  simp only[List.mem_cons,List.not_mem_nil,or_false]at hn
  rcases hn with rfl|rfl
  ·exact hf.1
  ·exact hf.2.1
 have g2: ∀n∈[Int.ofNat t.acts.length],aS n:=by
  intro n hn
  simp only[List.mem_cons,List.not_mem_nil,or_false]at hn
  subst hn
  exact yM hf.2.2.2.1
 have q1:=fV g1
 have q2:=fV g2
 simp only[List.length_cons,List.length_nil]at q1 q2
 have hn:=h.1.2
 unfold eY
 simp only[List.length_append]
 have:t.acts.length*65600<=2000*65600:=Nat.mul_le_mul_right _ hn
 omega
theorem Xm (hG:o7){t:Tp}(hf:gQ t)(hm:iU t=true):Q5 t:=by
 have hg:=Cj hG hf hm
 have hl:=XE hG hf hm
 exact⟨Rt hg,fun k hk=>UD hG hg (Nat.le_trans hl (by unfold maxLen;omega)) k hk,fun m=>Rq hg m,YB t,hl⟩
theorem law4 {bx:{α:Type}->α->α}(hb: ∀{α:Type}(x:α),bx x=x)(hG:o7)(hW:Ct _root_.Go.Proofs.Tryz.prog 6 [] [] fun r h=>r= .a (.c (.p (.bool (bx true))))/\h=[])(t:Tp)(n:Int)(m:List UInt8)(hf:gQ t):
 Ct _root_.Go.Proofs.Tryz.prog 4 [jX bx t, .c (.p (.int .i64 (bx n))), .c (.p (.str (bx (bs m))))] [] fun r h=>r= .a (.c (.p (.bool (bx true))))/\h=[]:=
 tb4 hb t n m hf hG.small (Xm hG hf) hW
end Sx
end
section
namespace Sx
open Go Go.RowKit
mutual
theorem IZ: ∀x:Ex,iO x->(iC x).length<=30*xW x
 | .mk o n l,h=>by
   have h2:=EN l h.2.2.2.2
   have hl:=h.2.2.2.1
   have g: ∀v∈[o,n,Int.ofNat l.length],aS v:=by
    intro v hv
    simp only[List.mem_cons,List.not_mem_nil,or_false]at hv
    rcases hv with rfl|rfl|rfl
    ·exact Dn h.1 h.2.1
    ·exact h.2.2.1
    ·exact yM hl
   have h1:=fV g
   simp only[List.length_cons,List.length_nil]at h1
   unfold iC xW
   rw[List.length_append]
   omega
theorem EN: ∀l:List Ex,rX l->(iI l).length<=30*kL l
 |[],_=>by simp[iI,kL]
 |x::l,h=>by
  have h1:=IZ x h.1
  have h2:=EN l h.2
  unfold iI kL
  rw[List.length_append]
  omega
end
theorem Ju: ∀(k:Nat)(x:Ex),qh k x->qh (k+1) x
 |0,_,h=>h.elim
 |k+1,_,⟨h1,h2,h3,h4,h5⟩=>⟨h1,h2,h3,h4,fun y hy=>Ju k y (h5 y hy)⟩
theorem Eb (o:Int):arity o<=3:=by unfold arity;(repeat' split)<;>omega
theorem Gg: ∀(k:Nat)(x:Ex),iO x->eU k x=true->qh k x
 |0,_,_,h=>by cases h
 |k+1, .mk o n l,hf,h=>by
  unfold eU at h
  simp only[Bool.and_eq_true,decide_eq_true_eq]at h
  have ha:=Eb o
  have hl:l.length<=3:=by have:=h.1.1.1;omega
  exact⟨hf.1,hf.2.1,hf.2.2.1,hl,fun y hy=>Gg k y (qg hf.2.2.2.2 hy) (List.all_eq_true.1 h.2 y hy)⟩
theorem O5 {k:Nat}{x:Ex}(hf:iO x)(h:kM x=true):qh (k+1) x:=by
 obtain⟨o,n,l⟩:=x
 unfold kM at h
 simp only[Bool.and_eq_true,Ex.args,List.isEmpty_iff]at h
 have hl:l=[]:=h.2
 subst hl
 exact⟨hf.1,hf.2.1,hf.2.2.1,by simp[Ex.args],fun y hy=>by simp[Ex.args]at hy⟩
theorem VE {i:Nat}{d:JN}(hf:iO d.x)(h:dM i d=true):kH d.uid=true/\d.ins.length<=12/\qh 17 d.x:=by
 unfold dM DI at h
 split at h
 ·cases h
 ·rename_i h1
  split at h
  ·cases h
  ·rename_i h2
   split at h
   ·cases h
   ·have hn:kH d.uid=true:=by
     cases hq:kH d.uid with
     |true=>rfl
     |false=>exact absurd (.inl hq) h1
    have hi:d.ins.length<=12:=by
     have hj:iM d.kind<=3:=by unfold iM;(repeat' split)<;>omega
     have: ¬iM d.kind<d.ins.length:=fun c=>h2 (.inr (.inl c))
     omega
    refine⟨hn,hi,?_⟩
    split at h
    ·exact O5 (k:=16) hf h
    ·unfold uV at h
     rw[Bool.and_eq_true]at h
     have hk:=h.1
     unfold jC at hk
     split at hk
     ·exact absurd hk (by decide)
     ·rename_i hx
      exact Ju 16 _ (Gg 16 _ hf (by simpa using hx))
theorem TT (s:ByteArray)(i:Nat):(Utf8.decode s i).2<=4:=by
 unfold Utf8.decode
 dsimp only
 (repeat' split)<;>simp
theorem xw (s:ByteArray): ∀f i,s.size<=i+f->s.size<=i+4*(runesFrom s f i).length
 |0,i,h=>by unfold runesFrom;simp;omega
 |f+1,i,h=>by
  unfold runesFrom
  split
  ·rename_i hi
   have h4:=TT s i
   have h1:=CS s i hi
   have ih:=xw s f (i+(Utf8.decode s i).2) (by omega)
   rw[List.length_cons]
   omega
  ·omega
theorem VB {s:ByteArray}(h:kH s=true):s.size<=96:=by
 have hw:=xw s s.size 0 (by omega)
 unfold kH runes at h
 cases hr:runesFrom s s.size 0 with
 |nil=>
  rw[hr]at hw
  have h0:s.size<=0:=by simpa only[List.length_nil,Nat.mul_zero,Nat.add_zero]using hw
  omega
 |cons p l=>
  rw[hr]at h hw
  unfold E5 at h
  simp only[Bool.and_eq_true,decide_eq_true_eq]at h
  have:=h.2
  omega
theorem XF {d:JN}(hf:kG d)(h1:d.uid.size<=96)(h2:d.ins.length<=12):(uJ d).length<=300+30*xW d.x:=by
 obtain⟨f1,f2,f3,f4,f5,f6,f7⟩:=hf
 have hu:d.uid.data.toList.length=d.uid.size:=by rw[Array.length_toList];rfl
 have a1:=I5 d.uid.data.toList (by omega)
 have g: ∀v∈[d.kind,d.n,Int.ofNat d.ins.length],aS v:=by
  intro v hv
  simp only[List.mem_cons,List.not_mem_nil,or_false]at hv
  rcases hv with rfl|rfl|rfl
  ·exact Dn f4 f5
  ·exact f6
  ·exact yM f1
 have a2:=fV g
 have a3:=fV f3
 have a4:=IZ d.x f2
 simp only[List.length_cons,List.length_nil]at a2
 unfold uJ
 simp only[List.length_append]
 omega
theorem I8: ∀l:List JN,(∀d∈l,kG d/\d.uid.size<=96/\d.ins.length<=12)->(fG l).length<=300*l.length+30*kL (l.map (·.x))
 |[],_=>by simp[fG]
 |d::l,h=>by
  have h1:=h d (.head _)
  have a:=XF h1.1 h1.2.1 h1.2.2
  have b:=I8 l fun e he=>h e (.tail _ he)
  unfold fG at*
  rw[List.flatMap_cons,List.length_append,List.map_cons,List.length_cons]
  unfold kL
  omega
theorem aan:o7:=fun j hf hm=>by
 have ho:tX j=true:=by rw[Tc,decide_eq_true hm]
 obtain⟨hh,hn⟩:=Jo ho
 unfold jk at hh
 simp only[Bool.or_eq_false_iff,decide_eq_false_iff_not]at hh
 obtain⟨⟨⟨⟨-,-⟩,-⟩,h12⟩,hc⟩:=hh
 rw[qW]at hc
 have hs:kL (j.nodes.map (·.x))<=1000:=by omega
 have each: ∀d∈j.nodes,kG d/\d.uid.size<=96/\d.ins.length<=12/\qh 17 d.x:=fun d hd=>by
  obtain⟨i,hi⟩:=List.getElem?_of_mem hd
  have hfd:=hf.2.1 d hd
  obtain⟨m1,m2,m3⟩:=VE hfd.2.1 (hn i d hi).1
  exact⟨hfd,VB m1,m2,m3⟩
 have hl:=I8 j.nodes fun d hd=>⟨(each d hd).1,(each d hd).2.1,(each d hd).2.2.1⟩
 refine⟨⟨hf.2.2,by omega,fun d hd=>?_,hm⟩,?_⟩
 ·obtain⟨⟨f1,f2,f3,f4,f5,f6,f7⟩,h1,h2,h3⟩:=each d hd
  have hu:d.uid.data.toList.length=d.uid.size:=by rw[Array.length_toList];rfl
  exact⟨by omega,f4,f5,f6,h2,f3,h3⟩
 ·have g: ∀v∈[j.par,Int.ofNat j.nodes.length],aS v:=by
   intro v hv
   simp only[List.mem_cons,List.not_mem_nil,or_false]at hv
   rcases hv with rfl|rfl
   ·exact hf.2.2
   ·exact yM hf.1
  have a:=fV g
  simp only[List.length_cons,List.length_nil]at a
  unfold mP
  rw[List.length_append]
  omega
end Sx
end
end Go.Proofs.YtakhobfamnjnoaaGreatDoor
