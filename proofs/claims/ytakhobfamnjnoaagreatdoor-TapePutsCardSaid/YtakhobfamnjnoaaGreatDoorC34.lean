/- Symbolic runs: the document's tapes, whether they may be; what is not too heavy is small. -/
import Derived.Test.YtakhobfamnjnoaaGreatDoorC33
set_option linter.unusedVariables false
set_option linter.unusedSimpArgs false
namespace Go.Proofs.YtakhobfamnjnoaaGreatDoor
section
namespace Sx
open Go Go.RowKit _root_.Go.Proofs.Tryz
set_option maxRecDepth 100000
set_option maxHeartbeats 4000000
def zh (j:Jb):Prop:=j.nodes.length<=1000/\ ∀d∈j.nodes,d.uid.size<=70000
def IG (t:Tp):Prop:=zh t.first/\ ∀a∈t.acts,zh a.j
def DX (a:Ac):Bool:=decide (a.part=0)&&(decide (a.key=0)&&decide (a.val=0))
theorem abt (a:Ac)(hk:0<=a.kind):bW a=(decide (0<=a.n)&&decide (a.n<=2147483647)&&decide (0<=a.m)&&decide (a.m<=2147483647)&&(
 if a.kind=0 then decide (a.n=0)&&decide (a.m=0)&&o8 a.j zJ&&(decide (a.part=0)||decide (a.part=1))
 else if a.kind=2\/a.kind=3 then decide (a.m=0)&&o8 a.j zJ&&DX a
 else if a.kind=4 then o8 a.j zJ&&DX a
 else if a.kind=5 then decide (a.m=0)&&DX a&&decide ((dB a.j).2=0)
 else if a.kind=1\/a.kind=6\/a.kind=7\/a.kind=8 then decide (a.n=0)&&decide (a.m=0)&&o8 a.j zJ&&DX a else false)):=by
 obtain⟨k,n,m,p,q,v,j⟩:=a
 dsimp only at hk
 rw[Bool.eq_iff_iff]
 unfold bW kH Bc ug DX
 dsimp only
 have hr:=H9 j
 by_cases h0:k=0
 ·subst h0
  simp only[if_true,Bool.and_eq_true,Bool.or_eq_true,decide_eq_true_eq]
  constructor
  ·rintro⟨⟨⟨⟨h1,h2⟩,⟨⟨⟨_,h3⟩,h4⟩,_⟩,h5⟩,h6⟩,h7⟩
   exact⟨⟨⟨⟨by omega,by omega⟩,by omega⟩,by omega⟩,⟨⟨h3,h4⟩,h5⟩,by omega⟩
  ·rintro⟨_,⟨⟨h3,h4⟩,h5⟩,h6⟩
   exact⟨⟨⟨⟨by omega,by omega⟩,⟨⟨⟨trivial,h3⟩,h4⟩,trivial,trivial,trivial⟩,h5⟩,by omega⟩,by omega⟩
 ·simp only[if_neg h0]
  by_cases h23:k=2\/k=3
  ·have h5:k≠5:=by omega
   simp only[if_neg h5,if_pos h23,Bool.and_eq_true,decide_eq_true_eq]
   constructor
   ·rintro⟨⟨⟨_,⟨⟨_,h4⟩,h6,h7,h8⟩,h9⟩,h10⟩,h11⟩
    exact⟨⟨⟨⟨by omega,by omega⟩,by omega⟩,by omega⟩,⟨h4,h9⟩,h6,h7,h8⟩
   ·rintro⟨⟨⟨⟨h1,h2⟩,h3⟩,h4⟩,⟨h6,h9⟩,h10⟩
    exact⟨⟨⟨by omega,⟨⟨⟨trivial,trivial⟩,h6⟩,h10⟩,h9⟩,by omega⟩,by omega⟩
  ·simp only[if_neg h23]
   by_cases h4:k=4
   ·subst h4
    simp only[show ¬(4:Int)=5 by omega,if_true,if_false,Bool.and_eq_true,decide_eq_true_eq]
    constructor
    ·rintro⟨⟨⟨_,⟨_,h6,h7,h8⟩,h9⟩,h10⟩,h11⟩
     exact⟨⟨⟨⟨by omega,by omega⟩,by omega⟩,by omega⟩,h9,h6,h7,h8⟩
    ·rintro⟨⟨⟨⟨h1,h2⟩,h3⟩,h4⟩,h9,h10⟩
     exact⟨⟨⟨by omega,⟨⟨⟨trivial,trivial⟩,trivial⟩,h10⟩,h9⟩,by omega⟩,by omega⟩
   ·simp only[if_neg h4]
    by_cases h5:k=5
    ·subst h5
     simp only[if_true,Bool.and_eq_true,decide_eq_true_eq,hr]
     constructor
     ·rintro⟨⟨⟨h1,⟨⟨_,h4⟩,h6,h7,h8⟩,_⟩,h10⟩,h11⟩
      exact⟨⟨⟨⟨by omega,by omega⟩,by omega⟩,by omega⟩,⟨h4,h6,h7,h8⟩,h1⟩
     ·rintro⟨⟨⟨⟨h1,h2⟩,h3⟩,h4⟩,⟨h6,h10⟩,h9⟩
      exact⟨⟨⟨h9,⟨⟨⟨trivial,trivial⟩,h6⟩,h10⟩,trivial⟩,by omega⟩,by omega⟩
    ·simp only[if_neg h5]
     by_cases h6:k=1\/k=6\/k=7\/k=8
     ·simp only[if_pos h6,Bool.and_eq_true,decide_eq_true_eq]
      constructor
      ·rintro⟨⟨⟨_,⟨⟨⟨_,h3⟩,h4⟩,h6,h7,h8⟩,h9⟩,h10⟩,h11⟩
       exact⟨⟨⟨⟨by omega,by omega⟩,by omega⟩,by omega⟩,⟨⟨h3,h4⟩,h9⟩,h6,h7,h8⟩
      ·rintro⟨⟨⟨⟨h1,h2⟩,h3⟩,h4⟩,⟨⟨h5,h6⟩,h9⟩,h10⟩
       exact⟨⟨⟨by omega,⟨⟨⟨trivial,h5⟩,h6⟩,h10⟩,h9⟩,by omega⟩,by omega⟩
     ·simp only[if_neg h6,Bool.and_eq_true,decide_eq_true_eq]
      constructor
      ·rintro⟨⟨⟨h1,_⟩,_⟩,_⟩
       omega
      ·rintro⟨_,h⟩
       exact absurd h (by simp)
section
variable {bx:{α:Type}->α->α} (hb: ∀{α:Type}(x:α),bx x=x)
include hb
theorem IZ (j:Jb)(hf:gX j)(hs:zh j):Ct prog 29 [jM bx j] [] fun r h=>r= .aK [.c (.p (.int .i64 (bx (dB j).1))), .c (.p (.int .i64 (bx (dB j).2)))]/\h=[]:=by
 have eb: @bx= @I0:=o9 hb
 subst eb
 refine Ct.pure func29 rfl rfl fun ρ O w xs H h=>?_
 cases h with|cons h1 t=>
  cases t
  obtain⟨a,rfl,ha⟩:=acV (fun b cs hb=>(H.fz b cs hb).1) hf h1
  exact⟨_,fun _=> .aK (xs:=[.int .i64 (dB j).1, .int .i64 (dB j).2]) (.cons (.c (.p rfl)) (.cons (.c (.p rfl)) .nil)),aa2 j a w ha hs.1 hs.2⟩
theorem YC (a b:Tp)(hf:fV a):Ct prog 12 [gV bx a,gV bx b] [] fun r h=>r= .a (.c (.p (.bool (bx (AB a b)))))/\h=[]:=ct hb func12 fun Q hQ K hK=>by
 have no: ∀{H:Hp},AB a b=false->K (.a (.c (.p .ff))) H:=fun h=>hK _ _ (.a (.c (.p (.bool (bx (AB a b)))))) [] (aS [] [] (he:=lF (by rw[hb];exact h))) ⟨rfl,rfl⟩
 have e:AB a b=(decide (a.bytes=b.bytes)&&decide (a.room=b.room)&&o8 a.first b.first&&lM a.acts b.acts):=rfl
 have hl:=hf.2.2.2.1
 cbv
 refine⟨fun h1=>?_,fun h1=>?_⟩<;>simp only[hb,pl]at h1
 ·cbv
  exact no (by simp[e,h1])
 cbv
 refine⟨fun h2=>?_,fun h2=>?_⟩<;>simp only[hb,pl]at h2
 ·cbv
  exact no (by simp[e,h2])
 cbv
 refine⟨fun h3=>?_,fun h3=>?_⟩<;>simp only[hb,pl]at h3
 ·cbv
  exact no (by
   have:lM a.acts b.acts=false:=by rw[<-Bool.not_eq_true];exact fun h=>h3 (Ib h)
   simp[e,this])
 cbv
 refine call hQ (PX hb a.first b.first hf.2.2.1) [] ?_
 rintro _ _ ⟨rfl,rfl⟩
 cbv
 refine⟨fun h4=>?_,fun h4=>?_⟩<;>simp only[hb,pl]at h4
 ·cbv
  exact no (by simp[e,h4])
 cbv
 refine loop hb (fun k=>k<=a.acts.length/\lM (a.acts.take k) (b.acts.take k)=true) (fun k=>a.acts.length-k) (fun k=>[(5, .a (.c (.p (.int .i64 (bx (Int.ofNat k))))))]) (fun _=>[]) 0 ⟨by omega,rfl⟩ (ent [] [.all 0, .all 1]) fun k hI=>?_
 cbv
 refine⟨fun hd=>?_,fun hd=>?_⟩<;>simp only[hb,pl]at hd
 ·obtain⟨x,hx⟩: ∃x,a.acts[k]?=some x:=⟨_,List.getElem?_eq_getElem hd⟩
  obtain⟨y,hy⟩: ∃y,b.acts[k]?=some y:=⟨_,List.getElem?_eq_getElem (by omega)⟩
  have en:ug x y=(decide (x.kind=y.kind)&&decide (x.n=y.n)&&decide (x.m=y.m)&&(decide (x.part=y.part)&&(decide (x.key=y.key)&&decide (x.val=y.val)))&&o8 x.j y.j):=rfl
  have hfx:=hf.2.2.2.2 x (List.mem_of_getElem? hx)
  have DY: ∀{H:Hp},ug x y=false->K (.a (.c (.p .ff))) H:=fun h=>no (by simp[e,VG hx hy h])
  cbv
  refine get (yL bx x) (gJ hb kZ rfl hx (qI hb x)) (chk (gK hb hd (by omega)) ?_)
  cbv
  refine get (yL bx y) (gJ hb kZ rfl hy (qI hb y)) (chk (gK hb (by omega) (by omega)) ?_)
  cbv
  refine⟨fun g1=>?_,fun g1=>?_⟩<;>simp only[hb,pl]at g1
  ·cbv
   exact DY (by simp[en,g1])
  cbv
  refine⟨fun g2=>?_,fun g2=>?_⟩<;>simp only[hb,pl]at g2
  ·cbv
   exact DY (by simp[en,g2])
  cbv
  refine⟨fun g3=>?_,fun g3=>?_⟩<;>simp only[hb,pl]at g3
  ·cbv
   exact DY (by simp[en,g3])
  cbv
  refine chk (by rw[hb,hQ];kernel_rfl) ?_
  cbv
  refine⟨fun g4=>?_,fun g4=>?_⟩<;>simp only[hb,allB,oq,Bool.and_true,pl]at g4
  ·cbv
   exact DY (by
    have:(decide (x.part=y.part)&&(decide (x.key=y.key)&&decide (x.val=y.val)))=false:=by
     rw[<-Bool.not_eq_true]
     first|simpa using g4|(rw[g4];simp)
    rw[en,this];simp)
  cbv
  refine call hQ (PX hb x.j y.j hfx.2.2.2.2.2.2.2) [] ?_
  rintro _ _ ⟨rfl,rfl⟩
  cbv
  refine⟨fun g5=>?_,fun g5=>?_⟩<;>simp only[hb,pl]at g5
  ·cbv
   exact DY (by simp[en,g5])
  ·have hup:=mQ hb (k:=k) (by omega)
   have he:ug x y=true:=by rw[en];simp[g1,g2,g3,g4,g5]
   cbv
   exact⟨k+1,⟨by omega,by rw[Ew hx hy,hI.2,he];rfl⟩,by omega,ent [] [.all 0, .all 1] (he:=by cbv;(repeat' (first|trivial|rfl|apply And.intro|exact hup)))⟩
 ·cbv
  have hk:k=a.acts.length:=by omega
  have h5:=hI.2
  rw[hk,List.take_of_length_le (Nat.le_refl _),List.take_of_length_le (by omega)]at h5
  exact hK _ _ (.a (.c (.p (.bool (bx (AB a b)))))) [] (aS [] [] (he:=vC (by rw[hb,e,h5];simp[h1,h2,h4]))) ⟨rfl,rfl⟩
end
end Sx
end
section
namespace Sx
open Go Go.RowKit _root_.Go.Proofs.Tryz
set_option maxRecDepth 100000
set_option maxHeartbeats 4000000
section
variable {bx:{α:Type}->α->α} (hb: ∀{α:Type}(x:α),bx x=x)
include hb
theorem ahh (a:Ac)(hf:mF a)(hs:zh a.j):Ct prog 30 [Tc bx a] [] fun r h=>r= .a (.c (.p (.bool (bx (bW a)))))/\h=[]:=ct hb func30 fun Q hQ K hK=>by
 have hM:=abt a hf.1
 have hj:=hf.2.2.2.2.2.2.2
 have ex:DX a=(decide (a.part=0)&&(decide (a.key=0)&&decide (a.val=0))):=rfl
 have no: ∀{H:Hp},bW a=false->K (.a (.c (.p .ff))) H:=fun h=>hK _ _ (.a (.c (.p (.bool (bx (bW a)))))) [] (aS [] [] (he:=lF (by rw[hb];exact h))) ⟨rfl,rfl⟩
 have yes: ∀{H:Hp},bW a=true->K (.a (.c (.p .tt))) H:=fun h=>hK _ _ (.a (.c (.p (.bool (bx (bW a)))))) [] (aS [] [] (he:=vC (by rw[hb];exact h))) ⟨rfl,rfl⟩
 have bl: ∀{H:Hp}(b:Bool),bW a=b->K (.a (.c (.p (.bool (bx b))))) H:=fun b h=>hK _ _ (.a (.c (.p (.bool (bx (bW a)))))) [] (aS [] [] (he:=vF (by simp only[hb];rw[h]))) ⟨rfl,rfl⟩
 cbv
 refine call hQ (IZ hb a.j hj hs) [] ?_
 rintro _ _ ⟨rfl,rfl⟩
 cbv
 refine call hQ (PX hb a.j zJ hj) [] ?_ (ha:=by cbv;(repeat' (first|trivial|rfl|apply And.intro|exact eP _|(simp[hb];done))))
 rintro _ _ ⟨rfl,rfl⟩
 cbv
 refine chk (by rw[hb,hQ];kernel_rfl) ?_
 have hx:oq false (allB [bx (decide (bx a.part=0)),bx (decide (bx a.key=0)),bx (decide (bx a.val=0))])=DX a:=by simp only[hb,ex,allB,oq,Bool.and_true]
 cbv
 refine⟨fun h1=>?_,fun h1=>?_⟩<;>simp only[hb,pl]at h1
 ·cbv
  exact no (by rw[hM];simp;omega)
 cbv
 refine⟨fun h2=>?_,fun h2=>?_⟩<;>simp only[hb,pl]at h2
 ·cbv
  exact no (by rw[hM];simp;omega)
 cbv
 refine⟨fun h3=>?_,fun h3=>?_⟩<;>simp only[hb,pl]at h3
 ·cbv
  exact no (by rw[hM];simp;omega)
 cbv
 refine⟨fun h4=>?_,fun h4=>?_⟩<;>simp only[hb,pl]at h4
 ·cbv
  exact no (by rw[hM];simp;omega)
 rw[decide_eq_true (show 0<=a.n by omega),decide_eq_true (show a.n<=2147483647 by omega),decide_eq_true (show 0<=a.m by omega),decide_eq_true (show a.m<=2147483647 by omega)]at hM
 simp only[Bool.true_and]at hM
 clear h1 h2 h3 h4
 cbv
 refine⟨fun k0=>?_,fun k0=>?_⟩<;>simp only[hb,pl]at k0
 ·rw[if_pos k0]at hM
  cbv
  refine⟨fun g1=>?_,fun g1=>?_⟩<;>simp only[hb,pl]at g1
  ·cbv
   refine⟨fun g2=>?_,fun g2=>?_⟩<;>simp only[hb,pl]at g2
   ·cbv
    refine⟨fun g3=>?_,fun g3=>?_⟩<;>simp only[hb,pl]at g3
    ·cbv
     refine⟨fun g4=>?_,fun g4=>?_⟩<;>simp only[hb,pl]at g4
     ·cbv
      exact yes (by rw[hM];simp[g1,g2,g3,g4])
     ·cbv
      exact bl _ (by rw[hM];simp[hb,g1,g2,g3,g4])
    ·cbv
     exact no (by rw[hM,g3];simp)
   ·cbv
    exact no (by rw[hM];simp[g2])
  ·cbv
   exact no (by rw[hM];simp[g1])
 rw[if_neg k0]at hM
 cbv
 refine⟨fun k2=>?_,fun k2=>?_⟩<;>simp only[hb,pl]at k2
 ·rw[if_pos (.inl k2)]at hM
  cbv
  refine⟨fun g1=>?_,fun g1=>?_⟩<;>simp only[hb,pl]at g1
  ·cbv
   refine⟨fun g2=>?_,fun g2=>?_⟩<;>simp only[hb,pl]at g2
   ·cbv
    exact bl _ (by rw[hM,<-hx];simp[hb,g1,g2])
   ·cbv
    exact no (by rw[hM];simp[g2])
  ·cbv
   exact no (by rw[hM];simp[g1])
 cbv
 refine⟨fun k3=>?_,fun k3=>?_⟩<;>simp only[hb,pl]at k3
 ·rw[if_pos (.inr k3)]at hM
  cbv
  refine⟨fun g1=>?_,fun g1=>?_⟩<;>simp only[hb,pl]at g1
  ·cbv
   refine⟨fun g2=>?_,fun g2=>?_⟩<;>simp only[hb,pl]at g2
   ·cbv
    exact bl _ (by rw[hM,<-hx];simp[hb,g1,g2])
   ·cbv
    exact no (by rw[hM];simp[g2])
  ·cbv
   exact no (by rw[hM];simp[g1])
 rw[if_neg (by omega)]at hM
 cbv
 refine⟨fun k4=>?_,fun k4=>?_⟩<;>simp only[hb,pl]at k4
 ·rw[if_pos k4]at hM
  cbv
  refine⟨fun g2=>?_,fun g2=>?_⟩<;>simp only[hb,pl]at g2
  ·cbv
   exact bl _ (by rw[hM,<-hx];simp[hb,g2])
  ·cbv
   exact no (by rw[hM];simp[g2])
 rw[if_neg k4]at hM
 cbv
 refine⟨fun k5=>?_,fun k5=>?_⟩<;>simp only[hb,pl]at k5
 ·rw[if_pos k5]at hM
  cbv
  refine⟨fun g1=>?_,fun g1=>?_⟩<;>simp only[hb,pl]at g1
  ·cbv
   refine⟨fun g2=>?_,fun g2=>?_⟩<;>rw[hb,hx]at g2
   ·cbv
    exact bl _ (by rw[hM];simp[hb,g1,g2])
   ·cbv
    exact no (by rw[hM];simp[g2])
  ·cbv
   exact no (by rw[hM];simp[g1])
 rw[if_neg k5]at hM
 have last:(a.kind=1\/a.kind=6\/a.kind=7\/a.kind=8)->bW a=(decide (a.n=0)&&decide (a.m=0)&&o8 a.j zJ&&DX a):=fun h=>by rw[hM,if_pos h]
 cbv
 refine⟨fun k1=>?_,fun k1=>?_⟩<;>simp only[hb,pl]at k1
 ·have hM:=last (by omega)
  cbv
  refine⟨fun g1=>?_,fun g1=>?_⟩<;>simp only[hb,pl]at g1
  ·cbv
   refine⟨fun g2=>?_,fun g2=>?_⟩<;>simp only[hb,pl]at g2
   ·cbv
    refine⟨fun g3=>?_,fun g3=>?_⟩<;>simp only[hb,pl]at g3
    ·cbv
     exact bl _ (by rw[hM,<-hx];simp[hb,g1,g2,g3])
    ·cbv
     exact no (by rw[hM,g3];simp)
   ·cbv
    exact no (by rw[hM];simp[g2])
  ·cbv
   exact no (by rw[hM];simp[g1])
 cbv
 refine⟨fun k6=>?_,fun k6=>?_⟩<;>simp only[hb,pl]at k6
 ·have hM:=last (by omega)
  cbv
  refine⟨fun g1=>?_,fun g1=>?_⟩<;>simp only[hb,pl]at g1
  ·cbv
   refine⟨fun g2=>?_,fun g2=>?_⟩<;>simp only[hb,pl]at g2
   ·cbv
    refine⟨fun g3=>?_,fun g3=>?_⟩<;>simp only[hb,pl]at g3
    ·cbv
     exact bl _ (by rw[hM,<-hx];simp[hb,g1,g2,g3])
    ·cbv
     exact no (by rw[hM,g3];simp)
   ·cbv
    exact no (by rw[hM];simp[g2])
  ·cbv
   exact no (by rw[hM];simp[g1])
 cbv
 refine⟨fun k7=>?_,fun k7=>?_⟩<;>simp only[hb,pl]at k7
 ·have hM:=last (by omega)
  cbv
  refine⟨fun g1=>?_,fun g1=>?_⟩<;>simp only[hb,pl]at g1
  ·cbv
   refine⟨fun g2=>?_,fun g2=>?_⟩<;>simp only[hb,pl]at g2
   ·cbv
    refine⟨fun g3=>?_,fun g3=>?_⟩<;>simp only[hb,pl]at g3
    ·cbv
     exact bl _ (by rw[hM,<-hx];simp[hb,g1,g2,g3])
    ·cbv
     exact no (by rw[hM,g3];simp)
   ·cbv
    exact no (by rw[hM];simp[g2])
  ·cbv
   exact no (by rw[hM];simp[g1])
 cbv
 refine⟨fun k8=>?_,fun k8=>?_⟩<;>simp only[hb,pl]at k8
 ·have hM:=last (by omega)
  cbv
  refine⟨fun g1=>?_,fun g1=>?_⟩<;>simp only[hb,pl]at g1
  ·cbv
   refine⟨fun g2=>?_,fun g2=>?_⟩<;>simp only[hb,pl]at g2
   ·cbv
    refine⟨fun g3=>?_,fun g3=>?_⟩<;>simp only[hb,pl]at g3
    ·cbv
     exact bl _ (by rw[hM,<-hx];simp[hb,g1,g2,g3])
    ·cbv
     exact no (by rw[hM,g3];simp)
   ·cbv
    exact no (by rw[hM];simp[g2])
  ·cbv
   exact no (by rw[hM];simp[g1])
 ·rw[if_neg (by omega)]at hM
  cbv
  exact no hM
theorem YL (t:Tp)(hf:fV t)(hs:IG t):Ct prog 10 [gV bx t] [] fun r h=>r= .a (.c (.p (.bool (bx (ig t)))))/\h=[]:=ct hb func10 fun Q hQ K hK=>by
 have no: ∀{H:Hp},ig t=false->K (.a (.c (.p .ff))) H:=fun h=>hK _ _ (.a (.c (.p (.bool (bx (ig t)))))) [] (aS [] [] (he:=lF (by rw[hb];exact h))) ⟨rfl,rfl⟩
 have e:ig t=(decide (1<=t.bytes)&&decide (t.bytes<=4194304)&&decide (1<=t.room)&&decide (t.room<=8)&&decide ((dB t.first).2=0)&&decide (t.acts.length<=2000)&&t.acts.all bW):=rfl
 obtain⟨f1,f2,f3,f4,f5⟩:=hf
 cbv
 refine call hQ (IZ hb t.first f3 hs.1) [] ?_
 rintro _ _ ⟨rfl,rfl⟩
 cbv
 refine⟨fun h1=>?_,fun h1=>?_⟩<;>simp only[hb,pl]at h1
 ·cbv
  exact no (by rw[e,decide_eq_false (show ¬1<=t.bytes by omega)];simp)
 cbv
 refine⟨fun h2=>?_,fun h2=>?_⟩<;>simp only[hb,pl]at h2
 ·cbv
  exact no (by rw[e,decide_eq_false (show ¬t.bytes<=4194304 by omega)];simp)
 cbv
 refine⟨fun h3=>?_,fun h3=>?_⟩<;>simp only[hb,pl]at h3
 ·cbv
  exact no (by rw[e,decide_eq_false (show ¬1<=t.room by omega)];simp)
 cbv
 refine⟨fun h4=>?_,fun h4=>?_⟩<;>simp only[hb,pl]at h4
 ·cbv
  exact no (by rw[e,decide_eq_false (show ¬t.room<=8 by omega)];simp)
 cbv
 refine⟨fun h5=>?_,fun h5=>?_⟩<;>simp only[hb,pl]at h5
 ·cbv
  exact no (by rw[e];simp[h5])
 cbv
 refine⟨fun h6=>?_,fun h6=>?_⟩<;>simp only[hb,pl]at h6
 ·cbv
  have h7:2000<Int.ofNat t.acts.length:=h6
  simp only[Int.ofNat_eq_natCast]at h7
  exact no (by rw[e,decide_eq_false (show ¬t.acts.length<=2000 by omega)];simp)
 have h7: ¬2000<Int.ofNat t.acts.length:=h6
 simp only[Int.ofNat_eq_natCast]at h7
 have e2:ig t=t.acts.all bW:=by
  rw[e,decide_eq_true (show 1<=t.bytes by omega),decide_eq_true (show t.bytes<=4194304 by omega),decide_eq_true (show 1<=t.room by omega),decide_eq_true (show t.room<=8 by omega),decide_eq_true h5,decide_eq_true (show t.acts.length<=2000 by omega)]
  simp
 cbv
 refine loop hb (fun k=>k<=t.acts.length/\(t.acts.take k).all bW=true) (fun k=>t.acts.length-k) (fun k=>[(5, .a (.c (.p (.int .i64 (bx (Int.ofNat k))))))]) (fun _=>[]) 0 ⟨by omega,rfl⟩ (ent [] [.all 0]) fun k hI=>?_
 cbv
 refine⟨fun hd=>?_,fun hd=>?_⟩<;>simp only[hb,pl]at hd
 ·obtain⟨x,hx⟩: ∃x,t.acts[k]?=some x:=⟨_,List.getElem?_eq_getElem hd⟩
  have hm:=List.mem_of_getElem? hx
  cbv
  refine get (yL bx x) (gJ hb kZ rfl hx (qI hb x)) (chk (gK hb hd (by omega)) ?_)
  cbv
  refine call hQ (ahh hb x (f5 x hm) (hs.2 x hm)) [] ?_
  rintro _ _ ⟨rfl,rfl⟩
  cbv
  refine⟨fun he=>?_,fun he=>?_⟩<;>simp only[hb,pl]at he
  ·cbv
   exact no (by rw[e2,List.all_eq_false];exact⟨x,hm,by simp[he]⟩)
  ·have hup:=mQ hb (k:=k) (by omega)
   cbv
   exact⟨k+1,⟨by omega,by rw[List.take_add_one,hx,List.all_append,hI.2];simp[he]⟩,by omega,ent [] [.all 0] (he:=by cbv;(repeat' (first|trivial|rfl|apply And.intro|exact hup)))⟩
 ·cbv
  have hk:k=t.acts.length:=by omega
  have h7:=hI.2
  rw[hk,List.take_of_length_le (Nat.le_refl _)]at h7
  exact hK _ _ (.a (.c (.p (.bool (bx (ig t)))))) [] (aS [] [] (he:=vC (by rw[hb,e2];exact h7))) ⟨rfl,rfl⟩
end
end Sx
end
end Go.Proofs.YtakhobfamnjnoaaGreatDoor
