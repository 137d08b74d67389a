/- Symbolic runs: tapes that may be. -/
import Derived.Test.YtakhobfamnjnoaaGreatDoorC23
set_option linter.unusedVariables false
set_option linter.unusedSimpArgs false
namespace Go.Proofs.YtakhobfamnjnoaaGreatDoor
section
namespace Sx
open Go Go.RowKit _root_.Go.Proofs.Tryz
set_option maxRecDepth 100000
theorem uO (a b:Int):Jt true a b=min a b:=by unfold Jt;simp only;split<;>omega
theorem LG (a b:Int):Jt false a b=max a b:=by unfold Jt;simp only;split<;>omega
structure Ac where
 kind:Int
 n:Int
 m:Int
 part:Int
 key:Int
 val:Int
 j:Jb
structure Tp where
 bytes:Int
 room:Int
 first:Jb
 acts:List Ac
def wz (a:Ac):List PV:=[.int .u8 a.kind, .int .i64 a.n, .int .i64 a.m, .int .i64 a.part, .int .i64 a.key, .int .i64 a.val, .int .i64 a.j.par, .fz a.j.nodes.length (dI a.j.nodes)]
theorem kZ (a:Ac):(wz a).length=8:=rfl
def jm (l:List Ac):List PV:=l.flatMap wz
def ug (a b:Ac):Bool:=decide (a.kind=b.kind)&&decide (a.n=b.n)&&decide (a.m=b.m)&&(decide (a.part=b.part)&&(decide (a.key=b.key)&&decide (a.val=b.val)))&&o8 a.j b.j
def lM:List Ac->List Ac->Bool
 |[],[]=>true
 |a::l,b::m=>ug a b&&lM l m
 |_,_=>false
def AB (a b:Tp):Bool:=decide (a.bytes=b.bytes)&&decide (a.room=b.room)&&o8 a.first b.first&&lM a.acts b.acts
theorem Ib: ∀{a b:List Ac},lM a b=true->a.length=b.length
 |[],[],_=>rfl
 |x::a,y::b,h=>by
  simp only[lM,Bool.and_eq_true]at h
  rw[List.length_cons,List.length_cons,Ib h.2]
 |[],_::_,h=>by cases h
 |_::_,[],h=>by cases h
theorem Ew: ∀{a b:List Ac}{k:Nat}{x y:Ac},a[k]?=some x->b[k]?=some y->lM (a.take (k+1)) (b.take (k+1))=(lM (a.take k) (b.take k)&&ug x y)
 |[],_,_,_,_,h,_=>by simp at h
 |_::_,[],_,_,_,_,h=>by simp at h
 |u::a,v::b,0,x,y,h1,h2=>by
  simp at h1 h2;subst h1 h2
  simp[lM]
 |u::a,v::b,k+1,x,y,h1,h2=>by
  have:=Ew (a:=a) (b:=b) (k:=k) (by simpa using h1) (by simpa using h2)
  simp only[List.take_succ_cons,lM]at this⊢
  rw[this,Bool.and_assoc]
theorem VG {a b:List Ac}{k:Nat}{x y:Ac}(h1:a[k]?=some x)(h2:b[k]?=some y)(h:ug x y=false):lM a b=false:=by
 induction a generalizing b k with
 |nil=>simp at h1
 |cons u a ih=>cases b with
  |nil=>rfl
  |cons v b=>cases k with
   |zero=>simp at h1 h2;subst h1 h2;simp[lM,h]
   |succ k=>simp only[lM];rw[ih (by simpa using h1) (by simpa using h2),Bool.and_false]
abbrev zJ:Jb:=⟨0,[]⟩
def Bc (a:Ac):Ac:=if a.kind=0 then⟨a.kind,0,0,a.part,a.key,a.val,zJ⟩else if a.kind=2\/a.kind=3 then⟨a.kind,a.n,0,0,0,0,zJ⟩else if a.kind=4 then⟨a.kind,a.n,a.m,0,0,0,zJ⟩else if a.kind=5 then⟨a.kind,a.n,0,0,0,0,a.j⟩else⟨a.kind,0,0,0,0,0,zJ⟩
def kH (a:Ac):Bool:=if a.kind=0 then decide (0<=a.part)&&decide (a.part<2)else if a.kind=5 then decide ((dB a.j).2=0)else decide (a.kind<=8)
def bW (a:Ac):Bool:=kH a&&ug a (Bc a)&&decide (0<=min a.n a.m)&&decide (max a.n a.m<=2147483647)
def ig (t:Tp):Bool:=decide (1<=t.bytes)&&decide (t.bytes<=4194304)&&decide (1<=t.room)&&decide (t.room<=8)&&decide ((dB t.first).2=0)&&decide (t.acts.length<=2000)&&t.acts.all bW
def mF (a:Ac):Prop:=0<=a.kind/\a.kind<=255/\aO a.n/\aO a.m/\aO a.part/\aO a.key/\aO a.val/\gX a.j
def fV (t:Tp):Prop:=aO t.bytes/\aO t.room/\gX t.first/\t.acts.length<4611686018427387904/\ ∀a∈t.acts,mF a
section
variable (bx:{α:Type}->α->α)
def yL (a:Ac):List PV:=[.int .u8 (bx a.kind), .int .i64 (bx a.n), .int .i64 (bx a.m), .int .i64 (bx a.part), .int .i64 (bx a.key), .int .i64 (bx a.val), .int .i64 (bx a.j.par), .fz (bx a.j.nodes.length) (bx (dI a.j.nodes))]
def Tc (a:Ac):AV:= .agg [.p (.int .u8 (bx a.kind)), .p (.int .i64 (bx a.n)), .p (.int .i64 (bx a.m)), .p (.int .i64 (bx a.part)), .p (.int .i64 (bx a.key)), .p (.int .i64 (bx a.val)), .p (.int .i64 (bx a.j.par)), .p (.fz (bx a.j.nodes.length) (bx (dI a.j.nodes)))]
def gV (t:Tp):AV:= .agg [.p (.int .i64 (bx t.bytes)), .p (.int .i64 (bx t.room)), .p (.int .i64 (bx t.first.par)), .p (.fz (bx t.first.nodes.length) (bx (dI t.first.nodes))), .p (.fz (bx t.acts.length) (bx (jm t.acts)))]
end
section
variable {bx:{α:Type}->α->α} (hb: ∀{α:Type}(x:α),bx x=x)
include hb
theorem qI (a:Ac):yL bx a=wz a:=by simp only[yL,hb,wz]
theorem xM (x y:Ac)(hx:gX x.j):Ct prog 33 [Tc bx x,Tc bx y] [] fun r h=>r= .a (.c (.p (.bool (bx (ug x y)))))/\h=[]:=ct hb func33 fun Q hQ K hK=>by
 have no: ∀{H:Hp},ug x y=false->K (.a (.c (.p .ff))) H:=fun h=>hK _ _ (.a (.c (.p (.bool (bx (ug x y)))))) [] (aS [] [] (he:=lF (by rw[hb];exact h))) ⟨rfl,rfl⟩
 have e:ug x y=(decide (x.kind=y.kind)&&decide (x.n=y.n)&&decide (x.m=y.m)&&(decide (x.part=y.part)&&(decide (x.key=y.key)&&decide (x.val=y.val)))&&o8 x.j y.j):=rfl
 cbv
 refine⟨fun h1=>?_,fun h1=>?_⟩<;>simp only[hb,pl]at h1
 ·cbv
  refine⟨fun h2=>?_,fun h2=>?_⟩<;>simp only[hb,pl]at h2
  ·cbv
   refine⟨fun h3=>?_,fun h3=>?_⟩<;>simp only[hb,pl]at h3
   ·cbv
    refine chk (by rw[hb,hQ];kernel_rfl) ?_
    cbv
    refine⟨fun h4=>?_,fun h4=>?_⟩<;>simp only[hb,allB,oq,Bool.and_true,pl]at h4
    ·cbv
     refine call hQ (YB hb x.j y.j hx) [] ?_
     rintro _ _ ⟨rfl,rfl⟩
     cbv
     exact hK _ _ (.a (.c (.p (.bool (bx (ug x y)))))) [] (aS [] [] (he:=vF (by simp[hb,e,h1,h2,h3,h4]))) ⟨rfl,rfl⟩
    ·cbv
     exact no (by rw[e,h4];simp)
   ·cbv
    exact no (by simp[e,h3])
  ·cbv
   exact no (by simp[e,h2])
 ·cbv
  exact no (by simp[e,h1])
theorem ahx (a b:List Ac)(hl:a.length<4611686018427387904)(hf: ∀d∈a,mF d):Ct prog 32 [.c (.p (.fz (bx a.length) (bx (jm a)))), .c (.p (.fz (bx b.length) (bx (jm b)))), .c (.p (.fn 33))] [] fun r h=>r= .a (.c (.p (.bool (bx (lM a b)))))/\h=[]:=ct hb func32 fun Q hQ K hK=>by
 have no: ∀{H:Hp},lM a b=false->K (.a (.c (.p .ff))) H:=fun h=>hK _ _ (.a (.c (.p (.bool (bx (lM a b)))))) [] (aS [] [] (he:=lF (by rw[hb];exact h))) ⟨rfl,rfl⟩
 cbv
 refine⟨fun hc=>?_,fun hc=>?_⟩<;>simp only[hb,pl]at hc
 ·cbv
  exact no (by rw[<-Bool.not_eq_true];exact fun h=>hc (Ib h))
 ·cbv
  refine loop hb (fun k=>k<=a.length/\lM (a.take k) (b.take k)=true) (fun k=>a.length-k) (fun k=>[(17, .a (.c (.p (.int .i64 (bx (Int.ofNat k))))))]) (fun _=>[]) 0 ⟨by omega,rfl⟩ (ent [] []) fun k hI=>?_
  cbv
  refine⟨fun hd=>?_,fun hd=>?_⟩<;>simp only[hb,pl]at hd
  ·obtain⟨x,hx⟩: ∃x,a[k]?=some x:=⟨_,List.getElem?_eq_getElem hd⟩
   obtain⟨y,hy⟩: ∃y,b[k]?=some y:=⟨_,List.getElem?_eq_getElem (by omega)⟩
   cbv
   refine get (yL bx x) (gJ hb kZ rfl hx (qI hb x)) (chk (gK hb hd (by omega)) ?_)
   cbv
   refine get (yL bx y) (gJ hb kZ rfl hy (qI hb y)) (chk (gK hb (by omega) (by omega)) ?_)
   cbv
   refine call hQ (xM hb x y (hf x (List.mem_of_getElem? hx)).2.2.2.2.2.2.2) [] ?_
   rintro _ _ ⟨rfl,rfl⟩
   cbv
   refine⟨fun he=>?_,fun he=>?_⟩<;>simp only[hb,pl]at he
   ·cbv
    exact no (VG hx hy he)
   ·have hu:=mQ hb (k:=k) (by omega)
    cbv
    exact⟨k+1,⟨by omega,by rw[Ew hx hy,hI.2,he];rfl⟩,by omega,ent [] [] (he:=by cbv;(repeat' (first|trivial|rfl|apply And.intro|exact hu)))⟩
  ·cbv
   have hk:k=a.length:=by omega
   have h1:=hI.2
   rw[hk,List.take_of_length_le (Nat.le_refl _),List.take_of_length_le (by omega)]at h1
   exact hK _ _ (.a (.c (.p (.bool (bx (lM a b)))))) [] (aS [] [] (he:=vC (by rw[hb];exact h1))) ⟨rfl,rfl⟩
theorem aeO (a b:Tp)(hf:fV a):Ct prog 11 [gV bx a,gV bx b] [] fun r h=>r= .a (.c (.p (.bool (bx (AB a b)))))/\h=[]:=ct hb func11 fun Q hQ K hK=>by
 have no: ∀{H:Hp},AB a b=false->K (.a (.c (.p .ff))) H:=fun h=>hK _ _ (.a (.c (.p (.bool (bx (AB a b)))))) [] (aS [] [] (he:=lF (by rw[hb];exact h))) ⟨rfl,rfl⟩
 have e:AB a b=(decide (a.bytes=b.bytes)&&decide (a.room=b.room)&&o8 a.first b.first&&lM a.acts b.acts):=rfl
 cbv
 refine⟨fun h1=>?_,fun h1=>?_⟩<;>simp only[hb,pl]at h1
 ·cbv
  refine⟨fun h2=>?_,fun h2=>?_⟩<;>simp only[hb,pl]at h2
  ·cbv
   refine call hQ (YB hb a.first b.first hf.2.2.1) [] ?_
   rintro _ _ ⟨rfl,rfl⟩
   cbv
   refine⟨fun h3=>?_,fun h3=>?_⟩<;>simp only[hb,pl]at h3
   ·cbv
    refine call hQ (ahx hb a.acts b.acts hf.2.2.2.1 hf.2.2.2.2) [] ?_
    rintro _ _ ⟨rfl,rfl⟩
    cbv
    exact hK _ _ (.a (.c (.p (.bool (bx (AB a b)))))) [] (aS [] [] (he:=vF (by simp[hb,e,h1,h2,h3]))) ⟨rfl,rfl⟩
   ·cbv
    exact no (by simp[e,h3])
  ·cbv
   exact no (by simp[e,h2])
 ·cbv
  exact no (by simp[e,h1])
theorem ahl (a:Ac)(hf:mF a):Ct prog 28 [Tc bx a] [] fun r h=>r= .a (.c (.p (.bool (bx (bW a)))))/\h=[]:=ct hb func28 fun Q hQ K hK=>by
 obtain⟨u,eu⟩: ∃u,Bc a=u:=⟨_,rfl⟩
 have no: ∀{H:Hp},bW a=false->K (.a (.c (.p .ff))) H:=fun h=>hK _ _ (.a (.c (.p (.bool (bx (bW a)))))) [] (aS [] [] (he:=lF (by rw[hb];exact h))) ⟨rfl,rfl⟩
 have k1: ∀{H:Hp},kH a=true->ug a u=true->0<=Jt true a.n a.m->K (.a (.c (.p (.bool (bx (decide (bx (Jt false (bx a.n) (bx a.m))<=2147483647))))))) H:=fun h1 h2 h3=>hK _ _ (.a (.c (.p (.bool (bx (bW a)))))) [] (aS [] [] (he:=vF (by
  unfold bW
  rw[eu,h1,h2,<-uO,<-LG,decide_eq_true h3];simp[hb]))) ⟨rfl,rfl⟩
 have hj:=hf.2.2.2.2.2.2.2
 cbv
 refine⟨fun h0=>?_,fun h0=>?_⟩<;>simp only[hb,pl]at h0
 ·have hg:kH a=(decide (0<=a.part)&&decide (a.part<2)):=if_pos h0
  have hu:u=⟨a.kind,0,0,a.part,a.key,a.val,zJ⟩:=eu.symm.trans (if_pos h0)
  cbv
  refine⟨fun h1=>?_,fun h1=>?_⟩<;>simp only[hb,pl]at h1
  ·have hg:kH a=decide (a.part<2):=by simp[hg,h1]
   cbv
   refine⟨fun h2=>?_,fun h2=>?_⟩<;>simp only[hb,pl]at h2
   ·replace hg:kH a=true:=by simp[hg,h2]
    clear h2
    cbv
    refine call hQ (xM hb a u hf.2.2.2.2.2.2.2) [] ?_ (ha:=by cbv;(repeat' (first|trivial|rfl|apply And.intro|exact eP _|(simp[hb,hu];done))))
    rintro _ _ ⟨rfl,rfl⟩
    cbv
    refine⟨fun h3=>?_,fun h3=>?_⟩<;>simp only[hb]at h3
    ·cbv
     refine⟨fun h4=>?_,fun h4=>?_⟩<;>simp only[hb,pl]at h4
     ·cbv
      exact k1 hg h3 h4
     ·cbv
      exact no (by simp[bW,<-uO,h4])
    ·cbv
     exact no (by simp[bW,eu,h3])
   ·cbv
    exact no (by simp[bW,hg,h2])
  ·cbv
   exact no (by simp[bW,hg,h1])
 ·have hg0:kH a=if a.kind=5 then decide ((dB a.j).2=0)else decide (a.kind<=8):=if_neg h0
  have hu0:=eu.symm.trans (if_neg h0)
  cbv
  refine⟨fun h1=>?_,fun h1=>?_⟩<;>simp only[hb,pl]at h1
  ·have hg:kH a=decide (a.kind<=8):=hg0.trans (if_neg (by omega))
   have hu:u=⟨a.kind,a.n,0,0,0,0,zJ⟩:=hu0.trans (if_pos (.inl h1))
   cbv
   refine⟨fun h2=>?_,fun h2=>?_⟩<;>simp only[hb,pl]at h2
   ·replace hg:kH a=true:=by simp[hg,h2]
    clear h2
    cbv
    refine call hQ (xM hb a u hf.2.2.2.2.2.2.2) [] ?_ (ha:=by cbv;(repeat' (first|trivial|rfl|apply And.intro|exact eP _|(simp[hb,hu];done))))
    rintro _ _ ⟨rfl,rfl⟩
    cbv
    refine⟨fun h3=>?_,fun h3=>?_⟩<;>simp only[hb]at h3
    ·cbv
     refine⟨fun h4=>?_,fun h4=>?_⟩<;>simp only[hb,pl]at h4
     ·cbv
      exact k1 hg h3 h4
     ·cbv
      exact no (by simp[bW,<-uO,h4])
    ·cbv
     exact no (by simp[bW,eu,h3])
   ·cbv
    exact no (by simp[bW,hg,h2])
  ·cbv
   refine⟨fun h5=>?_,fun h5=>?_⟩<;>simp only[hb,pl]at h5
   ·have hg:kH a=decide (a.kind<=8):=hg0.trans (if_neg (by omega))
    have hu:u=⟨a.kind,a.n,0,0,0,0,zJ⟩:=hu0.trans (if_pos (.inr h5))
    cbv
    refine⟨fun h2=>?_,fun h2=>?_⟩<;>simp only[hb,pl]at h2
    ·replace hg:kH a=true:=by simp[hg,h2]
     clear h2
     cbv
     refine call hQ (xM hb a u hf.2.2.2.2.2.2.2) [] ?_ (ha:=by cbv;(repeat' (first|trivial|rfl|apply And.intro|exact eP _|(simp[hb,hu];done))))
     rintro _ _ ⟨rfl,rfl⟩
     cbv
     refine⟨fun h3=>?_,fun h3=>?_⟩<;>simp only[hb]at h3
     ·cbv
      refine⟨fun h4=>?_,fun h4=>?_⟩<;>simp only[hb,pl]at h4
      ·cbv
       exact k1 hg h3 h4
      ·cbv
       exact no (by simp[bW,<-uO,h4])
     ·cbv
      exact no (by simp[bW,eu,h3])
    ·cbv
     exact no (by simp[bW,hg,h2])
   ·have hu0:=hu0.trans (if_neg (by omega))
    cbv
    refine⟨fun h6=>?_,fun h6=>?_⟩<;>simp only[hb,pl]at h6
    ·have hg:kH a=decide (a.kind<=8):=hg0.trans (if_neg (by omega))
     have hu:u=⟨a.kind,a.n,a.m,0,0,0,zJ⟩:=hu0.trans (if_pos h6)
     cbv
     refine draw hb hQ eU [] ?_
     cbv
     refine⟨fun h2=>?_,fun h2=>?_⟩<;>simp only[hb,pl]at h2
     ·replace hg:kH a=true:=by simp[hg,h2]
      clear h2
      cbv
      refine call hQ (xM hb a u hf.2.2.2.2.2.2.2) [] ?_ (ha:=by cbv;(repeat' (first|trivial|rfl|apply And.intro|exact eP _|(simp[hb,hu];done))))
      rintro _ _ ⟨rfl,rfl⟩
      cbv
      refine⟨fun h3=>?_,fun h3=>?_⟩<;>simp only[hb]at h3
      ·cbv
       refine⟨fun h4=>?_,fun h4=>?_⟩<;>simp only[hb,pl]at h4
       ·cbv
        exact k1 hg h3 h4
       ·cbv
        exact no (by simp[bW,<-uO,h4])
      ·cbv
       exact no (by simp[bW,eu,h3])
     ·cbv
      exact no (by simp[bW,hg,h2])
    ·have hu0:=hu0.trans (if_neg h6)
     cbv
     refine⟨fun h7=>?_,fun h7=>?_⟩<;>simp only[hb,pl]at h7
     ·have hg:kH a=decide ((dB a.j).2=0):=hg0.trans (if_pos h7)
      have hu:u=⟨a.kind,a.n,0,0,0,0,a.j⟩:=hu0.trans (if_pos h7)
      cbv
      refine draw hb hQ eU [] ?_
      cbv
      refine call hQ (OO hb a.j hj) [] ?_
      rintro _ _ ⟨rfl,rfl⟩
      cbv
      refine⟨fun h2=>?_,fun h2=>?_⟩<;>simp only[hb,pl]at h2
      ·replace hg:kH a=true:=by simp[hg,h2]
       clear h2
       cbv
       refine call hQ (xM hb a u hf.2.2.2.2.2.2.2) [] ?_ (ha:=by cbv;(repeat' (first|trivial|rfl|apply And.intro|exact eP _|(simp[hb,hu];done))))
       rintro _ _ ⟨rfl,rfl⟩
       cbv
       refine⟨fun h3=>?_,fun h3=>?_⟩<;>simp only[hb]at h3
       ·cbv
        refine⟨fun h4=>?_,fun h4=>?_⟩<;>simp only[hb,pl]at h4
        ·cbv
         exact k1 hg h3 h4
        ·cbv
         exact no (by simp[bW,<-uO,h4])
       ·cbv
        exact no (by simp[bW,eu,h3])
      ·cbv
       exact no (by simp[bW,hg,h2])
     ·have hg:kH a=decide (a.kind<=8):=hg0.trans (if_neg h7)
      have hu:u=⟨a.kind,0,0,0,0,0,zJ⟩:=hu0.trans (if_neg h7)
      cbv
      refine⟨fun h2=>?_,fun h2=>?_⟩<;>simp only[hb,pl]at h2
      ·replace hg:kH a=true:=by simp[hg,h2]
       clear h2
       cbv
       refine call hQ (xM hb a u hf.2.2.2.2.2.2.2) [] ?_ (ha:=by cbv;(repeat' (first|trivial|rfl|apply And.intro|exact eP _|(simp[hb,hu];done))))
       rintro _ _ ⟨rfl,rfl⟩
       cbv
       refine⟨fun h3=>?_,fun h3=>?_⟩<;>simp only[hb]at h3
       ·cbv
        refine⟨fun h4=>?_,fun h4=>?_⟩<;>simp only[hb,pl]at h4
        ·cbv
         exact k1 hg h3 h4
        ·cbv
         exact no (by simp[bW,<-uO,h4])
       ·cbv
        exact no (by simp[bW,eu,h3])
      ·cbv
       exact no (by simp[bW,hg,h2])
end
end Sx
end
section
namespace Sx
open Go Go.RowKit _root_.Go.Proofs.Tryz
set_option maxRecDepth 100000
def rO (l:List Ac):Int:=match l.findIdx? (fun a=>!bW a)with|some i=>(i:Int)|none=> -1
theorem Rj {l:List Ac}(h:l.all bW=true):rO l= -1:=by
 unfold rO
 have:l.findIdx? (fun a=>!bW a)=none:=by
  rw[List.findIdx?_eq_none_iff]
  intro x hx
  simp[List.all_eq_true.1 h x hx]
 rw[this]
theorem ad4 {l:List Ac}{k:Nat}{x:Ac}(hx:l[k]?=some x)(h:(l.take k).all bW=true)(hm:bW x=false):rO l=k/\l.all bW=false:=by
 have hk:=(List.getElem?_eq_some_iff.1 hx).1
 have hg:=(List.getElem?_eq_some_iff.1 hx).2
 have:l.findIdx? (fun a=>!bW a)=some k:=by
  rw[List.findIdx?_eq_some_iff_getElem]
  refine⟨hk,by rw[hg,hm];rfl,fun j hj=>?_⟩
  have:=List.all_eq_true.1 h l[j] (by rw[List.mem_take_iff_getElem];exact⟨j,by omega,rfl⟩)
  simp[this]
 refine⟨by unfold rO;rw[this],?_⟩
 rw[List.all_eq_false]
 exact⟨x,List.mem_of_getElem? hx,by simp[hm]⟩
theorem acg {l:List Ac}{k:Nat}{x:Ac}(hx:l[k]?=some x):(l.take (k+1)).all bW=((l.take k).all bW&&bW x):=by
 rw[List.take_add_one,hx,List.all_append]
 simp
section
variable {bx:{α:Type}->α->α} (hb: ∀{α:Type}(x:α),bx x=x)
include hb
theorem ahi (a:Ac)(hf:mF a):Ct prog 27 [Tc bx a] [] fun r h=>r= .a (.c (.p (.bool (bx (!bW a)))))/\h=[]:=ct hb func27 fun Q hQ K hK=>by
 cbv
 refine call hQ (ahl hb a hf) [] ?_
 rintro _ _ ⟨rfl,rfl⟩
 cbv
 exact hK _ _ (.a (.c (.p (.bool (bx (!bW a)))))) [] (aS [] [] (he:=vF (by simp[hb]))) ⟨rfl,rfl⟩
theorem aho (l:List Ac)(hl:l.length<4611686018427387904)(hf: ∀a∈l,mF a):Ct prog 61 [.c (.p (.fz (bx l.length) (bx (jm l)))), .c (.p (.fn 27))] [] fun r h=>r= .a (.c (.p (.int .i64 (bx (rO l)))))/\h=[]:=ct hb func61 fun Q hQ K hK=>by
 cbv
 refine loop hb (fun k=>k<=l.length/\(l.take k).all bW=true) (fun k=>l.length-k) (fun k=>[(8, .a (.c (.p (.int .i64 (bx (Int.ofNat k))))))]) (fun _=>[]) 0 ⟨by omega,rfl⟩ (ent [] []) fun k hI=>?_
 cbv
 refine⟨fun hd=>?_,fun hd=>?_⟩<;>simp only[hb,pl]at hd
 ·obtain⟨x,hx⟩: ∃x,l[k]?=some x:=⟨_,List.getElem?_eq_getElem hd⟩
  cbv
  refine get (yL bx x) (gJ hb kZ rfl hx (qI hb x)) (chk (gK hb hd (by omega)) ?_)
  cbv
  refine call hQ (ahi hb x (hf x (List.mem_of_getElem? hx))) [] ?_
  rintro _ _ ⟨rfl,rfl⟩
  cbv
  refine⟨fun he=>?_,fun he=>?_⟩<;>simp only[hb,pl]at he
  ·cbv
   exact hK _ _ (.a (.c (.p (.int .i64 (bx (rO l)))))) [] (aS [] [] (he:=ad1 (by simp only[hb];rw[(ad4 hx hI.2 he).1];rfl))) ⟨rfl,rfl⟩
  ·have hu:=mQ hb (k:=k) (by omega)
   cbv
   exact⟨k+1,⟨by omega,by rw[acg hx,hI.2,he];rfl⟩,by omega,ent [] [] (he:=by cbv;(repeat' (first|trivial|rfl|apply And.intro|exact hu)))⟩
 ·cbv
  have hk:k=l.length:=by omega
  have h1:=hI.2
  rw[hk,List.take_of_length_le (Nat.le_refl _)]at h1
  exact hK _ _ (.a (.c (.p (.int .i64 (bx (rO l)))))) [] (aS [] [] (he:=by cbv;rw[hb];exact Rj h1)) ⟨rfl,rfl⟩
theorem ahu (l:List Ac)(hl:l.length<4611686018427387904)(hf: ∀a∈l,mF a):Ct prog 26 [.c (.p (.fz (bx l.length) (bx (jm l)))), .c (.p (.fn 27))] [] fun r h=>r= .a (.c (.p (.bool (bx (decide (0<=rO l))))))/\h=[]:=ct hb func26 fun Q hQ K hK=>by
 cbv
 refine call hQ (aho hb l hl hf) [] ?_
 rintro _ _ ⟨rfl,rfl⟩
 cbv
 exact hK _ _ (.a (.c (.p (.bool (bx (decide (0<=rO l))))))) [] (aS [] [] (he:=vF (by simp[hb]))) ⟨rfl,rfl⟩
omit hb in
theorem afG (l:List Ac):(!decide (0<=rO l))=l.all bW:=by
 by_cases h:l.all bW=true
 ·rw[Rj h,h];rfl
 ·have h':l.all bW=false:=by simpa using h
  rw[h']
  unfold rO
  cases hi:l.findIdx? (fun a=>!bW a)with
  |none=>
   rw[List.findIdx?_eq_none_iff]at hi
   exact absurd (List.all_eq_true.2 fun x hx=>by simpa using hi x hx) h
  |some i=>simp
theorem afu (t:Tp)(hf:fV t):Ct prog 9 [gV bx t] [] fun r h=>r= .a (.c (.p (.bool (bx (ig t)))))/\h=[]:=ct hb func9 fun Q hQ K hK=>by
 have no: ∀{H:Hp},ig t=false->K (.a (.c (.p .ff))) H:=fun h=>hK _ _ (.a (.c (.p (.bool (bx (ig t)))))) [] (aS [] [] (he:=lF (by rw[hb];exact h))) ⟨rfl,rfl⟩
 cbv
 refine call hQ (OO hb t.first hf.2.2.1) [] ?_
 rintro _ _ ⟨rfl,rfl⟩
 cbv
 refine⟨fun h1=>?_,fun h1=>?_⟩<;>simp only[hb,pl]at h1
 ·cbv
  refine⟨fun h2=>?_,fun h2=>?_⟩<;>simp only[hb,pl]at h2
  ·cbv
   refine⟨fun h3=>?_,fun h3=>?_⟩<;>simp only[hb,pl]at h3
   ·cbv
    refine⟨fun h4=>?_,fun h4=>?_⟩<;>simp only[hb,pl]at h4
    ·cbv
     refine⟨fun h5=>?_,fun h5=>?_⟩<;>simp only[hb,pl]at h5
     ·cbv
      refine⟨fun h6=>?_,fun h6=>?_⟩<;>simp only[hb,pl]at h6
      ·cbv
       refine call hQ (ahu hb t.acts hf.2.2.2.1 hf.2.2.2.2) [] ?_
       rintro _ _ ⟨rfl,rfl⟩
       cbv
       exact hK _ _ (.a (.c (.p (.bool (bx (ig t)))))) [] (aS [] [] (he:=vF (by
        have h6:(t.acts.length:Int)<=2000:=h6
        have h6:t.acts.length<=2000:=by omega
        simp[hb,ig,h1,h2,h3,h4,h5,h6,<-afG]))) ⟨rfl,rfl⟩
      ·cbv
       have h6: ¬(t.acts.length:Int)<=2000:=h6
       exact no (by simp[ig];omega)
     ·cbv
      exact no (by simp[ig,h5])
    ·cbv
     exact no (by simp[ig,h4])
   ·cbv
    exact no (by simp[ig,h3])
  ·cbv
   exact no (by simp[ig,h2])
 ·cbv
  exact no (by simp[ig,h1])
end
end Sx
end
section
namespace Sx
open Go Go.RowKit _root_.Go.Proofs.Tryz
set_option maxRecDepth 100000
def bs (l:List UInt8):ByteArray:=⟨l.toArray⟩
theorem dS (a b:List UInt8):bs (a++b)=bs a++bs b:=by
 apply ByteArray.ext
 simp[bs,ByteArray.data_append]
theorem cu (a:List UInt8):(bs a).size=a.length:=by simp[bs,ByteArray.size]
theorem sD (s:ByteArray):bs s.data.toList=s:=by simp[bs]
theorem VK (l:List UInt8):(bs l).data.toList=l:=by simp[bs]
mutual
def dV:Ex->List UInt8
 | .mk op n args=>ay [op,n,Int.ofNat args.length]++jg args
def jg:List Ex->List UInt8
 |[]=>[]
 |x::l=>dV x++jg l
end
theorem xu (x:Ex):dV x=ay [x.op,x.n,Int.ofNat x.args.length]++jg x.args:=by
 obtain⟨o,n,a⟩:=x
 rw[dV];rfl
theorem BD: ∀{l:List Ex}{k:Nat}{x:Ex},l[k]?=some x->jg (l.take (k+1))=jg (l.take k)++dV x
 |[],_,_,h=>by simp at h
 |y::l,0,x,h=>by simp at h;subst h;simp[jg]
 |y::l,k+1,x,h=>by
  have:=BD (l:=l) (k:=k) (by simpa using h)
  simp only[List.take_succ_cons,jg,this,List.append_assoc]
theorem BA: ∀(l:List Ex)(k:Nat),(jg (l.take k)).length<=(jg l).length
 |[],_=>by simp
 |y::l,0=>by simp[jg]
 |y::l,k+1=>by
  have:=BA l k
  simp only[List.take_succ_cons,jg,List.length_append];omega
def fQ (l:List UInt8):List UInt8:=ay [Int.ofNat l.length]++l
section
variable {bx:{α:Type}->α->α} (hb: ∀{α:Type}(x:α),bx x=x)
include hb
theorem afD (a b:ByteArray)(hl:a.size+b.size<=140737488355328):Ct prog 95 [.c (.sl 0 0 0 2), .c (.p (.str ByteArray.empty))] [.one (.row [.p (.str a), .p (.str b)] 9)] fun r h=>r= .a (.c (.p (.str (bx (a++b)))))/\h=[.one (.row [.p (.str a), .p (.str b)] 9)]:=by
 have eb: @bx= @I0:=o9 hb
 subst eb
 refine Ct.pure func95 rfl rfl fun ρ O w xs H h=>?_
 cases h with|cons h1 t=>cases t with|cons h2 t=>
  cases t
  cases h1 with|c h1=>cases h2 with|c h2=>cases h2 with|p h2=>
   cases h2
   have ob:=H.ob 0 0 (.row [.p (.str a), .p (.str b)] 9) rfl
   cases h1 with
   | @sl _ _ b0 base cp off len cap h0 q1 q2 q3=>
     cases ob with
     |row ho hr hB hh hc hsz=>
      rcases ho with e|⟨l,e,rfl⟩<;>cases e
      rw[h0]at hr;cases hr
      have cell: ∀(j:Nat) x,[a,b][j]?=some x->w.cell? ⟨b0,base+j,none⟩=some (.string x):=fun j x hj=>by
       obtain⟨v,g1,g2⟩:=hc j (.p (.str x)) (by
        match j,hj with
        |0,hj=>simp at hj;subst hj;rfl
        |1,hj=>simp at hj;subst hj;rfl
        |j+2,hj=>simp at hj)
       cases g1 with|p g1=>
        cases g1
        simp[World.cell?,hh,g2]
      have hlt:=(Array.getElem?_eq_some_iff.1 hh).1
      have je:Lib.join ([a,b].map (·.data.toList)) ByteArray.empty.data.toList=a.data.toList++b.data.toList:=by
       show Lib.join (a.data.toList::[b.data.toList]) []=_
       rw[Lib.join_cons]
       show a.data.toList++([[]++b.data.toList]:List (List UInt8)).flatten=_
       rw[List.flatten_cons,List.flatten_nil,List.nil_append,List.append_nil]
      have hj:=Any.strings_Join Tryz.joinL Tryz.joinX b0 base cap [a,b] ByteArray.empty w cell hlt (by simp) (by simpa using q1) (by
       rw[je,List.length_append,Array.length_toList,Array.length_toList]
       exact hl)
      refine⟨_,fun _=> .a (.c (.p rfl)),hj.mono fun e w' ⟨g1,g2⟩=>⟨?_,Kept.of_below g2⟩⟩
      rw[g1,je]
      have e2:(⟨(a.data.toList++b.data.toList).toArray⟩:ByteArray)=a++b:=by
       rw[<-sD a,<-sD b,<-dS]
       simp only[sD];rfl
      rw[e2]
     |eG ho hr hB=>rw[h0]at hr;cases hr
   |eG h0 h00=>cases h00
omit hb in
theorem Ns (l:List UInt8)(h:l.length<=65536):(fQ l).length<=l.length+10:=by
 have:=iD (l:=[Int.ofNat l.length]) (fun n hn=>by simp at hn;subst hn;unfold aO;simp;omega)
 unfold fQ
 rw[List.length_append]
 simp only[List.length_singleton,Nat.mul_one]at this;omega
theorem Nu (l:List UInt8)(hl:l.length<=65536):Ct prog 53 [.c (.p (.str (bx (bs l))))] [] fun r h=>r= .aK [.c (.p (.str (bx (bs (fQ l))))), .c (.p (.int .i64 0))]/\h=[]:=ct hb func53 fun Q hQ K hK=>by
 have hz:(bs l).size=l.length:=cu l
 have h64: ∀n∈[Int.ofNat l.length],aO n:=fun n hn=>by simp at hn;subst hn;unfold aO;simp;omega
 have hp:(ay [Int.ofNat l.length]).length<=10:=by have:=iD h64;simpa only[List.length_singleton,Nat.mul_one]using this
 cbv
 refine⟨fun h1=>?_,fun h1=>?_⟩<;>simp only[hb,pl]at h1
 ·exact absurd h1 (by omega)
 ·cbv
  refine call hQ (wQ hb [bx (Int.ofNat l.length)] (by simp) (by simpa only[hb]using h64)) [.all 0] ?_ (hs:=by cbv;simp[hb,hz])
  rintro _ _ ⟨rfl,rfl⟩
  cbv
  refine call hQ (afD hb (bx (G9 [bx (Int.ofNat l.length)])) (bx (bs l)) (by
   simp only[hb,hz]
   have:(G9 [Int.ofNat l.length]).size=(ay [Int.ofNat l.length]).length:=by simp[G9,ByteArray.size]
   omega)) [.all 1] ?_
  rintro _ _ ⟨rfl,rfl⟩
  cbv
  exact hK _ _ (.aK [.c (.p (.str (bx (bs (fQ l))))), .c (.p (.int .i64 0))]) [] (aS [] [] (he:=by
   cbv
   (repeat' (first|trivial|apply And.intro))
   ·simp only[hb,fQ,dS];rfl)) ⟨rfl,rfl⟩
theorem acG (x:Ex)(hx:iG x)(hs:(dV x).length<=1000000):Ct prog 94 [qK bx x] [] fun r h=>r= .a (.c (.p (.str (bx (bs (dV x))))))/\h=[]:=by
 have ih: ∀z,∀hz:z∈x.args,iG z->(dV z).length<=1000000->Ct prog 94 [qK bx z] [] fun r h=>r= .a (.c (.p (.str (bx (bs (dV z))))))/\h=[]:=fun z hz=>acG z
 have hf:0<=x.op/\x.op<=255/\aO x.n:=by
  obtain⟨o,n,a⟩:=x
  exact⟨hx.1,hx.2.1,hx.2.2.1⟩
 obtain⟨ha,hfa⟩:=hx.args
 have hwo:wr .i64 x.op=x.op:=rD (by omega)
 have hwl:wr .i64 (Int.ofNat x.args.length)=Int.ofNat x.args.length:=rD (by simp;omega)
 have h64: ∀n∈[x.op,x.n,Int.ofNat x.args.length],aO n:=by
  intro n hn
  simp only[List.mem_cons,List.not_mem_nil,or_false]at hn
  rcases hn with rfl|rfl|rfl
  ·unfold aO;omega
  ·exact hf.2.2
  ·unfold aO;simp;omega
 refine ct hb func94 fun Q hQ K hK=>?_
 cbv
 refine call hQ (wQ hb [bx x.op,bx x.n,bx (Int.ofNat x.args.length)] (by simp) (by simpa only[hb]using h64)) [.all 1] ?_ (hs:=by cbv;simp[hb,hwo,hwl])
 rintro _ _ ⟨rfl,rfl⟩
 cbv
 refine loop hb (fun k=>k<=x.args.length) (fun k=>x.args.length-k) (fun k=>[(19, .a (.c (.p (.int .i64 (bx (Int.ofNat k)))))),(3, .a (.c (.p (.str (bx (bs (ay [x.op,x.n,Int.ofNat x.args.length]++jg (x.args.take k))))))))]) (fun _=>[]) 0 (by omega) (ent [] [.all 0, .all 1] (he:=by cbv;(repeat' (first|trivial|rfl|apply And.intro|(simp[hb,jg,G9,bs];done))))) fun k hI=>?_
 cbv
 refine⟨fun hd=>?_,fun hd=>?_⟩<;>simp only[hb,pl]at hd
 ·obtain⟨z,hz⟩: ∃z,x.args[k]?=some z:=⟨_,List.getElem?_eq_getElem hd⟩
  have hm:=List.mem_of_getElem? hz
  have hsn:=BD hz
  have hle:=BA x.args (k+1)
  have hxe:=xu x
  have hu:=mQ hb (k:=k) (by omega)
  have hls:(ay [x.op,x.n,Int.ofNat x.args.length]).length+(jg (x.args.take k)).length+(dV z).length<=1000000:=by
   rw[hxe,List.length_append]at hs
   rw[hsn,List.length_append]at hle
   omega
  cbv
  refine get (J9 bx z) (gJ hb nH (lT x.args) hz (yF hb z)) (chk (gK hb hd (by omega)) ?_)
  cbv
  refine call hQ (ih z hm (nY hfa hm) (by omega)) [] ?_
  rintro _ _ ⟨rfl,rfl⟩
  cbv
  refine chk (by simp only[hb,cu,List.length_append,decide_eq_true_eq];omega) ?_
  cbv
  exact⟨k+1,by omega,by omega,ent [] [.all 0, .all 1] (he:=by cbv;(repeat' (first|trivial|rfl|apply And.intro|exact hu|(simp only[hb,hsn,<-List.append_assoc,dS];done))))⟩
 ·cbv
  have hk:k=x.args.length:=by omega
  have hxe:=xu x
  exact hK _ _ (.a (.c (.p (.str (bx (bs (dV x))))))) [] (aS [] [] (he:=by
   cbv
   rw[hk,List.take_of_length_le (Nat.le_refl _),hxe])) ⟨rfl,rfl⟩
termination_by SizeOf.sizeOf x
decreasing_by exact AL hz
end
end Sx
end
end Go.Proofs.YtakhobfamnjnoaaGreatDoor
