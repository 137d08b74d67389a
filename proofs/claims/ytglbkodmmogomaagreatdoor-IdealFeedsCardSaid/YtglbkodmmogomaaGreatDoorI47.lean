/- Heavy: what it tells of a job, states and records, if it says no. -/
import Derived.Test.YtglbkodmmogomaaGreatDoorI29
import Derived.Test.YtglbkodmmogomaaGreatDoorI21
import Derived.Test.YtglbkodmmogomaaGreatDoorI35
set_option linter.unusedVariables false
set_option linter.unusedSimpArgs false
set_option maxHeartbeats 4000000
set_option maxRecDepth 100000
namespace Go.Proofs.YtglbkodmmogomaaGreatDoor
section
open Go Go.RowKit
attribute [local irreducible] cZ iC H2.dX
def abx (j:Jb):Prop:=j.nodes.length<=40/\ ∀d∈j.nodes,d.uid.size<=1000
def afS (w:World)(j:Jb)(e:Ending)(w':World):Prop:= ∃b:Bool,e= .returned (.bool b)/\ε η w w'/\(b=false->abx j)
def afT (w:World)(j:Jb)(n r:Nat)(e:Ending)(w':World):Prop:= ∃b:Bool,e= .returned (.bool b)/\ε η w w'/\(b=false->abx j/\n<=40/\r<=60)
theorem Qb (j:Jb)(a:Array Value)(w:World)(h:lK w a j):Calls Tryz.prog 38 #[.agg a] w (afS w j):=by
 obtain⟨v,rfl,hn,hp⟩:=h;obtain⟨na,cap,rfl,h1,h2,h3⟩:=hn.at;unfold maxLen at h2;have kA:ε η w (w.alloc (.cells #[.int .i64 j.par,.slice na j.nodes.length cap] 24)):=δ.alloc _;have b1:(w.alloc (.cells #[.int .i64 j.par,.slice na j.nodes.length cap] 24)).cell? ⟨w.heap.size,1,none⟩=some (.slice na j.nodes.length cap):=(by simp);have H3:=γ h3;have KA:=γ kA;clear h3 hn hp kA;by_cases hl:40<j.nodes.length
 ·go_enter Tryz.func38,Tryz.ntmps38
  go_wp2_with fail;go_ret;exact⟨true,rfl,KA.o,fun h=>by cases h⟩
 ·go_enter Tryz.func38,Tryz.ntmps38
  go_wp2_with fail;obtain⟨W0,hW0⟩:=acf (w.alloc (.cells #[.int .i64 j.par,.slice na j.nodes.length cap] 24));rw[hW0]at KA b1⊢;have B1:=γ b1;clear hW0 b1;go_loopg [3,13] j.nodes.length (fun g vn vi wr=> ∃(k:Nat)(n:Int),k<=j.nodes.length/\vi= .int .i64 (k:Int)/\vn= .int .i64 n/\j.nodes.length-k<=g/\0<=n/\n<=3000/\ε η w wr/\ ∀(m:Nat)(d:JN),m<k->j.nodes[m]?=some d->d.uid.size<=1000)
  case atStart=>exact⟨0,0,by omega,rfl,rfl,by omega,by omega,by omega,KA.o,fun m d hm=>by omega⟩
  case round=>
   obtain⟨k,n,hkl,rfl,rfl,hg,hn1,hn2,hkp,hus⟩:=hrel;have US:=γ hus;clear hus;by_cases hlt:k<j.nodes.length
   ·obtain⟨d,hd⟩: ∃d,j.nodes[k]?=some d:=⟨_,ι hlt⟩
    obtain⟨b,off,pi,ci,p,cap',rfl,hc,hj⟩:=H3.o k d hd;obtain⟨c0,c1,c2,c3,c4,c5,c6⟩:=hc.kept hkp id;have kA:ε η wr (wr.alloc (.cells (bG d pi ci p cap') 42)):=δ.alloc _;have hx:aC (wr.alloc (.cells (bG d pi ci p cap') 42)) #[.int .u8 d.x.op,.int .i64 d.x.n,.slice p d.x.args.length cap'] d.x:=(by have hx0:aC w #[.int .u8 d.x.op,.int .i64 d.x.n,.slice p d.x.args.length cap'] d.x:=(by obtain⟨_,_,_,_,e,hx,_⟩:=hj;simp only[Array.mk.injEq,List.cons.injEq,Value.slice.injEq,and_true,true_and]at e;obtain⟨-,e1,e2⟩:=e;rw[e1,e2];exact hx);exact aC.pure (hkp.trans kA) hx0);have cz:=size_any (SizeOf.sizeOf d.x) d.x _ _ (ξ _) hx;have nB:(wr.alloc (.cells (bG d pi ci p cap') 42)).heap[wr.heap.size]?=some (.cells (bG d pi ci p cap') 42 (0,0)):=heap_alloc_new _ _;have HC:=γ (θ hg (θ hkp (θ kA (θ nB hj))));have HD:=γ hd;clear hg hkp kA nB hj hc hx hd;go_wp2_with fail;(with_reducible refine cz.mono ?_);clear cz;rintro e w2 ⟨z,rfl,hz1,hz2,k2⟩;have zh:=k2.heap HC.o.2.2.2.1 id;have z0:w2.cell? ⟨wr.heap.size,0,none⟩=some (.string d.uid):=ζ zh rfl;have z2:w2.cell? ⟨wr.heap.size,2,none⟩=some (.slice pi d.ins.length ci):=ζ zh rfl;have K2:=γ (HC.o.2.1.trans (HC.o.2.2.1.trans k2));have hu:d.uid.size<=2^63-1:=(by have:=HC.o.2.2.2.2;obtain⟨_,_,_,_,_,_,_,_,_,_,_,h⟩:=this;unfold maxLen at h;exact h);clear k2 zh;by_cases q1:40<d.ins.length
    ·go_wp2_with fail
     go_ret;exact⟨true,rfl,K2.o,fun h=>by cases h⟩
    ·by_cases q2:1000<d.uid.size
     ·go_wp2_with fail
      go_ret;exact⟨true,rfl,K2.o,fun h=>by cases h⟩
     ·by_cases q3:3000<n+z
      ·go_wp2_with fail
       go_ret;exact⟨true,rfl,K2.o,fun h=>by cases h⟩
      ·go_wp2_with fail
       go_roundg (j.nodes.length-(k+1))
       case rel=>exact⟨k+1,n+z,by omega,by go_num,rfl,ξ _,by omega,by omega,K2.o,fun m e hm he=>by
        by_cases hmk:m<k
        ·exact US.o m e hmk he
        ·obtain rfl:m=k:=by omega
         rw[HD.o]at he;injection he with he;subst he;omega⟩
       case measure=>have:=HC.o.1;omega
   ·have HK:=γ hkp
    clear hkp;go_wp2_with fail;go_ret
    exact⟨false,rfl,HK.o,fun _=>⟨by omega,fun d hd=>by
     obtain⟨m,hm⟩:=List.mem_iff_getElem?.1 hd
     exact US.o m d (by have:=(μ.1 hm).1;omega) hm⟩⟩
theorem VB (j:Jb)(a:Array Value)(sv:Value)(l:List St)(rv:Value)(R:List Rec)(w:World)(h:lK w a j)(hs:Reads w 2 sv (jc l))(hsz: ∀s∈l,s.1.size<=maxLen/\s.2.size<=maxLen)(hr:Reads w 3 rv (recs R)):
 Calls Tryz.prog 8 #[.agg a,sv,rv] w (afT w j l.length R.length):=by
 have hJ:=h;obtain⟨v,rfl,hn,hp⟩:=h;obtain⟨na,cap,rfl,h1,h2,h3⟩:=hn.at;obtain⟨sa,scap,rfl,s1,s2,s3⟩:=hs.zL;obtain⟨ra,rC,rfl,r1,r2,r3⟩:=hr.recAt;unfold maxLen at h2 s2 r2;have kA:ε η w (w.alloc (.cells #[.int .i64 j.par,.slice na j.nodes.length cap] 24)):=δ.alloc _;have tA:(w.alloc (.cells #[.int .i64 j.par,.slice na j.nodes.length cap] 24)).heap[w.heap.size]?=some (.cells #[.int .i64 j.par,.slice na j.nodes.length cap] 24 (0,0)):=heap_alloc_new _ _;have H3:=γ (θ hJ (θ s3 hsz));have KA:=γ (θ kA tA);clear h3 hn hp kA hJ s3 hsz hs hr r3 tA;go_enter Tryz.func8,Tryz.ntmps8;go_wp2_with fail;obtain⟨W0,hW0⟩:=acf (w.alloc (.cells #[.int .i64 j.par,.slice na j.nodes.length cap] 24));rw[hW0]at KA⊢;clear hW0;go_loopg [11] l.length (fun g vi wr=> ∃k:Nat,k<=l.length/\vi= .int .i64 (k:Int)/\l.length-k<=g/\ε η W0 wr)
 case atStart=>exact⟨0,by omega,rfl,by omega,ε.refl _ _⟩
 case round=>
  obtain⟨k,hkl,rfl,hg,hkp⟩:=hrel;by_cases hlt:k<l.length
  ·obtain⟨s,hs⟩: ∃s,l[k]?=some s:=⟨_,ι hlt⟩
   obtain⟨bs,adP,rfl,hcs⟩:=H3.o.2.1.resolve_left (fun h=>by rw[h]at hlt;simp at hlt);have kw:=KA.o.1.trans hkp;have y0:=kw.cell id (hcs k s hs).1;have y1:=kw.cell id (hcs k s hs).2;obtain⟨hz0,hz1⟩:=H3.o.2.2 s (ς hs);unfold maxLen at hz0 hz1;have G:=γ (θ hg (θ hkp (θ kw (hkp.alloc (.cells #[.string s.1,.string s.2] 35)))));clear hg hkp kw hcs hs;by_cases q1:20000<s.2.size
   ·go_wp2_with fail
    go_ret;exact⟨true,rfl,KA.o.1.trans G.o.2.2.2,fun h=>by cases h⟩
   ·by_cases q2:1000<s.1.size
    ·go_wp2_with fail
     go_ret;exact⟨true,rfl,KA.o.1.trans G.o.2.2.2,fun h=>by cases h⟩
    ·go_wp2_with fail
     go_roundg (l.length-(k+1))
     case rel=>exact⟨k+1,by omega,by go_num,ξ _,G.o.2.2.2⟩
     case measure=>have:=G.o.1;omega
  ·have tw:=hkp.heap KA.o.2 id
   have x0:=ζ tw (j:=0) rfl;have x1:=ζ tw (j:=1) rfl;have hB:w.heap.size<wr.heap.size:=(κ.1 tw).1;have ch:=Qb j _ wr (H3.o.1.pure (KA.o.1.trans hkp));have G:=γ (KA.o.1.trans hkp);clear hkp tw hg;go_wp2_with fail;(with_reducible refine ch.mono ?_);clear ch;rintro e w2 ⟨b,rfl,k2,hjs⟩;have JS:=γ hjs;clear hjs;have F:=γ (G.o.trans k2);clear k2;by_cases q0:b=true
   ·subst q0
    go_wp2_with fail;go_ret;exact⟨true,rfl,F.o,fun h=>by cases h⟩
   ·have q0':b=false:=by simpa using q0
    subst q0';clear q0;by_cases q1:40<l.length
    ·go_wp2_with fail
     go_ret;exact⟨true,rfl,F.o,fun h=>by cases h⟩
    ·go_wp2_with fail
     go_ret;refine⟨_,rfl,F.o,fun h=>⟨by simpa using JS.o,by omega,?_⟩⟩;simp only[Bool.or_eq_false_iff,decide_eq_false_iff_not]at h;omega
end
section
open Go Go.RowKit
theorem X8 (j:Jb)(a:Array Value)(uid:ByteArray)(w:World)(h:lK w a j):Calls Tryz.prog 46 #[.agg a,.string uid] w (Gives w (.int .i64 (bP j.nodes uid))):=by
 obtain⟨v,rfl,hn,hp⟩:=h;obtain⟨na,cap,rfl,h1,h2,h3⟩:=hn.at;unfold maxLen at h2;have H3:=γ h3;clear h3 hn hp;go_enter Tryz.func46,Tryz.ntmps46;go_wp2_with fail;obtain⟨W0,hW0⟩:=acf (w.alloc (.cells #[.int .i64 j.par,.slice na j.nodes.length cap] 24));have k0:ε η w W0:=(by rw[<-hW0];exact δ.alloc _);have d1:W0.cell? ⟨w.heap.size,1,none⟩=some (.slice na j.nodes.length cap):=(by rw[<-hW0];simp);rw[hW0];have K0:=γ k0;clear hW0 k0;go_loopg [5] j.nodes.length (fun g vi wr=> ∃k:Nat,k<=j.nodes.length/\vi= .int .i64 (k:Int)/\j.nodes.length-k<=g/\wr=W0/\ ∀m e,m<k->j.nodes[m]?=some e->e.uid≠uid)
 case atStart=>exact⟨0,by omega,rfl,by omega,rfl,fun m e hm=>by omega⟩
 case round=>
  obtain⟨k,hk,rfl,hg,rfl,hno⟩:=hrel;by_cases hlt:k<j.nodes.length
  ·obtain⟨d,hd⟩: ∃d,j.nodes[k]?=some d:=⟨_,ι hlt⟩
   obtain⟨b,off,pi,ci,p,cap',rfl,hcc,hj⟩:=H3.o k d hd;obtain⟨c0,c1,c2,c3,c4,c5,c6⟩:=hcc.kept K0.o id;have G:=γ (θ hg (θ hd hno));clear hg hd hno hj hcc H3;by_cases hu:d.uid=uid
   ·have F:=γ (Qq G.o.2.1 hu G.o.2.2)
    have hb:(d.uid.toList==uid.toList)=true:=(by rw[str_eq];exact decide_eq_true hu);clear hu;go_wp2_with fail;go_ret;exact⟨gW F.o.symm,K0.o⟩
   ·have F:=γ (show∀m e,m<k+1->j.nodes[m]?=some e->e.uid≠uid from fun m e hm he=>by
     by_cases h:m<k
     ·exact G.o.2.2 m e h he
     ·have e1:m=k:=by omega
      subst e1;rw[G.o.2.1]at he
      injection he with he
      rw[<-he];exact hu)
    have hb:(d.uid.toList==uid.toList)=false:=(by rw[str_eq];exact decide_eq_false hu);clear hu;go_wp2_with fail;go_roundg (j.nodes.length-(k+1))
    case rel=>exact⟨k+1,by omega,by go_num,ξ _,rfl,F.o⟩
    case measure=>have:=G.o.1;omega
  ·have e1:k=j.nodes.length:=by omega
   subst e1;have F:=γ (Qp hno);clear hno;go_wp2_with fail;go_ret;exact⟨gW F.o.symm,K0.o⟩
theorem wX (j:Jb)(a:Array Value)(i:Nat)(w:World)(h:lK w a j)(Il:j.nodes.length<=1000):Calls Tryz.prog 95 #[.agg a,.int .i64 (i:Int)] w (fun e w'=> ∃v,e= .returned v/\w'.ownsRow w.heap.size 3 1 v (fF j.nodes i) (ints (dw j.nodes i j.nodes.length))/\ε η w w'):=by
 obtain⟨v,rfl,hn,hp⟩:=h;obtain⟨na,cap,rfl,h1,h2,h3⟩:=hn.at;unfold maxLen at h2;have H3:=γ h3;clear h3 hn hp;go_enter Tryz.func95,Tryz.ntmps95;go_wp2_with fail;obtain⟨W0,hW0⟩:=acf ((w.alloc (.cells #[.int .i64 j.par,.slice na j.nodes.length cap] 24)));have k0:ε η w W0:=(by rw[<-hW0];exact δ.alloc _);have d1:W0.cell? ⟨w.heap.size,1,none⟩=some (.slice na j.nodes.length cap):=(by rw[<-hW0];simp);have hs0:w.heap.size+1=W0.heap.size:=(by rw[<-hW0];simp);rw[hW0];have K0:=γ k0;clear hW0 k0;go_loopg [5,6] j.nodes.length (fun g vo vi wr=> ∃(k:Nat),k<=j.nodes.length/\vi= .int .i64 (k:Int)/\j.nodes.length-k<=g/\wr.ownsRow W0.heap.size 3 1 vo (dw j.nodes i k).length (ints (dw j.nodes i k))/\ε η W0 wr)
 case atStart=>exact⟨0,by omega,rfl,by omega,World.ownsRow_nil _ _ _ _,ε.refl _ _⟩
 case round=>
  obtain⟨k,hkl,rfl,hg,hown,hkp⟩:=hrel;obtain⟨oa,oc,rfl⟩:=au hown;have e1:=hkp.cell (p:=⟨w.heap.size,1,none⟩) id d1;by_cases hlt:k<j.nodes.length
  ·obtain⟨d,hd⟩: ∃d,j.nodes[k]?=some d:=⟨_,ι hlt⟩
   obtain⟨b,off,pi,ci,p,cap',rfl,hc,hj⟩:=H3.o k d hd;obtain⟨c0,c1,c2,c3,c4,c5,c6⟩:=hc.kept (K0.o.trans hkp) id;have hin:Reads w 1 (.slice pi d.ins.length ci) (ints d.ins):=by
    obtain⟨_,_,_,_,e,_,hx,_⟩:=hj
    injection e with e
    simp only[List.cons.injEq,and_true,true_and]at e;obtain⟨e1,e2⟩:=e;rw[e1];exact hx
   obtain⟨ia,il,ic,ie,i1,i2,_,Jt⟩:=hin.pure (K0.o.trans hkp)
   injection ie with YP YO YN
   subst YP YO YN;unfold maxLen at i2;have i3: ∀(m:Nat)(x:Int),d.ins[m]?=some x-> ∃b off,pi=some ⟨b,off,none⟩/\wr.cell? ⟨b,off+m,none⟩=some (.int .i64 x):=(by intro m x hx;have hne:ints d.ins≠[]:=fun e=>(by unfold ints at e;rw[List.map_eq_nil_iff]at e;rw[e]at hx;cases hx);obtain⟨b,off,e,hc⟩:=Jt.resolve_left hne;exact⟨b,off,e,hc m _ (by unfold ints;rw[abJ,hx];rfl)⟩);clear Jt;have I3:=γ i3;have G:=γ (θ hg (θ hown (θ hkp hd)));clear hd hj hc hg hown hkp hin H3 i3;go_wp2_with fail;go_loopg [7,8] d.ins.length (fun g vb vi W=> ∃(m:Nat),m<=d.ins.length/\vi= .int .i64 (m:Int)/\vb= .bool (decide ((i:Int)∈d.ins.take m))/\d.ins.length-m<=g/\W=wr)
   case atStart=>exact⟨0,by omega,rfl,by simp,by omega,rfl⟩
   case round=>
    obtain⟨m,hml,rfl,rfl,hgm,rfl⟩:=hrel;by_cases hmt:m<d.ins.length
    ·obtain⟨x,hx⟩: ∃x,d.ins[m]?=some x:=⟨_,ι hmt⟩
     obtain⟨bi,oi,rfl,y⟩:=I3.o m x hx
     have E:=γ (show((i:Int)∈d.ins.take (m+1))↔((i:Int)∈d.ins.take m\/x=(i:Int)) by
      rw[ψ,hx,abL];simp[eq_comm])
     have HG:=γ hgm;clear hx hgm;by_cases hm:(i:Int)∈d.ins.take m
     ·have b1:decide ((i:Int)∈d.ins.take m)=true:=decide_eq_true hm
      have b2:=γ (decide_eq_true (E.o.2 (.inl hm)));rw[b1];clear b1 hm;go_wp2_with fail;go_roundg (d.ins.length-(m+1))
      case rel=>exact⟨m+1,by omega,by go_num,by rw[b2.o],ξ _,rfl⟩
      case measure=>have:=HG.o;omega
     ·have b1:decide ((i:Int)∈d.ins.take m)=false:=decide_eq_false hm
      have b2:=γ (show(x==(i:Int))=decide ((i:Int)∈d.ins.take (m+1)) by
       rw[Bool.eq_iff_iff,beq_iff_eq,decide_eq_true_iff,E.o]
       exact⟨.inr,fun h=>h.resolve_left hm⟩)
      rw[b1];clear b1 hm;go_wp2_with fail;go_roundg (d.ins.length-(m+1))
      case rel=>exact⟨m+1,by omega,by go_num,by rw[<-b2.o],ξ _,rfl⟩
      case measure=>have:=HG.o;omega
    ·obtain rfl:m=d.ins.length:=by omega
     rw[List.take_length];clear hgm;have hle:=DN j.nodes i k;by_cases hm:(i:Int)∈d.ins
     ·have b1:decide ((i:Int)∈d.ins)=true:=decide_eq_true hm
      rw[b1];have E1:=γ (oG (i:=i) G.o.2.2.2);rw[if_pos hm]at E1;obtain⟨ti,hi3,hz3,hs3,hb3⟩:=rD;obtain⟨v',w',b1,b2,b3⟩:=OX (x:= .int .i64 (k:Int)) (bytes:=8) Tryz.underlying37 hi3 hz3 hs3 hb3 rfl rfl G.o.2.1 (by omega) (by omega) G.o.2.2.1.size 37;have hnew:w'.ownsRow W0.heap.size 3 1 v' (dw j.nodes i (k+1)).length (ints (dw j.nodes i (k+1))):=(by rw[E1.o,ν];unfold ints at b2⊢;rw[abM];exact b2);have F:=γ (θ hnew (G.o.2.2.1.new b3 (fun i hi h=>by omega)));have B1:=γ b1;clear b1 b2 b3 hnew hi3 hz3 hs3 hb3 hm;go_wp2_with (at_builtin;refine wpList_append_run rfl (.tmp 42) (.tmp 44) 37 rfl (.slice oa (dw j.nodes i k).length oc) (.slice (some ⟨wr.heap.size,0,none⟩) 1 1) v' rfl rfl B1.o ?_);go_roundg (j.nodes.length-(k+1))
      case rel=>exact⟨k+1,by omega,by go_num,ξ _,F.o⟩
      case measure=>have:=G.o.1;omega
     ·have b1:decide ((i:Int)∈d.ins)=false:=decide_eq_false hm
      rw[b1];have E1:=oG (i:=i) G.o.2.2.2;rw[if_neg hm,List.append_nil]at E1;have F:=γ (show wr.ownsRow W0.heap.size 3 1 (.slice oa (dw j.nodes i k).length oc) (dw j.nodes i (k+1)).length (ints (dw j.nodes i (k+1))) by rw[E1];exact G.o.2.1);clear hm b1 E1;go_wp2_with fail;go_roundg (j.nodes.length-(k+1))
      case rel=>exact⟨k+1,by omega,by go_num,ξ _,F.o,G.o.2.2.1⟩
      case measure=>have:=G.o.1;omega
  ·have e1:k=j.nodes.length:=by omega
   subst e1;have hF:(dw j.nodes i j.nodes.length).length=fF j.nodes i:=(by rw[sU _ _ _ (ξ _),List.take_length];rfl);rw[hF]at hown;rw[hF];have HK:=γ (θ (K0.o.trans hkp) (show wr.ownsRow w.heap.size 3 1 (.slice oa (fF j.nodes i) oc) (fF j.nodes i) (ints (dw j.nodes i j.nodes.length))from⟨hown.1,hown.2.imp id fun⟨g,cap,cur,e1,e2,rest⟩=>⟨g,cap,cur,e1,by omega,rest⟩⟩));clear hkp hown hF;go_wp2_with fail;go_ret;exact⟨_,rfl,HK.o.2,HK.o.1⟩
theorem BK (x:Ex)(most:Nat)(h:1<=most):1<=jF x most/\jF x most<=most:=by rw[BL x most h];have:1<=xP x:=(by cases x;unfold xP;omega);omega
theorem Rz (x:Ex)(most:Nat):jF x most=pO x.args 1 most:=by cases x;rw[jF];rfl
theorem RF {l:List Ex}{k n most:Nat}{y:Ex}(h:l[k]?=some y):pO (l.drop k) n most=if n<most then pO (l.drop (k+1)) (n+jF y (most-n)) most else n:=by
 have hk:k<l.length:=by rcases Nat.lt_or_ge k l.length with h'|h';exact h';rw[abA h']at h;cases h
 have e:l.drop k=y::l.drop (k+1):=by
  rw[abS hk];rw[ι hk]at h
  injection h with h
  rw[h]
 rw[e,pO]
theorem FM: ∀(N:Nat)(x:Ex)(a:Array Value)(most:Nat)(w:World),SizeOf.sizeOf x<=N->1<=most->most<=1001->aC w a x->Calls Tryz.prog 93 #[.agg a,.int .i64 (most:Int)] w (Gives w (.int .i64 (jF x most:Int)))
 |0,x,_,_,_,h,_,_,_=>by cases x;simp at h
 |N+1,x,a,most,w,hN,hm1,hm2,h=>by
  obtain⟨p,cap,rfl,h0,h1,h2,h3,h4,h5⟩:=h.parts;have sub: ∀(i:Nat)(y:Ex),x.args[i]?=some y->SizeOf.sizeOf y<=N:=(by intro i y hy;obtain⟨op,n,args⟩:=x;have h1:=List.sizeOf_lt_of_mem (ς (show args[i]?=some y from hy));simp at hN;omega);have IH:=γ (fun y a m w hy=>FM N y a m w hy);have SB:=γ sub;have H5:=γ h5;have HX:=γ (Rz x most);unfold maxLen at h4;clear h h5 sub hN;go_enter Tryz.func93,Tryz.ntmps93;go_wp2_with fail;obtain⟨W0,hW0⟩:=acf (w.alloc (.cells #[.int .u8 x.op,.int .i64 x.n,.slice p x.args.length cap] 40));have k0:ε η w W0:=(by rw[<-hW0];exact δ.alloc _);have d2:W0.cell? ⟨w.heap.size,2,none⟩=some (.slice p x.args.length cap):=(by rw[<-hW0];simp);rw[hW0];have K0:=γ k0;clear hW0 k0;go_loopg [5,6] x.args.length (fun g vn vi wr=> ∃(k n:Nat),k<=x.args.length/\vi= .int .i64 (k:Int)/\vn= .int .i64 (n:Int)/\x.args.length-k<=g/\(1<=n/\n<=most)/\pO (x.args.drop k) n most=jF x most/\ε η W0 wr)
  case atStart=>exact⟨0,1,by omega,rfl,rfl,by omega,⟨by omega,by omega⟩,by rw[List.drop_zero,HX.o],ε.refl _ _⟩
  case round=>
   obtain⟨k,n,hkl,rfl,rfl,hg,⟨hn1,hn2⟩,hpl,hkp⟩:=hrel;have e2:=hkp.cell (p:=⟨w.heap.size,2,none⟩) id d2;have ZM:=γ hkp;have hW:=(K0.o.trans hkp:ε η w wr);clear hkp;by_cases hlt:k<x.args.length
   ·obtain⟨y,hy⟩: ∃y,x.args[k]?=some y:=⟨_,ι hlt⟩
    have PV:=RF (n:=n) (most:=most) hy;rw[hpl]at PV;by_cases hnm:n<most
    ·rw[if_pos hnm]at PV
     obtain⟨b,off,p',cap',rfl,q0,q1,q2,hy2⟩:=H5.o k y hy;have r0:=hW.cell (p:=⟨b,off+k*3,none⟩) id q0;have r1:=hW.cell (p:=⟨b,off+k*3+1,none⟩) id q1;have r2:=hW.cell (p:=⟨b,off+k*3+2,none⟩) id q2;have hle:=BK y (most-n) (by omega);have G:=γ (θ hg (θ (aC.pure hW hy2) (θ (SB.o k y hy) PV)));have hsub:(most:Int)-(n:Int)=((most-n:Nat):Int):=(by omega);clear q0 q1 q2 hy hy2 hW hg H5 PV hpl;go_wp2_with fail;have c:=IH.o y _ (most-n) wr G.o.2.2.1 (by omega) (by omega) G.o.2.1;obtain⟨P,hP⟩: ∃P,jF y (most-n)=P:=⟨_,rfl⟩;rw[hP]at c hle;have HP:=γ hP;clear hP;(with_reducible refine c.mono ?_);clear c;rintro e w2 ⟨rfl,k2⟩;have K2:=γ (ZM.o.trans k2);clear k2;go_wp2_with fail;go_roundg (x.args.length-(k+1))
     case rel=>exact⟨k+1,n+P,by omega,by go_num,by go_num,ξ _,⟨by omega,by omega⟩,by rw[<-HP.o];exact G.o.2.2.2.symm,K2.o⟩
     case measure=>have:=G.o.1;omega
    ·rw[if_neg hnm]at PV
     have F:=γ PV;have KW:=γ hW;clear hW hg PV hpl hy;go_wp2_with fail;go_ret;exact⟨Kq (by rw[F.o]),KW.o⟩
   ·have F:=γ (show jF x most=n by
     rw[<-hpl,List.drop_eq_nil_of_le (by omega),pO])
    have KW:=γ hW;clear hW hg hpl;go_wp2_with fail;go_ret;exact⟨Kq (by rw[F.o]),KW.o⟩
mutual
def kU:Ex->Ex->Bool
 | .mk o n l,y=>(o==y.op)&&(n==y.n)&&(l.length==y.args.length)&&lQ l y.args
def lQ:List Ex->List Ex->Bool
 |x::l,y::m=>kU x y&&lQ l m
 |[],_=>true
 |_,[]=>true
end
theorem JG (x y:Ex):kU x y=((x.op==y.op)&&(x.n==y.n)&&(x.args.length==y.args.length)&&lQ x.args y.args):=by cases x;rw[kU];rfl
theorem Ea: ∀(l m:List Ex),(∀(k:Nat)(a b:Ex),l[k]?=some a->m[k]?=some b->kU a b=true)->lQ l m=true
 |x::l,y::m,h=>by rw[lQ,h 0 x y rfl rfl,Bool.true_and];exact Ea l m fun k a b ha hb=>h (k+1) a b (by simpa using ha) (by simpa using hb)
 |[],_,_=>by rw[lQ]
 |_::_,[],_=>by rw[lQ];simp
theorem GN: ∀(l m:List Ex)(k:Nat)(a b:Ex),l[k]?=some a->m[k]?=some b->kU a b=false->lQ l m=false
 |x::l,y::m,0,a,b,ha,hb,h=>by
  rw[abE]at ha hb
  injection ha with ha;injection hb with hb
  rw[lQ,ha,hb,h,Bool.false_and]
 |x::l,y::m,k+1,a,b,ha,hb,h=>by rw[abG]at ha hb;rw[lQ,GN l m k a b ha hb h,Bool.and_false]
 |[],_,k,_,_,ha,_,_=>by simp at ha
 |_::_,[],k,_,_,_,hb,_=>by simp at hb
theorem IX: ∀(N:Nat)(x y:Ex)(a b:Array Value)(w:World),SizeOf.sizeOf x<=N->aC w a x->aC w b y->Calls Tryz.prog 82 #[.agg a,.agg b] w (Gives w (.bool (kU x y)))
 |0,x,_,_,_,_,h,_,_=>by cases x;simp at h
 |N+1,x,y,a,b,w,hN,h,g=>by
  obtain⟨p,cap,rfl,h0,h1,h2,h3,h4,h5⟩:=h.parts;obtain⟨q,caq,rfl,g0,g1,g2,g3,g4,g5⟩:=g.parts;have sub: ∀(i:Nat)(z:Ex),x.args[i]?=some z->SizeOf.sizeOf z<=N:=(by intro i y hy;obtain⟨op,n,args⟩:=x;have h1:=List.sizeOf_lt_of_mem (ς (show args[i]?=some y from hy));simp at hN;omega);have IH:=γ (fun x y a b w hy=>IX N x y a b w hy);have SB:=γ sub;have H5:=γ h5;have G5:=γ g5;have HX:=γ (JG x y);unfold maxLen at h4 g4;unfold aH at h2 g2;obtain⟨h2,h2'⟩:=h2;obtain⟨g2,g2'⟩:=g2;clear h h5 g g5 sub hN;by_cases c0:x.op=y.op
  ·have b0:(x.op !=y.op)=false:=by simp[c0]
   by_cases c1:x.n=y.n
   ·have b1:(x.n !=y.n)=false:=by simp[c1]
    by_cases c2:x.args.length=y.args.length
    ·have b2:((x.args.length:Int) !=(y.args.length:Int))=false:=by simp[c2]
     have HS:=γ (show kU x y=lQ x.args y.args by rw[HX.o];simp[c0,c1,c2]);clear c0 c1;have C2:=γ c2;clear c2;go_enter Tryz.func82,Tryz.ntmps82;go_wp2_with fail;obtain⟨W0,hW0⟩:=acf ((w.alloc (.cells #[.int .u8 x.op,.int .i64 x.n,.slice p x.args.length cap] 40)).alloc (.cells #[.int .u8 y.op,.int .i64 y.n,.slice q y.args.length caq] 40));have k0:ε η w W0:=(by rw[<-hW0];exact(δ.alloc _).alloc _);have d0:W0.cell? ⟨w.heap.size,0,none⟩=some (.int .u8 x.op):=(by rw[<-hW0];simp);have d1:W0.cell? ⟨w.heap.size,1,none⟩=some (.int .i64 x.n):=(by rw[<-hW0];simp);have d2:W0.cell? ⟨w.heap.size,2,none⟩=some (.slice p x.args.length cap):=(by rw[<-hW0];simp);have e0:W0.cell? ⟨w.heap.size+1,0,none⟩=some (.int .u8 y.op):=(by rw[<-hW0];simp);have e1:W0.cell? ⟨w.heap.size+1,1,none⟩=some (.int .i64 y.n):=(by rw[<-hW0];simp);have e2:W0.cell? ⟨w.heap.size+1,2,none⟩=some (.slice q y.args.length caq):=by rw[<-hW0];simp
     (try simp only[World.afQ,World.size_alloc,Array.size_push]at*)
     rw[hW0];have KF:=γ k0;clear hW0 k0;go_loopg [5] x.args.length (fun g vi wr=> ∃(k:Nat),k<=x.args.length/\vi= .int .i64 (k:Int)/\x.args.length-k<=g/\(∀(j:Nat)(a b:Ex),j<k->x.args[j]?=some a->y.args[j]?=some b->kU a b=true)/\ε η W0 wr)
     case atStart=>exact⟨0,by omega,rfl,by omega,by intro j a b h;omega,ε.refl _ _⟩
     case round=>
      obtain⟨k,hkl,rfl,hg,hall,hkp⟩:=hrel;have d2':=hkp.cell (p:=⟨w.heap.size,2,none⟩) id d2;have e2':=hkp.cell (p:=⟨w.heap.size+1,2,none⟩) id e2;have ZM:=γ hkp;have hW:=(KF.o.trans hkp:ε η w wr);clear hkp;by_cases hlt:k<x.args.length
      ·obtain⟨u,hu⟩: ∃u,x.args[k]?=some u:=⟨_,ι hlt⟩
       obtain⟨v,hv⟩: ∃v,y.args[k]?=some v:=⟨_,ι (by have:=C2.o;omega)⟩;have hlt2:k<y.args.length:=(by have:=C2.o;omega);obtain⟨b,off,p',cap',rfl,q0,q1,q2,hy2⟩:=H5.o k u hu;obtain⟨b',off',p'',cap'',rfl,q0',q1',q2',ad4⟩:=G5.o k v hv;have r0:=hW.cell (p:=⟨b,off+k*3,none⟩) id q0;have r1:=hW.cell (p:=⟨b,off+k*3+1,none⟩) id q1;have r2:=hW.cell (p:=⟨b,off+k*3+2,none⟩) id q2;have s0:=hW.cell (p:=⟨b',off'+k*3,none⟩) id q0';have s1:=hW.cell (p:=⟨b',off'+k*3+1,none⟩) id q1';have s2:=hW.cell (p:=⟨b',off'+k*3+2,none⟩) id q2';have G:=γ (θ hg (θ (aC.pure hW hy2) (θ (aC.pure hW ad4) (θ (SB.o k u hu) (θ hu (θ hv hall))))));have KW:=γ hW;clear q0 q1 q2 hy2 q0' q1' q2' ad4 hW hg hall hu hv;go_wp2_with fail;refine ak [0,1,2,3,4,5,6,7,8,9,10,11] (fun W=>ε η wr W) (by kernel_rfl) (by kernel_rfl) rfl δ.drew ?_;simp only[abU];iterate 10 (apply aj rfl rfl;(intro W hW;have z0:=hW.cell id d2';have z1:=hW.cell id e2';have t0:=hW.cell id r0;have t1:=hW.cell id r1;have t2:=hW.cell id r2;have t3:=hW.cell id s0;have t4:=hW.cell id s1;have t5:=hW.cell id s2;go_simp;rfl);go_frame)
       apply aA rfl rfl;intro K hK;go_wp2_with fail;have c:=IH.o u v _ _ _ G.o.2.2.2.1 (aC.pure δ.drew G.o.2.1) (aC.pure δ.drew G.o.2.2.1);(with_reducible refine c.mono ?_);clear c;rintro e w2 ⟨rfl,k2⟩;have k2':ε η wr w2:=k2.aZ;have K2:=γ (θ (KW.o.trans k2') (ZM.o.trans k2'));obtain⟨B,hB⟩: ∃B,kU u v=B:=⟨_,rfl⟩;rw[hB];go_wp2_with fail;refine hK _ _ (fun _=>k2') ?_;clear hK k2
       (apply aj rfl rfl;(intro W hW;go_simp;rfl);go_frame)
       refine aG (fun _=>k2') ?_;clear k2'
       cases B with
       |false=>have F:=γ (show kU x y=false by rw[HS.o];exact GN _ _ k u v G.o.2.2.2.2.1 G.o.2.2.2.2.2.1 hB);clear hB;go_wp2_with fail;go_ret;exact⟨aP F.o.symm,K2.o.1⟩
       |true=>
        have F:=γ hB;clear hB;go_wp2_with fail;go_roundg (x.args.length-(k+1))
        case rel=>
         refine⟨k+1,by omega,by go_num,ξ _,?_,K2.o.2⟩;intro j a b hj ha hb;by_cases hjk:j<k
         ·exact G.o.2.2.2.2.2.2 j a b hjk ha hb
         ·obtain rfl:j=k:=by omega
          have e1:=G.o.2.2.2.2.1;have e2:=G.o.2.2.2.2.2.1;rw[e1]at ha;rw[e2]at hb
          injection ha with ha;injection hb with hb
          subst ha;subst hb;exact F.o
        case measure=>have:=G.o.1;omega
      ·have F:=γ (show kU x y=true by
        rw[HS.o];refine Ea _ _ fun j a b ha hb=>hall j a b ?_ ha hb
        have:j<x.args.length:=by rcases Nat.lt_or_ge j x.args.length with h'|h';exact h';rw[abA h']at ha;cases ha
        omega)
       have KF2:=γ hW;clear hall hW hg;go_wp2_with fail;go_ret;exact⟨aP F.o.symm,KF2.o⟩
    ·have b2:((x.args.length:Int) !=(y.args.length:Int))=true:=by simp only[bne_iff_ne,ne_eq];omega
     have F:=γ (show kU x y=false by rw[HX.o];simp[c2]);clear c2;go_enter Tryz.func82,Tryz.ntmps82;go_wp2_with fail;go_ret;exact⟨aP F.o.symm,(δ.alloc _).alloc _⟩
   ·have b1:(x.n !=y.n)=true:=by simp only[bne_iff_ne,ne_eq];omega
    have F:=γ (show kU x y=false by rw[HX.o];simp[c1]);clear c1;go_enter Tryz.func82,Tryz.ntmps82;go_wp2_with fail;go_ret;exact⟨aP F.o.symm,(δ.alloc _).alloc _⟩
  ·have b0:(x.op !=y.op)=true:=by simp only[bne_iff_ne,ne_eq];omega
   have F:=γ (show kU x y=false by rw[HX.o];simp[c0]);clear c0;go_enter Tryz.func82,Tryz.ntmps82;go_wp2_with fail;go_ret;exact⟨aP F.o.symm,(δ.alloc _).alloc _⟩
theorem YL: ∃i,Tryz.prog.info? 21=some i/\i.zero=some (.int .i32 0)/\i.size=1/\i.bytes=4:=by
 have h:(Tryz.prog.info? 21).map (fun i=>(i.zero,i.size,i.bytes))=some (some (.int .i32 0),1,4):=(by kernel_rfl);obtain⟨i,h1,h2⟩:=abP.1 h
 injection h2 with h2 h3
 injection h3 with h3 h4
 exact⟨i,h1,h2,h3,h4⟩
def wW (l:List (Nat×Nat)):List Value:=l.map fun p=> .int .i32 (p.2:Int)
def VR (l:List (Nat×Nat)):List Value:=l.map fun p=> .int .i64 (p.1:Int)
def afl (w:World)(s:ByteArray)(e:Ending)(w':World):Prop:= ∃v1 v2,e= .returned (.tuple #[v1,v2])/\w'.ownsRow w.heap.size 21 1 v1 (runes s).length (wW (runes s))/\ε η w w'
theorem ownBlock_ne {w:World}{base E1 E2 n1 n2:Nat}{v1 v2:Value}{xs1 xs2:List Value}(h1:w.ownsRow base E1 1 v1 n1 xs1)(h2:w.ownsRow base E2 1 v2 n2 xs2)(hE:E1≠E2){k:Nat}(hk:v1.ownBlock=some k):v2.ownBlock≠some k:=by
 rcases h1.2 with⟨e1,_⟩|⟨g,cap,cur,e1,_,hg,_⟩
 ·rw[e1]at hk;cases hk
 ·rw[e1]at hk
  have:g=k:=(by simpa[Value.ownBlock]using hk);subst this;exact row_ne h2 hg hE
theorem XR (s:ByteArray)(hs:s.size<=1000)(w:World):Calls Tryz.prog 172 #[.string s] w (afl w s):=by
 obtain⟨w0,hrun,hit,hk0,hs0⟩:=jQ (P:=Tryz.prog) w 9 s Tryz.underlying9;have hlen:=iM s;have H:=γ (θ hit (θ hk0 hs0));clear hit hk0 hs0;go_enter Tryz.func172,Tryz.ntmps172;go_wp2;go_loopg [4,5] (runes s).length (fun k v1 v2 wr=> ∃left done,mF wr w.heap.size s left/\runes s=done++left/\left.length=k/\wr.ownsRow w.heap.size 21 1 v1 done.length (wW done)/\wr.ownsRow w.heap.size 3 1 v2 done.length (VR done)/\ε η w wr)
 case atStart=>exact⟨runes s,[],H.o.1,rfl,rfl,World.ownsRow_nil _ _ _ _,World.ownsRow_nil _ _ _ _,H.o.2.1⟩
 case round=>
  obtain⟨left,done,hit,hall,hk,ho1,ho2,hk1⟩:=hrel;obtain⟨a1,c1,rfl⟩:=au ho1;obtain⟨a2,c2,rfl⟩:=au ho2
  rcases hit.next (P:=Tryz.prog) 0 with⟨rfl,hrun⟩|⟨p,left',w2,hp,hrun,hit2,hk2,hs2⟩
  ·clear hit
   rw[List.append_nil]at hall;subst hall;have F:=γ (θ ho1 hk1);clear ho1 ho2 hk1;go_wp2_with fail;go_ret2;exact⟨_,_,rfl,F.o.1,F.o.2⟩
  ·have hl:runes s=done++p::left':=by rw[hall,hp]
   have hdl:done.length+1<=1000:=(by rw[hl]at hlen;simp at hlen;omega);have hm:left'.length<gk:=(by rw[hp]at hk;simp at hk;omega);have Yq: ∀{v:Value}{E n:Nat}{xs:List Value},wr.ownsRow w.heap.size E 1 v n xs->v.ownBlock≠some w.heap.size:=fun{v E n xs} ho e=>by
    rcases ho.2 with⟨e1,_⟩|⟨g,cap,cur,e1,_,hg,_⟩
    ·rw[e1]at e;cases e
    ·rw[e1]at e
     have:g=w.heap.size:=(by simpa[Value.ownBlock]using e);subst this;exact hit.jT _ _ _ hg
   have o1:w2.ownsRow w.heap.size 21 1 (.slice a1 done.length c1) done.length (wW done):=hk2.owns ho1 (fun k hk hs=>Yq ho1 (by rw[hk,show k=w.heap.size from hs]));have o2:w2.ownsRow w.heap.size 3 1 (.slice a2 done.length c2) done.length (VR done):=hk2.owns ho2 (fun k hk hs=>Yq ho2 (by rw[hk,show k=w.heap.size from hs]));have hb2:w.heap.size<=w2.heap.size:=(by have:=hk1.size;have:=hk2.size;omega);obtain⟨i1,hi1,hz1,hsz1,Ci⟩:=YL;obtain⟨g1,cp1,w3,r1,p1,q1⟩:=kQ (x:= .int .i32 (p.2:Int)) (bytes:=4) Tryz.underlying245 hi1 hz1 hsz1 Ci rfl rfl o1 (by omega) (by omega) hb2 245;have o2':w3.ownsRow w.heap.size 3 1 (.slice a2 done.length c2) done.length (VR done):=q1.owns o2 (fun k hk hs=>ownBlock_ne o1 o2 (by decide) hs hk);obtain⟨i2,hi2,hz2,hsz2,aeD⟩:=rD;obtain⟨g2,cp2,w4,r2,p2,q2⟩:=kQ (x:= .int .i64 (p.1:Int)) (bytes:=8) Tryz.underlying37 hi2 hz2 hsz2 aeD rfl rfl o2' (by omega) (by omega) (by have:=q1.size;omega) 37;have p1':w4.ownsRow w.heap.size 21 1 (.slice (some ⟨g1,0,none⟩) (done.length+1) cp1) (done.length+1) (wW done++[.int .i32 (p.2:Int)]):=q2.owns p1 (fun k hk hs=>ownBlock_ne o2' p1 (by decide) hs hk);have hk3:ε η w w2:=hk1.new hk2 (fun i hi e=>by unfold one at e;omega);have hown: ∀{v:Value}{E n:Nat}{xs:List Value}{W:World},W.ownsRow w.heap.size E 1 v n xs-> ∀k,v.ownBlock=some k->w.heap.size<=k:=fun ho k hk=>(aU ho hk).1;have hk4:ε η w w4:=(hk3.new q1 (fun i hi e=>by have:=hown o1 i e;omega)).new q2 (fun i hi e=>by have:=hown o2' i e;omega);have PG:mF w4 w.heap.size s left':=(hit2.kept q1 (fun e=>Yq ho1 e)).kept q2 (fun e=>Yq ho2 e);have G:=γ (θ PG (θ hl (θ p1' (θ p2 (θ hk4 hm)))));clear hit hit2 hall hk ho1 ho2 hk1 hl hm Yq o1 o2 o2' p1 p1' p2 q1 q2 hk2 hs2 hk3 hk4 PG hown hi1 hz1 hsz1 Ci hi2 hz2 hsz2 aeD hp H hlen;go_wp2_with (first|(at_builtin;refine wpList_append_run rfl (.tmp 14) (.tmp 16) 245 rfl (.slice a1 done.length c1) (.slice (some ⟨w2.heap.size,0,none⟩) 1 1) _ rfl rfl r1 ?_)|(at_builtin;refine wpList_append_run rfl (.tmp 18) (.tmp 20) 37 rfl (.slice a2 done.length c2) (.slice (some ⟨w3.heap.size,0,none⟩) 1 1) _ rfl rfl r2 ?_));go_roundg left'.length
   case rel=>
    refine⟨left',done++[p],G.o.1,by rw[G.o.2.1];simp,rfl,?_,?_,G.o.2.2.2.2.1⟩
    ·have:=G.o.2.2.1;simpa[wW]using this
    ·have:=G.o.2.2.2.1;simpa[VR]using this
   case measure=>exact G.o.2.2.2.2.2
theorem DK (r:Nat)(w:World):Calls Tryz.prog 173 #[.int .i32 (r:Int)] w fun e w'=>e= .returned (.bool (iW r))/\w=w':=by
 go_enter Tryz.func173,Tryz.ntmps173;go_wp2;all_goals
  go_ret;refine⟨qM ?_,rfl⟩;rw[Bool.eq_iff_iff,D6];simp only[Bool.or_eq_true,decide_eq_true_eq,bne_iff_ne,ne_eq,Bool.false_eq_true,true_iff,false_iff];omega
theorem vG {s:ByteArray}{p:Nat×Nat}{l:List (Nat×Nat)}(h:runes s=p::l):fB s=(iW p.2&&(p::l).all (fun q=>iE q.2)&&decide ((p::l).length<=24)):=by unfold fB;rw[h];rfl
theorem Vg {s:ByteArray}{q:Nat×Nat}(hq:q∈runes s)(h:iE q.2=false):fB s=false:=by
 cases e:runes s with
 |nil=>rw[e]at hq;cases hq
 |cons p l=>rw[vG e];have:(p::l).all (fun q=>iE q.2)=false:=List.all_eq_false.2 ⟨q,by rw[<-e];exact hq,by simp[h]⟩;rw[this];simp
theorem XY (s:ByteArray)(hs:s.size<=1000)(w:World):Calls Tryz.prog 138 #[.string s] w (Gives w (.bool (fB s))):=by
 have cr:=XR s hs w;have hlen:=iM s;go_enter Tryz.func138,Tryz.ntmps138;go_wp2_with fail;(with_reducible refine cr.mono ?_);clear cr;rintro e w2 ⟨v1,v2,rfl,ho,k2⟩;obtain⟨a1,c1,rfl⟩:=au ho;have K2:=γ k2;have HS:=γ hs;obtain⟨pa,n',pc,pe,_,_,_,hcell⟩:=Reads.aN ho
 injection pe with pe1 DU BJ
 subst pe1 BJ;clear ho k2 DU;obtain⟨N,hN⟩: ∃N,(runes s).length=N:=⟨_,rfl⟩;have hN1:N<=1000:=(by omega);rw[hN];by_cases h0:N<1
 ·have F:=γ (show fB s=false by
   have:runes s=[]:=τ (by omega)
   unfold fB;rw[this];rfl)
  have HH:=γ hcell;clear hcell hs hlen;have HN:=γ hN;clear hN;go_wp2_with fail;go_ret;exact⟨bK F.o.symm,K2.o⟩
 ·obtain⟨bi,bV,rfl,hc2⟩:=hcell.resolve_left (fun h=>by unfold wW at h;simp at h;rw[h]at hN;simp at hN;omega)
  have hcl: ∀k p,(runes s)[k]?=some p->w2.cell? ⟨bi,bV+k,none⟩=some (.int .i32 (p.2:Int)):=fun k p hp=>hc2 k _ (by unfold wW;rw[abJ,hp];rfl);have HC:=γ hcl;have HN:=γ hN;clear hc2 hcl hs hlen;by_cases h24:24<N
  ·have F:=γ (show fB s=false by
    cases e:runes s with
    |nil=>rw[e]at hN;simp at hN;omega
    |cons p l=>
     rw[vG e,<-e,hN,decide_eq_false (by omega)];simp)
   clear hN;go_wp2_with fail;go_ret;exact⟨bK F.o.symm,K2.o⟩
  ·obtain⟨p,l,hpl⟩: ∃p l,runes s=p::l:=by
    cases e:runes s with
    |nil=>rw[e]at hN;simp at hN;omega
    |cons p l=>exact⟨p,l,rfl⟩
   have y0:=HC.o 0 p (by rw[hpl];rfl);rw[Nat.add_zero]at y0;have cl:=DK p.2 w2;obtain⟨r0,hr0⟩: ∃r0,p.2=r0:=⟨_,rfl⟩;rw[hr0]at y0 cl;have HP:=γ (θ hpl hr0);clear hN hpl
   cases hlet:iW r0 with
   |false=>
    rw[hlet]at cl
    have F:=γ (show fB s=false by
     rw[vG HP.o.1,HP.o.2,hlet];simp)
    clear hlet hr0;go_wp2_with (go_at_call 173;refine cl.mono ?_;rintro e w' ⟨rfl,rfl⟩);go_ret;exact⟨bK F.o.symm,K2.o⟩
   |true=>
    rw[hlet]at cl;have HL:=γ hlet;clear hlet hr0;go_wp2_with (go_at_call 173;refine cl.mono ?_;rintro e w' ⟨rfl,rfl⟩);clear cl y0;go_loopg [5] N (fun g vi wr=> ∃k:Nat,k<=N/\vi= .int .i64 (k:Int)/\N-k<=g/\wr=w2/\ ∀q∈(runes s).take k,iE q.2=true)
    case atStart=>exact⟨0,by omega,rfl,by omega,rfl,by simp⟩
    case round=>
     obtain⟨k,hk,rfl,hg,rfl,hall⟩:=hrel;by_cases hlt:k<N
     ·obtain⟨q,hq⟩: ∃q,(runes s)[k]?=some q:=⟨_,ι (by rw[HN.o];exact hlt)⟩
      have y:=HC.o k q hq;have cl:=DK q.2 wr;have nx:iE q.2=true-> ∀p∈(runes s).take (k+1),iE p.2=true:=fun h p hp=>by
       rw[ψ,hq]at hp
       rcases abL.1 hp with hp|hp
       ·exact hall p hp
       ·rw[show p=q by simpa using hp];exact h
      have no:iE q.2=false->fB s=false:=fun h=>Vg (ς hq) h;have hiff:=F7 q.2;obtain⟨r,hr⟩: ∃r,q.2=r:=⟨_,rfl⟩;rw[hr]at y cl nx no hiff;have G:=γ (θ hg (θ nx no));have HI:=γ hiff;clear hq hg hall nx no hiff hr
      cases hlet:iW r with
      |true=>
       rw[hlet]at cl;have Y:=γ (G.o.2.1 (HI.o.2 (.inl hlet)));clear hlet;go_wp2_with (go_at_call 173;refine cl.mono ?_;rintro e w' ⟨rfl,rfl⟩);go_roundg (N-(k+1))
       case rel=>exact⟨k+1,by omega,by go_num,ξ _,rfl,Y.o⟩
       case measure=>have:=G.o.1;omega
      |false=>
       rw[hlet]at cl;by_cases h48:(r:Int)<48
       ·by_cases h45:(r:Int)=45
        ·have Y:=γ (G.o.2.1 (HI.o.2 (.inr (.inr h45))))
         have ae1:((r:Int) !=45)=false:=(by simp[h45]);clear hlet h45;go_wp2_with (go_at_call 173;refine cl.mono ?_;rintro e w' ⟨rfl,rfl⟩);go_roundg (N-(k+1))
         case rel=>exact⟨k+1,by omega,by go_num,ξ _,rfl,Y.o⟩
         case measure=>have:=G.o.1;omega
        ·have Y:=γ (G.o.2.2 (by
          cases e:iE r with
          |false=>rfl
          |true=>have:=HI.o.1 e;rw[hlet]at this;simp at this;omega))
         have ae1:((r:Int) !=45)=true:=(by simp[h45]);clear hlet h45;go_wp2_with (go_at_call 173;refine cl.mono ?_;rintro e w' ⟨rfl,rfl⟩);go_ret;exact⟨bK Y.o.symm,K2.o⟩
       ·by_cases h57:57<(r:Int)
        ·have Y:=γ (G.o.2.2 (by
          cases e:iE r with
          |false=>rfl
          |true=>have:=HI.o.1 e;rw[hlet]at this;simp at this;omega))
         have ae1:((r:Int) !=45)=true:=(by have:(r:Int)≠45:=(by omega);simpa using this);clear hlet;go_wp2_with (go_at_call 173;refine cl.mono ?_;rintro e w' ⟨rfl,rfl⟩);go_ret;exact⟨bK Y.o.symm,K2.o⟩
        ·have Y:=γ (G.o.2.1 (HI.o.2 (.inr (.inl ⟨by omega,by omega⟩))))
         clear hlet;go_wp2_with (go_at_call 173;refine cl.mono ?_;rintro e w' ⟨rfl,rfl⟩);go_roundg (N-(k+1))
         case rel=>exact⟨k+1,by omega,by go_num,ξ _,rfl,Y.o⟩
         case measure=>have:=G.o.1;omega
     ·have hkN:k=N:=by omega
      subst hkN
      have F:=γ (show fB s=true by
       rw[vG HP.o.1,HP.o.2,HL.o,<-HP.o.1,HN.o,decide_eq_true (by omega),Bool.true_and,Bool.and_true,List.all_eq_true];intro q hq
       exact hall q (by rw[χ (by rw[HN.o];exact ξ _)];exact hq))
      clear hall hg;go_wp2_with fail;go_ret;exact⟨bK F.o.symm,K2.o⟩
end
