/- The document's jobs: where a node of a name is; who reads a node. -/
import Derived.Test.YtglbkodmmogomaaGreatDoorS20
set_option linter.unusedVariables false
set_option linter.unusedSimpArgs false
set_option maxHeartbeats 8000000
set_option maxRecDepth 100000
namespace Go.Proofs.YtglbkodmmogomaaGreatDoor
open List Go.Proofs.Tryz
open Go Go.RowKit
theorem YA (j:Jb)(a:Array Value)(uid:ByteArray)(w:World)(h:oh w a j):Calls prog 46 #[.agg a,.string uid] w (Gives w (.int .i64 (bJ j.nodes uid))):=by
 obtain⟨v,rfl,hn,hp⟩:=h;obtain⟨na,cap,rfl,h1,h2,h3⟩:=hn.at;unfold maxLen at h2;have H3:=γ h3;clear h3 hn hp;go_enter func46,ntmps46;go_wp2_with fail;obtain⟨W0,hW0⟩:=acu (w.alloc (.cells #[.int .i64 j.par,.slice na j.nodes.length cap] 24));have k0:ε η w W0:=(by rw[<-hW0];exact δ.alloc _);have d1:W0.cell? ⟨w.heap.size,1,none⟩=some (.slice na j.nodes.length cap):=(by rw[<-hW0];simp);rw[hW0];have K0:=γ k0;clear hW0 k0;go_loopg [5] j.nodes.length (fun g vi wr=> ∃k:Nat,k<=j.nodes.length/\vi= .int .i64 (k:Int)/\j.nodes.length-k<=g/\wr=W0/\ ∀m e,m<k->j.nodes[m]?=some e->e.uid≠uid)
 case atStart=>exact⟨0,by omega,rfl,by omega,rfl,fun m e hm=>by omega⟩
 case round=>
  obtain⟨k,hk,rfl,hg,rfl,hno⟩:=hrel;by_cases hlt:k<j.nodes.length
  ·obtain⟨d,hd⟩: ∃d,j.nodes[k]?=some d:=⟨_,ι hlt⟩
   obtain⟨b,off,pi,ci,p,cap',rfl,hcc,hj⟩:=H3.o k d hd;obtain⟨c0,c1,c2,c3,c4,c5,c6⟩:=hcc.kept K0.o id;have G:=γ (θ hg (θ hd hno));clear hg hd hno hj hcc H3;by_cases hu:d.uid=uid
   ·have F:=γ (Rf G.o.2.1 hu G.o.2.2)
    have hb:(d.uid.toList==uid.toList)=true:=(by rw[str_eq];exact decide_eq_true hu);clear hu;go_wp2;go_ret;exact⟨gV F.o.symm,K0.o⟩
   ·have F:=γ (show∀m e,m<k+1->j.nodes[m]?=some e->e.uid≠uid from fun m e hm he=>by
     by_cases h:m<k
     ·exact G.o.2.2 m e h he
     ·have e1:m=k:=by omega
      subst e1;rw[G.o.2.1]at he
      injection he with he
      rw[<-he];exact hu)
    have hb:(d.uid.toList==uid.toList)=false:=(by rw[str_eq];exact decide_eq_false hu);clear hu;go_wp2;go_roundg (j.nodes.length-(k+1))
    case rel=>exact⟨k+1,by omega,by go_num,ξ _,rfl,F.o⟩
    case measure=>have:=G.o.1;omega
  ·have e1:k=j.nodes.length:=by omega
   subst e1;have F:=γ (Q9 hno);clear hno;go_wp2;go_ret;exact⟨gV F.o.symm,K0.o⟩
theorem xM (j:Jb)(a:Array Value)(i:Nat)(w:World)(h:oh w a j)(ae0:j.nodes.length<=1000):Calls prog 95 #[.agg a,.int .i64 (i:Int)] w (fun e w'=> ∃v,e= .returned v/\w'.ownsRow w.heap.size 3 1 v (fV j.nodes i) (ints (dA j.nodes i j.nodes.length))/\ε η w w'):=by
 obtain⟨v,rfl,hn,hp⟩:=h;obtain⟨na,cap,rfl,h1,h2,h3⟩:=hn.at;unfold maxLen at h2;have H3:=γ h3;clear h3 hn hp;go_enter func95,ntmps95;go_wp2_with fail;obtain⟨W0,hW0⟩:=acu ((w.alloc (.cells #[.int .i64 j.par,.slice na j.nodes.length cap] 24)));have k0:ε η w W0:=(by rw[<-hW0];exact δ.alloc _);have d1:W0.cell? ⟨w.heap.size,1,none⟩=some (.slice na j.nodes.length cap):=(by rw[<-hW0];simp);have hs0:w.heap.size+1=W0.heap.size:=(by rw[<-hW0];simp);rw[hW0];have K0:=γ k0;clear hW0 k0;go_loopg [5,6] j.nodes.length (fun g vo vi wr=> ∃(k:Nat),k<=j.nodes.length/\vi= .int .i64 (k:Int)/\j.nodes.length-k<=g/\wr.ownsRow W0.heap.size 3 1 vo (dA j.nodes i k).length (ints (dA j.nodes i k))/\ε η W0 wr)
 case atStart=>exact⟨0,by omega,rfl,by omega,World.ownsRow_nil _ _ _ _,ε.refl _ _⟩
 case round=>
  obtain⟨k,hkl,rfl,hg,hown,hkp⟩:=hrel;obtain⟨oa,oc,rfl⟩:=au hown;have e1:=hkp.cell (p:=⟨w.heap.size,1,none⟩) id d1;by_cases hlt:k<j.nodes.length
  ·obtain⟨d,hd⟩: ∃d,j.nodes[k]?=some d:=⟨_,ι hlt⟩
   obtain⟨b,off,pi,ci,p,cap',rfl,hc,hj⟩:=H3.o k d hd;obtain⟨c0,c1,c2,c3,c4,c5,c6⟩:=hc.kept (K0.o.trans hkp) id;have hin:Reads w 1 (.slice pi d.ins.length ci) (ints d.ins):=by
    obtain⟨_,_,_,_,e,_,hx,_⟩:=hj
    injection e with e
    simp only[List.cons.injEq,and_true,true_and]at e;obtain⟨e1,e2⟩:=e;rw[e1];exact hx
   obtain⟨ia,il,ic,ie,i1,i2,_,JX⟩:=hin.pure (K0.o.trans hkp)
   injection ie with Zm Zl Zk
   subst Zm Zl Zk;unfold maxLen at i2;have i3: ∀(m:Nat)(x:Int),d.ins[m]?=some x-> ∃b off,pi=some ⟨b,off,none⟩/\wr.cell? ⟨b,off+m,none⟩=some (.int .i64 x):=(by intro m x hx;have hne:ints d.ins≠[]:=fun e=>(by unfold ints at e;rw[map_eq_nil_iff]at e;rw[e]at hx;cases hx);obtain⟨b,off,e,hc⟩:=JX.resolve_left hne;exact⟨b,off,e,hc m _ (by unfold ints;rw[aav,hx];rfl)⟩);clear JX;have I3:=γ i3;have G:=γ (θ hg (θ hown (θ hkp hd)));clear hd hj hc hg hown hkp hin H3 i3;go_wp2;go_loopg [7,8] d.ins.length (fun g vb vi W=> ∃(m:Nat),m<=d.ins.length/\vi= .int .i64 (m:Int)/\vb= .bool (decide ((i:Int)∈d.ins.take m))/\d.ins.length-m<=g/\W=wr)
   case atStart=>exact⟨0,by omega,rfl,by simp,by omega,rfl⟩
   case round=>
    obtain⟨m,hml,rfl,rfl,hgm,rfl⟩:=hrel;by_cases hmt:m<d.ins.length
    ·obtain⟨x,hx⟩: ∃x,d.ins[m]?=some x:=⟨_,ι hmt⟩
     obtain⟨bi,oi,rfl,y⟩:=I3.o m x hx
     have E:=γ (show((i:Int)∈d.ins.take (m+1))↔((i:Int)∈d.ins.take m\/x=(i:Int)) by
      rw[ψ,hx,aax];simp[eq_comm])
     have HG:=γ hgm;clear hx hgm;by_cases hm:(i:Int)∈d.ins.take m
     ·have b1:decide ((i:Int)∈d.ins.take m)=true:=decide_eq_true hm
      have b2:=γ (decide_eq_true (E.o.2 (.inl hm)));rw[b1];clear b1 hm;go_wp2;go_roundg (d.ins.length-(m+1))
      case rel=>exact⟨m+1,by omega,by go_num,by rw[b2.o],ξ _,rfl⟩
      case measure=>have:=HG.o;omega
     ·have b1:decide ((i:Int)∈d.ins.take m)=false:=decide_eq_false hm
      have b2:=γ (show(x==(i:Int))=decide ((i:Int)∈d.ins.take (m+1)) by
       rw[Bool.eq_iff_iff,beq_iff_eq,decide_eq_true_iff,E.o]
       exact⟨.inr,fun h=>h.resolve_left hm⟩)
      rw[b1];clear b1 hm;go_wp2;go_roundg (d.ins.length-(m+1))
      case rel=>exact⟨m+1,by omega,by go_num,by rw[<-b2.o],ξ _,rfl⟩
      case measure=>have:=HG.o;omega
    ·obtain rfl:m=d.ins.length:=by omega
     rw[take_length];clear hgm;have hle:=Ei j.nodes i k;by_cases hm:(i:Int)∈d.ins
     ·have b1:decide ((i:Int)∈d.ins)=true:=decide_eq_true hm
      rw[b1];have E1:=γ (oV (i:=i) G.o.2.2.2);rw[if_pos hm]at E1;obtain⟨ti,hi3,hz3,hs3,hb3⟩:=rU;obtain⟨v',w',b1,b2,b3⟩:=PL (x:= .int .i64 (k:Int)) (bytes:=8) underlying37 hi3 hz3 hs3 hb3 rfl rfl G.o.2.1 (by omega) (by omega) G.o.2.2.1.size 37;have hnew:w'.ownsRow W0.heap.size 3 1 v' (dA j.nodes i (k+1)).length (ints (dA j.nodes i (k+1))):=(by rw[E1.o,ν];unfold ints at b2⊢;rw[aay];exact b2);have F:=γ (θ hnew (G.o.2.2.1.new b3 (fun i hi h=>by omega)));have B1:=γ b1;clear b1 b2 b3 hnew hi3 hz3 hs3 hb3 hm;go_wp2_with (at_builtin;refine wpList_append_run rfl (.tmp 42) (.tmp 44) 37 rfl (.slice oa (dA j.nodes i k).length oc) (.slice (some ⟨wr.heap.size,0,none⟩) 1 1) v' rfl rfl B1.o ?_);go_roundg (j.nodes.length-(k+1))
      case rel=>exact⟨k+1,by omega,by go_num,ξ _,F.o⟩
      case measure=>have:=G.o.1;omega
     ·have b1:decide ((i:Int)∈d.ins)=false:=decide_eq_false hm
      rw[b1];have E1:=oV (i:=i) G.o.2.2.2;rw[if_neg hm,append_nil]at E1;have F:=γ (show wr.ownsRow W0.heap.size 3 1 (.slice oa (dA j.nodes i k).length oc) (dA j.nodes i (k+1)).length (ints (dA j.nodes i (k+1))) by rw[E1];exact G.o.2.1);clear hm b1 E1;go_wp2;go_roundg (j.nodes.length-(k+1))
      case rel=>exact⟨k+1,by omega,by go_num,ξ _,F.o,G.o.2.2.1⟩
      case measure=>have:=G.o.1;omega
  ·have e1:k=j.nodes.length:=by omega
   subst e1;have hF:(dA j.nodes i j.nodes.length).length=fV j.nodes i:=(by rw[tK _ _ _ (ξ _),take_length];rfl);rw[hF]at hown;rw[hF];have HK:=γ (θ (K0.o.trans hkp) (show wr.ownsRow w.heap.size 3 1 (.slice oa (fV j.nodes i) oc) (fV j.nodes i) (ints (dA j.nodes i j.nodes.length))from⟨hown.1,hown.2.imp id fun⟨g,cap,cur,e1,e2,rest⟩=>⟨g,cap,cur,e1,by omega,rest⟩⟩));clear hkp hown hF;go_wp2;go_ret;exact⟨_,rfl,HK.o.2,HK.o.1⟩
theorem Cb (x:Ex)(most:Nat)(h:1<=most):1<=jT x most/\jT x most<=most:=by rw[Cc x most h];have:1<=yE x:=(by cases x;unfold yE;omega);omega
theorem Tf (x:Ex)(most:Nat):jT x most=qo x.args 1 most:=by cases x;rw[jT];rfl
theorem Ti {l:List Ex}{k n most:Nat}{y:Ex}(h:l[k]?=some y):qo (l.drop k) n most=if n<most then qo (l.drop (k+1)) (n+jT y (most-n)) most else n:=by
 have hk:k<l.length:=by rcases Nat.lt_or_ge k l.length with h'|h';exact h';rw[aak h']at h;cases h
 have e:l.drop k=y::l.drop (k+1):=by
  rw[acn hk];rw[ι hk]at h
  injection h with h
  rw[h]
 rw[e,qo]
theorem Gl: ∀(N:Nat)(x:Ex)(a:Array Value)(most:Nat)(w:World),SizeOf.sizeOf x<=N->1<=most->most<=1001->aF w a x->Calls prog 93 #[.agg a,.int .i64 (most:Int)] w (Gives w (.int .i64 (jT x most:Int)))
 |0,x,_,_,_,h,_,_,_=>by cases x;simp at h
 |N+1,x,a,most,w,hN,hm1,hm2,h=>by
  obtain⟨p,cap,rfl,h0,h1,h2,h3,h4,h5⟩:=h.parts;have sub: ∀(i:Nat)(y:Ex),x.args[i]?=some y->SizeOf.sizeOf y<=N:=(by intro i y hy;obtain⟨op,n,args⟩:=x;have h1:=sizeOf_lt_of_mem (ς (show args[i]?=some y from hy));simp at hN;omega);have IH:=γ (fun y a m w hy=>Gl N y a m w hy);have SB:=γ sub;have H5:=γ h5;have HX:=γ (Tf x most);unfold maxLen at h4;clear h h5 sub hN;go_enter func93,ntmps93;go_wp2_with fail;obtain⟨W0,hW0⟩:=acu (w.alloc (.cells #[.int .u8 x.op,.int .i64 x.n,.slice p x.args.length cap] 40));have k0:ε η w W0:=(by rw[<-hW0];exact δ.alloc _);have d2:W0.cell? ⟨w.heap.size,2,none⟩=some (.slice p x.args.length cap):=(by rw[<-hW0];simp);rw[hW0];have K0:=γ k0;clear hW0 k0;go_loopg [5,6] x.args.length (fun g vn vi wr=> ∃(k n:Nat),k<=x.args.length/\vi= .int .i64 (k:Int)/\vn= .int .i64 (n:Int)/\x.args.length-k<=g/\(1<=n/\n<=most)/\qo (x.args.drop k) n most=jT x most/\ε η W0 wr)
  case atStart=>exact⟨0,1,by omega,rfl,rfl,by omega,⟨by omega,by omega⟩,by rw[drop_zero,HX.o],ε.refl _ _⟩
  case round=>
   obtain⟨k,n,hkl,rfl,rfl,hg,⟨hn1,hn2⟩,hpl,hkp⟩:=hrel;have e2:=hkp.cell (p:=⟨w.heap.size,2,none⟩) id d2;have HKP:=γ hkp;have hW:=(K0.o.trans hkp:ε η w wr);clear hkp;by_cases hlt:k<x.args.length
   ·obtain⟨y,hy⟩: ∃y,x.args[k]?=some y:=⟨_,ι hlt⟩
    have Qu:=Ti (n:=n) (most:=most) hy;rw[hpl]at Qu;by_cases hnm:n<most
    ·rw[if_pos hnm]at Qu
     obtain⟨b,off,p',cap',rfl,q0,q1,q2,hy2⟩:=H5.o k y hy;have r0:=hW.cell (p:=⟨b,off+k*3,none⟩) id q0;have r1:=hW.cell (p:=⟨b,off+k*3+1,none⟩) id q1;have r2:=hW.cell (p:=⟨b,off+k*3+2,none⟩) id q2;have hle:=Cb y (most-n) (by omega);have G:=γ (θ hg (θ (aF.pure hW hy2) (θ (SB.o k y hy) Qu)));have hsub:(most:Int)-(n:Int)=((most-n:Nat):Int):=(by omega);clear q0 q1 q2 hy hy2 hW hg H5 Qu hpl;go_wp2_with fail;have c:=IH.o y _ (most-n) wr G.o.2.2.1 (by omega) (by omega) G.o.2.1;obtain⟨P,hP⟩:=acu (jT y (most-n));rw[hP]at c hle;have HP:=γ hP;clear hP;refine c.mono ?_;clear c;rintro e w2 ⟨rfl,k2⟩;have K2:=γ (HKP.o.trans k2);clear k2;go_wp2;go_roundg (x.args.length-(k+1))
     case rel=>exact⟨k+1,n+P,by omega,by go_num,by go_num,ξ _,⟨by omega,by omega⟩,by rw[<-HP.o];exact G.o.2.2.2.symm,K2.o⟩
     case measure=>have:=G.o.1;omega
    ·rw[if_neg hnm]at Qu
     have F:=γ Qu;have KW:=γ hW;clear hW hg Qu hpl hy;go_wp2;go_ret;exact⟨Lh (by rw[F.o]),KW.o⟩
   ·have F:=γ (show jT x most=n by
     rw[<-hpl,drop_eq_nil_of_le (by omega),qo])
    have KW:=γ hW;clear hW hg hpl;go_wp2;go_ret;exact⟨Lh (by rw[F.o]),KW.o⟩
mutual
def lS:Ex->Ex->Bool
 | .mk o n l,y=>(o==y.op)&&(n==y.n)&&(l.length==y.args.length)&&mW l y.args
def mW:List Ex->List Ex->Bool
 |x::l,y::m=>lS x y&&mW l m
 |[],_=>true
 |_,[]=>true
end
theorem Ku (x y:Ex):lS x y=((x.op==y.op)&&(x.n==y.n)&&(x.args.length==y.args.length)&&mW x.args y.args):=by cases x;rw[lS];rfl
theorem EF: ∀(l m:List Ex),(∀(k:Nat)(a b:Ex),l[k]?=some a->m[k]?=some b->lS a b=true)->mW l m=true
 |x::l,y::m,h=>by rw[mW,h 0 x y rfl rfl,Bool.true_and];exact EF l m fun k a b ha hb=>h (k+1) a b (by simpa using ha) (by simpa using hb)
 |[],_,_=>by rw[mW]
 |_::_,[],_=>by rw[mW];simp
theorem Ie: ∀(l m:List Ex)(k:Nat)(a b:Ex),l[k]?=some a->m[k]?=some b->lS a b=false->mW l m=false
 |x::l,y::m,0,a,b,ha,hb,h=>by
  rw[aap]at ha hb
  injection ha with ha;injection hb with hb
  rw[mW,ha,hb,h,Bool.false_and]
 |x::l,y::m,k+1,a,b,ha,hb,h=>by rw[aat]at ha hb;rw[mW,Ie l m k a b ha hb h,Bool.and_false]
 |[],_,k,_,_,ha,_,_=>by simp at ha
 |_::_,[],k,_,_,_,hb,_=>by simp at hb
theorem Jz: ∀(N:Nat)(x y:Ex)(a b:Array Value)(w:World),SizeOf.sizeOf x<=N->aF w a x->aF w b y->Calls prog 82 #[.agg a,.agg b] w (Gives w (.bool (lS x y)))
 |0,x,_,_,_,_,h,_,_=>by cases x;simp at h
 |N+1,x,y,a,b,w,hN,h,g=>by
  obtain⟨p,cap,rfl,h0,h1,h2,h3,h4,h5⟩:=h.parts;obtain⟨q,caq,rfl,g0,g1,g2,g3,g4,g5⟩:=g.parts;have sub: ∀(i:Nat)(z:Ex),x.args[i]?=some z->SizeOf.sizeOf z<=N:=(by intro i y hy;obtain⟨op,n,args⟩:=x;have h1:=sizeOf_lt_of_mem (ς (show args[i]?=some y from hy));simp at hN;omega);have IH:=γ (fun x y a b w hy=>Jz N x y a b w hy);have SB:=γ sub;have H5:=γ h5;have G5:=γ g5;have HX:=γ (Ku x y);unfold maxLen at h4 g4;unfold aJ at h2 g2;obtain⟨h2,h2'⟩:=h2;obtain⟨g2,g2'⟩:=g2;clear h h5 g g5 sub hN;by_cases c0:x.op=y.op
  ·have b0:(x.op !=y.op)=false:=by simp[c0]
   by_cases c1:x.n=y.n
   ·have b1:(x.n !=y.n)=false:=by simp[c1]
    by_cases c2:x.args.length=y.args.length
    ·have b2:((x.args.length:Int) !=(y.args.length:Int))=false:=by simp[c2]
     have HS:=γ (show lS x y=mW x.args y.args by rw[HX.o];simp[c0,c1,c2]);clear c0 c1;have C2:=γ c2;clear c2;go_enter func82,ntmps82;go_wp2_with fail;obtain⟨W0,hW0⟩:=acu ((w.alloc (.cells #[.int .u8 x.op,.int .i64 x.n,.slice p x.args.length cap] 40)).alloc (.cells #[.int .u8 y.op,.int .i64 y.n,.slice q y.args.length caq] 40));have k0:ε η w W0:=(by rw[<-hW0];exact(δ.alloc _).alloc _);have d0:W0.cell? ⟨w.heap.size,0,none⟩=some (.int .u8 x.op):=(by rw[<-hW0];simp);have d1:W0.cell? ⟨w.heap.size,1,none⟩=some (.int .i64 x.n):=(by rw[<-hW0];simp);have d2:W0.cell? ⟨w.heap.size,2,none⟩=some (.slice p x.args.length cap):=(by rw[<-hW0];simp);have e0:W0.cell? ⟨w.heap.size+1,0,none⟩=some (.int .u8 y.op):=(by rw[<-hW0];simp);have e1:W0.cell? ⟨w.heap.size+1,1,none⟩=some (.int .i64 y.n):=(by rw[<-hW0];simp);have e2:W0.cell? ⟨w.heap.size+1,2,none⟩=some (.slice q y.args.length caq):=by rw[<-hW0];simp
     (try simp only[World.agA,World.size_alloc,Array.size_push]at*)
     rw[hW0];have KF:=γ k0;clear hW0 k0;go_loopg [5] x.args.length (fun g vi wr=> ∃(k:Nat),k<=x.args.length/\vi= .int .i64 (k:Int)/\x.args.length-k<=g/\(∀(j:Nat)(a b:Ex),j<k->x.args[j]?=some a->y.args[j]?=some b->lS a b=true)/\ε η W0 wr)
     case atStart=>exact⟨0,by omega,rfl,by omega,by intro j a b h;omega,ε.refl _ _⟩
     case round=>
      obtain⟨k,hkl,rfl,hg,hall,hkp⟩:=hrel;have d2':=hkp.cell (p:=⟨w.heap.size,2,none⟩) id d2;have e2':=hkp.cell (p:=⟨w.heap.size+1,2,none⟩) id e2;have HKP:=γ hkp;have hW:=(KF.o.trans hkp:ε η w wr);clear hkp;by_cases hlt:k<x.args.length
      ·obtain⟨u,hu⟩: ∃u,x.args[k]?=some u:=⟨_,ι hlt⟩
       obtain⟨v,hv⟩: ∃v,y.args[k]?=some v:=⟨_,ι (by have:=C2.o;omega)⟩;have hlt2:k<y.args.length:=(by have:=C2.o;omega);obtain⟨b,off,p',cap',rfl,q0,q1,q2,hy2⟩:=H5.o k u hu;obtain⟨b',off',p'',cap'',rfl,q0',q1',q2',aeE⟩:=G5.o k v hv;have r0:=hW.cell (p:=⟨b,off+k*3,none⟩) id q0;have r1:=hW.cell (p:=⟨b,off+k*3+1,none⟩) id q1;have r2:=hW.cell (p:=⟨b,off+k*3+2,none⟩) id q2;have s0:=hW.cell (p:=⟨b',off'+k*3,none⟩) id q0';have s1:=hW.cell (p:=⟨b',off'+k*3+1,none⟩) id q1';have s2:=hW.cell (p:=⟨b',off'+k*3+2,none⟩) id q2';have G:=γ (θ hg (θ (aF.pure hW hy2) (θ (aF.pure hW aeE) (θ (SB.o k u hu) (θ hu (θ hv hall))))));have KW:=γ hW;clear q0 q1 q2 hy2 q0' q1' q2' aeE hW hg hall hu hv;go_wp2;refine acv [0,1,2,3,4,5,6,7,8,9,10,11] ?_;simp only[aco];iterate 10 (apply aj rfl rfl;(intro W hW;have z0:=hW.cell id d2';have z1:=hW.cell id e2';have t0:=hW.cell id r0;have t1:=hW.cell id r1;have t2:=hW.cell id r2;have t3:=hW.cell id s0;have t4:=hW.cell id s1;have t5:=hW.cell id s2;go_simp;rfl);go_frame)
       apply ay rfl rfl;intro K hK;go_wp2_with fail;have c:=IH.o u v _ _ _ G.o.2.2.2.1 (aF.pure δ.drew G.o.2.1) (aF.pure δ.drew G.o.2.2.1);refine c.mono ?_;clear c;rintro e w2 ⟨rfl,k2⟩;have k2':ε η wr w2:=k2.aW;have K2:=γ (θ (KW.o.trans k2') (HKP.o.trans k2'));obtain⟨B,hB⟩:=acu (lS u v);rw[hB];go_wp2;refine hK _ _ (fun _=>k2') ?_;clear hK k2
       (apply aj rfl rfl;(intro W hW;go_simp;rfl);go_frame)
       refine aA (fun _=>k2') ?_;clear k2'
       cases B with
       |false=>have F:=γ (show lS x y=false by rw[HS.o];exact Ie _ _ k u v G.o.2.2.2.2.1 G.o.2.2.2.2.2.1 hB);clear hB;go_wp2;go_ret;exact⟨aP F.o.symm,K2.o.1⟩
       |true=>
        have F:=γ hB;clear hB;go_wp2;go_roundg (x.args.length-(k+1))
        case rel=>
         refine⟨k+1,by omega,by go_num,ξ _,?_,K2.o.2⟩;intro j a b hj ha hb;by_cases hjk:j<k
         ·exact G.o.2.2.2.2.2.2 j a b hjk ha hb
         ·obtain rfl:j=k:=by omega
          have e1:=G.o.2.2.2.2.1;have e2:=G.o.2.2.2.2.2.1;rw[e1]at ha;rw[e2]at hb
          injection ha with ha;injection hb with hb
          subst ha;subst hb;exact F.o
        case measure=>have:=G.o.1;omega
      ·have F:=γ (show lS x y=true by
        rw[HS.o];refine EF _ _ fun j a b ha hb=>hall j a b ?_ ha hb
        have:j<x.args.length:=by rcases Nat.lt_or_ge j x.args.length with h'|h';exact h';rw[aak h']at ha;cases ha
        omega)
       have KF2:=γ hW;clear hall hW hg;go_wp2;go_ret;exact⟨aP F.o.symm,KF2.o⟩
    ·have b2:((x.args.length:Int) !=(y.args.length:Int))=true:=by simp only[bne_iff_ne,ne_eq];omega
     have F:=γ (show lS x y=false by rw[HX.o];simp[c2]);clear c2;go_enter func82,ntmps82;go_wp2;go_ret;exact⟨aP F.o.symm,(δ.alloc _).alloc _⟩
   ·have b1:(x.n !=y.n)=true:=by simp only[bne_iff_ne,ne_eq];omega
    have F:=γ (show lS x y=false by rw[HX.o];simp[c1]);clear c1;go_enter func82,ntmps82;go_wp2;go_ret;exact⟨aP F.o.symm,(δ.alloc _).alloc _⟩
  ·have b0:(x.op !=y.op)=true:=by simp only[bne_iff_ne,ne_eq];omega
   have F:=γ (show lS x y=false by rw[HX.o];simp[c0]);clear c0;go_enter func82,ntmps82;go_wp2;go_ret;exact⟨aP F.o.symm,(δ.alloc _).alloc _⟩
theorem Zi: ∃i,prog.info? 21=some i/\i.zero=some (.int .i32 0)/\i.size=1/\i.bytes=4:=by
 have h:(prog.info? 21).map (fun i=>(i.zero,i.size,i.bytes))=some (some (.int .i32 0),1,4):=(by kernel_rfl);obtain⟨i,h1,h2⟩:=acg.1 h
 injection h2 with h2 h3
 injection h3 with h3 h4
 exact⟨i,h1,h2,h3,h4⟩
def xK (l:List (Nat×Nat)):List Value:=l.map fun p=> .int .i32 (p.2:Int)
def WS (l:List (Nat×Nat)):List Value:=l.map fun p=> .int .i64 (p.1:Int)
def afU (w:World)(s:ByteArray)(e:Ending)(w':World):Prop:= ∃v1 v2,e= .returned (.tuple #[v1,v2])/\w'.ownsRow w.heap.size 21 1 v1 (runes s).length (xK (runes s))/\ε η w w'
theorem ownBlock_ne {w:World}{base E1 E2 n1 n2:Nat}{v1 v2:Value}{xs1 xs2:List Value}(h1:w.ownsRow base E1 1 v1 n1 xs1)(h2:w.ownsRow base E2 1 v2 n2 xs2)(hE:E1≠E2){k:Nat}(hk:v1.ownBlock=some k):v2.ownBlock≠some k:=by
 rcases h1.2 with⟨e1,_⟩|⟨g,cap,cur,e1,_,hg,_⟩
 ·rw[e1]at hk;cases hk
 ·rw[e1]at hk
  have:g=k:=(by simpa[Value.ownBlock]using hk);subst this;exact row_ne h2 hg hE
theorem Yo (s:ByteArray)(hs:s.size<=1000)(w:World):Calls prog 172 #[.string s] w (afU w s):=by
 obtain⟨w0,hrun,hit,hk0,hs0⟩:=kG (P:=prog) w 9 s underlying9;have hlen:=jg s;have H:=γ (θ hit (θ hk0 hs0));clear hit hk0 hs0;go_enter func172,ntmps172;go_wp2;go_loopg [4,5] (runes s).length (fun k v1 v2 wr=> ∃left done,nC wr w.heap.size s left/\runes s=done++left/\left.length=k/\wr.ownsRow w.heap.size 21 1 v1 done.length (xK done)/\wr.ownsRow w.heap.size 3 1 v2 done.length (WS done)/\ε η w wr)
 case atStart=>exact⟨runes s,[],H.o.1,rfl,rfl,World.ownsRow_nil _ _ _ _,World.ownsRow_nil _ _ _ _,H.o.2.1⟩
 case round=>
  obtain⟨left,done,hit,hall,hk,ho1,ho2,hk1⟩:=hrel;obtain⟨a1,c1,rfl⟩:=au ho1;obtain⟨a2,c2,rfl⟩:=au ho2
  rcases hit.next (P:=prog) 0 with⟨rfl,hrun⟩|⟨p,left',w2,hp,hrun,hit2,hk2,hs2⟩
  ·clear hit
   rw[append_nil]at hall;subst hall;have F:=γ (θ ho1 hk1);clear ho1 ho2 hk1;go_wp2;go_ret2;exact⟨_,_,rfl,F.o.1,F.o.2⟩
  ·have hl:runes s=done++p::left':=by rw[hall,hp]
   have hdl:done.length+1<=1000:=(by rw[hl]at hlen;simp at hlen;omega);have hm:left'.length<gk:=(by rw[hp]at hk;simp at hk;omega);have YT: ∀{v:Value}{E n:Nat}{xs:List Value},wr.ownsRow w.heap.size E 1 v n xs->v.ownBlock≠some w.heap.size:=fun{v E n xs} ho e=>by
    rcases ho.2 with⟨e1,_⟩|⟨g,cap,cur,e1,_,hg,_⟩
    ·rw[e1]at e;cases e
    ·rw[e1]at e
     have:g=w.heap.size:=(by simpa[Value.ownBlock]using e);subst this;exact hit.kK _ _ _ hg
   have o1:w2.ownsRow w.heap.size 21 1 (.slice a1 done.length c1) done.length (xK done):=hk2.owns ho1 (fun k hk hs=>YT ho1 (by rw[hk,show k=w.heap.size from hs]));have o2:w2.ownsRow w.heap.size 3 1 (.slice a2 done.length c2) done.length (WS done):=hk2.owns ho2 (fun k hk hs=>YT ho2 (by rw[hk,show k=w.heap.size from hs]));have hb2:w.heap.size<=w2.heap.size:=(by have:=hk1.size;have:=hk2.size;omega);obtain⟨i1,hi1,hz1,hsz1,CX⟩:=Zi;obtain⟨g1,cp1,w3,r1,p1,q1⟩:=lK (x:= .int .i32 (p.2:Int)) (bytes:=4) underlying245 hi1 hz1 hsz1 CX rfl rfl o1 (by omega) (by omega) hb2 245;have o2':w3.ownsRow w.heap.size 3 1 (.slice a2 done.length c2) done.length (WS done):=q1.owns o2 (fun k hk hs=>ownBlock_ne o1 o2 (by decide) hs hk);obtain⟨i2,hi2,hz2,hsz2,afc⟩:=rU;obtain⟨g2,cp2,w4,r2,p2,q2⟩:=lK (x:= .int .i64 (p.1:Int)) (bytes:=8) underlying37 hi2 hz2 hsz2 afc rfl rfl o2' (by omega) (by omega) (by have:=q1.size;omega) 37;have p1':w4.ownsRow w.heap.size 21 1 (.slice (some ⟨g1,0,none⟩) (done.length+1) cp1) (done.length+1) (xK done++[.int .i32 (p.2:Int)]):=q2.owns p1 (fun k hk hs=>ownBlock_ne o2' p1 (by decide) hs hk);have hk3:ε η w w2:=hk1.new hk2 (fun i hi e=>by unfold one at e;omega);have hown: ∀{v:Value}{E n:Nat}{xs:List Value}{W:World},W.ownsRow w.heap.size E 1 v n xs-> ∀k,v.ownBlock=some k->w.heap.size<=k:=fun ho k hk=>(aY ho hk).1;have hk4:ε η w w4:=(hk3.new q1 (fun i hi e=>by have:=hown o1 i e;omega)).new q2 (fun i hi e=>by have:=hown o2' i e;omega);have Qj:nC w4 w.heap.size s left':=(hit2.kept q1 (fun e=>YT ho1 e)).kept q2 (fun e=>YT ho2 e);have G:=γ (θ Qj (θ hl (θ p1' (θ p2 (θ hk4 hm)))));clear hit hit2 hall hk ho1 ho2 hk1 hl hm YT o1 o2 o2' p1 p1' p2 q1 q2 hk2 hs2 hk3 hk4 Qj hown hi1 hz1 hsz1 CX hi2 hz2 hsz2 afc hp H hlen;go_wp2_with (first|(at_builtin;refine wpList_append_run rfl (.tmp 14) (.tmp 16) 245 rfl (.slice a1 done.length c1) (.slice (some ⟨w2.heap.size,0,none⟩) 1 1) _ rfl rfl r1 ?_)|(at_builtin;refine wpList_append_run rfl (.tmp 18) (.tmp 20) 37 rfl (.slice a2 done.length c2) (.slice (some ⟨w3.heap.size,0,none⟩) 1 1) _ rfl rfl r2 ?_));go_roundg left'.length
   case rel=>
    refine⟨left',done++[p],G.o.1,by rw[G.o.2.1];simp,rfl,?_,?_,G.o.2.2.2.2.1⟩
    ·have:=G.o.2.2.1;simpa[xK]using this
    ·have:=G.o.2.2.2.1;simpa[WS]using this
   case measure=>exact G.o.2.2.2.2.2
theorem Ef (r:Nat)(w:World):Calls prog 173 #[.int .i32 (r:Int)] w fun e w'=>e= .returned (.bool (jo r))/\w=w':=by
 go_enter func173,ntmps173;go_wp2;all_goals
  go_ret;refine⟨rC ?_,rfl⟩;rw[Bool.eq_iff_iff,Ep];simp only[Bool.or_eq_true,decide_eq_true_eq,bne_iff_ne,ne_eq,Bool.false_eq_true,true_iff,false_iff];omega
theorem vP {s:ByteArray}{p:Nat×Nat}{l:List (Nat×Nat)}(h:runes s=p::l):fM s=(jo p.2&&(p::l).all (fun q=>iQ q.2)&&decide ((p::l).length<=24)):=by unfold fM;rw[h];rfl
theorem VK {s:ByteArray}{q:Nat×Nat}(hq:q∈runes s)(h:iQ q.2=false):fM s=false:=by
 cases e:runes s with
 |nil=>rw[e]at hq;cases hq
 |cons p l=>rw[vP e];have:(p::l).all (fun q=>iQ q.2)=false:=all_eq_false.2 ⟨q,by rw[<-e];exact hq,by simp[h]⟩;rw[this];simp
theorem Yu (s:ByteArray)(hs:s.size<=1000)(w:World):Calls prog 138 #[.string s] w (Gives w (.bool (fM s))):=by
 have cr:=Yo s hs w;have hlen:=jg s;go_enter func138,ntmps138;go_wp2_with fail;refine cr.mono ?_;clear cr;rintro e w2 ⟨v1,v2,rfl,ho,k2⟩;obtain⟨a1,c1,rfl⟩:=au ho;have K2:=γ k2;have HS:=γ hs;obtain⟨pa,n',pc,pe,_,_,_,hcell⟩:=Reads.aN ho
 injection pe with pe1 Em BZ
 subst pe1 BZ;clear ho k2 Em;obtain⟨N,hN⟩:=acu ((runes s).length);have hN1:N<=1000:=(by omega);rw[hN];by_cases h0:N<1
 ·have F:=γ (show fM s=false by
   have:runes s=[]:=τ (by omega)
   unfold fM;rw[this];rfl)
  have HH:=γ hcell;clear hcell hs hlen;have HN:=γ hN;clear hN;go_wp2;go_ret;exact⟨dw F.o.symm,K2.o⟩
 ·obtain⟨bi,bW,rfl,hc2⟩:=hcell.resolve_left (fun h=>by unfold xK at h;simp at h;rw[h]at hN;simp at hN;omega)
  have hcl: ∀k p,(runes s)[k]?=some p->w2.cell? ⟨bi,bW+k,none⟩=some (.int .i32 (p.2:Int)):=fun k p hp=>hc2 k _ (by unfold xK;rw[aav,hp];rfl);have HC:=γ hcl;have HN:=γ hN;clear hc2 hcl hs hlen;by_cases h24:24<N
  ·have F:=γ (show fM s=false by
    cases e:runes s with
    |nil=>rw[e]at hN;simp at hN;omega
    |cons p l=>
     rw[vP e,<-e,hN,decide_eq_false (by omega)];simp)
   clear hN;go_wp2;go_ret;exact⟨dw F.o.symm,K2.o⟩
  ·obtain⟨p,l,hpl⟩: ∃p l,runes s=p::l:=by
    cases e:runes s with
    |nil=>rw[e]at hN;simp at hN;omega
    |cons p l=>exact⟨p,l,rfl⟩
   have y0:=HC.o 0 p (by rw[hpl];rfl);rw[Nat.add_zero]at y0;have cl:=Ef p.2 w2;obtain⟨r0,hr0⟩:=acu p.2;rw[hr0]at y0 cl;have HP:=γ (θ hpl hr0);clear hN hpl
   cases hlet:jo r0 with
   |false=>
    rw[hlet]at cl
    have F:=γ (show fM s=false by
     rw[vP HP.o.1,HP.o.2,hlet];simp)
    clear hlet hr0;go_wp2_with (go_at_call 173;refine cl.mono ?_;rintro e w' ⟨rfl,rfl⟩);go_ret;exact⟨dw F.o.symm,K2.o⟩
   |true=>
    rw[hlet]at cl;have HL:=γ hlet;clear hlet hr0;go_wp2_with (go_at_call 173;refine cl.mono ?_;rintro e w' ⟨rfl,rfl⟩);clear cl y0;go_loopg [5] N (fun g vi wr=> ∃k:Nat,k<=N/\vi= .int .i64 (k:Int)/\N-k<=g/\wr=w2/\ ∀q∈(runes s).take k,iQ q.2=true)
    case atStart=>exact⟨0,by omega,rfl,by omega,rfl,by simp⟩
    case round=>
     obtain⟨k,hk,rfl,hg,rfl,hall⟩:=hrel;by_cases hlt:k<N
     ·obtain⟨q,hq⟩: ∃q,(runes s)[k]?=some q:=⟨_,ι (by rw[HN.o];exact hlt)⟩
      have y:=HC.o k q hq;have cl:=Ef q.2 wr;have nx:iQ q.2=true-> ∀p∈(runes s).take (k+1),iQ p.2=true:=fun h p hp=>by
       rw[ψ,hq]at hp
       rcases aax.1 hp with hp|hp
       ·exact hall p hp
       ·rw[show p=q by simpa using hp];exact h
      have no:iQ q.2=false->fM s=false:=fun h=>VK (ς hq) h;have hiff:=GL q.2;obtain⟨r,hr⟩:=acu q.2;rw[hr]at y cl nx no hiff;have G:=γ (θ hg (θ nx no));have HI:=γ hiff;clear hq hg hall nx no hiff hr
      cases hlet:jo r with
      |true=>
       rw[hlet]at cl;have Y:=γ (G.o.2.1 (HI.o.2 (.inl hlet)));clear hlet;go_wp2_with (go_at_call 173;refine cl.mono ?_;rintro e w' ⟨rfl,rfl⟩);go_roundg (N-(k+1))
       case rel=>exact⟨k+1,by omega,by go_num,ξ _,rfl,Y.o⟩
       case measure=>have:=G.o.1;omega
      |false=>
       rw[hlet]at cl;by_cases h48:(r:Int)<48
       ·by_cases h45:(r:Int)=45
        ·have Y:=γ (G.o.2.1 (HI.o.2 (.inr (.inr h45))))
         have afz:((r:Int) !=45)=false:=(by simp[h45]);clear hlet h45;go_wp2_with (go_at_call 173;refine cl.mono ?_;rintro e w' ⟨rfl,rfl⟩);go_roundg (N-(k+1))
         case rel=>exact⟨k+1,by omega,by go_num,ξ _,rfl,Y.o⟩
         case measure=>have:=G.o.1;omega
        ·have Y:=γ (G.o.2.2 (by
          cases e:iQ r with
          |false=>rfl
          |true=>have:=HI.o.1 e;rw[hlet]at this;simp at this;omega))
         have afz:((r:Int) !=45)=true:=(by simp[h45]);clear hlet h45;go_wp2_with (go_at_call 173;refine cl.mono ?_;rintro e w' ⟨rfl,rfl⟩);go_ret;exact⟨dw Y.o.symm,K2.o⟩
       ·by_cases h57:57<(r:Int)
        ·have Y:=γ (G.o.2.2 (by
          cases e:iQ r with
          |false=>rfl
          |true=>have:=HI.o.1 e;rw[hlet]at this;simp at this;omega))
         have afz:((r:Int) !=45)=true:=(by have:(r:Int)≠45:=(by omega);simpa using this);clear hlet;go_wp2_with (go_at_call 173;refine cl.mono ?_;rintro e w' ⟨rfl,rfl⟩);go_ret;exact⟨dw Y.o.symm,K2.o⟩
        ·have Y:=γ (G.o.2.1 (HI.o.2 (.inr (.inl ⟨by omega,by omega⟩))))
         clear hlet;go_wp2_with (go_at_call 173;refine cl.mono ?_;rintro e w' ⟨rfl,rfl⟩);go_roundg (N-(k+1))
         case rel=>exact⟨k+1,by omega,by go_num,ξ _,rfl,Y.o⟩
         case measure=>have:=G.o.1;omega
     ·have hkN:k=N:=by omega
      subst hkN
      have F:=γ (show fM s=true by
       rw[vP HP.o.1,HP.o.2,HL.o,<-HP.o.1,HN.o,decide_eq_true (by omega),Bool.true_and,Bool.and_true,all_eq_true];intro q hq
       exact hall q (by rw[χ (by rw[HN.o];exact ξ _)];exact hq))
      clear hall hg;go_wp2;go_ret;exact⟨dw F.o.symm,K2.o⟩
theorem TP (x:Ex):lS x (.mk 0 0 [])=lT x:=by
 rw[Ku];unfold lT
 cases x with
 |mk o n l=>
  cases l with
  |nil=>simp[Ex.op,Ex.n,Ex.args,mW]
  |cons y l=>simp[Ex.op,Ex.n,Ex.args]
theorem aex (at_:Nat)(d:JN):bf at_ d=fZ (fM d.uid) d.kind d.ins.length (fU d.ins at_) (lT d.x) (fun acc ty=>nP d.x acc ty) d.n:=by unfold bf;rw[YV]
theorem DK {name:Bool}{k:Int}{ins:Nat}{good none:Bool}{ty:Bool->Int->Bool}{n:Int}(h:name=false\/good=false):fZ name k ins good none ty n=false:=by
 unfold fZ
 rcases h with h|h<;>simp[h]
theorem Hu {l:List Int}{at_ k:Nat}{x:Int}(hx:l[k]?=some x)(h:x<0\/(at_:Int)<=x):fU l at_=false:=by
 unfold fU
 have:l.all (fun k=>decide (0<=k)&&decide (k<(at_:Int)))=false:=all_eq_false.2 ⟨x,ς hx,by
  simp only[Φ,decide_eq_true_eq];omega⟩
 rw[this,Bool.and_false]
theorem TM {l:List Int}{at_ k m:Nat}{x:Int}(hx:l[k]?=some x)(hy:l[m]?=some x)(h:m<k):fU l at_=false:=by unfold fU;have: ¬l.Nodup:=fun hn=>(by have h1:=μ.1 hx;have h2:=μ.1 hy;obtain⟨k1,e1⟩:=h1;obtain⟨m1,e2⟩:=h2;exact(pairwise_iff_getElem.1 hn) m k m1 k1 h (e2.trans e1.symm));rw[decide_eq_false this,Bool.false_and]
theorem TL {l:List Int}{at_:Nat}(h1:l.Nodup)(h2: ∀x∈l,0<=x/\x<(at_:Int)):fU l at_=true:=by unfold fU;rw[decide_eq_true h1,Bool.true_and,all_eq_true];intro x hx;have:=h2 x hx;rw[decide_eq_true this.1,decide_eq_true this.2];rfl
theorem SQ {l:List Int}{k:Nat}{x:Int}(hx:l[k]?=some x)(h:(l.take k).Nodup)(hn: ∀m y,m<k->l[m]?=some y->y≠x):(l.take (k+1)).Nodup:=by
 rw[ψ,hx,Option.toList_some,nodup_append];refine⟨h,by simp,fun a ha b hb e=>?_⟩;obtain⟨m,hm⟩:=getElem?_of_mem ha;rw[aaA]at hm;split at hm
 ·rename_i hmk
  exact hn m a hmk hm (by rw[e];simpa using hb)
 ·cases hm
theorem qV (n:Int):decide (n=0)=(n==0):=by rw[Bool.eq_iff_iff];simp
theorem Z4 (w:World):aF w #[.int .u8 0,.int .i64 0,.slice none 0 0] (.mk 0 0 []):= .mk (by decide) (by decide) ⟨by decide,by decide⟩ (Reads.nil w 3) rfl (fun i x h=>by cases h)
theorem Yv (d:JN)(a:Array Value)(at_:Nat)(w:World)(h:oq w a d)(hu:d.uid.size<=1000):Calls prog 94 #[.agg a,.int .i64 (at_:Int)] w (Gives w (.bool (bf at_ d))):=by
 obtain⟨pi,ci,p,cap,rfl,hx,hin,hi64,hk0,hk1,nN,hul⟩:=h;have H:=γ hx;have HD:=γ (aex at_ d);have hB0:(w.alloc (.cells (bQ d pi ci p cap) 42)).heap[w.heap.size]?=some (.cells (bQ d pi ci p cap) 42 (0,0)):=heap_alloc_new _ _;have k0:ε η w (w.alloc (.cells (bQ d pi ci p cap) 42)):=δ.alloc _;have cn:=Yu d.uid hu (w.alloc (.cells (bQ d pi ci p cap) 42));have K0:=γ (θ k0 hB0);obtain⟨ia,il,ic,ie,i1,i2,_,JX⟩:=hin
 injection ie with Zm Zl Zk
 subst Zm Zl Zk;unfold maxLen at i2
 have I3:=γ (show∀(m:Nat)(x:Int),d.ins[m]?=some x->aJ x/\ ∃b off,pi=some ⟨b,off,none⟩/\w.cell? ⟨b,off+m,none⟩=some (.int .i64 x) by
  intro m x hx;have hne:ints d.ins≠[]:=fun e=>(by unfold ints at e;rw[map_eq_nil_iff]at e;rw[e]at hx;cases hx);obtain⟨b,off,e,hc⟩:=JX.resolve_left hne
  exact⟨hi64 x (ς hx),b,off,e,hc m _ (by unfold ints;rw[aav,hx];rfl)⟩)
 clear JX hx hi64 hul hu k0 hB0;unfold aJ at nN;go_enter func94,ntmps94;go_wp2_with fail;refine cn.mono ?_;clear cn;rintro e W1 ⟨rfl,k1⟩;have hB:=k1.heap K0.o.2 id;have x0:W1.cell? ⟨w.heap.size,0,none⟩=some (.string d.uid):=ζ (j:=0) hB rfl;have x1:W1.cell? ⟨w.heap.size,1,none⟩=some (.int .u8 d.kind):=ζ (j:=1) hB rfl;have x2:W1.cell? ⟨w.heap.size,2,none⟩=some (.slice pi d.ins.length ci):=ζ (j:=2) hB rfl;have x3:W1.cell? ⟨w.heap.size,3,none⟩=some (.int .u8 d.x.op):=ζ (j:=3) hB rfl;have x4:W1.cell? ⟨w.heap.size,4,none⟩=some (.int .i64 d.x.n):=ζ (j:=4) hB rfl;have x5:W1.cell? ⟨w.heap.size,5,none⟩=some (.slice p d.x.args.length cap):=ζ (j:=5) hB rfl;have x6:W1.cell? ⟨w.heap.size,6,none⟩=some (.int .i64 d.n):=ζ (j:=6) hB rfl;have K1:=γ (K0.o.1.trans k1);clear k1;obtain⟨nm,hnm⟩:=acu (fM d.uid);rw[hnm]at HD;rw[hnm];clear hnm
 cases nm with
 |false=>have F:=γ (show bf at_ d=false by rw[HD.o,DK (.inl rfl)]);go_wp2;go_ret;exact⟨aP F.o.symm,K1.o⟩
 |true=>
  obtain⟨L,hL⟩:=acu d.ins.length;have hB':=hB;rw[hL]at x2 i1;have HL:=γ hL;have HB:=γ hB';clear hL hB' hB;go_wp2;go_loopg [5] L (fun g vi W=> ∃k:Nat,k<=L/\vi= .int .i64 (k:Int)/\L-k<=g/\ε η W1 W/\(d.ins.take k).Nodup/\ ∀x∈d.ins.take k,0<=x/\x<(at_:Int))
  case atStart=>exact⟨0,by omega,rfl,by omega,ε.refl _ _,by simp,by simp⟩
  case round=>
   obtain⟨k,hkl,rfl,hg,hkp,hnd,hall⟩:=hrel;have x2:wr.cell? ⟨w.heap.size,2,none⟩=some (.slice pi L ci):=(by rw[<-HL.o];exact ζ (j:=2) (hkp.heap HB.o id) rfl);have KR:=γ (θ (K1.o.trans hkp) hkp);clear hkp;by_cases hlt:k<L
   ·obtain⟨x,hx⟩: ∃x,d.ins[k]?=some x:=⟨_,ι (by rw[HL.o];exact hlt)⟩
    obtain⟨hr,bi,oi,rfl,y0⟩:=I3.o k x hx;have y:=KR.o.1.cell (p:=⟨bi,oi+k,none⟩) id y0;have Y0:=γ y0;have G:=γ (θ hg (θ hnd (θ hall hx)));unfold aJ at hr;clear hg hnd hall hx y0;by_cases c1:x<0
    ·have F:=γ (show bf at_ d=false by rw[HD.o,DK (.inr (Hu G.o.2.2.2 (.inl c1)))])
     go_wp2;go_ret;exact⟨aP F.o.symm,KR.o.1⟩
    by_cases c2:(at_:Int)<=x
    ·have F:=γ (show bf at_ d=false by rw[HD.o,DK (.inr (Hu G.o.2.2.2 (.inr c2)))])
     go_wp2;go_ret;exact⟨aP F.o.symm,KR.o.1⟩
    go_wp2_with fail;clear x2 y;generalize wr=WA at*;go_loopg [6] k (fun g vi W=> ∃m:Nat,m<=k/\vi= .int .i64 (m:Int)/\k-m<=g/\ε η W1 W/\ ∀j y,j<m->d.ins[j]?=some y->y≠x)
    case atStart=>exact⟨0,by omega,rfl,by omega,KR.o.2,fun j y hj=>by omega⟩
    case round=>
     obtain⟨m,hmk,rfl,hgm,hkp,hne⟩:=hrel;have x2:wr.cell? ⟨w.heap.size,2,none⟩=some (.slice (some ⟨bi,oi,none⟩) L ci):=(by rw[<-HL.o];exact ζ (j:=2) (hkp.heap HB.o id) rfl);have KS:=γ (θ (K1.o.trans hkp) hkp);have y:=KS.o.1.cell (p:=⟨bi,oi+k,none⟩) id Y0.o;clear hkp;by_cases hmt:m<k
     ·obtain⟨u,hu⟩: ∃u,d.ins[m]?=some u:=⟨_,ι (by rw[HL.o];omega)⟩
      obtain⟨hr2,bi',oi',e',z0⟩:=I3.o m u hu
      injection e' with e'
      injection e' with e1 e2
      subst e1 e2;have z:=KS.o.1.cell (p:=⟨bi,oi+m,none⟩) id z0;have G2:=γ (θ hgm (θ hne hu));have hmL:m<L:=(by omega);clear hgm hne hu z0 hr2;by_cases ce:x=u
      ·have be:(x==u)=true:=by simp[ce]
       have F:=γ (show bf at_ d=false by rw[HD.o,DK (.inr (TM G.o.2.2.2 (by rw[ce];exact G2.o.2.2) hmt))]);clear ce;go_wp2;refine acv [0,1,2,3,4,5,6,7,8,9,10] ?_;simp only[aco];iterate 11 (apply aj rfl rfl;(intro W hW;have z2:=hW.cell id x2;have t0:=hW.cell id y;have t1:=hW.cell id z;go_simp;rfl);go_frame)
       refine aA (fun _=>δ.drew) ?_;go_wp2;go_ret;exact⟨aP F.o.symm,KS.o.1.trans δ.drew⟩
      ·have be:(x==u)=false:=by simp[ce]
       have F:=γ (show∀j y,j<m+1->d.ins[j]?=some y->y≠x from fun j y hj hy=>by
        by_cases h:j<m
        ·exact G2.o.2.1 j y h hy
        ·have e1:j=m:=by omega
         subst e1;rw[G2.o.2.2]at hy
         injection hy with hy
         rw[<-hy];exact fun e=>ce e.symm)
       clear ce;go_wp2;refine acv [0,1,2,3,4,5,6,7,8,9,10] ?_;simp only[aco];iterate 11 (apply aj rfl rfl;(intro W hW;have z2:=hW.cell id x2;have t0:=hW.cell id y;have t1:=hW.cell id z;go_simp;rfl);go_frame)
       refine aA (fun _=>δ.drew) ?_;go_wp2;go_roundg (k-(m+1))
       case rel=>exact⟨m+1,by omega,by go_num,ξ _,KS.o.2.trans δ.drew,F.o⟩
       case measure=>have:=G2.o.1;omega
     ·obtain rfl:m=k:=by omega
      have N1:=γ (SQ G.o.2.2.2 G.o.2.1 hne)
      have N2:=γ (show∀z∈d.ins.take (m+1),0<=z/\z<(at_:Int) by
       intro z hz;rw[ψ,G.o.2.2.2]at hz
       rcases aax.1 hz with hz|hz
       ·exact G.o.2.2.1 z hz
       ·rw[show z=x by simpa using hz];omega)
      clear hne hgm;go_wp2;go_roundg (L-(m+1))
      case rel=>exact⟨m+1,by omega,by go_num,ξ _,KS.o.2,N1.o,N2.o⟩
      case measure=>have:=G.o.1;omega
   ·obtain rfl:k=L:=by omega
    rw[χ (by rw[HL.o];exact ξ _)]at hnd hall;obtain⟨n,hn⟩:=acu d.n;obtain⟨kd,hkd⟩:=acu d.kind;obtain⟨B,hBn⟩:=acu (lT d.x)
    have HM:=γ (show bf at_ d=fZ true kd k true B (fun acc ty=>nP d.x acc ty) n by
     rw[HD.o,TL hnd hall,HL.o,hn,hkd,hBn])
    have hBr:=KR.o.2.heap HB.o id;have HN:=γ (θ hn (θ hkd (θ hBn hBr)));rw[hkd]at hk0 hk1;rw[hn]at nN;have hB:=hBr;dsimp only[bQ]at hB;rw[HL.o,hn,hkd]at hB;have x1:wr.cell? ⟨w.heap.size,1,none⟩=some (.int .u8 kd):=ζ (j:=1) hB rfl;have x2:wr.cell? ⟨w.heap.size,2,none⟩=some (.slice pi k ci):=ζ (j:=2) hB rfl;have x3:wr.cell? ⟨w.heap.size,3,none⟩=some (.int .u8 d.x.op):=ζ (j:=3) hB rfl;have x4:wr.cell? ⟨w.heap.size,4,none⟩=some (.int .i64 d.x.n):=ζ (j:=4) hB rfl;have x5:wr.cell? ⟨w.heap.size,5,none⟩=some (.slice p d.x.args.length cap):=ζ (j:=5) hB rfl;have x6:wr.cell? ⟨w.heap.size,6,none⟩=some (.int .i64 n):=ζ (j:=6) hB rfl;clear hnd hall hg hn hkd hBr hB;go_wp2_with fail;have c:=Jz _ d.x (.mk 0 0 []) _ _ wr (ξ _) (aF.pure KR.o.1 H.o) (Z4 wr);refine c.mono ?_;clear c;rintro e W4 ⟨rfl,k4⟩;rw[TP,HN.o.2.2.1];have hB:=k4.heap HN.o.2.2.2 id;dsimp only[bQ]at hB;rw[HL.o,HN.o.1,HN.o.2.1]at hB;have x0:W4.cell? ⟨w.heap.size,0,none⟩=some (.string d.uid):=ζ (j:=0) hB rfl;have x1:W4.cell? ⟨w.heap.size,1,none⟩=some (.int .u8 kd):=ζ (j:=1) hB rfl;have x2:W4.cell? ⟨w.heap.size,2,none⟩=some (.slice pi k ci):=ζ (j:=2) hB rfl;have x3:W4.cell? ⟨w.heap.size,3,none⟩=some (.int .u8 d.x.op):=ζ (j:=3) hB rfl;have x4:W4.cell? ⟨w.heap.size,4,none⟩=some (.int .i64 d.x.n):=ζ (j:=4) hB rfl;have x5:W4.cell? ⟨w.heap.size,5,none⟩=some (.slice p d.x.args.length cap):=ζ (j:=5) hB rfl;have x6:W4.cell? ⟨w.heap.size,6,none⟩=some (.int .i64 n):=ζ (j:=6) hB rfl;have K4:=γ (KR.o.1.trans k4);clear k4;by_cases hk:1<=kd/\kd<=9
    ·obtain rfl|rfl|rfl|rfl|rfl|rfl|rfl|rfl|rfl:kd=1\/kd=2\/kd=3\/kd=4\/kd=5\/kd=6\/kd=7\/kd=8\/kd=9:=by omega
     ·by_cases cl:k=0
      ·have bl:((k:Int)==0)=true:=by simp[cl]
       cases B with
       |true=>have F:=γ (show bf at_ d=(n==0) by rw[HM.o];simp[fZ,qV,cl]);clear cl;go_wp2;go_ret;exact⟨aP F.o.symm,K4.o⟩
       |false=>have F:=γ (show bf at_ d=false by rw[HM.o];simp[fZ]);clear cl;go_wp2;go_ret;exact⟨aP F.o.symm,K4.o⟩
      ·have bl:((k:Int)==0)=false:=by
        have:(k:Int)≠0:=(by omega);simpa using this
       have F:=γ (show bf at_ d=false by rw[HM.o];simp[fZ,cl]);clear cl;go_wp2;go_ret;exact⟨aP F.o.symm,K4.o⟩
     ·by_cases cl:k=1
      ·have bl:((k:Int)==1)=true:=by simp[cl]
       go_wp2_with fail;have c:=tH d.x false 1 _ W4 (aF.pure K4.o H.o);refine c.mono ?_;clear c;rintro e W5 ⟨rfl,k5⟩;have hB:=k5.heap hB id;have x0:W5.cell? ⟨w.heap.size,0,none⟩=some (.string d.uid):=ζ (j:=0) hB rfl;have x1:W5.cell? ⟨w.heap.size,1,none⟩=some (.int .u8 2):=ζ (j:=1) hB rfl;have x2:W5.cell? ⟨w.heap.size,2,none⟩=some (.slice pi k ci):=ζ (j:=2) hB rfl;have x3:W5.cell? ⟨w.heap.size,3,none⟩=some (.int .u8 d.x.op):=ζ (j:=3) hB rfl;have x4:W5.cell? ⟨w.heap.size,4,none⟩=some (.int .i64 d.x.n):=ζ (j:=4) hB rfl;have x5:W5.cell? ⟨w.heap.size,5,none⟩=some (.slice p d.x.args.length cap):=ζ (j:=5) hB rfl;have x6:W5.cell? ⟨w.heap.size,6,none⟩=some (.int .i64 n):=ζ (j:=6) hB rfl;have K5:=γ (K4.o.trans k5);clear k5;obtain⟨B2,hB2⟩:=acu (nP d.x false 1);rw[hB2]
       cases B2 with
       |true=>have F:=γ (show bf at_ d=(n==0) by rw[HM.o];simp[fZ,qV,cl,hB2]);clear cl hB2;go_wp2;go_ret;exact⟨aP F.o.symm,K5.o⟩
       |false=>have F:=γ (show bf at_ d=false by rw[HM.o];simp[fZ,hB2]);clear cl hB2;go_wp2;go_ret;exact⟨aP F.o.symm,K5.o⟩
      ·have bl:((k:Int)==1)=false:=by
        have:(k:Int)≠1:=(by omega);simpa using this
       have F:=γ (show bf at_ d=false by rw[HM.o];simp[fZ,cl]);clear cl;go_wp2;go_ret;exact⟨aP F.o.symm,K4.o⟩
     ·by_cases cl:k=1
      ·have bl:((k:Int)==1)=true:=by simp[cl]
       go_wp2_with fail;have c:=tH d.x false 2 _ W4 (aF.pure K4.o H.o);refine c.mono ?_;clear c;rintro e W5 ⟨rfl,k5⟩;have hB:=k5.heap hB id;have x0:W5.cell? ⟨w.heap.size,0,none⟩=some (.string d.uid):=ζ (j:=0) hB rfl;have x1:W5.cell? ⟨w.heap.size,1,none⟩=some (.int .u8 3):=ζ (j:=1) hB rfl;have x2:W5.cell? ⟨w.heap.size,2,none⟩=some (.slice pi k ci):=ζ (j:=2) hB rfl;have x3:W5.cell? ⟨w.heap.size,3,none⟩=some (.int .u8 d.x.op):=ζ (j:=3) hB rfl;have x4:W5.cell? ⟨w.heap.size,4,none⟩=some (.int .i64 d.x.n):=ζ (j:=4) hB rfl;have x5:W5.cell? ⟨w.heap.size,5,none⟩=some (.slice p d.x.args.length cap):=ζ (j:=5) hB rfl;have x6:W5.cell? ⟨w.heap.size,6,none⟩=some (.int .i64 n):=ζ (j:=6) hB rfl;have K5:=γ (K4.o.trans k5);clear k5;obtain⟨B2,hB2⟩:=acu (nP d.x false 2);rw[hB2]
       cases B2 with
       |true=>have F:=γ (show bf at_ d=(n==0) by rw[HM.o];simp[fZ,qV,cl,hB2]);clear cl hB2;go_wp2;go_ret;exact⟨aP F.o.symm,K5.o⟩
       |false=>have F:=γ (show bf at_ d=false by rw[HM.o];simp[fZ,hB2]);clear cl hB2;go_wp2;go_ret;exact⟨aP F.o.symm,K5.o⟩
      ·have bl:((k:Int)==1)=false:=by
        have:(k:Int)≠1:=(by omega);simpa using this
       have F:=γ (show bf at_ d=false by rw[HM.o];simp[fZ,cl]);clear cl;go_wp2;go_ret;exact⟨aP F.o.symm,K4.o⟩
     ·by_cases cl:k=1
      ·have bl:((k:Int)==1)=true:=by simp[cl]
       go_wp2_with fail;have c:=tH d.x false 1 _ W4 (aF.pure K4.o H.o);refine c.mono ?_;clear c;rintro e W5 ⟨rfl,k5⟩;have hB:=k5.heap hB id;have x0:W5.cell? ⟨w.heap.size,0,none⟩=some (.string d.uid):=ζ (j:=0) hB rfl;have x1:W5.cell? ⟨w.heap.size,1,none⟩=some (.int .u8 4):=ζ (j:=1) hB rfl;have x2:W5.cell? ⟨w.heap.size,2,none⟩=some (.slice pi k ci):=ζ (j:=2) hB rfl;have x3:W5.cell? ⟨w.heap.size,3,none⟩=some (.int .u8 d.x.op):=ζ (j:=3) hB rfl;have x4:W5.cell? ⟨w.heap.size,4,none⟩=some (.int .i64 d.x.n):=ζ (j:=4) hB rfl;have x5:W5.cell? ⟨w.heap.size,5,none⟩=some (.slice p d.x.args.length cap):=ζ (j:=5) hB rfl;have x6:W5.cell? ⟨w.heap.size,6,none⟩=some (.int .i64 n):=ζ (j:=6) hB rfl;have K5:=γ (K4.o.trans k5);clear k5;obtain⟨B2,hB2⟩:=acu (nP d.x false 1);rw[hB2]
       cases B2 with
       |true=>have F:=γ (show bf at_ d=(n==0) by rw[HM.o];simp[fZ,qV,cl,hB2]);clear cl hB2;go_wp2;go_ret;exact⟨aP F.o.symm,K5.o⟩
       |false=>have F:=γ (show bf at_ d=false by rw[HM.o];simp[fZ,hB2]);clear cl hB2;go_wp2;go_ret;exact⟨aP F.o.symm,K5.o⟩
      ·have bl:((k:Int)==1)=false:=by
        have:(k:Int)≠1:=(by omega);simpa using this
       have F:=γ (show bf at_ d=false by rw[HM.o];simp[fZ,cl]);clear cl;go_wp2;go_ret;exact⟨aP F.o.symm,K4.o⟩
     ·by_cases cl:k=1
      ·have bl:((k:Int)==1)=true:=by simp[cl]
       go_wp2_with fail;have c:=tH d.x false 1 _ W4 (aF.pure K4.o H.o);refine c.mono ?_;clear c;rintro e W5 ⟨rfl,k5⟩;have hB:=k5.heap hB id;have x0:W5.cell? ⟨w.heap.size,0,none⟩=some (.string d.uid):=ζ (j:=0) hB rfl;have x1:W5.cell? ⟨w.heap.size,1,none⟩=some (.int .u8 5):=ζ (j:=1) hB rfl;have x2:W5.cell? ⟨w.heap.size,2,none⟩=some (.slice pi k ci):=ζ (j:=2) hB rfl;have x3:W5.cell? ⟨w.heap.size,3,none⟩=some (.int .u8 d.x.op):=ζ (j:=3) hB rfl;have x4:W5.cell? ⟨w.heap.size,4,none⟩=some (.int .i64 d.x.n):=ζ (j:=4) hB rfl;have x5:W5.cell? ⟨w.heap.size,5,none⟩=some (.slice p d.x.args.length cap):=ζ (j:=5) hB rfl;have x6:W5.cell? ⟨w.heap.size,6,none⟩=some (.int .i64 n):=ζ (j:=6) hB rfl;have K5:=γ (K4.o.trans k5);clear k5;obtain⟨B2,hB2⟩:=acu (nP d.x false 1);rw[hB2]
       cases B2 with
       |true=>have F:=γ (show bf at_ d=(n==0) by rw[HM.o];simp[fZ,qV,cl,hB2]);clear cl hB2;go_wp2;go_ret;exact⟨aP F.o.symm,K5.o⟩
       |false=>have F:=γ (show bf at_ d=false by rw[HM.o];simp[fZ,hB2]);clear cl hB2;go_wp2;go_ret;exact⟨aP F.o.symm,K5.o⟩
      ·have bl:((k:Int)==1)=false:=by
        have:(k:Int)≠1:=(by omega);simpa using this
       have F:=γ (show bf at_ d=false by rw[HM.o];simp[fZ,cl]);clear cl;go_wp2;go_ret;exact⟨aP F.o.symm,K4.o⟩
     ·by_cases cl:k=1
      ·have bl:((k:Int)==1)=true:=by simp[cl]
       go_wp2_with fail;have c:=tH d.x true 1 _ W4 (aF.pure K4.o H.o);refine c.mono ?_;clear c;rintro e W5 ⟨rfl,k5⟩;have hB:=k5.heap hB id;have x0:W5.cell? ⟨w.heap.size,0,none⟩=some (.string d.uid):=ζ (j:=0) hB rfl;have x1:W5.cell? ⟨w.heap.size,1,none⟩=some (.int .u8 6):=ζ (j:=1) hB rfl;have x2:W5.cell? ⟨w.heap.size,2,none⟩=some (.slice pi k ci):=ζ (j:=2) hB rfl;have x3:W5.cell? ⟨w.heap.size,3,none⟩=some (.int .u8 d.x.op):=ζ (j:=3) hB rfl;have x4:W5.cell? ⟨w.heap.size,4,none⟩=some (.int .i64 d.x.n):=ζ (j:=4) hB rfl;have x5:W5.cell? ⟨w.heap.size,5,none⟩=some (.slice p d.x.args.length cap):=ζ (j:=5) hB rfl;have x6:W5.cell? ⟨w.heap.size,6,none⟩=some (.int .i64 n):=ζ (j:=6) hB rfl;have K5:=γ (K4.o.trans k5);clear k5;obtain⟨B2,hB2⟩:=acu (nP d.x true 1);rw[hB2]
       cases B2 with
       |true=>have F:=γ (show bf at_ d=(n==0) by rw[HM.o];simp[fZ,qV,cl,hB2]);clear cl hB2;go_wp2;go_ret;exact⟨aP F.o.symm,K5.o⟩
       |false=>have F:=γ (show bf at_ d=false by rw[HM.o];simp[fZ,hB2]);clear cl hB2;go_wp2;go_ret;exact⟨aP F.o.symm,K5.o⟩
      ·have bl:((k:Int)==1)=false:=by
        have:(k:Int)≠1:=(by omega);simpa using this
       have F:=γ (show bf at_ d=false by rw[HM.o];simp[fZ,cl]);clear cl;go_wp2;go_ret;exact⟨aP F.o.symm,K4.o⟩
     ·by_cases cl:k=1
      ·have bl:((k:Int)==1)=true:=by simp[cl]
       cases B with
       |true=>
        by_cases cn:1<=n
        ·have F:=γ (show bf at_ d=decide (n<=16) by rw[HM.o];simp[fZ,cl,cn])
         clear cl;go_wp2;go_ret;exact⟨aP F.o.symm,K4.o⟩
        ·have F:=γ (show bf at_ d=false by rw[HM.o];simp[fZ,cn])
         clear cl;go_wp2;go_ret;exact⟨aP F.o.symm,K4.o⟩
       |false=>have F:=γ (show bf at_ d=false by rw[HM.o];simp[fZ]);clear cl;go_wp2;go_ret;exact⟨aP F.o.symm,K4.o⟩
      ·have bl:((k:Int)==1)=false:=by
        have:(k:Int)≠1:=(by omega);simpa using this
       have F:=γ (show bf at_ d=false by rw[HM.o];simp[fZ,cl]);clear cl;go_wp2;go_ret;exact⟨aP F.o.symm,K4.o⟩
     ·by_cases cl:k=2
      ·have bl:((k:Int)==2)=true:=by simp[cl]
       cases B with
       |true=>have F:=γ (show bf at_ d=(n==0) by rw[HM.o];simp[fZ,qV,cl]);clear cl;go_wp2;go_ret;exact⟨aP F.o.symm,K4.o⟩
       |false=>have F:=γ (show bf at_ d=false by rw[HM.o];simp[fZ]);clear cl;go_wp2;go_ret;exact⟨aP F.o.symm,K4.o⟩
      ·have bl:((k:Int)==2)=false:=by
        have:(k:Int)≠2:=(by omega);simpa using this
       by_cases UM:k=3
       ·have bl3:((k:Int)==3)=true:=by simp[UM]
        cases B with
        |true=>have F:=γ (show bf at_ d=(n==0) by rw[HM.o];simp[fZ,qV,UM]);clear UM;go_wp2;go_ret;exact⟨aP F.o.symm,K4.o⟩
        |false=>have F:=γ (show bf at_ d=false by rw[HM.o];simp[fZ]);clear UM;go_wp2;go_ret;exact⟨aP F.o.symm,K4.o⟩
       ·have bl3:((k:Int)==3)=false:=by
         have:(k:Int)≠3:=(by omega);simpa using this
        have F:=γ (show bf at_ d=false by rw[HM.o];simp[fZ,cl,UM]);clear cl UM;go_wp2;go_ret;exact⟨aP F.o.symm,K4.o⟩
     ·by_cases cl:k=1
      ·have bl:((k:Int)==1)=true:=by simp[cl]
       cases B with
       |true=>have F:=γ (show bf at_ d=(n==0) by rw[HM.o];simp[fZ,qV,cl]);clear cl;go_wp2;go_ret;exact⟨aP F.o.symm,K4.o⟩
       |false=>have F:=γ (show bf at_ d=false by rw[HM.o];simp[fZ]);clear cl;go_wp2;go_ret;exact⟨aP F.o.symm,K4.o⟩
      ·have bl:((k:Int)==1)=false:=by
        have:(k:Int)≠1:=(by omega);simpa using this
       have F:=γ (show bf at_ d=false by rw[HM.o];simp[fZ,cl]);clear cl;go_wp2;go_ret;exact⟨aP F.o.symm,K4.o⟩
    ·have F:=γ (show bf at_ d=false by
      rw[HM.o];unfold fZ
      rw[if_neg (by simp),if_neg (by simp),if_neg (by omega),if_neg (by omega),if_neg (by omega),if_neg (by omega),if_neg (by omega),if_neg (by omega),if_neg (by omega)])
     have b1:(kd==1)=false:=(by simp;omega);have b2:(kd==2)=false:=(by simp;omega);have b3:(kd==3)=false:=(by simp;omega);have b4:(kd==4)=false:=(by simp;omega);have b5:(kd==5)=false:=(by simp;omega);have b6:(kd==6)=false:=(by simp;omega);have b7:(kd==7)=false:=(by simp;omega);have b8:(kd==8)=false:=(by simp;omega);have b9:(kd==9)=false:=(by simp;omega);clear hk;go_wp2;go_ret;exact⟨aP F.o.symm,K4.o⟩
