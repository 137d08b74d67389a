/- What expressions are, in plain words: whether they may be, their types, what they come to. -/
import Derived.Test.YtglbkodmmogomaaGreatDoorI04
set_option linter.unusedVariables false
set_option linter.unusedSimpArgs false
set_option maxHeartbeats 1000000
set_option maxRecDepth 100000
namespace Go.Proofs.YtglbkodmmogomaaGreatDoor
section
open Go Go.RowKit
inductive aC (w:World):Array Value->Ex->Prop
 |mk {op n:Int} {sl:Value} {args:List Ex} {cs:List Value}:0<=op->op<=255->aH n->Reads w 3 sl cs->cs.length=args.length*3->
   (∀i x,args[i]?=some x->aC w ((cs.drop (i*3)).take 3).toArray x)->aC w #[.int .u8 op,.int .i64 n,sl] (.mk op n args)
theorem aC.kept {w w':World}{S:Nat->Prop}(hk:ε S w w')(hS: ∀k,S k-> ∀c E f,w.heap[k]?≠some (.cells c E f)){a:Array Value}{x:Ex}(h:aC w a x):aC w' a x:=by
 induction h with
 |mk h1 h2 h3 h4 h5 _ ih=>exact .mk h1 h2 h3 (h4.kept hk (fun b hb hs=>by obtain⟨c,E,f,h⟩:=h4.isCells (by omega) hb;exact hS b hs c E f h)) h5 ih
theorem aC.pure {w w':World}(hk:ε η w w'){a:Array Value}{x:Ex}(h:aC w a x):aC w' a x:=h.kept hk (fun _ h=>h.elim)
theorem aC.parts {w:World}{a:Array Value}{x:Ex}(h:aC w a x): ∃p cap,a= #[.int .u8 x.op,.int .i64 x.n,.slice p x.args.length cap]/\0<=x.op/\x.op<=255/\aH x.n/\x.args.length<=cap/\cap<=maxLen/\
 ∀i y,x.args[i]?=some y-> ∃b off p' cap',p=some ⟨b,off,none⟩/\w.cell? ⟨b,off+i*3,none⟩=some (.int .u8 y.op)/\w.cell? ⟨b,off+i*3+1,none⟩=some (.int .i64 y.n)/\
  w.cell? ⟨b,off+i*3+2,none⟩=some (.slice p' y.args.length cap')/\aC w #[.int .u8 y.op,.int .i64 y.n,.slice p' y.args.length cap'] y:=by
 cases h with
 | @mk op n sl args cs h1 h2 h3 h4 h5 h6=>
   obtain⟨p,m,cap,rfl,g1,g2,g3,g4⟩:=h4;have hm:m=args.length:=(by omega);subst hm;refine⟨p,cap,rfl,h1,h2,h3,g1,g2,fun i y hy=>?_⟩;have hi:i<args.length:=(μ.1 hy).1;simp only[Ex.args]at hy;have e:=h6 i y hy;have hne:cs≠[]:=fun e=>(by rw[e]at h5;simp at h5;omega);obtain⟨b,off,rfl,hc⟩:=g4.resolve_left hne
   cases e2:y with
   |mk op' n' args'=>
    subst e2
    obtain⟨v0,v1,v2,hd⟩: ∃v0 v1 v2,(cs.drop (i*3)).take 3=[v0,v1,v2]:=by
     have hlen:((cs.drop (i*3)).take 3).length=3:=by rw[υ,List.length_drop];omega
     match(cs.drop (i*3)).take 3,hlen with
     |[v0,v1,v2],_=>exact⟨v0,v1,v2,rfl⟩
    have get: ∀j v,[v0,v1,v2][j]?=some v->cs[i*3+j]?=some v:=by
     intro j v hj;rw[<-hd,abO]at hj;split at hj
     ·rwa[List.getElem?_drop]at hj
     ·cases hj
    rw[hd]at e;have e':=e
    cases hq:e with
    | @mk _ _ sl' _ cs' k1 k2 k3 k4 k5 k6=>
      obtain⟨p',m',cap',rfl,q1,q2,q3,q4⟩:=k4;have hm:m'=args'.length:=(by omega);subst hm;refine⟨b,off,p',cap',rfl,?_,?_,?_,e'⟩
      ·exact hc _ _ (get 0 _ rfl)
      ·have:=hc _ _ (get 1 _ rfl);rwa[<-Nat.add_assoc]at this
      ·have:=hc _ _ (get 2 _ rfl);rwa[<-Nat.add_assoc]at this
theorem TQ (op:Int)(h0:0<=op)(h1:op<=255)(w:World):Calls Tryz.prog 260 #[.int .u8 op] w fun e w'=>e= .returned (.int .i64 (arity op))/\w=w':=by
 by_cases a0:op=0
 ·subst a0
  go_enter Tryz.func260,Tryz.ntmps260;go_wp2_with fail;go_ret;exact⟨rfl,rfl⟩
 ·have b0:(op==0)=false:=by simp[a0]
  by_cases a1:18<op
  ·have e1:arity op= -1:=by unfold arity;rw[if_pos (.inr a1)]
   rw[e1];clear e1;go_enter Tryz.func260,Tryz.ntmps260;go_wp2_with fail;go_ret;exact⟨rfl,rfl⟩
  ·by_cases a2:op<=4
   ·have e1:arity op=0:=by unfold arity;rw[if_neg (by omega),if_pos a2]
    rw[e1];clear e1;go_enter Tryz.func260,Tryz.ntmps260;go_wp2_with fail;go_ret;exact⟨rfl,rfl⟩
   ·by_cases a3:op<=6
    ·have e1:arity op=1:=by unfold arity;rw[if_neg (by omega),if_neg a2,if_pos a3]
     rw[e1];clear e1;go_enter Tryz.func260,Tryz.ntmps260;go_wp2_with fail;go_ret;exact⟨rfl,rfl⟩
    ·by_cases a4:op=18
     ·subst a4
      go_enter Tryz.func260,Tryz.ntmps260;go_wp2_with fail;go_ret;exact⟨rfl,rfl⟩
     ·have e1:arity op=2:=by unfold arity;rw[if_neg (by omega),if_neg a2,if_neg a3,if_neg a4]
      have b4:(op==18)=false:=(by simp[a4]);rw[e1];clear e1;go_enter Tryz.func260,Tryz.ntmps260;go_wp2_with fail;go_ret;exact⟨rfl,rfl⟩
end
section
open Go Go.RowKit
attribute [local irreducible] cZ dX
theorem aP {a b:Bool}(h:a=b):Ending.returned (.bool a)= .returned (.bool b):=by rw[h]
theorem AY {α:Type}{l:List α}{k:Nat}{x:α}{p:α->Bool}(h:l[k]?=some x)(ht:(l.take k).all p=true)(hx:p x=true):(l.take (k+1)).all p=true:=by rw[ψ,h,List.all_append,ht];simp[hx]
theorem Ei {α:Type}{l:List α}{k:Nat}{p:α->Bool}(ht:(l.take k).all p=true)(hk:l.length<=k):l.all p=true:=by rwa[χ hk]at ht
theorem TM {α:Type}{l:List α}{k:Nat}{x:α}{p:α->Bool}(h:l[k]?=some x)(hx:p x=false):l.all p=false:=by rw[List.all_eq_false];exact⟨x,ς h,by simp[hx]⟩
theorem uK (f:Nat)(x:Ex):aY (f+1) x=(decide (arity x.op=x.args.length)&&decide (0<=x.n)&&decide (x.n=0\/x.op=1)&&x.args.all (aY f)):=by cases x;rfl
theorem FX (x:Ex)(a:Array Value)(L:Int)(w:World)(hL0:0<=L)(hL:L<=16)(h:aC w a x)
 (hno:arity x.op≠x.args.length\/x.n<0\/0<x.n/\x.op≠1\/L=0):Calls Tryz.prog 233 #[.agg a,.int .i64 L] w (Gives w (.bool false)):=by
 obtain⟨p,cap,rfl,h0,h1,h2,h3,h4,h5⟩:=h.parts;have hk:ε η w (w.alloc (.cells #[.int .u8 x.op,.int .i64 x.n,.slice p x.args.length cap] 40)):=δ.alloc _;obtain⟨W0,hW0⟩:=acf (w.alloc (.cells #[.int .u8 x.op,.int .i64 x.n,.slice p x.args.length cap] 40));have d0:W0.cell? ⟨w.heap.size,0,none⟩=some (.int .u8 x.op):=(by rw[<-hW0];simp);have d1:W0.cell? ⟨w.heap.size,1,none⟩=some (.int .i64 x.n):=(by rw[<-hW0];simp);have d2:W0.cell? ⟨w.heap.size,2,none⟩=some (.slice p x.args.length cap):=(by rw[<-hW0];simp);have HK:=γ hk;have hm: ∀W,Calls Tryz.prog 260 #[.int .u8 x.op] W fun e w'=>e= .returned (.int .i64 (arity x.op))/\W=w':=TQ x.op h0 h1;have HM:=γ hm;have HW0:=γ hW0;unfold aH at h2;unfold maxLen at h4;obtain⟨h2,h2'⟩:=h2;clear hk h h5 hm hW0;by_cases c1:arity x.op=x.args.length
 ·have f1:(arity x.op !=(x.args.length:Int))=false:=by rw[c1];simp
  by_cases c2:x.n<0
  ·have g2:decide (x.n<0)=true:=decide_eq_true c2
   clear hno c1;go_enter Tryz.func233,Tryz.ntmps233;go_wp2_with fail;rw[HW0.o];refine ak [0,1,3,4,5,2,6,7,8,9,10,11,12,13,14,15,16,17,18,19,20,21,22,23,24,25] (fun W=>ε η W0 W) (by kernel_rfl) (by kernel_rfl) rfl δ.drew ?_;simp only[abU];iterate 5 (first|(apply bf rfl;go_frame)|(apply aj rfl rfl;(intro W hW;have z0:=hW.cell id d0;have z1:=hW.cell id d1;have z2:=hW.cell id d2;go_simp;rfl);go_frame))
   apply aA rfl rfl;intro K hK;go_wp2_with fail;refine(HM.o _).mono ?_;rintro e w' ⟨rfl,rfl⟩;go_wp2_with fail;refine hK _ _ (fun _=>δ.drew) ?_;clear hK;iterate 20 (first|(apply bf rfl;go_frame)|(apply aj rfl rfl;(intro W hW;have z0:=hW.cell id d0;have z1:=hW.cell id d1;have z2:=hW.cell id d2;go_simp;rfl);go_frame))
   refine aG (fun _=>δ.drew) ?_;go_wp2_with fail;go_ret;exact⟨rfl,HK.o.trans (by rw[HW0.o];exact δ.drew)⟩
  ·have g2:decide (x.n<0)=false:=decide_eq_false c2
   by_cases c3:0<x.n
   ·have g3:decide (0<x.n)=true:=decide_eq_true c3
    by_cases c4:x.op=1
    ·obtain rfl:L=0:=by
      rcases hno with hn|hn|hn|hn
      ·exact absurd c1 hn
      ·exact absurd hn c2
      ·exact absurd c4 hn.2
      ·exact hn
     have f4:(x.op !=1)=false:=(by simp[c4]);have f5:(x.op==1)=true:=(by simp[c4]);clear c1 c4 hno;go_enter Tryz.func233,Tryz.ntmps233;go_wp2_with fail;rw[HW0.o];refine ak [0,1,3,4,5,2,6,7,8,9,10,11,12,13,14,15,16,17,18,19,20,21,22,23,24,25] (fun W=>ε η W0 W) (by kernel_rfl) (by kernel_rfl) rfl δ.drew ?_;simp only[abU];iterate 5 (first|(apply bf rfl;go_frame)|(apply aj rfl rfl;(intro W hW;have z0:=hW.cell id d0;have z1:=hW.cell id d1;have z2:=hW.cell id d2;go_simp;rfl);go_frame))
     apply aA rfl rfl;intro K hK;go_wp2_with fail;refine(HM.o _).mono ?_;rintro e w' ⟨rfl,rfl⟩;go_wp2_with fail;refine hK _ _ (fun _=>δ.drew) ?_;clear hK;iterate 20 (first|(apply bf rfl;go_frame)|(apply aj rfl rfl;(intro W hW;have z0:=hW.cell id d0;have z1:=hW.cell id d1;have z2:=hW.cell id d2;go_simp;rfl);go_frame))
     refine aG (fun _=>δ.drew) ?_;go_wp2_with fail;go_ret;exact⟨rfl,HK.o.trans (by rw[HW0.o];exact δ.drew)⟩
    ·have f4:(x.op !=1)=true:=by simp[c4]
     clear c1 c4 hno;go_enter Tryz.func233,Tryz.ntmps233;go_wp2_with fail;rw[HW0.o];refine ak [0,1,3,4,5,2,6,7,8,9,10,11,12,13,14,15,16,17,18,19,20,21,22,23,24,25] (fun W=>ε η W0 W) (by kernel_rfl) (by kernel_rfl) rfl δ.drew ?_;simp only[abU];iterate 5 (first|(apply bf rfl;go_frame)|(apply aj rfl rfl;(intro W hW;have z0:=hW.cell id d0;have z1:=hW.cell id d1;have z2:=hW.cell id d2;go_simp;rfl);go_frame))
     apply aA rfl rfl;intro K hK;go_wp2_with fail;refine(HM.o _).mono ?_;rintro e w' ⟨rfl,rfl⟩;go_wp2_with fail;refine hK _ _ (fun _=>δ.drew) ?_;clear hK;iterate 20 (first|(apply bf rfl;go_frame)|(apply aj rfl rfl;(intro W hW;have z0:=hW.cell id d0;have z1:=hW.cell id d1;have z2:=hW.cell id d2;go_simp;rfl);go_frame))
     refine aG (fun _=>δ.drew) ?_;go_wp2_with fail;go_ret;exact⟨rfl,HK.o.trans (by rw[HW0.o];exact δ.drew)⟩
   ·obtain rfl:L=0:=by
     rcases hno with hn|hn|hn|hn
     ·exact absurd c1 hn
     ·exact absurd hn c2
     ·exact absurd hn.1 c3
     ·exact hn
    have g3:decide (0<x.n)=false:=decide_eq_false c3;clear c1 hno;go_enter Tryz.func233,Tryz.ntmps233;go_wp2_with fail;rw[HW0.o];refine ak [0,1,3,4,5,2,6,7,8,9,10,11,12,13,14,15,16,17,18,19,20,21,22,23,24,25] (fun W=>ε η W0 W) (by kernel_rfl) (by kernel_rfl) rfl δ.drew ?_;simp only[abU];iterate 5 (first|(apply bf rfl;go_frame)|(apply aj rfl rfl;(intro W hW;have z0:=hW.cell id d0;have z1:=hW.cell id d1;have z2:=hW.cell id d2;go_simp;rfl);go_frame))
    apply aA rfl rfl;intro K hK;go_wp2_with fail;refine(HM.o _).mono ?_;rintro e w' ⟨rfl,rfl⟩;go_wp2_with fail;refine hK _ _ (fun _=>δ.drew) ?_;clear hK;iterate 20 (first|(apply bf rfl;go_frame)|(apply aj rfl rfl;(intro W hW;have z0:=hW.cell id d0;have z1:=hW.cell id d1;have z2:=hW.cell id d2;go_simp;rfl);go_frame))
    refine aG (fun _=>δ.drew) ?_;go_wp2_with fail;go_ret;exact⟨rfl,HK.o.trans (by rw[HW0.o];exact δ.drew)⟩
 ·have f1:(arity x.op !=(x.args.length:Int))=true:=by simp[c1]
  clear c1 hno;go_enter Tryz.func233,Tryz.ntmps233;go_wp2_with fail;rw[HW0.o];refine ak [0,1,3,4,5,2,6,7,8,9,10,11,12,13,14,15,16,17,18,19,20,21,22,23,24,25] (fun W=>ε η W0 W) (by kernel_rfl) (by kernel_rfl) rfl δ.drew ?_;simp only[abU];iterate 5 (first|(apply bf rfl;go_frame)|(apply aj rfl rfl;(intro W hW;have z0:=hW.cell id d0;have z1:=hW.cell id d1;have z2:=hW.cell id d2;go_simp;rfl);go_frame))
  apply aA rfl rfl;intro K hK;go_wp2_with fail;refine(HM.o _).mono ?_;rintro e w' ⟨rfl,rfl⟩;go_wp2_with fail;refine hK _ _ (fun _=>δ.drew) ?_;clear hK;iterate 20 (first|(apply bf rfl;go_frame)|(apply aj rfl rfl;(intro W hW;have z0:=hW.cell id d0;have z1:=hW.cell id d1;have z2:=hW.cell id d2;go_simp;rfl);go_frame))
  refine aG (fun _=>δ.drew) ?_;go_wp2_with fail;go_ret;exact⟨rfl,HK.o.trans (by rw[HW0.o];exact δ.drew)⟩
def ZI (f:Nat):Prop:= ∀(x:Ex)(a:Array Value)(L:Int)(w:World),L=f->f<=16->aC w a x->Calls Tryz.prog 233 #[.agg a,.int .i64 L] w (Gives w (.bool (aY f x)))
theorem ac3 (f:Nat)(ih:ZI f)(x:Ex)(a:Array Value)(L:Int)(w:World)(hL:L=((f+1:Nat):Int))(hf:f+1<=16)(h:aC w a x)
 (c1:arity x.op=x.args.length) (c2: ¬x.n<0) (c3: ¬(0<x.n/\x.op≠1)):Calls Tryz.prog 233 #[.agg a,.int .i64 L] w (Gives w (.bool (aY (f+1) x))):=by
 have hx:aY (f+1) x=x.args.all (aY f):=by rw[uK];have e1:decide (arity x.op=x.args.length)=true:=decide_eq_true c1;have e2:decide (0<=x.n)=true:=decide_eq_true (by omega);have e3:decide (x.n=0\/x.op=1)=true:=decide_eq_true (by omega);rw[e1,e2,e3];rfl
 rw[hx];obtain⟨p,cap,rfl,h0,h1,h2,h3,h4,h5⟩:=h.parts;have hk:ε η w (w.alloc (.cells #[.int .u8 x.op,.int .i64 x.n,.slice p x.args.length cap] 40)):=δ.alloc _;obtain⟨W0,hW0⟩:=acf (w.alloc (.cells #[.int .u8 x.op,.int .i64 x.n,.slice p x.args.length cap] 40));have d0:W0.cell? ⟨w.heap.size,0,none⟩=some (.int .u8 x.op):=(by rw[<-hW0];simp);have d1:W0.cell? ⟨w.heap.size,1,none⟩=some (.int .i64 x.n):=(by rw[<-hW0];simp);have d2:W0.cell? ⟨w.heap.size,2,none⟩=some (.slice p x.args.length cap):=(by rw[<-hW0];simp);have HK:=γ hk;have hm: ∀W,Calls Tryz.prog 260 #[.int .u8 x.op] W fun e w'=>e= .returned (.int .i64 (arity x.op))/\W=w':=TQ x.op h0 h1;have HM:=γ hm;have HW0:=γ hW0;unfold aH at h2;unfold maxLen at h4;obtain⟨h2,h2'⟩:=h2;have f1:(arity x.op !=(x.args.length:Int))=false:=(by rw[c1];simp);have hL1:1<=L:=(by omega);have hL2:L<=16:=(by omega);have f6:(L==0)=false:=(by simp;omega);have g2:decide (x.n<0)=false:=decide_eq_false c2;have IH:=γ ih;have HL:=γ hL;have H5:=γ h5;clear hk h h5 hm hW0 hx c1 ih hL;have main:(decide (0<x.n)=false\/decide (0<x.n)=true/\(x.op !=1)=false)->Calls Tryz.prog 233 #[.agg #[.int .u8 x.op,.int .i64 x.n,.slice p x.args.length cap],.int .i64 L] w (Gives w (.bool (x.args.all (aY f)))):=by
  rintro(f3|⟨f3,f4⟩);all_goals
   go_enter Tryz.func233,Tryz.ntmps233;go_wp2_with fail;rw[HW0.o];refine ak [0,1,3,4,5,2,6,7,8,9,10,11,12,13,14,15,16,17,18,19,20,21,22,23,24,25] (fun W=>ε η W0 W) (by kernel_rfl) (by kernel_rfl) rfl δ.drew ?_;simp only[abU];iterate 5 (first|(apply bf rfl;go_frame)|(apply aj rfl rfl;(intro W hW;have z0:=hW.cell id d0;have z1:=hW.cell id d1;have z2:=hW.cell id d2;go_simp;rfl);go_frame))
   apply aA rfl rfl;intro K hK;go_wp2_with fail;refine(HM.o _).mono ?_;rintro e w' ⟨rfl,rfl⟩;go_wp2_with fail;refine hK _ _ (fun _=>δ.drew) ?_;clear hK;iterate 20 (first|(apply bf rfl;go_frame)|(apply aj rfl rfl;(intro W hW;have z0:=hW.cell id d0;have z1:=hW.cell id d1;have z2:=hW.cell id d2;go_simp;rfl);go_frame))
   refine aG (fun _=>δ.drew) ?_;go_wp2_with fail;obtain⟨W1,hW1⟩: ∃W1,W0.drew=W1:=⟨_,rfl⟩;have k1:ε η W0 W1:=(by rw[<-hW1];exact δ.drew);have KK:=γ (HK.o.trans (by rw[HW0.o];exact k1));have HW1:=γ k1;rw[hW1];clear hW1 k1;go_loopg [36] x.args.length (fun g vi wr=> ∃k:Nat,k<=x.args.length/\vi= .int .i64 (k:Int)/\x.args.length-k<=g/\(x.args.take k).all (aY f)=true/\ε η W0 wr)
   case atStart=>exact⟨0,by omega,rfl,by omega,by simp,HW1.o⟩
   case round=>
    obtain⟨k,hkl,rfl,hg,ht,hkp⟩:=hrel;have HT:=γ (θ hg ht);clear hg ht;by_cases hlt:k<x.args.length
    ·obtain⟨y,hy⟩: ∃y,x.args[k]?=some y:=⟨_,ι hlt⟩
     obtain⟨b,off,p',cap',rfl,q0,q1,q2,hy2⟩:=H5.o k y hy;have hW:=(HK.o.trans (by rw[HW0.o];exact hkp):ε η w wr);have r0:=hW.cell (p:=⟨b,off+k*3,none⟩) id q0;have r1:=hW.cell (p:=⟨b,off+k*3+1,none⟩) id q1;have r2:=hW.cell (p:=⟨b,off+k*3+2,none⟩) id q2;have HY:=γ (θ hy (aC.pure hW hy2));have ug:=γ (θ hW hkp);clear q0 q1 q2 hy hy2 hW hkp H5;go_wp2_with fail;have c:=IH.o y _ (L-1) (wr.alloc (.cells #[.int .u8 y.op,.int .i64 y.n,.slice p' y.args.length cap'] 40)) (by have:=HL.o;omega) (by omega) (aC.pure (δ.alloc _) HY.o.2);refine c.mono ?_;clear c;rintro e w2 ⟨rfl,k2⟩;have k3:ε η wr w2:=(δ.alloc _).trans k2;have Em:=γ k3;clear k2 k3
     cases hm:aY f y with
     |false=>have QV:=γ hm;clear hm;go_wp2_with fail;go_ret;exact⟨aP (TM HY.o.1 QV.o).symm,ug.o.1.trans Em.o⟩
     |true=>
      have QV:=γ hm;clear hm;go_wp2_with fail;go_roundg (x.args.length-(k+1))
      case rel=>exact⟨k+1,by omega,by go_num,ξ _,AY HY.o.1 HT.o.2 QV.o,ug.o.2.trans Em.o⟩
      case measure=>have:=HT.o.1;omega
    ·go_wp2_with fail
     go_ret;exact⟨aP (Ei HT.o.2 (by omega)).symm,HK.o.trans (by rw[HW0.o];exact hkp)⟩
 clear HM HW0 HK d0 d1 d2;apply main;by_cases c4:0<x.n
 ·right;refine⟨decide_eq_true c4,?_⟩
  have:x.op=1:=(by omega);simp[this]
 ·left;exact decide_eq_false c4
theorem TP: ∀f,ZI f
 |0=>fun x a L w hL hf h=>by have:=FX x a L w (by omega) (by omega) h (.inr (.inr (.inr (by omega))));exact this
 |f+1=>fun x a L w hL hf h=>by
  by_cases c1:arity x.op=x.args.length
  ·by_cases c2:x.n<0
   ·have e:aY (f+1) x=false:=by rw[uK];simp;omega
    rw[e];exact FX x a L w (by omega) (by omega) h (.inr (.inl c2))
   ·by_cases c3:0<x.n/\x.op≠1
    ·have e:aY (f+1) x=false:=by rw[uK];simp;omega
     rw[e];exact FX x a L w (by omega) (by omega) h (.inr (.inr (.inl c3)))
    ·exact ac3 f (TP f) x a L w hL hf h c1 c2 c3
  ·have e:aY (f+1) x=false:=by rw[uK];simp[c1]
   rw[e];exact FX x a L w (by omega) (by omega) h (.inl c1)
theorem Ul (x:Ex)(a:Array Value)(w:World)(h:aC w a x):Calls Tryz.prog 196 #[.agg a] w (Gives w (.bool (aY 16 x))):=by obtain⟨p,cap,rfl,h0,h1,h2,h3,h4,h5⟩:=h.parts;have H:=γ h;clear h h5;go_enter Tryz.func196,Tryz.ntmps196;go_wp2_with fail;have k1:ε η w (w.alloc (.cells #[.int .u8 x.op,.int .i64 x.n,.slice p x.args.length cap] 40)):=δ.alloc _;refine(TP 16 x _ 16 _ rfl (ξ _) (aC.pure k1 H.o)).mono ?_;rintro e w2 ⟨rfl,k2⟩;go_wp2_with fail;go_ret;exact⟨rfl,k1.trans k2⟩
end
section
open Go Go.RowKit
def qK (k:Int×Int×Int×Int):Value:= .agg #[.int .u8 k.1,.int .u8 k.2.1,.int .u8 k.2.2.1,.int .u8 k.2.2.2]
def lg:List xY->Nat->List MapEntry
 |[],_=>[]
 |r::l,i=>{key:=qK r.1,val:= .int .u8 r.2,born:=i}::lg l (i+1)
def mG (w:World)(m:Nat)(E:List xY):Prop:=w.heap[m]?=some (.map (lg E 0).toArray E.length)
theorem FQ (r:xY): ∀(E:List xY)(i:Nat),lg (E++[r]) i=lg E i++[{key:=qK r.1,val:= .int .u8 r.2,born:=i+E.length}]
 |[],i=>rfl
 |x::E,i=>by
  simp only[List.cons_append,lg,FQ r E (i+1),φ]
  congr 3
  simp;omega
theorem IW (k:Int×Int×Int×Int)(b:Bool)(w:World):(Instr.checkKey b 10000 310 (qK k)).run Tryz.prog w= .ok () w:=by kernel_rfl
theorem acn (d:Nat)(a b:Int)(w:World):(Op.equalIn (d+1) 5 (.int .u8 a) (.int .u8 b)).run Tryz.prog w= .ok (a==b) w:=by simp[Op.equalIn,run_underlying Tryz.underlying5]
theorem afC (a b c:Value)(w:World):(part 5 #[a,b,c] 0).run Tryz.prog w= .ok a w/\(part 5 #[a,b,c] 1).run Tryz.prog w= .ok b w/\(part 5 #[a,b,c] 2).run Tryz.prog w= .ok c w:=by refine⟨?_,?_,?_⟩<;>kernel_rfl
theorem ae7 (d:Nat)(a b c a' b' c':Int)(w:World):(Op.equalIn (d+2) 308 (.agg #[.int .u8 a,.int .u8 b,.int .u8 c]) (.agg #[.int .u8 a',.int .u8 b',.int .u8 c'])).run Tryz.prog w= .ok (decide (a=a'/\b=b'/\c=c')) w:=by rw[Op.equalIn];simp[run_underlying Tryz.underlying308,Std.Legacy.Range.forIn_eq_forIn_range',List.range',afC,acn];by_cases h1:a=a'<;>by_cases h2:b=b'<;>by_cases h3:c=c'<;>simp[h1,h2,h3]
theorem aas (a b c d:Value)(w:World):(part 5 #[a,b,c,d] 0).run Tryz.prog w= .ok a w/\(part 308 #[a,b,c,d] 1).run Tryz.prog w= .ok (.agg #[b,c,d]) w:=by refine⟨?_,?_⟩<;>kernel_rfl
theorem BG (k k':Int×Int×Int×Int)(w:World):(Op.equal 310 (qK k) (qK k')).run Tryz.prog w= .ok (decide (k=k')) w:=by obtain⟨a,b,c,d⟩:=k;obtain⟨a',b',c',d'⟩:=k';have h1:=fun w=>acn 9998 a a' w;have h2:=fun w=>ae7 9997 b c d b' c' d' w;unfold Op.equal Op.maxDepth qK;rw[Op.equalIn];simp[run_underlying Tryz.underlying310,aas,h1,h2];by_cases e1:a=a'<;>simp[e1];split<;>simp_all
theorem Tm (k:Int×Int×Int×Int)(w:World): ∀(E:List xY)(i j:Nat),(∀r∈E,r.1≠k)->(Instr.findAsking 310 (qK k) (lg E i) j).run Tryz.prog w= .ok none w
 |[],_,_,_=>rfl
 |r::E,i,j,h=>by have h1:decide (k=r.1)=false:=decide_eq_false fun e=>h r (by simp) e.symm;simp only[lg,Instr.findAsking,Sem.run_bind,BG,Result.andThen_ok,h1];exact Tm k w E (i+1) (j+1) (fun x hx=>h x (by simp[hx]))
theorem Tj (k:Int×Int×Int×Int)(w:World): ∀(E:List xY)(i j:Nat),(Instr.findAsking 310 (qK k) (lg E i) j).run Tryz.prog w= .ok none w/\E.find? (fun r=>r.1==k)=none\/
 ∃n r,(Instr.findAsking 310 (qK k) (lg E i) j).run Tryz.prog w= .ok (some (n,.int .u8 r.2)) w/\E.find? (fun r=>r.1==k)=some r
 |[],_,_=> .inl ⟨rfl,rfl⟩
 |r::E,i,j=>by
  by_cases h:k=r.1
  ·right
   have h1:decide (k=r.1)=true:=decide_eq_true h;have h2:(r.1==k)=true:=(by rw[h];exact beq_self_eq_true r.1);refine⟨j,r,?_,by rw[List.find?_cons_of_pos (l:=E) (by exact h2)]⟩;simp only[lg,Instr.findAsking,Sem.run_bind,BG,Result.andThen_ok,h1];rfl
  ·have h1:decide (k=r.1)=false:=decide_eq_false h
   have h2: ¬(r.1==k)=true:=(by simp;exact fun e=>h e.symm);simp only[lg,Instr.findAsking,Sem.run_bind,BG,Result.andThen_ok,h1];rw[List.find?_cons_of_neg (l:=E) (by exact h2)];exact Tj k w E (i+1) (j+1)
theorem Qn (k:Int×Int×Int×Int)(E:List xY)(w:World):(Instr.findKey 310 (qK k) (lg E 0)).run Tryz.prog w=(Instr.findAsking 310 (qK k) (lg E 0) 0).run Tryz.prog w:=by
 unfold Instr.findKey;simp only[Sem.run_bind,run_underlying Tryz.underlying310,Result.andThen_ok]
 cases E with
 |nil=>rfl
 |cons r E=>rfl
theorem mG.lookup {w:World}{m:Nat}(h:mG w m pG)(k:Int×Int×Int×Int):(Instr.lookup 278 (.map (some m)) (qK k) false).run Tryz.prog w= .ok (.int .u8 (iO k)) w:=by
 have hg:(getObj m).run Tryz.prog w= .ok (.map (lg pG 0).toArray pG.length) w:=(by simp[getObj,Sem.run,show w.heap[m]?=_ from h]);have hz:(zeroValue 5).run Tryz.prog w= .ok (.int .u8 0) w:=(by kernel_rfl);simp only[Instr.lookup,Sem.run_bind,run_underlying Tryz.underlying278,Result.andThen_ok,hg,IW];simp only[Sem.run_pure,Result.andThen_ok,Qn]
 rcases Tj k w pG 0 0 with⟨h1,h2⟩|⟨n,r,h1,h2⟩
 ·rw[h1]
  simp only[Result.andThen_ok,hz,Sem.run_bind,Sem.run_pure];unfold iO;rw[h2];rfl
 ·rw[h1]
  simp only[Result.andThen_ok];unfold iO;rw[h2];rfl
theorem mG.put {w:World}{m:Nat}{E:List xY}(h:mG w m E)(r:xY)(hn: ∀x∈E,x.1≠r.1):
 ∃w',(Instr.mapUpdate 278 (.map (some m)) (qK r.1) (.int .u8 r.2)).run Tryz.prog w= .ok () w'/\mG w' m (E++[r])/\ε (one m) w w':=by
 have hg:(getObj m).run Tryz.prog w= .ok (.map (lg E 0).toArray E.length) w:=(by simp[getObj,Sem.run,show w.heap[m]?=_ from h]);refine⟨World.gX w m (lg (E++[r]) 0).toArray (E++[r]).length,?_,mP h _ _,mO _ _ _ _⟩;simp only[Instr.mapUpdate,Sem.run_bind,run_underlying Tryz.underlying278,Result.andThen_ok,hg,IW,Qn,Tm r.1 w E 0 0 hn];rw[FQ];have:=nY (P:=Tryz.prog) (es':=((lg E 0).toArray.push {key:=qK r.1,val:= .int .u8 r.2,born:=E.length})) (clock':=E.length+1) h;rw[this];simp
theorem mG.kept {w w':World}{m:Nat}{E:List xY}{S:Nat->Prop}(h:mG w m E)(hk:ε S w w')(hn: ¬S m):mG w' m E:=hk.heap h hn
end
