/- What expressions are, in plain words: whether they may be, their types, what they come to. -/
import Derived.Test.YtglbkodmmogomaaGreatDoorS02
set_option linter.unusedVariables false
set_option linter.unusedSimpArgs false
set_option maxHeartbeats 1000000
set_option maxRecDepth 100000
namespace Go.Proofs.YtglbkodmmogomaaGreatDoor
open List Go.Proofs.Tryz
section
open Go Go.RowKit
inductive aF (w:World):Array Value->Ex->Prop
 |mk {op n:Int} {sl:Value} {args:List Ex} {cs:List Value}:0<=op->op<=255->aJ n->Reads w 3 sl cs->cs.length=args.length*3->
   (∀i x,args[i]?=some x->aF w ((cs.drop (i*3)).take 3).toArray x)->aF w #[.int .u8 op,.int .i64 n,sl] (.mk op n args)
theorem aF.kept {w w':World}{S:Nat->Prop}(hk:ε S w w')(hS: ∀k,S k-> ∀c E f,w.heap[k]?≠some (.cells c E f)){a:Array Value}{x:Ex}(h:aF w a x):aF w' a x:=by
 induction h with
 |mk h1 h2 h3 h4 h5 _ ih=>exact .mk h1 h2 h3 (h4.kept hk (fun b hb hs=>by obtain⟨c,E,f,h⟩:=h4.isCells (by omega) hb;exact hS b hs c E f h)) h5 ih
theorem aF.pure {w w':World}(hk:ε η w w'){a:Array Value}{x:Ex}(h:aF w a x):aF w' a x:=h.kept hk (fun _ h=>h.elim)
theorem aF.parts {w:World}{a:Array Value}{x:Ex}(h:aF w a x): ∃p cap,a= #[.int .u8 x.op,.int .i64 x.n,.slice p x.args.length cap]/\0<=x.op/\x.op<=255/\aJ x.n/\x.args.length<=cap/\cap<=maxLen/\
 ∀i y,x.args[i]?=some y-> ∃b off p' cap',p=some ⟨b,off,none⟩/\w.cell? ⟨b,off+i*3,none⟩=some (.int .u8 y.op)/\w.cell? ⟨b,off+i*3+1,none⟩=some (.int .i64 y.n)/\
  w.cell? ⟨b,off+i*3+2,none⟩=some (.slice p' y.args.length cap')/\aF w #[.int .u8 y.op,.int .i64 y.n,.slice p' y.args.length cap'] y:=by
 cases h with
 | @mk op n sl args cs h1 h2 h3 h4 h5 h6=>
   obtain⟨p,m,cap,rfl,g1,g2,g3,g4⟩:=h4;have hm:m=args.length:=(by omega);subst hm;refine⟨p,cap,rfl,h1,h2,h3,g1,g2,fun i y hy=>?_⟩;have hi:i<args.length:=(μ.1 hy).1;simp only[Ex.args]at hy;have e:=h6 i y hy;have hne:cs≠[]:=fun e=>(by rw[e]at h5;simp at h5;omega);obtain⟨b,off,rfl,hc⟩:=g4.resolve_left hne
   cases e2:y with
   |mk op' n' args'=>
    subst e2
    obtain⟨v0,v1,v2,hd⟩: ∃v0 v1 v2,(cs.drop (i*3)).take 3=[v0,v1,v2]:=by
     have hlen:((cs.drop (i*3)).take 3).length=3:=by rw[υ,length_drop];omega
     match(cs.drop (i*3)).take 3,hlen with
     |[v0,v1,v2],_=>exact⟨v0,v1,v2,rfl⟩
    have get: ∀j v,[v0,v1,v2][j]?=some v->cs[i*3+j]?=some v:=by
     intro j v hj;rw[<-hd,aaA]at hj;split at hj
     ·rwa[getElem?_drop]at hj
     ·cases hj
    rw[hd]at e;have e':=e
    cases hq:e with
    | @mk _ _ sl' _ cs' k1 k2 k3 k4 k5 k6=>
      obtain⟨p',m',cap',rfl,q1,q2,q3,q4⟩:=k4;have hm:m'=args'.length:=(by omega);subst hm;refine⟨b,off,p',cap',rfl,?_,?_,?_,e'⟩
      ·exact hc _ _ (get 0 _ rfl)
      ·have:=hc _ _ (get 1 _ rfl);rwa[<-Nat.add_assoc]at this
      ·have:=hc _ _ (get 2 _ rfl);rwa[<-Nat.add_assoc]at this
theorem UA (op:Int)(h0:0<=op)(h1:op<=255)(w:World):Calls prog 260 #[.int .u8 op] w fun e w'=>e= .returned (.int .i64 (arity op))/\w=w':=by
 by_cases a0:op=0
 ·subst a0
  go_enter func260,ntmps260;go_wp2;go_ret;exact⟨rfl,rfl⟩
 ·have b0:(op==0)=false:=by simp[a0]
  by_cases a1:18<op
  ·have e1:arity op= -1:=by unfold arity;rw[if_pos (.inr a1)]
   rw[e1];clear e1;go_enter func260,ntmps260;go_wp2;go_ret;exact⟨rfl,rfl⟩
  ·by_cases a2:op<=4
   ·have e1:arity op=0:=by unfold arity;rw[if_neg (by omega),if_pos a2]
    rw[e1];clear e1;go_enter func260,ntmps260;go_wp2;go_ret;exact⟨rfl,rfl⟩
   ·by_cases a3:op<=6
    ·have e1:arity op=1:=by unfold arity;rw[if_neg (by omega),if_neg a2,if_pos a3]
     rw[e1];clear e1;go_enter func260,ntmps260;go_wp2;go_ret;exact⟨rfl,rfl⟩
    ·by_cases a4:op=18
     ·subst a4
      go_enter func260,ntmps260;go_wp2;go_ret;exact⟨rfl,rfl⟩
     ·have e1:arity op=2:=by unfold arity;rw[if_neg (by omega),if_neg a2,if_neg a3,if_neg a4]
      have b4:(op==18)=false:=(by simp[a4]);rw[e1];clear e1;go_enter func260,ntmps260;go_wp2;go_ret;exact⟨rfl,rfl⟩
end
section
open Go Go.RowKit
attribute [local irreducible] dI eX
theorem aP {a b:Bool}(h:a=b):Ending.returned (.bool a)= .returned (.bool b):=by rw[h]
theorem Bq {α:Type}{l:List α}{k:Nat}{x:α}{p:α->Bool}(h:l[k]?=some x)(ht:(l.take k).all p=true)(hx:p x=true):(l.take (k+1)).all p=true:=by rw[ψ,h,all_append,ht];simp[hx]
theorem EM {α:Type}{l:List α}{k:Nat}{p:α->Bool}(ht:(l.take k).all p=true)(hk:l.length<=k):l.all p=true:=by rwa[χ hk]at ht
theorem Uw {α:Type}{l:List α}{k:Nat}{x:α}{p:α->Bool}(h:l[k]?=some x)(hx:p x=false):l.all p=false:=by rw[all_eq_false];exact⟨x,ς h,by simp[hx]⟩
theorem uV (f:Nat)(x:Ex):bg (f+1) x=(decide (arity x.op=x.args.length)&&decide (0<=x.n)&&decide (x.n=0\/x.op=1)&&x.args.all (bg f)):=by cases x;rfl
theorem Gw (x:Ex)(a:Array Value)(L:Int)(w:World)(hL0:0<=L)(hL:L<=16)(h:aF w a x)
 (hno:arity x.op≠x.args.length\/x.n<0\/0<x.n/\x.op≠1\/L=0):Calls prog 233 #[.agg a,.int .i64 L] w (Gives w (.bool false)):=by
 obtain⟨p,cap,rfl,h0,h1,h2,h3,h4,h5⟩:=h.parts;have hk:ε η w (w.alloc (.cells #[.int .u8 x.op,.int .i64 x.n,.slice p x.args.length cap] 40)):=δ.alloc _;obtain⟨W0,hW0⟩:=acu (w.alloc (.cells #[.int .u8 x.op,.int .i64 x.n,.slice p x.args.length cap] 40));have d0:W0.cell? ⟨w.heap.size,0,none⟩=some (.int .u8 x.op):=(by rw[<-hW0];simp);have d1:W0.cell? ⟨w.heap.size,1,none⟩=some (.int .i64 x.n):=(by rw[<-hW0];simp);have d2:W0.cell? ⟨w.heap.size,2,none⟩=some (.slice p x.args.length cap):=(by rw[<-hW0];simp);have HK:=γ hk;have hm: ∀W,Calls prog 260 #[.int .u8 x.op] W fun e w'=>e= .returned (.int .i64 (arity x.op))/\W=w':=UA x.op h0 h1;have HM:=γ hm;have HW0:=γ hW0;unfold aJ at h2;unfold maxLen at h4;obtain⟨h2,h2'⟩:=h2;clear hk h h5 hm hW0;by_cases c1:arity x.op=x.args.length
 ·have f1:(arity x.op !=(x.args.length:Int))=false:=by rw[c1];simp
  by_cases c2:x.n<0
  ·have g2:decide (x.n<0)=true:=decide_eq_true c2
   clear hno c1;go_enter func233,ntmps233;go_wp2_with fail;rw[HW0.o];refine acv [0,1,3,4,5,2,6,7,8,9,10,11,12,13,14,15,16,17,18,19,20,21,22,23,24,25] ?_;simp only[aco];iterate 5 (first|(apply aT rfl;go_frame)|(apply aj rfl rfl;(intro W hW;have z0:=hW.cell id d0;have z1:=hW.cell id d1;have z2:=hW.cell id d2;go_simp;rfl);go_frame))
   apply ay rfl rfl;intro K hK;go_wp2_with fail;refine(HM.o _).mono ?_;rintro e w' ⟨rfl,rfl⟩;go_wp2;refine hK _ _ (fun _=>δ.drew) ?_;clear hK;iterate 20 (first|(apply aT rfl;go_frame)|(apply aj rfl rfl;(intro W hW;have z0:=hW.cell id d0;have z1:=hW.cell id d1;have z2:=hW.cell id d2;go_simp;rfl);go_frame))
   refine aA (fun _=>δ.drew) ?_;go_wp2;go_ret;exact⟨rfl,HK.o.trans (by rw[HW0.o];exact δ.drew)⟩
  ·have g2:decide (x.n<0)=false:=decide_eq_false c2
   by_cases c3:0<x.n
   ·have g3:decide (0<x.n)=true:=decide_eq_true c3
    by_cases c4:x.op=1
    ·obtain rfl:L=0:=by
      rcases hno with hn|hn|hn|hn
      ·exact absurd c1 hn
      ·exact absurd hn c2
      ·exact absurd c4 hn.2
      ·exact hn
     have f4:(x.op !=1)=false:=(by simp[c4]);have f5:(x.op==1)=true:=(by simp[c4]);clear c1 c4 hno;go_enter func233,ntmps233;go_wp2_with fail;rw[HW0.o];refine acv [0,1,3,4,5,2,6,7,8,9,10,11,12,13,14,15,16,17,18,19,20,21,22,23,24,25] ?_;simp only[aco];iterate 5 (first|(apply aT rfl;go_frame)|(apply aj rfl rfl;(intro W hW;have z0:=hW.cell id d0;have z1:=hW.cell id d1;have z2:=hW.cell id d2;go_simp;rfl);go_frame))
     apply ay rfl rfl;intro K hK;go_wp2_with fail;refine(HM.o _).mono ?_;rintro e w' ⟨rfl,rfl⟩;go_wp2;refine hK _ _ (fun _=>δ.drew) ?_;clear hK;iterate 20 (first|(apply aT rfl;go_frame)|(apply aj rfl rfl;(intro W hW;have z0:=hW.cell id d0;have z1:=hW.cell id d1;have z2:=hW.cell id d2;go_simp;rfl);go_frame))
     refine aA (fun _=>δ.drew) ?_;go_wp2;go_ret;exact⟨rfl,HK.o.trans (by rw[HW0.o];exact δ.drew)⟩
    ·have f4:(x.op !=1)=true:=by simp[c4]
     clear c1 c4 hno;go_enter func233,ntmps233;go_wp2_with fail;rw[HW0.o];refine acv [0,1,3,4,5,2,6,7,8,9,10,11,12,13,14,15,16,17,18,19,20,21,22,23,24,25] ?_;simp only[aco];iterate 5 (first|(apply aT rfl;go_frame)|(apply aj rfl rfl;(intro W hW;have z0:=hW.cell id d0;have z1:=hW.cell id d1;have z2:=hW.cell id d2;go_simp;rfl);go_frame))
     apply ay rfl rfl;intro K hK;go_wp2_with fail;refine(HM.o _).mono ?_;rintro e w' ⟨rfl,rfl⟩;go_wp2;refine hK _ _ (fun _=>δ.drew) ?_;clear hK;iterate 20 (first|(apply aT rfl;go_frame)|(apply aj rfl rfl;(intro W hW;have z0:=hW.cell id d0;have z1:=hW.cell id d1;have z2:=hW.cell id d2;go_simp;rfl);go_frame))
     refine aA (fun _=>δ.drew) ?_;go_wp2;go_ret;exact⟨rfl,HK.o.trans (by rw[HW0.o];exact δ.drew)⟩
   ·obtain rfl:L=0:=by
     rcases hno with hn|hn|hn|hn
     ·exact absurd c1 hn
     ·exact absurd hn c2
     ·exact absurd hn.1 c3
     ·exact hn
    have g3:decide (0<x.n)=false:=decide_eq_false c3;clear c1 hno;go_enter func233,ntmps233;go_wp2_with fail;rw[HW0.o];refine acv [0,1,3,4,5,2,6,7,8,9,10,11,12,13,14,15,16,17,18,19,20,21,22,23,24,25] ?_;simp only[aco];iterate 5 (first|(apply aT rfl;go_frame)|(apply aj rfl rfl;(intro W hW;have z0:=hW.cell id d0;have z1:=hW.cell id d1;have z2:=hW.cell id d2;go_simp;rfl);go_frame))
    apply ay rfl rfl;intro K hK;go_wp2_with fail;refine(HM.o _).mono ?_;rintro e w' ⟨rfl,rfl⟩;go_wp2;refine hK _ _ (fun _=>δ.drew) ?_;clear hK;iterate 20 (first|(apply aT rfl;go_frame)|(apply aj rfl rfl;(intro W hW;have z0:=hW.cell id d0;have z1:=hW.cell id d1;have z2:=hW.cell id d2;go_simp;rfl);go_frame))
    refine aA (fun _=>δ.drew) ?_;go_wp2;go_ret;exact⟨rfl,HK.o.trans (by rw[HW0.o];exact δ.drew)⟩
 ·have f1:(arity x.op !=(x.args.length:Int))=true:=by simp[c1]
  clear c1 hno;go_enter func233,ntmps233;go_wp2_with fail;rw[HW0.o];refine acv [0,1,3,4,5,2,6,7,8,9,10,11,12,13,14,15,16,17,18,19,20,21,22,23,24,25] ?_;simp only[aco];iterate 5 (first|(apply aT rfl;go_frame)|(apply aj rfl rfl;(intro W hW;have z0:=hW.cell id d0;have z1:=hW.cell id d1;have z2:=hW.cell id d2;go_simp;rfl);go_frame))
  apply ay rfl rfl;intro K hK;go_wp2_with fail;refine(HM.o _).mono ?_;rintro e w' ⟨rfl,rfl⟩;go_wp2;refine hK _ _ (fun _=>δ.drew) ?_;clear hK;iterate 20 (first|(apply aT rfl;go_frame)|(apply aj rfl rfl;(intro W hW;have z0:=hW.cell id d0;have z1:=hW.cell id d1;have z2:=hW.cell id d2;go_simp;rfl);go_frame))
  refine aA (fun _=>δ.drew) ?_;go_wp2;go_ret;exact⟨rfl,HK.o.trans (by rw[HW0.o];exact δ.drew)⟩
def aas (f:Nat):Prop:= ∀(x:Ex)(a:Array Value)(L:Int)(w:World),L=f->f<=16->aF w a x->Calls prog 233 #[.agg a,.int .i64 L] w (Gives w (.bool (bg f x)))
theorem adL (f:Nat)(ih:aas f)(x:Ex)(a:Array Value)(L:Int)(w:World)(hL:L=((f+1:Nat):Int))(hf:f+1<=16)(h:aF w a x)
 (c1:arity x.op=x.args.length) (c2: ¬x.n<0) (c3: ¬(0<x.n/\x.op≠1)):Calls prog 233 #[.agg a,.int .i64 L] w (Gives w (.bool (bg (f+1) x))):=by
 have hx:bg (f+1) x=x.args.all (bg f):=by rw[uV];have e1:decide (arity x.op=x.args.length)=true:=decide_eq_true c1;have e2:decide (0<=x.n)=true:=decide_eq_true (by omega);have e3:decide (x.n=0\/x.op=1)=true:=decide_eq_true (by omega);rw[e1,e2,e3];rfl
 rw[hx];obtain⟨p,cap,rfl,h0,h1,h2,h3,h4,h5⟩:=h.parts;have hk:ε η w (w.alloc (.cells #[.int .u8 x.op,.int .i64 x.n,.slice p x.args.length cap] 40)):=δ.alloc _;obtain⟨W0,hW0⟩:=acu (w.alloc (.cells #[.int .u8 x.op,.int .i64 x.n,.slice p x.args.length cap] 40));have d0:W0.cell? ⟨w.heap.size,0,none⟩=some (.int .u8 x.op):=(by rw[<-hW0];simp);have d1:W0.cell? ⟨w.heap.size,1,none⟩=some (.int .i64 x.n):=(by rw[<-hW0];simp);have d2:W0.cell? ⟨w.heap.size,2,none⟩=some (.slice p x.args.length cap):=(by rw[<-hW0];simp);have HK:=γ hk;have hm: ∀W,Calls prog 260 #[.int .u8 x.op] W fun e w'=>e= .returned (.int .i64 (arity x.op))/\W=w':=UA x.op h0 h1;have HM:=γ hm;have HW0:=γ hW0;unfold aJ at h2;unfold maxLen at h4;obtain⟨h2,h2'⟩:=h2;have f1:(arity x.op !=(x.args.length:Int))=false:=(by rw[c1];simp);have hL1:1<=L:=(by omega);have hL2:L<=16:=(by omega);have f6:(L==0)=false:=(by simp;omega);have g2:decide (x.n<0)=false:=decide_eq_false c2;have IH:=γ ih;have HL:=γ hL;have H5:=γ h5;clear hk h h5 hm hW0 hx c1 ih hL;have main:(decide (0<x.n)=false\/decide (0<x.n)=true/\(x.op !=1)=false)->Calls prog 233 #[.agg #[.int .u8 x.op,.int .i64 x.n,.slice p x.args.length cap],.int .i64 L] w (Gives w (.bool (x.args.all (bg f)))):=by
  rintro(f3|⟨f3,f4⟩);all_goals
   go_enter func233,ntmps233;go_wp2_with fail;rw[HW0.o];refine acv [0,1,3,4,5,2,6,7,8,9,10,11,12,13,14,15,16,17,18,19,20,21,22,23,24,25] ?_;simp only[aco];iterate 5 (first|(apply aT rfl;go_frame)|(apply aj rfl rfl;(intro W hW;have z0:=hW.cell id d0;have z1:=hW.cell id d1;have z2:=hW.cell id d2;go_simp;rfl);go_frame))
   apply ay rfl rfl;intro K hK;go_wp2_with fail;refine(HM.o _).mono ?_;rintro e w' ⟨rfl,rfl⟩;go_wp2;refine hK _ _ (fun _=>δ.drew) ?_;clear hK;iterate 20 (first|(apply aT rfl;go_frame)|(apply aj rfl rfl;(intro W hW;have z0:=hW.cell id d0;have z1:=hW.cell id d1;have z2:=hW.cell id d2;go_simp;rfl);go_frame))
   refine aA (fun _=>δ.drew) ?_;go_wp2_with fail;obtain⟨W1,hW1⟩:=acu W0.drew;have k1:ε η W0 W1:=(by rw[<-hW1];exact δ.drew);have KK:=γ (HK.o.trans (by rw[HW0.o];exact k1));have HW1:=γ k1;rw[hW1];clear hW1 k1;go_loopg [36] x.args.length (fun g vi wr=> ∃k:Nat,k<=x.args.length/\vi= .int .i64 (k:Int)/\x.args.length-k<=g/\(x.args.take k).all (bg f)=true/\ε η W0 wr)
   case atStart=>exact⟨0,by omega,rfl,by omega,by simp,HW1.o⟩
   case round=>
    obtain⟨k,hkl,rfl,hg,ht,hkp⟩:=hrel;have HT:=γ (θ hg ht);clear hg ht;by_cases hlt:k<x.args.length
    ·obtain⟨y,hy⟩: ∃y,x.args[k]?=some y:=⟨_,ι hlt⟩
     obtain⟨b,off,p',cap',rfl,q0,q1,q2,hy2⟩:=H5.o k y hy;have hW:=(HK.o.trans (by rw[HW0.o];exact hkp):ε η w wr);have r0:=hW.cell (p:=⟨b,off+k*3,none⟩) id q0;have r1:=hW.cell (p:=⟨b,off+k*3+1,none⟩) id q1;have r2:=hW.cell (p:=⟨b,off+k*3+2,none⟩) id q2;have HY:=γ (θ hy (aF.pure hW hy2));have uD:=γ (θ hW hkp);clear q0 q1 q2 hy hy2 hW hkp H5;go_wp2_with fail;have c:=IH.o y _ (L-1) (wr.alloc (.cells #[.int .u8 y.op,.int .i64 y.n,.slice p' y.args.length cap'] 40)) (by have:=HL.o;omega) (by omega) (aF.pure (δ.alloc _) HY.o.2);refine c.mono ?_;clear c;rintro e w2 ⟨rfl,k2⟩;have k3:ε η wr w2:=(δ.alloc _).trans k2;have EO:=γ k3;clear k2 k3
     cases hm:bg f y with
     |false=>have RS:=γ hm;clear hm;go_wp2;go_ret;exact⟨aP (Uw HY.o.1 RS.o).symm,uD.o.1.trans EO.o⟩
     |true=>
      have RS:=γ hm;clear hm;go_wp2;go_roundg (x.args.length-(k+1))
      case rel=>exact⟨k+1,by omega,by go_num,ξ _,Bq HY.o.1 HT.o.2 RS.o,uD.o.2.trans EO.o⟩
      case measure=>have:=HT.o.1;omega
    ·go_wp2
     go_ret;exact⟨aP (EM HT.o.2 (by omega)).symm,HK.o.trans (by rw[HW0.o];exact hkp)⟩
 clear HM HW0 HK d0 d1 d2;apply main;by_cases c4:0<x.n
 ·right;refine⟨decide_eq_true c4,?_⟩
  have:x.op=1:=(by omega);simp[this]
 ·left;exact decide_eq_false c4
theorem Uy: ∀f,aas f
 |0=>fun x a L w hL hf h=>by have:=Gw x a L w (by omega) (by omega) h (.inr (.inr (.inr (by omega))));exact this
 |f+1=>fun x a L w hL hf h=>by
  by_cases c1:arity x.op=x.args.length
  ·by_cases c2:x.n<0
   ·have e:bg (f+1) x=false:=by rw[uV];simp;omega
    rw[e];exact Gw x a L w (by omega) (by omega) h (.inr (.inl c2))
   ·by_cases c3:0<x.n/\x.op≠1
    ·have e:bg (f+1) x=false:=by rw[uV];simp;omega
     rw[e];exact Gw x a L w (by omega) (by omega) h (.inr (.inr (.inl c3)))
    ·exact adL f (Uy f) x a L w hL hf h c1 c2 c3
  ·have e:bg (f+1) x=false:=by rw[uV];simp[c1]
   rw[e];exact Gw x a L w (by omega) (by omega) h (.inl c1)
theorem UU (x:Ex)(a:Array Value)(w:World)(h:aF w a x):Calls prog 196 #[.agg a] w (Gives w (.bool (bg 16 x))):=by obtain⟨p,cap,rfl,h0,h1,h2,h3,h4,h5⟩:=h.parts;have H:=γ h;clear h h5;go_enter func196,ntmps196;go_wp2_with fail;have k1:ε η w (w.alloc (.cells #[.int .u8 x.op,.int .i64 x.n,.slice p x.args.length cap] 40)):=δ.alloc _;refine(Uy 16 x _ 16 _ rfl (ξ _) (aF.pure k1 H.o)).mono ?_;rintro e w2 ⟨rfl,k2⟩;go_wp2;go_ret;exact⟨rfl,k1.trans k2⟩
end
section
open Go Go.RowKit
def qY (k:Int×Int×Int×Int):Value:= .agg #[.int .u8 k.1,.int .u8 k.2.1,.int .u8 k.2.2.1,.int .u8 k.2.2.2]
def l9:List yH->Nat->List MapEntry
 |[],_=>[]
 |r::l,i=>{key:=qY r.1,val:= .int .u8 r.2,born:=i}::l9 l (i+1)
def nD (w:World)(m:Nat)(E:List yH):Prop:=w.heap[m]?=some (.map (l9 E 0).toArray E.length)
theorem Gp (r:yH): ∀(E:List yH)(i:Nat),l9 (E++[r]) i=l9 E i++[{key:=qY r.1,val:= .int .u8 r.2,born:=i+E.length}]
 |[],i=>rfl
 |x::E,i=>by
  simp only[cons_append,l9,Gp r E (i+1),φ]
  congr 3
  simp;omega
theorem Jy (k:Int×Int×Int×Int)(b:Bool)(w:World):(Instr.checkKey b 10000 310 (qY k)).run prog w= .ok () w:=by kernel_rfl
theorem ac2 (d:Nat)(a b:Int)(w:World):(Op.equalIn (d+1) 5 (.int .u8 a) (.int .u8 b)).run prog w= .ok (a==b) w:=by simp[Op.equalIn,run_underlying underlying5]
theorem agk (a b c:Value)(w:World):(part 5 #[a,b,c] 0).run prog w= .ok a w/\(part 5 #[a,b,c] 1).run prog w= .ok b w/\(part 5 #[a,b,c] 2).run prog w= .ok c w:=by refine⟨?_,?_,?_⟩<;>kernel_rfl
theorem afD (d:Nat)(a b c a' b' c':Int)(w:World):(Op.equalIn (d+2) 308 (.agg #[.int .u8 a,.int .u8 b,.int .u8 c]) (.agg #[.int .u8 a',.int .u8 b',.int .u8 c'])).run prog w= .ok (decide (a=a'/\b=b'/\c=c')) w:=by rw[Op.equalIn];simp[run_underlying underlying308,Std.Legacy.Range.forIn_eq_forIn_range',range',agk,ac2];by_cases h1:a=a'<;>by_cases h2:b=b'<;>by_cases h3:c=c'<;>simp[h1,h2,h3]
theorem aa0 (a b c d:Value)(w:World):(part 5 #[a,b,c,d] 0).run prog w= .ok a w/\(part 308 #[a,b,c,d] 1).run prog w= .ok (.agg #[b,c,d]) w:=by refine⟨?_,?_⟩<;>kernel_rfl
theorem BP (k k':Int×Int×Int×Int)(w:World):(Op.equal 310 (qY k) (qY k')).run prog w= .ok (decide (k=k')) w:=by obtain⟨a,b,c,d⟩:=k;obtain⟨a',b',c',d'⟩:=k';have h1:=fun w=>ac2 9998 a a' w;have h2:=fun w=>afD 9997 b c d b' c' d' w;unfold Op.equal Op.maxDepth qY;rw[Op.equalIn];simp[run_underlying underlying310,aa0,h1,h2];by_cases e1:a=a'<;>simp[e1];split<;>simp_all
theorem Uf (k:Int×Int×Int×Int)(w:World): ∀(E:List yH)(i j:Nat),(∀r∈E,r.1≠k)->(Instr.findAsking 310 (qY k) (l9 E i) j).run prog w= .ok none w
 |[],_,_,_=>rfl
 |r::E,i,j,h=>by have h1:decide (k=r.1)=false:=decide_eq_false fun e=>h r (by simp) e.symm;simp only[l9,Instr.findAsking,Sem.run_bind,BP,Result.andThen_ok,h1];exact Uf k w E (i+1) (j+1) (fun x hx=>h x (by simp[hx]))
theorem Ue (k:Int×Int×Int×Int)(w:World): ∀(E:List yH)(i j:Nat),(Instr.findAsking 310 (qY k) (l9 E i) j).run prog w= .ok none w/\E.find? (fun r=>r.1==k)=none\/
 ∃n r,(Instr.findAsking 310 (qY k) (l9 E i) j).run prog w= .ok (some (n,.int .u8 r.2)) w/\E.find? (fun r=>r.1==k)=some r
 |[],_,_=> .inl ⟨rfl,rfl⟩
 |r::E,i,j=>by
  by_cases h:k=r.1
  ·right
   have h1:decide (k=r.1)=true:=decide_eq_true h;have h2:(r.1==k)=true:=(by rw[h];exact beq_self_eq_true r.1);refine⟨j,r,?_,by rw[find?_cons_of_pos (l:=E) (by exact h2)]⟩;simp only[l9,Instr.findAsking,Sem.run_bind,BP,Result.andThen_ok,h1];rfl
  ·have h1:decide (k=r.1)=false:=decide_eq_false h
   have h2: ¬(r.1==k)=true:=(by simp;exact fun e=>h e.symm);simp only[l9,Instr.findAsking,Sem.run_bind,BP,Result.andThen_ok,h1];rw[find?_cons_of_neg (l:=E) (by exact h2)];exact Ue k w E (i+1) (j+1)
theorem Q7 (k:Int×Int×Int×Int)(E:List yH)(w:World):(Instr.findKey 310 (qY k) (l9 E 0)).run prog w=(Instr.findAsking 310 (qY k) (l9 E 0) 0).run prog w:=by
 unfold Instr.findKey;simp only[Sem.run_bind,run_underlying underlying310,Result.andThen_ok]
 cases E with
 |nil=>rfl
 |cons r E=>rfl
theorem nD.lookup {w:World}{m:Nat}(h:nD w m qg)(k:Int×Int×Int×Int):(Instr.lookup 278 (.map (some m)) (qY k) false).run prog w= .ok (.int .u8 (jh k)) w:=by
 have hg:(getObj m).run prog w= .ok (.map (l9 qg 0).toArray qg.length) w:=(by simp[getObj,Sem.run,show w.heap[m]?=_ from h]);have hz:(zeroValue 5).run prog w= .ok (.int .u8 0) w:=(by kernel_rfl);simp only[Instr.lookup,Sem.run_bind,run_underlying underlying278,Result.andThen_ok,hg,Jy];simp only[Sem.run_pure,Result.andThen_ok,Q7]
 rcases Ue k w qg 0 0 with⟨h1,h2⟩|⟨n,r,h1,h2⟩
 ·rw[h1]
  simp only[Result.andThen_ok,hz,Sem.run_bind,Sem.run_pure];unfold jh;rw[h2];rfl
 ·rw[h1]
  simp only[Result.andThen_ok];unfold jh;rw[h2];rfl
theorem nD.put {w:World}{m:Nat}{E:List yH}(h:nD w m E)(r:yH)(hn: ∀x∈E,x.1≠r.1):
 ∃w',(Instr.mapUpdate 278 (.map (some m)) (qY r.1) (.int .u8 r.2)).run prog w= .ok () w'/\nD w' m (E++[r])/\ε (one m) w w':=by
 have hg:(getObj m).run prog w= .ok (.map (l9 E 0).toArray E.length) w:=(by simp[getObj,Sem.run,show w.heap[m]?=_ from h]);refine⟨World.iF w m (l9 (E++[r]) 0).toArray (E++[r]).length,?_,nK h _ _,nJ _ _ _ _⟩;simp only[Instr.mapUpdate,Sem.run_bind,run_underlying underlying278,Result.andThen_ok,hg,Jy,Q7,Uf r.1 w E 0 0 hn];rw[Gp];have:=oL (P:=prog) (es':=((l9 E 0).toArray.push {key:=qY r.1,val:= .int .u8 r.2,born:=E.length})) (clock':=E.length+1) h;rw[this];simp
theorem nD.kept {w w':World}{m:Nat}{E:List yH}{S:Nat->Prop}(h:nD w m E)(hk:ε S w w')(hn: ¬S m):nD w' m E:=hk.heap h hn
end
section
open Go Go.RowKit
attribute [local irreducible] dI
def pY (l:List Int):List Value:=l.map (Value.int .u8)
theorem Reads.atU {w:World}{v:Value}{l:List Int}(h:Reads w 1 v (pY l)): ∃a cap,v= .slice a l.length cap/\l.length<=cap/\cap<=maxLen/\(l=[]\/ ∃b off,a=some ⟨b,off,none⟩/\ ∀i x,l[i]?=some x->w.cell? ⟨b,off+i,none⟩=some (.int .u8 x)):=by
 obtain⟨a,n,cap,rfl,h1,h2,h3,h4⟩:=h;have hn:n=l.length:=(by simpa[pY]using h3.symm);subst hn;refine⟨a,cap,rfl,h1,h2,?_⟩
 rcases h4 with h4|⟨b,off,rfl,h4⟩
 ·left
  have:(pY l).length=0:=(by rw[h4];rfl);simp only[pY,length_map]at this;exact τ this
 ·exact .inr ⟨b,off,rfl,fun i x hx=>h4 i _ (by simp[pY,hx])⟩
def bY (ty a b c:Int)(l:List Int):List yH:=l.map fun o=>((o,a,b,c),ty)
theorem zl {w:World}{b o m:Nat}{v:Value}{es:Array MapEntry}{cl:Nat}(h:w.cell? ⟨b,o,none⟩=some v)(hm:w.heap[m]?=some (.map es cl)):b≠m:=by intro e;subst e;simp[World.cell?,hm]at h
def aiS (w:World)(m:Nat)(E:List yH)(e:Ending)(w':World):Prop:=e= .returned (.tuple #[])/\nD w' m E/\ε (one m) w w'
theorem SN {ty a b c:Int}{l:List Int}{k:Nat}{x:Int}(h:l[k]?=some x):bY ty a b c (l.take (k+1))=bY ty a b c (l.take k)++[((x,a,b,c),ty)]:=by unfold bY;rw[ψ,h,aay];rfl
theorem Vr {ty a b c:Int}{l:List Int}{E:List yH}{k:Nat}{x:Int}(hx:l[k]?=some x)(h:((E++bY ty a b c l).map (·.1)).Nodup): ∀r∈E++bY ty a b c (l.take k),r.1≠(x,a,b,c):=by
 have e:l=l.take k++x::l.drop (k+1):=(by obtain⟨hlt,rfl⟩:=μ.1 hx;simp);rw[e]at h;unfold bY at h⊢;simp only[aay,Θ]at h;rw[<-append_assoc]at h;have h2:=(nodup_append.1 h).2.2;intro r hr he;refine h2 r.1 ?_ r.1 ?_ rfl
 ·rw[<-aay];exact aaw.2 ⟨r,hr,rfl⟩
 ·rw[he];simp
theorem mZ (ty a b c:Int)(v:Value)(l:List Int)(E:List yH)(m Bm:Nat)(w:World)(hm:nD w m E)(hc:w.cell? ⟨Bm,0,none⟩=some (.map (some m)))(hr:Reads w 1 v (pY l))
 (hnd:((E++bY ty a b c l).map (·.1)).Nodup):
 Calls prog 234 #[.int .u8 ty,.agg #[.int .u8 a,.int .u8 b,.int .u8 c],v,.pointer (some ⟨Bm,0,none⟩)] w (aiS w m (E++bY ty a b c l)):=by
 obtain⟨p,cap,rfl,h1,h2,h3⟩:=hr.atU;unfold maxLen at h2;have hne:Bm≠m:=zl hc hm;have H3:=γ h3;have HN:=γ hnd;have HM:=γ hm;have HC:=γ hc;clear h3 hr hnd hm hc;go_enter func234,ntmps234;go_wp2;obtain⟨W0,hW0⟩:=acu (w.alloc (.cells #[.int .u8 a,.int .u8 b,.int .u8 c] 308));have hk0:ε η w W0:=(by rw[<-hW0];exact δ.alloc _);have d0:W0.cell? ⟨w.heap.size,0,none⟩=some (.int .u8 a):=(by rw[<-hW0];simp);have d1:W0.cell? ⟨w.heap.size,1,none⟩=some (.int .u8 b):=(by rw[<-hW0];simp);have d2:W0.cell? ⟨w.heap.size,2,none⟩=some (.int .u8 c):=(by rw[<-hW0];simp);have hsm:w.heap.size≠m:=zl d0 (HM.o.kept hk0 id);have D:=γ (θ d0 (θ d1 d2));have K0:=γ hk0;rw[hW0];clear hW0 d0 d1 d2 hk0;go_loopg [11] l.length (fun g vi wr=> ∃k:Nat,k<=l.length/\vi= .int .i64 (k:Int)/\l.length-k<=g/\nD wr m (E++bY ty a b c (l.take k))/\ε (one m) W0 wr)
 case atStart=>exact⟨0,by omega,rfl,by omega,by simpa[bY]using HM.o.kept K0.o id,ε.refl _ _⟩
 case round=>
  obtain⟨k,hkl,rfl,hg,hma,hkp⟩:=hrel;by_cases hlt:k<l.length
  ·obtain⟨x,hx⟩: ∃x,l[k]?=some x:=⟨_,ι hlt⟩
   obtain⟨b0,off,rfl,hcl⟩:=H3.o.resolve_left (fun h=>by rw[h]at hx;cases hx);have q0:=hcl k x hx;have hb0:b0≠m:=zl q0 HM.o;have r0:=hkp.cell (p:=⟨b0,off+k,none⟩) (fun h=>hb0 h) (K0.o.cell id q0);have s0:=hkp.cell (p:=⟨w.heap.size,0,none⟩) (fun h=>hsm h) D.o.1;have s1:=hkp.cell (p:=⟨w.heap.size,1,none⟩) (fun h=>hsm h) D.o.2.1;have s2:=hkp.cell (p:=⟨w.heap.size,2,none⟩) (fun h=>hsm h) D.o.2.2;have s3:=hkp.cell (p:=⟨Bm,0,none⟩) (fun h=>hne h) (K0.o.cell id HC.o);obtain⟨w2,hup,g1,g2⟩:=hma.put ((x,a,b,c),ty) (Vr hx HN.o);unfold qY at hup;simp only[]at hup;rw[append_assoc,<-SN hx]at g1;have G:=γ (θ hg (θ g1 (hkp.trans g2)));clear q0 hcl hx hg hma hkp g1 g2 H3 HN HM HC D K0;go_wp2;go_roundg (l.length-(k+1))
   case rel=>exact⟨k+1,by omega,by go_num,ξ _,G.o.2.1,G.o.2.2⟩
   case measure=>have:=G.o.1;omega
  ·have hkl:k=l.length:=by omega
   subst hkl;rw[χ (ξ _)]at hma;have G:=γ (θ hma hkp);clear hma hkp hg;go_wp2_with fail
   go_end0
   exact⟨rfl,G.o.1,K0.o.pure.trans G.o.2⟩
def afV (w:World)(e:Ending)(w':World):Prop:= ∃m,e= .returned (.map (some m))/\nD w' m qg/\ε η w w'
theorem Reads.CB (w:World)(l:List Int)(E n:Nat)(h:l.length=n)(hn:n<=maxLen):Reads (w.alloc (.cells (pY l).toArray E)) 1 (.slice (some ⟨w.heap.size,0,none⟩) n n) (pY l):=
 ⟨_,n,n,rfl,ξ _,hn,by simp[pY,h],.inr ⟨_,0,rfl,fun i x hx=>by rw[World.cell?_alloc_new];simpa using hx⟩⟩
theorem Jw (w:World):Calls prog 199 #[] w (afV w):=by
 have hmm:= @run_makeMap prog;go_enter func199,ntmps199;go_wp2_with fail;obtain⟨W0,hW0⟩:=acu ((w.alloc (.map #[] 0)).alloc (.cells #[.map (some w.heap.size)] 278));have hk0:ε η w W0:=(by rw[<-hW0];exact(δ.alloc _).alloc _);have hs:w.heap.size<W0.heap.size:=(by rw[<-hW0];simp;omega);have m0:nD W0 w.heap.size []:=(by have h1:nD (w.alloc (.map #[] 0)) w.heap.size []:=(by unfold nD;simpa[l9]using heap_alloc_new w (.map #[] 0));rw[<-hW0];exact h1.kept ((ε.refl η _).alloc _) id);have c0:W0.cell? ⟨w.heap.size+1,0,none⟩=some (.map (some w.heap.size)):=(by rw[<-hW0];simp);have hz0:W0.heap.size=w.heap.size+1+1:=(by rw[<-hW0];simp);rw[hW0];clear hW0 hmm;have a1:ε η W0 (W0.alloc (.cells #[.int .u8 1,.int .u8 2,.int .u8 3,.int .u8 4] 5)):=δ.alloc _;have b1:Reads (W0.alloc (.cells #[.int .u8 1,.int .u8 2,.int .u8 3,.int .u8 4] 5)) 1 (.slice (some ⟨W0.heap.size,0,none⟩) 4 4) (pY [1,2,3,4]):=Reads.CB _ [1,2,3,4] 5 4 rfl (by unfold maxLen;omega);rw[hz0]at b1;clear hz0;have q1:=mZ 1 0 0 0 _ [1,2,3,4] [] w.heap.size (w.heap.size+1) _ (m0.kept a1 id) (a1.cell id c0) b1 (by decide);refine q1.mono ?_
 trace "0"
 clear q1 b1;rintro e W1 ⟨rfl,m1,k1⟩;have c1:=k1.cell (p:=⟨w.heap.size+1,0,none⟩) (fun h=>by unfold one at h;simp at h) (a1.cell id c0);have K1:ε η w W1:=hk0.new (a1.pure.trans k1) (fun i hi e=>by unfold one at e;omega);clear a1 k1 m0 c0;go_wp2_with fail;have a2:ε η W1 (W1.alloc (.cells #[.int .u8 5] 5)):=δ.alloc _;have b2:Reads (W1.alloc (.cells #[.int .u8 5] 5)) 1 (.slice (some ⟨W1.heap.size,0,none⟩) 1 1) (pY [5]):=Reads.CB _ [5] 5 1 rfl (by unfold maxLen;omega);have q2:=mZ 1 1 0 0 _ [5] ([]++bY 1 0 0 0 [1,2,3,4]) w.heap.size (w.heap.size+1) _ (m1.kept a2 id) (a2.cell id c1) b2 (by decide);refine q2.mono ?_
 trace "1"
 clear q2 b2;rintro e W2 ⟨rfl,m2,k2⟩;have c2:=k2.cell (p:=⟨w.heap.size+1,0,none⟩) (fun h=>by unfold one at h;simp at h) (a2.cell id c1);have K2:ε η w W2:=K1.new (a2.pure.trans k2) (fun i hi e=>by unfold one at e;omega);clear a2 k2 m1 c1;go_wp2_with fail;have a3:ε η W2 (W2.alloc (.cells #[.int .u8 7,.int .u8 8,.int .u8 9,.int .u8 10,.int .u8 11] 5)):=δ.alloc _;have b3:Reads (W2.alloc (.cells #[.int .u8 7,.int .u8 8,.int .u8 9,.int .u8 10,.int .u8 11] 5)) 1 (.slice (some ⟨W2.heap.size,0,none⟩) 5 5) (pY [7,8,9,10,11]):=Reads.CB _ [7,8,9,10,11] 5 5 rfl (by unfold maxLen;omega);have q3:=mZ 1 1 1 0 _ [7,8,9,10,11] (([]++bY 1 0 0 0 [1,2,3,4])++bY 1 1 0 0 [5]) w.heap.size (w.heap.size+1) _ (m2.kept a3 id) (a3.cell id c2) b3 (by decide);refine q3.mono ?_
 trace "2"
 clear q3 b3;rintro e W3 ⟨rfl,m3,k3⟩;have c3:=k3.cell (p:=⟨w.heap.size+1,0,none⟩) (fun h=>by unfold one at h;simp at h) (a3.cell id c2);have K3:ε η w W3:=K2.new (a3.pure.trans k3) (fun i hi e=>by unfold one at e;omega);clear a3 k3 m2 c2;go_wp2_with fail;have a4:ε η W3 (W3.alloc (.cells #[.int .u8 6] 5)):=δ.alloc _;have b4:Reads (W3.alloc (.cells #[.int .u8 6] 5)) 1 (.slice (some ⟨W3.heap.size,0,none⟩) 1 1) (pY [6]):=Reads.CB _ [6] 5 1 rfl (by unfold maxLen;omega);have q4:=mZ 2 2 0 0 _ [6] ((([]++bY 1 0 0 0 [1,2,3,4])++bY 1 1 0 0 [5])++bY 1 1 1 0 [7,8,9,10,11]) w.heap.size (w.heap.size+1) _ (m3.kept a4 id) (a4.cell id c3) b4 (by decide);refine q4.mono ?_
 trace "3"
 clear q4 b4;rintro e W4 ⟨rfl,m4,k4⟩;have c4:=k4.cell (p:=⟨w.heap.size+1,0,none⟩) (fun h=>by unfold one at h;simp at h) (a4.cell id c3);have K4:ε η w W4:=K3.new (a4.pure.trans k4) (fun i hi e=>by unfold one at e;omega);clear a4 k4 m3 c3;go_wp2_with fail;have a5:ε η W4 (W4.alloc (.cells #[.int .u8 16,.int .u8 17,.int .u8 14,.int .u8 15] 5)):=δ.alloc _;have b5:Reads (W4.alloc (.cells #[.int .u8 16,.int .u8 17,.int .u8 14,.int .u8 15] 5)) 1 (.slice (some ⟨W4.heap.size,0,none⟩) 4 4) (pY [16,17,14,15]):=Reads.CB _ [16,17,14,15] 5 4 rfl (by unfold maxLen;omega);have q5:=mZ 2 2 2 0 _ [16,17,14,15] (((([]++bY 1 0 0 0 [1,2,3,4])++bY 1 1 0 0 [5])++bY 1 1 1 0 [7,8,9,10,11])++bY 2 2 0 0 [6]) w.heap.size (w.heap.size+1) _ (m4.kept a5 id) (a5.cell id c4) b5 (by decide);refine q5.mono ?_
 trace "4"
 clear q5 b5;rintro e W5 ⟨rfl,m5,k5⟩;have c5:=k5.cell (p:=⟨w.heap.size+1,0,none⟩) (fun h=>by unfold one at h;simp at h) (a5.cell id c4);have K5:ε η w W5:=K4.new (a5.pure.trans k5) (fun i hi e=>by unfold one at e;omega);clear a5 k5 m4 c4;go_wp2_with fail;have a6:ε η W5 (W5.alloc (.cells #[.int .u8 12,.int .u8 13,.int .u8 14,.int .u8 15] 5)):=δ.alloc _;have b6:Reads (W5.alloc (.cells #[.int .u8 12,.int .u8 13,.int .u8 14,.int .u8 15] 5)) 1 (.slice (some ⟨W5.heap.size,0,none⟩) 4 4) (pY [12,13,14,15]):=Reads.CB _ [12,13,14,15] 5 4 rfl (by unfold maxLen;omega);have q6:=mZ 2 1 1 0 _ [12,13,14,15] ((((([]++bY 1 0 0 0 [1,2,3,4])++bY 1 1 0 0 [5])++bY 1 1 1 0 [7,8,9,10,11])++bY 2 2 0 0 [6])++bY 2 2 2 0 [16,17,14,15]) w.heap.size (w.heap.size+1) _ (m5.kept a6 id) (a6.cell id c5) b6 (by decide);refine q6.mono ?_
 trace "5"
 clear q6 b6;rintro e W6 ⟨rfl,m6,k6⟩;have c6:=k6.cell (p:=⟨w.heap.size+1,0,none⟩) (fun h=>by unfold one at h;simp at h) (a6.cell id c5);have K6:ε η w W6:=K5.new (a6.pure.trans k6) (fun i hi e=>by unfold one at e;omega);clear a6 k6 m5 c5;go_wp2_with fail;have a7:ε η W6 (W6.alloc (.cells #[.int .u8 18] 5)):=δ.alloc _;have b7:Reads (W6.alloc (.cells #[.int .u8 18] 5)) 1 (.slice (some ⟨W6.heap.size,0,none⟩) 1 1) (pY [18]):=Reads.CB _ [18] 5 1 rfl (by unfold maxLen;omega);have q7:=mZ 1 2 1 1 _ [18] (((((([]++bY 1 0 0 0 [1,2,3,4])++bY 1 1 0 0 [5])++bY 1 1 1 0 [7,8,9,10,11])++bY 2 2 0 0 [6])++bY 2 2 2 0 [16,17,14,15])++bY 2 1 1 0 [12,13,14,15]) w.heap.size (w.heap.size+1) _ (m6.kept a7 id) (a7.cell id c6) b7 (by decide);refine q7.mono ?_
 trace "6"
 clear q7 b7;rintro e W7 ⟨rfl,m7,k7⟩;have c7:=k7.cell (p:=⟨w.heap.size+1,0,none⟩) (fun h=>by unfold one at h;simp at h) (a7.cell id c6);have K7:ε η w W7:=K6.new (a7.pure.trans k7) (fun i hi e=>by unfold one at e;omega);clear a7 k7 m6 c6;go_wp2_with fail;have a8:ε η W7 (W7.alloc (.cells #[.int .u8 18] 5)):=δ.alloc _;have b8:Reads (W7.alloc (.cells #[.int .u8 18] 5)) 1 (.slice (some ⟨W7.heap.size,0,none⟩) 1 1) (pY [18]):=Reads.CB _ [18] 5 1 rfl (by unfold maxLen;omega);have q8:=mZ 2 2 2 2 _ [18] ((((((([]++bY 1 0 0 0 [1,2,3,4])++bY 1 1 0 0 [5])++bY 1 1 1 0 [7,8,9,10,11])++bY 2 2 0 0 [6])++bY 2 2 2 0 [16,17,14,15])++bY 2 1 1 0 [12,13,14,15])++bY 1 2 1 1 [18]) w.heap.size (w.heap.size+1) _ (m7.kept a8 id) (a8.cell id c7) b8 (by decide);refine q8.mono ?_
 trace "7"
 clear q8 b8;rintro e W8 ⟨rfl,m8,k8⟩;have c8:=k8.cell (p:=⟨w.heap.size+1,0,none⟩) (fun h=>by unfold one at h;simp at h) (a8.cell id c7);have K8:ε η w W8:=K7.new (a8.pure.trans k8) (fun i hi e=>by unfold one at e;omega);clear a8 k8 m7 c7;go_wp2;go_ret;exact⟨_,rfl,m8,K8⟩
theorem jK {a b:Int}(h:a=b):Ending.returned (.int .u8 a)= .returned (.int .u8 b):=by rw[h]
def uG (f:Nat)(l:List Ex)(k j:Nat):Int:=((l.take k).map (aC f)).getD j 0
def Dw (op:Int)(f:Nat)(l:List Ex)(k:Nat):Array Value:= #[.int .u8 op,.int .u8 (uG f l k 0),.int .u8 (uG f l k 1),.int .u8 (uG f l k 2)]
def ac5 (f:Nat):Prop:= ∀(x:Ex)(a:Array Value)(m:Nat)(w:World),aF w a x->bg f x=true->nD w m qg->Calls prog 198 #[.map (some m),.agg a] w (Gives w (.int .u8 (aC f x)))
theorem zL (f:Nat)(x:Ex):aC (f+1) x=if(x.args.map (aC f)).contains 0 then 0 else jh (x.op,(x.args.map (aC f)).getD 0 0,(x.args.map (aC f)).getD 1 0,(x.args.map (aC f)).getD 2 0):=by cases x;rfl
theorem yG (op:Int):arity op<=3:=by unfold arity;split<;>(try split)<;>(try split)<;>(try split)<;>omega
theorem ζ {w:World}{B E:Nat}{f:Nat×Nat}{cs:Array Value}(h:w.heap[B]?=some (.cells cs E f)){j:Nat}{v:Value}(hj:cs[j]?=some v):w.cell? ⟨B,j,none⟩=some v:=by simp[World.cell?,h,hj]
theorem free_at {w:World}{B E:Nat}{cs:Array Value}(h:w.heap[B]?=some (.cells cs E (0,0)))(j:Nat):w.frozen? ⟨B,j,none⟩=false:=by simp[World.frozen?,h]
theorem aU {w:World}{B E:Nat}{f:Nat×Nat}{cs:Array Value}(h:w.heap[B]?=some (.cells cs E f))(j:Nat)(v:Value):(w.setCell ⟨B,j,none⟩ v).heap[B]?=some (.cells (cs.setIfInBounds j v) E f):=by show(w.heap.modify B _)[B]?=_;rw[Array.getElem?_modify];simp[h]
theorem EW {f:Nat}{l:List Ex}{k:Nat}{y:Ex}(h:l[k]?=some y)(j:Nat):uG f l (k+1) j=if j=k then aC f y else uG f l k j:=by
 have hlt:=(μ.1 h).1;unfold uG;rw[σ,σ,aav,aav,aaA,aaA];by_cases h1:j=k
 ·subst h1
  rw[if_pos (by omega),if_pos rfl,h];rfl
 ·by_cases h2:j<k
  ·rw[if_pos (by omega),if_pos h2,if_neg h1]
  ·rw[if_neg (by omega),if_neg h2,if_neg h1]
theorem U6 {op:Int}{f:Nat}{l:List Ex}{k:Nat}{y:Ex}(h:l[k]?=some y)(hk:k<3):(Dw op f l k).setIfInBounds (1+k) (.int .u8 (aC f y))=Dw op f l (k+1):=by unfold Dw;rw[EW h,EW h,EW h];obtain rfl|rfl|rfl:k=0\/k=1\/k=2:=(by omega);all_goals rfl
theorem Iy {f:Nat}{l:List Ex}(j:Nat):uG f l l.length j=(l.map (aC f)).getD j 0:=by unfold uG;rw[χ (ξ _)]
theorem adJ {f:Nat}{l:List Ex}{k:Nat}{y:Ex}(h:l[k]?=some y)(h1: ∀z∈l.take k,aC f z≠0)(h2:aC f y≠0): ∀z∈l.take (k+1),aC f z≠0:=by
 intro z hz;rw[ψ,h]at hz
 rcases aax.1 hz with hz|hz
 ·exact h1 z hz
 ·simp at hz;subst hz;exact h2
theorem ZT {f:Nat}{x y:Ex}(h:y∈x.args)(h0:aC f y=0):aC (f+1) x=0:=by rw[zL,if_pos];simp only[contains_eq_mem,aaw,decide_eq_true_eq];exact⟨y,h,h0⟩
theorem ZU {f:Nat}{x:Ex}(h: ∀z∈x.args.take x.args.length,aC f z≠0):aC (f+1) x=jh (x.op,uG f x.args x.args.length 0,uG f x.args x.args.length 1,uG f x.args x.args.length 2):=by rw[zL,if_neg,Iy,Iy,Iy];rw[χ (ξ _)]at h;simp only[contains_eq_mem,aaw,decide_eq_true_eq];rintro⟨z,hz,e⟩;exact h z hz e
theorem ado (f:Nat)(ih:ac5 f)(x:Ex)(a:Array Value)(m:Nat)(w:World)(h:aF w a x)(hmay:bg (f+1) x=true)(hm:nD w m qg):Calls prog 198 #[.map (some m),.agg a] w (Gives w (.int .u8 (aC (f+1) x))):=by
 obtain⟨p,cap,rfl,h0,h1,h2,h3,h4,h5⟩:=h.parts;have hma:x.args.length<=3/\ ∀y∈x.args,bg f y=true:=(by obtain⟨op,n,args⟩:=x;have:=uq hmay;have h3:=yG op;refine⟨?_,this.2.2.2⟩;show args.length<=3;omega);have hl3:=hma.1;unfold maxLen at h4;have H5:=γ h5;have HM:=γ hm;have HA:=γ hma.2;have IH:=γ ih;clear h h5 hmay hm ih hma;go_enter func198,ntmps198;go_wp2;obtain⟨W0,hW0⟩:=acu ((w.alloc (.cells #[.int .u8 x.op,.int .i64 x.n,.slice p x.args.length cap] 40)).alloc (.cells #[.int .u8 x.op,.int .u8 0,.int .u8 0,.int .u8 0] 310));have hk0:ε η w W0:=(by rw[<-hW0];exact(δ.alloc _).alloc _);have hB:W0.heap[w.heap.size+1]?=some (.cells (Dw x.op f x.args 0) 310 (0,0)):=(by rw[<-hW0];have:=heap_alloc_new (w.alloc (.cells #[.int .u8 x.op,.int .i64 x.n,.slice p x.args.length cap] 40)) (.cells #[.int .u8 x.op,.int .u8 0,.int .u8 0,.int .u8 0] 310);rw[World.size_alloc]at this;simpa[Dw,uG]using this);have HB:=γ hB;have K0:=γ hk0;rw[hW0];clear hW0 hB hk0;go_loopg [14] x.args.length (fun g vi wr=> ∃k:Nat,k<=x.args.length/\vi= .int .i64 (k:Int)/\x.args.length-k<=g/\wr.heap[w.heap.size+1]?=some (.cells (Dw x.op f x.args k) 310 (0,0))/\(∀y∈x.args.take k,aC f y≠0)/\ε η w wr)
 case atStart=>exact⟨0,by omega,rfl,by omega,HB.o,by simp,K0.o⟩
 case round=>
  obtain⟨k,hkl,rfl,hg,hrow,hnz,hkp⟩:=hrel;by_cases hlt:k<x.args.length
  ·obtain⟨y,hy⟩: ∃y,x.args[k]?=some y:=⟨_,ι hlt⟩
   obtain⟨b,off,p',cap',rfl,q0,q1,q2,hy2⟩:=H5.o k y hy;have r0:=hkp.cell (p:=⟨b,off+k*3,none⟩) id q0;have r1:=hkp.cell (p:=⟨b,off+k*3+1,none⟩) id q1;have r2:=hkp.cell (p:=⟨b,off+k*3+2,none⟩) id q2;have HY:=γ (θ hy (aF.pure hkp hy2));have G:=γ (θ hg (θ hrow (θ hnz hkp)));have hk3:(k:Int)<3:=(by omega);clear q0 q1 q2 hy hy2 hkp hg hrow hnz H5 HB K0;go_wp2_with fail;have ka:ε η wr (wr.alloc (.cells #[.int .u8 y.op,.int .i64 y.n,.slice p' y.args.length cap'] 40)):=δ.alloc _;have c:=IH.o y _ m _ (aF.pure ka HY.o.2) (HA.o y (ς HY.o.1)) (HM.o.kept (G.o.2.2.2.trans ka) id);refine c.mono ?_;clear c;rintro e w2 ⟨rfl,k2⟩;have hrow2:=(ka.trans k2).heap G.o.2.1 id;have fz:=free_at hrow2 (1+k);obtain⟨v0,hv0⟩: ∃v0,w2.cell? ⟨w.heap.size+1,1+k,none⟩=some v0:=by obtain hk|hk|hk:k=0\/k=1\/k=2:=(by omega);all_goals(subst hk;exact⟨_,ζ hrow2 rfl⟩)
   have hst:=aU hrow2 (1+k) (.int .u8 (aC f y));rw[U6 HY.o.1 (by omega)]at hst;have CJ:ε η w (w2.setCell ⟨w.heap.size+1,1+k,none⟩ (.int .u8 (aC f y))):=(G.o.2.2.2.trans (ka.trans k2)).setCell (p:=⟨w.heap.size+1,1+k,none⟩) (.inr (by simp)) _;have HR:=γ (θ hst CJ);clear k2 ka hrow2 hst CJ;by_cases hz:aC f y=0
   ·have hz':(aC f y==0)=true:=by simp[hz]
    have HZ:=γ hz;clear hz;go_wp2;go_ret;exact⟨jK (ZT (ς HY.o.1) HZ.o).symm,HR.o.2⟩
   ·have hz':(aC f y==0)=false:=by simp[hz]
    have HZ:=γ hz;clear hz;go_wp2;go_roundg (x.args.length-(k+1))
    case rel=>exact⟨k+1,by omega,by go_num,ξ _,HR.o.1,adJ HY.o.1 G.o.2.2.1 HZ.o,HR.o.2⟩
    case measure=>have:=G.o.1;omega
  ·have hkl:k=x.args.length:=by omega
   subst hkl;have e0:wr.cell? ⟨w.heap.size+1,0,none⟩=some (.int .u8 x.op):=ζ hrow rfl;have e1:wr.cell? ⟨w.heap.size+1,1,none⟩=some (.int .u8 (uG f x.args x.args.length 0)):=ζ hrow rfl;have e2:wr.cell? ⟨w.heap.size+1,2,none⟩=some (.int .u8 (uG f x.args x.args.length 1)):=ζ hrow rfl;have e3:wr.cell? ⟨w.heap.size+1,3,none⟩=some (.int .u8 (uG f x.args x.args.length 2)):=ζ hrow rfl;have hlk:=(HM.o.kept hkp id).lookup (x.op,uG f x.args x.args.length 0,uG f x.args x.args.length 1,uG f x.args x.args.length 2);unfold qY at hlk;simp only[]at hlk;have G:=γ (θ hnz hkp);clear hnz hkp hrow hg;go_wp2;go_ret;exact⟨jK (ZU G.o.1).symm,G.o.2⟩
theorem OY: ∀f,ac5 f
 |0=>fun x a m w h hm _=>by cases x;cases hm
 |f+1=>fun x a m w h hm hr=>ado f (OY f) x a m w h hm hr
def qP (x:Ex):Int×Int:=if bg 16 x=false then(0,2)else if aC 16 x=0 then(0,91)else(aC 16 x,0)
def rO (w:World)(r:Int×Int)(e:Ending)(w':World):Prop:=e= .returned (.tuple #[.int .u8 r.1,.int .i64 r.2])/\ε η w w'
theorem GU (x:Ex)(a:Array Value)(w:World)(h:aF w a x):Calls prog 166 #[.agg a,.bool true] w (rO w (qP x)):=by
 obtain⟨p,cap,rfl,h0,h1,h2,h3,h4,h5⟩:=h.parts;have H:=γ h;clear h h5;have hk0:ε η w (w.alloc (.cells #[.int .u8 x.op,.int .i64 x.n,.slice p x.args.length cap] 40)):=δ.alloc _;obtain⟨W0,hW0⟩:=acu (w.alloc (.cells #[.int .u8 x.op,.int .i64 x.n,.slice p x.args.length cap] 40));have d0:W0.cell? ⟨w.heap.size,0,none⟩=some (.int .u8 x.op):=(by rw[<-hW0];simp);have d1:W0.cell? ⟨w.heap.size,1,none⟩=some (.int .i64 x.n):=(by rw[<-hW0];simp);have d2:W0.cell? ⟨w.heap.size,2,none⟩=some (.slice p x.args.length cap):=(by rw[<-hW0];simp);rw[hW0]at hk0;have HK:=γ hk0;have HW0:=γ hW0;clear hk0 hW0;go_enter func166,ntmps166;go_wp2_with fail;rw[HW0.o];refine(UU x _ W0 (aF.pure HK.o H.o)).mono ?_;rintro e W1 ⟨rfl,k1⟩;have c0:=k1.cell (p:=⟨w.heap.size,0,none⟩) id d0;have c1:=k1.cell (p:=⟨w.heap.size,1,none⟩) id d1;have c2:=k1.cell (p:=⟨w.heap.size,2,none⟩) id d2;have ou:=γ (HK.o.trans k1);clear k1
 cases hm:bg 16 x with
 |false=>have F:rO w (qP x) (.returned (.tuple #[.int .u8 0,.int .i64 2])) W1:=⟨by unfold qP;rw[if_pos hm],ou.o⟩;have F':=γ F;clear hm F;go_wp2;go_ret2;exact F'.o
 |true=>
  have HM:=γ hm;clear hm;go_wp2;refine acv [1,0,2,3] ?_;simp only[aco]
  (apply aj rfl rfl;(intro W hW;have z0:=hW.cell id c0;have z1:=hW.cell id c1;have z2:=hW.cell id c2;go_simp;rfl);go_frame)
  apply ay rfl rfl;intro K hK;go_wp2_with fail;refine(Jw _).mono ?_;rintro e W2 ⟨m,rfl,r2,k2⟩;have k2':ε η W1 W2:=k2.aW;clear k2;go_wp2;refine hK _ _ (fun _=>k2') ?_;clear hK;apply ay rfl rfl;intro K hK;go_wp2_with fail;have c:=OY 16 x _ m _ (aF.pure (ou.o.trans k2') H.o) HM.o r2;refine c.mono ?_;clear c;rintro e W3 ⟨rfl,k3⟩;have dN:ε η W1 W3:=k2'.trans k3;clear k2' k3 r2;go_wp2;refine hK _ _ (fun _=>dN) ?_;clear hK
  (apply aj rfl rfl;(intro W hW;go_simp;rfl);go_frame)
  refine aA (fun _=>dN) ?_;by_cases ht:aC 16 x=0
  ·have F:rO w (qP x) (.returned (.tuple #[.int .u8 0,.int .i64 91])) W3:=⟨by unfold qP;rw[if_neg (by rw[HM.o];simp),if_pos ht],ou.o.trans dN⟩
   have F':=γ F;have hb:(aC 16 x==0)=true:=(by simp[ht]);clear F ht dN;go_wp2;go_ret2;exact F'.o
  ·have F:rO w (qP x) (.returned (.tuple #[.int .u8 (aC 16 x),.int .i64 0])) W3:=⟨by unfold qP;rw[if_neg (by rw[HM.o];simp),if_neg ht],ou.o.trans dN⟩
   have F':=γ F;have hb:(aC 16 x==0)=false:=(by simp[ht]);clear F ht dN;go_wp2;go_ret2;exact F'.o
def oZ:EV->Value
 | .num n=> .iface 2 (.int .i64 n)
 | .jE b=> .iface 4 (.bool b)
theorem rF (v:Value)(c:Bool)(w:World):(Instr.typeAssert (.iface 2 v) 20 2 c).run prog w= .ok (if c then .tuple #[v,.bool true]else v) w:=by cases c<;>kernel_rfl
theorem Dn (v:Value)(c:Bool)(w:World):(Instr.typeAssert (.iface 4 v) 20 4 c).run prog w= .ok (if c then .tuple #[v,.bool true]else v) w:=by cases c<;>kernel_rfl
theorem YR (v:Value)(w:World):(Instr.typeAssert (.iface 4 v) 20 2 true).run prog w= .ok (.tuple #[.int .i64 0,.bool false]) w:=by kernel_rfl
theorem aev (v:Value)(w:World):(Instr.typeAssert (.iface 2 v) 20 4 true).run prog w= .ok (.tuple #[.bool false,.bool false]) w:=by kernel_rfl
def Is (w:World)(v:Value)(e:Ending)(w':World):Prop:=e= .returned v/\w=w'
theorem adq (op a b:Int)(w:World)(ha:aJ a)(hb:aJ b)(hop:op=7\/op=8\/op=9\/op=12\/op=13\/op=14\/op=15):
 Calls prog 213 #[.int .u8 op,.iface 2 (.int .i64 a),.iface 2 (.int .i64 b)] w (Is w (oZ (fH op (.num a) (.num b)))):=by
 obtain⟨ha1,ha2⟩:=ha;obtain⟨hb1,hb2⟩:=hb
 rcases hop with rfl|rfl|rfl|rfl|rfl|rfl|rfl
 all_goals
  have t1:=fun v w=>rF v true w;have t2:=fun v w=>rF v false w;simp only[if_true,Bool.false_eq_true,if_false]at t1 t2;go_enter func213,ntmps213;go_wp2;go_ret;exact⟨rfl,rfl⟩
theorem adr (op a b:Int)(w:World)(ha:aJ a)(hb:aJ b)(hop:op=10\/op=11):
 Calls prog 213 #[.int .u8 op,.iface 2 (.int .i64 a),.iface 2 (.int .i64 b)] w (Is w (oZ (fH op (.num a) (.num b)))):=by
 obtain⟨ha1,ha2⟩:=ha;obtain⟨hb1,hb2⟩:=hb;by_cases h0:b=0
 ·subst h0
  rcases hop with rfl|rfl
  all_goals
   have t1:=fun v w=>rF v true w;have t2:=fun v w=>rF v false w;simp only[if_true,Bool.false_eq_true,if_false]at t1 t2;go_enter func213,ntmps213;go_wp2;go_ret;exact⟨rfl,rfl⟩
 ·have h1:(b==0)=false:=by simp[h0]
  have h2:fH 10 (.num a) (.num b)= .num (wrap64 (a.tdiv b)):=(by unfold fH;simp[EV.n,h0]);have h3:fH 11 (.num a) (.num b)= .num (a.tmod b):=by unfold fH;simp[EV.n,h0]
  rcases hop with rfl|rfl
  ·rw[h2]
   clear h2 h3;have t1:=fun v w=>rF v true w;have t2:=fun v w=>rF v false w;simp only[if_true,Bool.false_eq_true,if_false]at t1 t2;go_enter func213,ntmps213;go_wp2;go_ret;exact⟨rfl,rfl⟩
  ·rw[h3]
   clear h2 h3;have t1:=fun v w=>rF v true w;have t2:=fun v w=>rF v false w;simp only[if_true,Bool.false_eq_true,if_false]at t1 t2;go_enter func213,ntmps213;go_wp2;go_ret;exact⟨rfl,rfl⟩
theorem adp (op:Int)(a b:Bool)(w:World)(hop:op=16\/op=17\/op=14\/op=15):
 Calls prog 213 #[.int .u8 op,.iface 4 (.bool a),.iface 4 (.bool b)] w fun e w'=>e= .returned (oZ (fH op (.jE a) (.jE b)))/\ε η w w':=by
 have n1:=YR;have t2:=fun v w=>Dn v false w;simp only[Bool.false_eq_true,if_false]at t2
 rcases hop with rfl|rfl|rfl|rfl<;>cases a<;>cases b
 all_goals
  go_enter func213,ntmps213;go_wp2;refine ak [0,1,2,3,4,5] (fun _=>True) (by kernel_rfl) (by kernel_rfl) rfl trivial ?_;simp only[aco];iterate 6 (apply aj rfl rfl;(intro W hW;go_simp;rfl);go_frame)
  refine aA (fun _=>trivial) ?_;go_wp2;go_ret;exact⟨rfl,δ.drew⟩
abbrev fD (env:Env):Value:= .agg #[.int .i64 env.key,.int .i64 env.val,.int .i64 env.acc]
theorem aaE {a b:Int}(h:aJ a):aJ (a.tmod b):=by
 unfold aJ at*
 cases a with
 |ofNat m=>
  cases b with
  |ofNat n=>show _<=((m%n:Nat):Int)/\((m%n:Nat):Int)<=_;have:=Nat.mod_le m n;simp only[Int.ofNat_eq_natCast]at h;omega
  |negSucc n=>show _<=((m%(n+1):Nat):Int)/\((m%(n+1):Nat):Int)<=_;have:=Nat.mod_le m (n+1);simp only[Int.ofNat_eq_natCast]at h;omega
 |negSucc m=>
  cases b with
  |ofNat n=>show _<= -(((m+1)%n:Nat):Int)/\ -(((m+1)%n:Nat):Int)<=_;have:=Nat.mod_le (m+1) n;omega
  |negSucc n=>show _<= -(((m+1)%(n+1):Nat):Int)/\ -(((m+1)%(n+1):Nat):Int)<=_;have:=Nat.mod_le (m+1) (n+1);omega
theorem ZW {op a b:Int}(h:op=7\/op=8\/op=9\/op=10\/op=11)(ha:aJ a):(fH op (.num a) (.num b)).ty=1/\aJ (fH op (.num a) (.num b)).n:=by
 rcases h with rfl|rfl|rfl|rfl|rfl
 ·exact⟨rfl,nH _⟩
 ·exact⟨rfl,nH _⟩
 ·exact⟨rfl,nH _⟩
 ·by_cases h0:b=0
  ·subst h0;exact⟨rfl,fF⟩
  ·have h2:fH 10 (.num a) (.num b)= .num (wrap64 (a.tdiv b)):=by unfold fH;simp[EV.n,h0]
   rw[h2];exact⟨rfl,nH _⟩
 ·by_cases h0:b=0
  ·subst h0;exact⟨rfl,fF⟩
  ·have h2:fH 11 (.num a) (.num b)= .num (a.tmod b):=by unfold fH;simp[EV.n,h0]
   rw[h2];exact⟨rfl,aaE ha⟩
theorem ZX {op a b:Int}(h:op=12\/op=13\/op=14\/op=15):(fH op (.num a) (.num b)).ty=2/\aJ (fH op (.num a) (.num b)).n:=by
 rcases h with rfl|rfl|rfl|rfl<;>exact⟨rfl,fF⟩
theorem ZV {op:Int}{a b:Bool}(h:op=16\/op=17\/op=14\/op=15):(fH op (.jE a) (.jE b)).ty=2/\aJ (fH op (.jE a) (.jE b)).n:=by
 rcases h with rfl|rfl|rfl|rfl<;>exact⟨rfl,fF⟩
theorem EV.Bf {v:EV}(h:v.ty=1): ∃n,v= .num n:=by cases v with|num n=>exact⟨n,rfl⟩|jE b=>cases h
theorem EV.Eo {v:EV}(h:v.ty=2): ∃b,v= .jE b:=by cases v with|num n=>cases h|jE b=>exact⟨b,rfl⟩
theorem FT {f:Nat}{x:Ex}(hm:bg (f+1) x=true)(ht:aC (f+1) x≠0):
 (aC (f+1) x=1/\(x.op=1\/x.op=2\/x.op=3\/x.op=4))\/
 (∃a,x.args=[a]/\bg f a=true/\(x.op=5/\aC f a=1/\aC (f+1) x=1\/x.op=6/\aC f a=2/\aC (f+1) x=2))\/
 (∃a b,x.args=[a,b]/\bg f a=true/\bg f b=true/\(((x.op=7\/x.op=8\/x.op=9\/x.op=10\/x.op=11)/\aC f a=1/\aC f b=1/\aC (f+1) x=1)\/
   ((x.op=12\/x.op=13\/x.op=14\/x.op=15)/\aC f a=1/\aC f b=1/\aC (f+1) x=2)\/((x.op=16\/x.op=17\/x.op=14\/x.op=15)/\aC f a=2/\aC f b=2/\aC (f+1) x=2)))\/
 (∃a b c,x.args=[a,b,c]/\bg f a=true/\bg f b=true/\bg f c=true/\x.op=18/\aC f a=2/\aC f b=aC (f+1) x/\aC f c=aC (f+1) x):=by
 obtain⟨op,n,args⟩:=x;obtain⟨m1,_,_,m4⟩:=uq hm;obtain⟨_,t2⟩:=Kt ht;rw[t2]at ht⊢;simp only[Ex.op,Ex.args]
 match args,m1,m4 with
 |[],m1,m4=>
  simp only[Ξ,getD_nil]at ht⊢
  rcases qh ht with⟨e,h|h|h|h⟩|⟨e,h|h|h|h⟩
  ·exact .inl ⟨e,h⟩
  all_goals(exfalso;first|omega|(unfold arity at m1;simp at m1;omega))
 |[a],m1,m4=>
  right;left;simp only[Θ,Ξ,getD_cons_zero,getD_cons_succ,getD_nil]at ht⊢;refine⟨a,rfl,m4 a (by simp),?_⟩
  rcases qh ht with⟨e,h|h|h|h⟩|⟨e,h|h|h|h⟩
  all_goals first|omega|(exfalso;unfold arity at m1;simp at m1;omega)
 |[a,b],m1,m4=>
  right;right;left;simp only[Θ,Ξ,getD_cons_zero,getD_cons_succ,getD_nil]at ht⊢;refine⟨a,b,rfl,m4 a (by simp),m4 b (by simp),?_⟩
  rcases qh ht with⟨e,h|h|h|h⟩|⟨e,h|h|h|h⟩
  all_goals first|omega|(exfalso;unfold arity at m1;simp at m1;omega)
 |[a,b,c],m1,m4=>
  right;right;right;simp only[Θ,Ξ,getD_cons_zero,getD_cons_succ]at ht⊢;refine⟨a,b,c,rfl,m4 a (by simp),m4 b (by simp),m4 c (by simp),?_⟩
  rcases qh ht with⟨e,h|h|h|h⟩|⟨e,h|h|h|h⟩
  all_goals first|omega|(exfalso;unfold arity at m1;simp at m1;omega)
 |a::b::c::d::l,m1,m4=>exfalso;have:=yG op;simp only[φ]at m1;omega
theorem zM {w:World}{env:Env}(he:iK env): ∀(f:Nat)(x:Ex)(a:Array Value),aF w a x->bg f x=true->aC f x≠0->(aK f env x).ty=aC f x/\aJ (aK f env x).n
 |0,x,_,_,hm,_=>by cases x;cases hm
 |f+1,x,a,h,hm,ht=>by
  obtain⟨p,cap,_,_,_,h2,_,_,h5⟩:=h.parts;have sub: ∀(i:Nat)(y:Ex),x.args[i]?=some y->bg f y=true->aC f y≠0->(aK f env y).ty=aC f y/\aJ (aK f env y).n:=fun i y hy hm hz=>by obtain⟨b,off,p',cap',_,_,_,_,hq⟩:=h5 i y hy;exact zM he f y _ hq hm hz
  rcases FT hm ht with⟨e,h⟩|⟨a,ha,m1,h⟩|⟨a,b,ha,m1,m2,h⟩|⟨a,b,c,ha,m1,m2,m3,e,t1,t2,t3⟩
  ·rw[e]
   obtain⟨op,n,args⟩:=x;simp only[Ex.op,Ex.n]at h h2
   rcases h with rfl|rfl|rfl|rfl
   ·exact⟨rfl,h2⟩
   ·exact⟨rfl,he.key⟩
   ·exact⟨rfl,he.val⟩
   ·exact⟨rfl,he.acc⟩
  ·have s1:=sub 0 a (by rw[ha];rfl) m1 (by omega)
   obtain⟨op,n,args⟩:=x;simp only[Ex.op,Ex.args]at h ha;subst ha
   rcases h with⟨rfl,t1,e⟩|⟨rfl,t1,e⟩
   ·rw[e];exact⟨rfl,nH _⟩
   ·rw[e];exact⟨rfl,fF⟩
  ·have s1:=sub 0 a (by rw[ha];rfl) m1 (by omega)
   have s2:=sub 1 b (by rw[ha];rfl) m2 (by omega);obtain⟨op,n,args⟩:=x;simp only[Ex.op,Ex.args]at h ha;subst ha
   rcases h with⟨hop,t1,t2,e⟩|⟨hop,t1,t2,e⟩|⟨hop,t1,t2,e⟩
   ·rw[t1]at s1;rw[t2]at s2
    obtain⟨u,hu⟩:=EV.Bf s1.1;obtain⟨v,hv⟩:=EV.Bf s2.1;have e2:aK (f+1) env (.mk op n [a,b])=fH op (.num u) (.num v):=by
     rw[<-hu,<-hv]
     rcases hop with rfl|rfl|rfl|rfl|rfl<;>rfl
    rw[e,e2];refine ZW hop ?_;rw[hu]at s1;exact s1.2
   ·rw[t1]at s1;rw[t2]at s2
    obtain⟨u,hu⟩:=EV.Bf s1.1;obtain⟨v,hv⟩:=EV.Bf s2.1;have e2:aK (f+1) env (.mk op n [a,b])=fH op (.num u) (.num v):=by
     rw[<-hu,<-hv]
     rcases hop with rfl|rfl|rfl|rfl<;>rfl
    rw[e,e2];exact ZX hop
   ·rw[t1]at s1;rw[t2]at s2
    obtain⟨u,hu⟩:=EV.Eo s1.1;obtain⟨v,hv⟩:=EV.Eo s2.1;have e2:aK (f+1) env (.mk op n [a,b])=fH op (.jE u) (.jE v):=by
     rw[<-hu,<-hv]
     rcases hop with rfl|rfl|rfl|rfl<;>rfl
    rw[e,e2];exact ZV hop
  ·have s1:=sub 0 a (by rw[ha];rfl) m1 (by omega)
   have s2:=sub 1 b (by rw[ha];rfl) m2 (by omega);have s3:=sub 2 c (by rw[ha];rfl) m3 (by omega);obtain⟨op,n,args⟩:=x;simp only[Ex.op,Ex.args]at e ha;subst ha e;have e2:aK (f+1) env (.mk 18 n [a,b,c])=if(aK f env a).b then aK f env b else aK f env c:=rfl;rw[e2]
   cases(aK f env a).b with
   |true=>rw[if_pos rfl,<-t2];exact s2
   |false=>rw[if_neg (by simp),<-t3];exact s3
theorem aF.sub {w:World}{a:Array Value}{x y:Ex}{i:Nat}(h:aF w a x)(hy:x.args[i]?=some y): ∃a',aF w a' y:=by obtain⟨_,_,_,_,_,_,_,_,h5⟩:=h.parts;obtain⟨_,_,_,_,_,_,_,_,q⟩:=h5 i y hy;exact⟨_,q⟩
theorem aF.vH {w:World}{env:Env}(he:iK env){f:Nat}{a:Array Value}{x y:Ex}{i:Nat}(h:aF w a x)(hy:x.args[i]?=some y)(hm:bg f y=true)(ht:aC f y≠0):(aK f env y).ty=aC f y/\aJ (aK f env y).n:=by obtain⟨a',h'⟩:=h.sub hy;exact zM he f y a' h' hm ht
def ac6 (op:Int)(u v:EV):Prop:=
 ((op=7\/op=8\/op=9\/op=10\/op=11\/op=12\/op=13\/op=14\/op=15)/\u.ty=1/\v.ty=1/\aJ u.n/\aJ v.n)\/((op=16\/op=17\/op=14\/op=15)/\u.ty=2/\v.ty=2)
theorem two_any (op:Int)(u v:EV)(w:World)(h:ac6 op u v):Calls prog 213 #[.int .u8 op,oZ u,oZ v] w (Gives w (oZ (fH op u v))):=by
 rcases h with⟨h,hu,hv,ru,rv⟩|⟨h,hu,hv⟩
 ·obtain⟨a,rfl⟩:=EV.Bf hu
  obtain⟨b,rfl⟩:=EV.Bf hv;by_cases h1:op=10\/op=11
  ·exact(adr op a b w ru rv h1).mono fun e w' ⟨h1,h2⟩=>by subst h2;exact⟨h1,ε.refl _ _⟩
  ·exact(adq op a b w ru rv (by omega)).mono fun e w' ⟨h1,h2⟩=>by subst h2;exact⟨h1,ε.refl _ _⟩
 ·obtain⟨a,rfl⟩:=EV.Eo hu
  obtain⟨b,rfl⟩:=EV.Eo hv;exact adp op a b w h
def D8 (f:Nat):Prop:= ∀(x:Ex)(a:Array Value)(env:Env)(w:World),aF w a x->iK env->bg f x=true->aC f x≠0->Calls prog 175 #[.agg a,fD env] w (Gives w (oZ (aK f env x)))
structure agI (w W:World)(x:Ex)(p:Option Addr)(cap:Nat)(env:Env):Prop where
 kept:ε η w W
 d0:W.cell? ⟨w.heap.size,0,none⟩=some (.int .u8 x.op)
 d1:W.cell? ⟨w.heap.size,1,none⟩=some (.int .i64 x.n)
 d2:W.cell? ⟨w.heap.size,2,none⟩=some (.slice p x.args.length cap)
 e0:W.cell? ⟨w.heap.size+1,0,none⟩=some (.int .i64 env.key)
 e1:W.cell? ⟨w.heap.size+1,1,none⟩=some (.int .i64 env.val)
 e2:W.cell? ⟨w.heap.size+1,2,none⟩=some (.int .i64 env.acc)
theorem AO (w:World)(x:Ex)(p:Option Addr)(cap:Nat)(env:Env):
 agI w ((w.alloc (.cells #[.int .u8 x.op,.int .i64 x.n,.slice p x.args.length cap] 40)).alloc (.cells #[.int .i64 env.key,.int .i64 env.val,.int .i64 env.acc] 182)) x p cap env:=
 ⟨(δ.alloc _).alloc _,by simp,by simp,by simp,by simp,by simp,by simp⟩
theorem adT (f:Nat)(x:Ex)(a:Array Value)(env:Env)(w:World)(h:aF w a x)(hop:x.op=1\/x.op=2\/x.op=3\/x.op=4):
 Calls prog 175 #[.agg a,fD env] w (Gives w (oZ (aK (f+1) env x))):=by
 obtain⟨p,cap,rfl,_,_,_,_,_,_⟩:=h.parts;clear h;obtain⟨op,n,args⟩:=x;unfold fD;simp only[Ex.op,Ex.n,Ex.args]at hop⊢
 rcases hop with rfl|rfl|rfl|rfl
 all_goals
  go_enter func175,ntmps175;go_wp2;go_ret;exact⟨rfl,(δ.alloc _).alloc _⟩
theorem afH (f:Nat)(ih:D8 f)(x:Ex)(a:Array Value)(env:Env)(w:World)(h:aF w a x)(he:iK env)(y1:Ex)(ha:x.args=[y1])(hop:x.op=5)(hm:bg f y1=true)(ht:aC f y1=1):
 Calls prog 175 #[.agg a,fD env] w (Gives w (oZ (aK (f+1) env x))):=by
 obtain⟨p,cap,rfl,o0,o1,hn,h3,h4,h5⟩:=h.parts;unfold maxLen at h4;obtain⟨v1,hv1⟩: ∃v1,aK f env y1= .num v1:=EV.Bf ((h.vH he (i:=0) (by rw[ha];rfl) hm (by omega)).1.trans ht);have hres:aK (f+1) env x=EV.num (wrap64 (-v1)):=(by obtain⟨op,n,args⟩:=x;simp only[Ex.op,Ex.args]at hop ha;subst hop ha;show EV.num (wrap64 (-(aK f env y1).n))=_;rw[hv1];rfl);rw[hres];have HV:=γ (show oZ (aK f env y1)= .iface 2 (.int .i64 v1)from congrArg oZ hv1);have HM:=γ hm;have HT:=γ (show aC f y1≠0 by omega);clear hv1 hres hm ht;obtain⟨b,off,p1,cap1,rfl,q0,q1,q2,hy1⟩:=h5 0 y1 (by rw[ha];rfl);simp only[Nat.zero_mul,Nat.add_zero]at q0 q1 q2;have hbx:=AO w x (some ⟨b,off,none⟩) cap env;unfold fD;obtain⟨W0,hW0⟩:=acu ((w.alloc (.cells #[.int .u8 x.op,.int .i64 x.n,.slice (some ⟨b,off,none⟩) x.args.length cap] 40)).alloc (.cells #[.int .i64 env.key,.int .i64 env.val,.int .i64 env.acc] 182));rw[hW0]at hbx;obtain⟨hk0,d0,d1,d2,e0,e1,e2⟩:=hbx;have r0:=hk0.cell (p:=⟨b,off,none⟩) id q0;have r1:=hk0.cell (p:=⟨b,off+1,none⟩) id q1;have r2:=hk0.cell (p:=⟨b,off+2,none⟩) id q2;have hlen:(0:Int)<(x.args.length:Int):=(by rw[ha];simp);have rJ:0<x.args.length:=(by rw[ha];simp);have HK:=γ hk0;have HW0:=γ hW0;have HY:=γ (aF.pure hk0 hy1);have H5:=γ h5;have HA:=γ ha;have HE:=γ he;have IH:=γ ih;clear hk0 hW0 hy1 q0 q1 q2 h5 ha he ih h;have rV: ∀k:Int,(x.op==k)=(5==k):=fun k=>(by rw[hop]);have b1:=rV 1;have b2:=rV 2;have b3:=rV 3;have b4:=rV 4;have b5:=rV 5;have b6:=rV 6;simp only[show((5:Int)==1)=false by decide,show((5:Int)==2)=false by decide,show((5:Int)==3)=false by decide,show((5:Int)==4)=false by decide,show((5:Int)==5)=true by decide,show((5:Int)==6)=false by decide]at b1 b2 b3 b4 b5 b6;clear hop rV;have tA:=fun v w=>rF v false w;simp only[Bool.false_eq_true,if_false]at tA;go_enter func175,ntmps175;go_wp2_with fail;rw[HW0.o];refine acv [0,1,2,3,4,5,6] ?_;simp only[aco];iterate 5 (apply aj rfl rfl;(intro W hW;have z0:=hW.cell id d0;have z1:=hW.cell id d1;have z2:=hW.cell id d2;have z3:=hW.cell id r0;have z4:=hW.cell id r1;have z5:=hW.cell id r2;have z6:=hW.cell id e0;have z7:=hW.cell id e1;have z8:=hW.cell id e2;go_simp;rfl);go_frame)
 apply ay rfl rfl;intro K hK;go_wp2_with fail;have c:=IH.o y1 _ env W0.drew (aF.pure δ.drew HY.o) HE.o HM.o HT.o;refine c.mono ?_;clear c;rintro e W1 ⟨rfl,k1⟩;have k1':ε η W0 W1:=k1.aW;clear k1;rw[HV.o];go_wp2;refine hK _ _ (fun _=>k1') ?_;clear hK
 (apply aj rfl rfl;(intro W hW;go_simp;rfl);go_frame)
 refine aA (fun _=>k1') ?_;have d0:=k1'.cell (p:=⟨w.heap.size,0,none⟩) id d0;have d1:=k1'.cell (p:=⟨w.heap.size,1,none⟩) id d1;have d2:=k1'.cell (p:=⟨w.heap.size,2,none⟩) id d2;have e0:=k1'.cell (p:=⟨w.heap.size+1,0,none⟩) id e0;have e1:=k1'.cell (p:=⟨w.heap.size+1,1,none⟩) id e1;have e2:=k1'.cell (p:=⟨w.heap.size+1,2,none⟩) id e2;have K1:=γ (HK.o.trans k1');clear k1';go_wp2;go_ret;exact⟨rfl,K1.o⟩
theorem afG (f:Nat)(ih:D8 f)(x:Ex)(a:Array Value)(env:Env)(w:World)(h:aF w a x)(he:iK env)(y1:Ex)(ha:x.args=[y1])(hop:x.op=6)(hm:bg f y1=true)(ht:aC f y1=2):
 Calls prog 175 #[.agg a,fD env] w (Gives w (oZ (aK (f+1) env x))):=by
 obtain⟨p,cap,rfl,o0,o1,hn,h3,h4,h5⟩:=h.parts;unfold maxLen at h4;obtain⟨v1,hv1⟩: ∃v1,aK f env y1= .jE v1:=EV.Eo ((h.vH he (i:=0) (by rw[ha];rfl) hm (by omega)).1.trans ht);have hres:aK (f+1) env x=EV.jE (!v1):=(by obtain⟨op,n,args⟩:=x;simp only[Ex.op,Ex.args]at hop ha;subst hop ha;show EV.jE (!(aK f env y1).b)=_;rw[hv1];rfl);rw[hres];have HV:=γ (show oZ (aK f env y1)= .iface 4 (.bool v1)from congrArg oZ hv1);have HM:=γ hm;have HT:=γ (show aC f y1≠0 by omega);clear hv1 hres hm ht;obtain⟨b,off,p1,cap1,rfl,q0,q1,q2,hy1⟩:=h5 0 y1 (by rw[ha];rfl);simp only[Nat.zero_mul,Nat.add_zero]at q0 q1 q2;have hbx:=AO w x (some ⟨b,off,none⟩) cap env;unfold fD;obtain⟨W0,hW0⟩:=acu ((w.alloc (.cells #[.int .u8 x.op,.int .i64 x.n,.slice (some ⟨b,off,none⟩) x.args.length cap] 40)).alloc (.cells #[.int .i64 env.key,.int .i64 env.val,.int .i64 env.acc] 182));rw[hW0]at hbx;obtain⟨hk0,d0,d1,d2,e0,e1,e2⟩:=hbx;have r0:=hk0.cell (p:=⟨b,off,none⟩) id q0;have r1:=hk0.cell (p:=⟨b,off+1,none⟩) id q1;have r2:=hk0.cell (p:=⟨b,off+2,none⟩) id q2;have hlen:(0:Int)<(x.args.length:Int):=(by rw[ha];simp);have rJ:0<x.args.length:=(by rw[ha];simp);have HK:=γ hk0;have HW0:=γ hW0;have HY:=γ (aF.pure hk0 hy1);have H5:=γ h5;have HA:=γ ha;have HE:=γ he;have IH:=γ ih;clear hk0 hW0 hy1 q0 q1 q2 h5 ha he ih h;have rV: ∀k:Int,(x.op==k)=(6==k):=fun k=>(by rw[hop]);have b1:=rV 1;have b2:=rV 2;have b3:=rV 3;have b4:=rV 4;have b5:=rV 5;have b6:=rV 6;simp only[show((6:Int)==1)=false by decide,show((6:Int)==2)=false by decide,show((6:Int)==3)=false by decide,show((6:Int)==4)=false by decide,show((6:Int)==5)=false by decide,show((6:Int)==6)=true by decide]at b1 b2 b3 b4 b5 b6;clear hop rV;have tA:=fun v w=>Dn v false w;simp only[Bool.false_eq_true,if_false]at tA;go_enter func175,ntmps175;go_wp2_with fail;rw[HW0.o];refine acv [0,1,2,3,4,5,6] ?_;simp only[aco];iterate 5 (apply aj rfl rfl;(intro W hW;have z0:=hW.cell id d0;have z1:=hW.cell id d1;have z2:=hW.cell id d2;have z3:=hW.cell id r0;have z4:=hW.cell id r1;have z5:=hW.cell id r2;have z6:=hW.cell id e0;have z7:=hW.cell id e1;have z8:=hW.cell id e2;go_simp;rfl);go_frame)
 apply ay rfl rfl;intro K hK;go_wp2_with fail;have c:=IH.o y1 _ env W0.drew (aF.pure δ.drew HY.o) HE.o HM.o HT.o;refine c.mono ?_;clear c;rintro e W1 ⟨rfl,k1⟩;have k1':ε η W0 W1:=k1.aW;clear k1;rw[HV.o];go_wp2;refine hK _ _ (fun _=>k1') ?_;clear hK
 (apply aj rfl rfl;(intro W hW;go_simp;rfl);go_frame)
 refine aA (fun _=>k1') ?_;have d0:=k1'.cell (p:=⟨w.heap.size,0,none⟩) id d0;have d1:=k1'.cell (p:=⟨w.heap.size,1,none⟩) id d1;have d2:=k1'.cell (p:=⟨w.heap.size,2,none⟩) id d2;have e0:=k1'.cell (p:=⟨w.heap.size+1,0,none⟩) id e0;have e1:=k1'.cell (p:=⟨w.heap.size+1,1,none⟩) id e1;have e2:=k1'.cell (p:=⟨w.heap.size+1,2,none⟩) id e2;have K1:=γ (HK.o.trans k1');clear k1';go_wp2;go_ret;exact⟨rfl,K1.o⟩
theorem afF (f:Nat)(ih:D8 f)(x:Ex)(a:Array Value)(env:Env)(w:World)(h:aF w a x)(he:iK env)(y1 y2:Ex)(ha:x.args=[y1,y2])(hop:7<=x.op/\x.op<=17)(hm:bg f y1=true)(ht:aC f y1≠0)(hm2:bg f y2=true)(ht2:aC f y2≠0)(h2:ac6 x.op (aK f env y1) (aK f env y2)):
 Calls prog 175 #[.agg a,fD env] w (Gives w (oZ (aK (f+1) env x))):=by
 obtain⟨p,cap,rfl,o0,o1,hn,h3,h4,h5⟩:=h.parts;unfold maxLen at h4;have hres:aK (f+1) env x=fH x.op (aK f env y1) (aK f env y2):=(by obtain⟨op,n,args⟩:=x;simp only[Ex.op,Ex.args]at hop ha;subst ha;simp only[aK];rw[if_neg (by omega),if_neg (by omega),if_neg (by omega),if_neg (by omega),if_neg (by omega),if_neg (by omega),if_neg (by omega)];rfl);rw[hres];have HM:=γ hm;have HT:=γ ht;have l7:=γ hm2;have HT2:=γ ht2;have H2:=γ h2;clear hres hm ht hm2 ht2 h2;obtain⟨b,off,p1,cap1,rfl,q0,q1,q2,hy1⟩:=h5 0 y1 (by rw[ha];rfl);simp only[Nat.zero_mul,Nat.add_zero]at q0 q1 q2;have hbx:=AO w x (some ⟨b,off,none⟩) cap env;unfold fD;obtain⟨W0,hW0⟩:=acu ((w.alloc (.cells #[.int .u8 x.op,.int .i64 x.n,.slice (some ⟨b,off,none⟩) x.args.length cap] 40)).alloc (.cells #[.int .i64 env.key,.int .i64 env.val,.int .i64 env.acc] 182));rw[hW0]at hbx;obtain⟨hk0,d0,d1,d2,e0,e1,e2⟩:=hbx;have r0:=hk0.cell (p:=⟨b,off,none⟩) id q0;have r1:=hk0.cell (p:=⟨b,off+1,none⟩) id q1;have r2:=hk0.cell (p:=⟨b,off+2,none⟩) id q2;have hlen:(0:Int)<(x.args.length:Int):=(by rw[ha];simp);have rJ:0<x.args.length:=(by rw[ha];simp);have HK:=γ hk0;have HW0:=γ hW0;have HY:=γ (aF.pure hk0 hy1);have H5:=γ h5;have HA:=γ ha;have HE:=γ he;have IH:=γ ih;clear hk0 hW0 hy1 q0 q1 q2 h5 ha he ih h;have hlen1:(1:Int)<(x.args.length:Int):=(by have:=HA.o;rw[this];simp);have ZA:1<x.args.length:=(by have:=HA.o;rw[this];simp);have b1:(x.op==1)=false:=(by simp;omega);have b2:(x.op==2)=false:=(by simp;omega);have b3:(x.op==3)=false:=(by simp;omega);have b4:(x.op==4)=false:=(by simp;omega);have b5:(x.op==5)=false:=(by simp;omega);have b6:(x.op==6)=false:=(by simp;omega);have b7:(x.op==18)=false:=(by simp;omega);clear hop;go_enter func175,ntmps175;go_wp2_with fail;rw[HW0.o];refine acv [0,1,2,3,4,5,6] ?_;simp only[aco];iterate 5 (apply aj rfl rfl;(intro W hW;have z0:=hW.cell id d0;have z1:=hW.cell id d1;have z2:=hW.cell id d2;have z3:=hW.cell id r0;have z4:=hW.cell id r1;have z5:=hW.cell id r2;have z6:=hW.cell id e0;have z7:=hW.cell id e1;have z8:=hW.cell id e2;go_simp;rfl);go_frame)
 apply ay rfl rfl;intro K hK;go_wp2_with fail;have c:=IH.o y1 _ env W0.drew (aF.pure δ.drew HY.o) HE.o HM.o HT.o;refine c.mono ?_;clear c;rintro e W1 ⟨rfl,k1⟩;have k1':ε η W0 W1:=k1.aW;clear k1;go_wp2;refine hK _ _ (fun _=>k1') ?_;clear hK
 (apply aj rfl rfl;(intro W hW;go_simp;rfl);go_frame)
 refine aA (fun _=>k1') ?_;have d0:=k1'.cell (p:=⟨w.heap.size,0,none⟩) id d0;have d1:=k1'.cell (p:=⟨w.heap.size,1,none⟩) id d1;have d2:=k1'.cell (p:=⟨w.heap.size,2,none⟩) id d2;have e0:=k1'.cell (p:=⟨w.heap.size+1,0,none⟩) id e0;have e1:=k1'.cell (p:=⟨w.heap.size+1,1,none⟩) id e1;have e2:=k1'.cell (p:=⟨w.heap.size+1,2,none⟩) id e2;have K1:=γ (HK.o.trans k1');clear k1';obtain⟨b2,off2,p2,cap2,hb2,q0,q1,q2,hy2⟩:=H5.o 1 y2 (by rw[HA.o];rfl);cases hb2;have r0:=K1.o.cell (p:=⟨b,off+1*3,none⟩) id q0;have r1:=K1.o.cell (p:=⟨b,off+1*3+1,none⟩) id q1;have r2:=K1.o.cell (p:=⟨b,off+1*3+2,none⟩) id q2;have HY2:=γ (aF.pure K1.o hy2);simp only[Nat.one_mul,Nat.add_assoc,Nat.reduceAdd]at r0 r1 r2;clear q0 q1 q2 hy2;go_wp2;refine acv [0,1,2,3,4,5,6,7,8,9,10] ?_;simp only[aco];iterate 8 (apply aj rfl rfl;(intro W hW;have z0:=hW.cell id d0;have z1:=hW.cell id d1;have z2:=hW.cell id d2;have z3:=hW.cell id r0;have z4:=hW.cell id r1;have z5:=hW.cell id r2;have z6:=hW.cell id e0;have z7:=hW.cell id e1;have z8:=hW.cell id e2;go_simp;rfl);go_frame)
 apply ay rfl rfl;intro K hK;go_wp2_with fail;have c:=IH.o y2 _ env W1.drew (aF.pure δ.drew HY2.o) HE.o l7.o HT2.o;refine c.mono ?_;clear c;rintro e W2 ⟨rfl,k2⟩;have k2':ε η W1 W2:=k2.aW;clear k2;go_wp2;refine hK _ _ (fun _=>k2') ?_;clear hK;apply ay rfl rfl;intro K hK;go_wp2_with fail;refine(two_any x.op _ _ _ H2.o).mono ?_;rintro e W3 ⟨rfl,k3⟩;have dN:ε η W1 W3:=k2'.trans k3;clear k2' k3;go_wp2;refine hK _ _ (fun _=>dN) ?_;clear hK
 (apply aj rfl rfl;(intro W hW;go_simp;rfl);go_frame)
 refine aA (fun _=>dN) ?_;go_wp2;go_ret;exact⟨rfl,K1.o.trans dN⟩
theorem WL (f:Nat)(ih:D8 f)(x:Ex)(a:Array Value)(env:Env)(w:World)(h:aF w a x)(he:iK env)(y1 y2 y3:Ex)(ha:x.args=[y1,y2,y3])(hop:x.op=18)(hm:bg f y1=true)(ht:aC f y1≠0)(hm2:bg f y2=true)(ht2:aC f y2≠0)(hv1:aK f env y1= .jE true):
 Calls prog 175 #[.agg a,fD env] w (Gives w (oZ (aK (f+1) env x))):=by
 obtain⟨p,cap,rfl,o0,o1,hn,h3,h4,h5⟩:=h.parts;unfold maxLen at h4;have hres:aK (f+1) env x=aK f env y2:=(by obtain⟨op,n,args⟩:=x;simp only[Ex.op,Ex.args]at hop ha;subst hop ha;show(if(aK f env y1).b then aK f env y2 else aK f env y3)=_;rw[hv1];rfl);rw[hres];have HM:=γ hm;have HT:=γ ht;have l7:=γ hm2;have HT2:=γ ht2;have HV:=γ (show oZ (aK f env y1)= .iface 4 (.bool true)from congrArg oZ hv1);clear hres hm ht hm2 ht2 hv1;obtain⟨b,off,p1,cap1,rfl,q0,q1,q2,hy1⟩:=h5 0 y1 (by rw[ha];rfl);simp only[Nat.zero_mul,Nat.add_zero]at q0 q1 q2;have hbx:=AO w x (some ⟨b,off,none⟩) cap env;unfold fD;obtain⟨W0,hW0⟩:=acu ((w.alloc (.cells #[.int .u8 x.op,.int .i64 x.n,.slice (some ⟨b,off,none⟩) x.args.length cap] 40)).alloc (.cells #[.int .i64 env.key,.int .i64 env.val,.int .i64 env.acc] 182));rw[hW0]at hbx;obtain⟨hk0,d0,d1,d2,e0,e1,e2⟩:=hbx;have r0:=hk0.cell (p:=⟨b,off,none⟩) id q0;have r1:=hk0.cell (p:=⟨b,off+1,none⟩) id q1;have r2:=hk0.cell (p:=⟨b,off+2,none⟩) id q2;have hlen:(0:Int)<(x.args.length:Int):=(by rw[ha];simp);have rJ:0<x.args.length:=(by rw[ha];simp);have HK:=γ hk0;have HW0:=γ hW0;have HY:=γ (aF.pure hk0 hy1);have H5:=γ h5;have HA:=γ ha;have HE:=γ he;have IH:=γ ih;clear hk0 hW0 hy1 q0 q1 q2 h5 ha he ih h;have hlen1:(1:Int)<(x.args.length:Int):=(by have:=HA.o;rw[this];simp);have ZA:1<x.args.length:=(by have:=HA.o;rw[this];simp);have b1:(x.op==1)=false:=(by simp[hop]);have b2:(x.op==2)=false:=(by simp[hop]);have b3:(x.op==3)=false:=(by simp[hop]);have b4:(x.op==4)=false:=(by simp[hop]);have b5:(x.op==5)=false:=(by simp[hop]);have b6:(x.op==6)=false:=(by simp[hop]);have b7:(x.op==18)=true:=(by simp[hop]);clear hop;have tA:=fun v w=>Dn v false w;simp only[Bool.false_eq_true,if_false]at tA;go_enter func175,ntmps175;go_wp2_with fail;rw[HW0.o];refine acv [0,1,2,3,4,5,6] ?_;simp only[aco];iterate 5 (apply aj rfl rfl;(intro W hW;have z0:=hW.cell id d0;have z1:=hW.cell id d1;have z2:=hW.cell id d2;have z3:=hW.cell id r0;have z4:=hW.cell id r1;have z5:=hW.cell id r2;have z6:=hW.cell id e0;have z7:=hW.cell id e1;have z8:=hW.cell id e2;go_simp;rfl);go_frame)
 apply ay rfl rfl;intro K hK;go_wp2_with fail;have c:=IH.o y1 _ env W0.drew (aF.pure δ.drew HY.o) HE.o HM.o HT.o;refine c.mono ?_;clear c;rintro e W1 ⟨rfl,k1⟩;have k1':ε η W0 W1:=k1.aW;clear k1;rw[HV.o];go_wp2;refine hK _ _ (fun _=>k1') ?_;clear hK
 (apply aj rfl rfl;(intro W hW;go_simp;rfl);go_frame)
 refine aA (fun _=>k1') ?_;have d0:=k1'.cell (p:=⟨w.heap.size,0,none⟩) id d0;have d1:=k1'.cell (p:=⟨w.heap.size,1,none⟩) id d1;have d2:=k1'.cell (p:=⟨w.heap.size,2,none⟩) id d2;have e0:=k1'.cell (p:=⟨w.heap.size+1,0,none⟩) id e0;have e1:=k1'.cell (p:=⟨w.heap.size+1,1,none⟩) id e1;have e2:=k1'.cell (p:=⟨w.heap.size+1,2,none⟩) id e2;have K1:=γ (HK.o.trans k1');clear k1';obtain⟨b2,off2,p2,cap2,hb2,q0,q1,q2,hy2⟩:=H5.o 1 y2 (by rw[HA.o];rfl);cases hb2;have r0:=K1.o.cell (p:=⟨b,off+1*3,none⟩) id q0;have r1:=K1.o.cell (p:=⟨b,off+1*3+1,none⟩) id q1;have r2:=K1.o.cell (p:=⟨b,off+1*3+2,none⟩) id q2;have HY2:=γ (aF.pure K1.o hy2);simp only[Nat.one_mul,Nat.add_assoc,Nat.reduceAdd]at r0 r1 r2;clear q0 q1 q2 hy2;go_wp2;refine acv [0,1,2,3,4,5,6] ?_;simp only[aco];iterate 5 (apply aj rfl rfl;(intro W hW;have z0:=hW.cell id d0;have z1:=hW.cell id d1;have z2:=hW.cell id d2;have z3:=hW.cell id r0;have z4:=hW.cell id r1;have z5:=hW.cell id r2;have z6:=hW.cell id e0;have z7:=hW.cell id e1;have z8:=hW.cell id e2;go_simp;rfl);go_frame)
 apply ay rfl rfl;intro K hK;go_wp2_with fail;have c:=IH.o y2 _ env W1.drew (aF.pure δ.drew HY2.o) HE.o l7.o HT2.o;refine c.mono ?_;clear c;rintro e W2 ⟨rfl,k2⟩;have k2':ε η W1 W2:=k2.aW;clear k2;go_wp2;refine hK _ _ (fun _=>k2') ?_;clear hK
 (apply aj rfl rfl;(intro W hW;go_simp;rfl);go_frame)
 refine aA (fun _=>k2') ?_;go_wp2;go_ret;exact⟨rfl,K1.o.trans k2'⟩
theorem WO (f:Nat)(ih:D8 f)(x:Ex)(a:Array Value)(env:Env)(w:World)(h:aF w a x)(he:iK env)(y1 y2 y3:Ex)(ha:x.args=[y1,y2,y3])(hop:x.op=18)(hm:bg f y1=true)(ht:aC f y1≠0)(hm2:bg f y3=true)(ht2:aC f y3≠0)(hv1:aK f env y1= .jE false):
 Calls prog 175 #[.agg a,fD env] w (Gives w (oZ (aK (f+1) env x))):=by
 obtain⟨p,cap,rfl,o0,o1,hn,h3,h4,h5⟩:=h.parts;unfold maxLen at h4;have hres:aK (f+1) env x=aK f env y3:=(by obtain⟨op,n,args⟩:=x;simp only[Ex.op,Ex.args]at hop ha;subst hop ha;show(if(aK f env y1).b then aK f env y2 else aK f env y3)=_;rw[hv1];rfl);rw[hres];have HM:=γ hm;have HT:=γ ht;have l7:=γ hm2;have HT2:=γ ht2;have HV:=γ (show oZ (aK f env y1)= .iface 4 (.bool false)from congrArg oZ hv1);clear hres hm ht hm2 ht2 hv1;obtain⟨b,off,p1,cap1,rfl,q0,q1,q2,hy1⟩:=h5 0 y1 (by rw[ha];rfl);simp only[Nat.zero_mul,Nat.add_zero]at q0 q1 q2;have hbx:=AO w x (some ⟨b,off,none⟩) cap env;unfold fD;obtain⟨W0,hW0⟩:=acu ((w.alloc (.cells #[.int .u8 x.op,.int .i64 x.n,.slice (some ⟨b,off,none⟩) x.args.length cap] 40)).alloc (.cells #[.int .i64 env.key,.int .i64 env.val,.int .i64 env.acc] 182));rw[hW0]at hbx;obtain⟨hk0,d0,d1,d2,e0,e1,e2⟩:=hbx;have r0:=hk0.cell (p:=⟨b,off,none⟩) id q0;have r1:=hk0.cell (p:=⟨b,off+1,none⟩) id q1;have r2:=hk0.cell (p:=⟨b,off+2,none⟩) id q2;have hlen:(0:Int)<(x.args.length:Int):=(by rw[ha];simp);have rJ:0<x.args.length:=(by rw[ha];simp);have HK:=γ hk0;have HW0:=γ hW0;have HY:=γ (aF.pure hk0 hy1);have H5:=γ h5;have HA:=γ ha;have HE:=γ he;have IH:=γ ih;clear hk0 hW0 hy1 q0 q1 q2 h5 ha he ih h;have hlen1:(2:Int)<(x.args.length:Int):=(by have:=HA.o;rw[this];simp);have ZA:2<x.args.length:=(by have:=HA.o;rw[this];simp);have b1:(x.op==1)=false:=(by simp[hop]);have b2:(x.op==2)=false:=(by simp[hop]);have b3:(x.op==3)=false:=(by simp[hop]);have b4:(x.op==4)=false:=(by simp[hop]);have b5:(x.op==5)=false:=(by simp[hop]);have b6:(x.op==6)=false:=(by simp[hop]);have b7:(x.op==18)=true:=(by simp[hop]);clear hop;have tA:=fun v w=>Dn v false w;simp only[Bool.false_eq_true,if_false]at tA;go_enter func175,ntmps175;go_wp2_with fail;rw[HW0.o];refine acv [0,1,2,3,4,5,6] ?_;simp only[aco];iterate 5 (apply aj rfl rfl;(intro W hW;have z0:=hW.cell id d0;have z1:=hW.cell id d1;have z2:=hW.cell id d2;have z3:=hW.cell id r0;have z4:=hW.cell id r1;have z5:=hW.cell id r2;have z6:=hW.cell id e0;have z7:=hW.cell id e1;have z8:=hW.cell id e2;go_simp;rfl);go_frame)
 apply ay rfl rfl;intro K hK;go_wp2_with fail;have c:=IH.o y1 _ env W0.drew (aF.pure δ.drew HY.o) HE.o HM.o HT.o;refine c.mono ?_;clear c;rintro e W1 ⟨rfl,k1⟩;have k1':ε η W0 W1:=k1.aW;clear k1;rw[HV.o];go_wp2;refine hK _ _ (fun _=>k1') ?_;clear hK
 (apply aj rfl rfl;(intro W hW;go_simp;rfl);go_frame)
 refine aA (fun _=>k1') ?_;have d0:=k1'.cell (p:=⟨w.heap.size,0,none⟩) id d0;have d1:=k1'.cell (p:=⟨w.heap.size,1,none⟩) id d1;have d2:=k1'.cell (p:=⟨w.heap.size,2,none⟩) id d2;have e0:=k1'.cell (p:=⟨w.heap.size+1,0,none⟩) id e0;have e1:=k1'.cell (p:=⟨w.heap.size+1,1,none⟩) id e1;have e2:=k1'.cell (p:=⟨w.heap.size+1,2,none⟩) id e2;have K1:=γ (HK.o.trans k1');clear k1';obtain⟨b2,off2,p2,cap2,hb2,q0,q1,q2,hy2⟩:=H5.o 2 y3 (by rw[HA.o];rfl);cases hb2;have r0:=K1.o.cell (p:=⟨b,off+2*3,none⟩) id q0;have r1:=K1.o.cell (p:=⟨b,off+2*3+1,none⟩) id q1;have r2:=K1.o.cell (p:=⟨b,off+2*3+2,none⟩) id q2;have HY2:=γ (aF.pure K1.o hy2);simp only[Nat.reduceMul,Nat.add_assoc,Nat.reduceAdd]at r0 r1 r2;clear q0 q1 q2 hy2;go_wp2;refine acv [0,1,2,3,4,5,6] ?_;simp only[aco];iterate 5 (apply aj rfl rfl;(intro W hW;have z0:=hW.cell id d0;have z1:=hW.cell id d1;have z2:=hW.cell id d2;have z3:=hW.cell id r0;have z4:=hW.cell id r1;have z5:=hW.cell id r2;have z6:=hW.cell id e0;have z7:=hW.cell id e1;have z8:=hW.cell id e2;go_simp;rfl);go_frame)
 apply ay rfl rfl;intro K hK;go_wp2_with fail;have c:=IH.o y3 _ env W1.drew (aF.pure δ.drew HY2.o) HE.o l7.o HT2.o;refine c.mono ?_;clear c;rintro e W2 ⟨rfl,k2⟩;have k2':ε η W1 W2:=k2.aW;clear k2;go_wp2;refine hK _ _ (fun _=>k2') ?_;clear hK
 (apply aj rfl rfl;(intro W hW;go_simp;rfl);go_frame)
 refine aA (fun _=>k2') ?_;go_wp2;go_ret;exact⟨rfl,K1.o.trans k2'⟩
theorem aag: ∀f,D8 f
 |0=>fun x a env w h he hm ht=>by cases x;cases hm
 |f+1=>fun x a env w h he hm ht=>by
  have ih:=aag f
  rcases FT hm ht with⟨_,hop⟩|⟨y1,ha,m1,⟨hop,t1,_⟩|⟨hop,t1,_⟩⟩|⟨y1,y2,ha,m1,m2,hh⟩|⟨y1,y2,y3,ha,m1,m2,m3,hop,t1,t2,t3⟩
  ·exact adT f x a env w h hop
  ·exact afH f ih x a env w h he y1 ha hop m1 t1
  ·exact afG f ih x a env w h he y1 ha hop m1 t1
  ·have n1:aC f y1≠0:=by omega
   have n2:aC f y2≠0:=(by omega);have s1:=h.vH he (i:=0) (by rw[ha];rfl) m1 n1;have s2:=h.vH he (i:=1) (by rw[ha];rfl) m2 n2;refine afF f ih x a env w h he y1 y2 ha (by omega) m1 n1 m2 n2 ?_
   rcases hh with⟨hop,t1,t2,_⟩|⟨hop,t1,t2,_⟩|⟨hop,t1,t2,_⟩
   ·exact .inl ⟨by omega,s1.1.trans t1,s2.1.trans t2,s1.2,s2.2⟩
   ·exact .inl ⟨by omega,s1.1.trans t1,s2.1.trans t2,s1.2,s2.2⟩
   ·exact .inr ⟨hop,s1.1.trans t1,s2.1.trans t2⟩
  ·have n1:aC f y1≠0:=by omega
   have s1:=h.vH he (i:=0) (by rw[ha];rfl) m1 n1;obtain⟨v,hv⟩:=EV.Eo (s1.1.trans t1)
   cases v with
   |true=>exact WL f ih x a env w h he y1 y2 y3 ha hop m1 n1 m2 (by omega) hv
   |false=>exact WO f ih x a env w h he y1 y2 y3 ha hop m1 n1 m3 (by omega) hv
theorem Fz {x:Ex}(h:Df x=true):qP x=(aC 16 x,0)/\bg 16 x=true/\aC 16 x≠0:=by unfold Df at h;simp only[Φ,bne_iff_ne,ne_eq]at h;exact⟨by unfold qP;rw[if_neg (by rw[h.1];simp),if_neg h.2],h.1,h.2⟩
theorem Qd {x:Ex}(h:Df x=false): ∃n:Int,qP x=(0,n)/\n≠0:=by
 unfold Df at h;simp only[Bool.and_eq_false_iff,bne_eq_false_iff_eq]at h;unfold qP;by_cases hm:bg 16 x=false
 ·exact⟨2,by rw[if_pos hm],by omega⟩
 ·have ht:aC 16 x=0:=by rcases h with h|h;exact absurd h hm;exact h
  exact⟨91,by rw[if_neg hm,if_pos ht],by omega⟩
def U3 (w:World)(x:Ex)(env:Env)(e:Ending)(w':World):Prop:=
 ∃ty er:Int,e= .returned (.tuple #[.agg #[.int .u8 ty,.int .i64 (dF x env),.bool (nZ x env)],.int .i64 er])/\ε η w w'
theorem Kw (v:EV):(∃n,v= .num n)\/ ∃b,v= .jE b:=by cases v with|num n=>exact .inl ⟨n,rfl⟩|jE b=>exact .inr ⟨b,rfl⟩
theorem aaz (x:Ex)(a:Array Value)(env:Env)(w:World)(h:aF w a x)(he:iK env):Calls prog 143 #[.agg a,fD env] w (U3 w x env):=by
 obtain⟨p,cap,rfl,o0,o1,hn,h3,h4,h5⟩:=h.parts;have H:=γ h;have HE:=γ he;clear h h5 he;obtain⟨W0,hW0⟩:=acu (((w.alloc (.cells #[.int .u8 x.op,.int .i64 x.n,.slice p x.args.length cap] 40)).alloc (.cells #[.int .i64 env.key,.int .i64 env.val,.int .i64 env.acc] 182)).alloc (.cells #[.int .u8 0,.int .i64 0,.bool false] 215));have hk0:ε η w W0:=(by rw[<-hW0];exact((δ.alloc _).alloc _).alloc _);have hbx:=AO w x p cap env;have kx:ε η ((w.alloc (.cells #[.int .u8 x.op,.int .i64 x.n,.slice p x.args.length cap] 40)).alloc (.cells #[.int .i64 env.key,.int .i64 env.val,.int .i64 env.acc] 182)) _:=δ.alloc (.cells #[.int .u8 0,.int .i64 0,.bool false] 215);have d0:W0.cell? ⟨w.heap.size,0,none⟩=some (.int .u8 x.op):=(by rw[<-hW0];exact kx.cell id hbx.d0);have d1:W0.cell? ⟨w.heap.size,1,none⟩=some (.int .i64 x.n):=(by rw[<-hW0];exact kx.cell id hbx.d1);have d2:W0.cell? ⟨w.heap.size,2,none⟩=some (.slice p x.args.length cap):=(by rw[<-hW0];exact kx.cell id hbx.d2);have e0:W0.cell? ⟨w.heap.size+1,0,none⟩=some (.int .i64 env.key):=(by rw[<-hW0];exact kx.cell id hbx.e0);have e1:W0.cell? ⟨w.heap.size+1,1,none⟩=some (.int .i64 env.val):=(by rw[<-hW0];exact kx.cell id hbx.e1);have e2:W0.cell? ⟨w.heap.size+1,2,none⟩=some (.int .i64 env.acc):=(by rw[<-hW0];exact kx.cell id hbx.e2);have hB:W0.heap[w.heap.size+1+1]?=some (.cells #[.int .u8 0,.int .i64 0,.bool false] 215 (0,0)):=(by rw[<-hW0];have:=heap_alloc_new ((w.alloc (.cells #[.int .u8 x.op,.int .i64 x.n,.slice p x.args.length cap] 40)).alloc (.cells #[.int .i64 env.key,.int .i64 env.val,.int .i64 env.acc] 182)) (.cells #[.int .u8 0,.int .i64 0,.bool false] 215);simpa[World.size_alloc]using this);have HK:=γ hk0;have HW0:=γ hW0;have HB:=γ hB;clear hk0 hW0 hB hbx kx;go_enter func143,ntmps143;go_wp2_with fail;rw[HW0.o];have c:=GU x _ W0 (aF.pure HK.o H.o);refine c.mono ?_;clear c;rintro e W1 ⟨rfl,k1⟩;have d0:=k1.cell (p:=⟨w.heap.size,0,none⟩) id d0;have d1:=k1.cell (p:=⟨w.heap.size,1,none⟩) id d1;have d2:=k1.cell (p:=⟨w.heap.size,2,none⟩) id d2;have e0:=k1.cell (p:=⟨w.heap.size+1,0,none⟩) id e0;have e1:=k1.cell (p:=⟨w.heap.size+1,1,none⟩) id e1;have e2:=k1.cell (p:=⟨w.heap.size+1,2,none⟩) id e2;have hB1:=k1.heap HB.o id;have ou:=γ (HK.o.trans k1);clear k1
 cases hok:Df x with
 |false=>obtain⟨n,hr,hn0⟩:=Qd hok;rw[hr];have hnB:(n !=0)=true:=(by simp[hn0]);have z0:W1.cell? ⟨w.heap.size+1+1,0,none⟩=some (.int .u8 0):=ζ hB1 rfl;have z1:W1.cell? ⟨w.heap.size+1+1,1,none⟩=some (.int .i64 0):=ζ hB1 rfl;have z2:W1.cell? ⟨w.heap.size+1+1,2,none⟩=some (.bool false):=ζ hB1 rfl;have f0:=free_at hB1 0;have f1:=free_at hB1 1;have f2:=free_at hB1 2;have F:U3 w x env (.returned (.tuple #[.agg #[.int .u8 0,.int .i64 0,.bool false],.int .i64 n])) (((W1.setCell ⟨w.heap.size+1+1,0,none⟩ (.int .u8 0)).setCell ⟨w.heap.size+1+1,1,none⟩ (.int .i64 0)).setCell ⟨w.heap.size+1+1,2,none⟩ (.bool false)):=(by refine⟨0,n,by unfold dF nZ;rw[hok];rfl,?_⟩;exact((ou.o.setCell (p:=⟨w.heap.size+1+1,0,none⟩) (.inr (by simp;omega)) _).setCell (p:=⟨w.heap.size+1+1,1,none⟩) (.inr (by simp;omega)) _).setCell (p:=⟨w.heap.size+1+1,2,none⟩) (.inr (by simp;omega)) _);have F':=γ F;clear F hok hr hn0 hB1;go_wp2;refine bodyPost_ret (v:= .tuple #[.agg #[.int .u8 0,.int .i64 0,.bool false],.int .i64 n]) (by simp[results,results143,go_sem,z0,z1,z2]) rfl F'.o
 |true=>
  obtain⟨hr,hm,ht⟩:=Fz hok;have hty:=zM HE.o 16 x _ H.o hm ht;rw[hr];have iM:=γ (θ hok (θ hm (θ ht hty)));have HB1:=γ hB1;clear hok hr hm ht hty hB1;go_wp2_with fail;have c:=aag 16 x _ env W1 (aF.pure ou.o H.o) HE.o iM.o.2.1 iM.o.2.2.1;refine c.mono ?_;clear c;rintro e W2 ⟨rfl,k2⟩;have hB2:=k2.heap HB1.o id;have z0:W2.cell? ⟨w.heap.size+1+1,0,none⟩=some (.int .u8 0):=ζ hB2 rfl;have z1:W2.cell? ⟨w.heap.size+1+1,1,none⟩=some (.int .i64 0):=ζ hB2 rfl;have z2:W2.cell? ⟨w.heap.size+1+1,2,none⟩=some (.bool false):=ζ hB2 rfl;have f0:=free_at hB2 0;have f1:=free_at hB2 1;have f2:=free_at hB2 2;have HK2:=γ (ou.o.trans k2);clear k2 hB2;have fin: ∀(n:Int)(b:Bool),(aK 16 env x).n=n->(aK 16 env x).b=b->U3 w x env (.returned (.tuple #[.agg #[.int .u8 (aC 16 x),.int .i64 n,.bool b],.int .i64 0])) (((W2.setCell ⟨w.heap.size+1+1,0,none⟩ (.int .u8 (aC 16 x))).setCell ⟨w.heap.size+1+1,1,none⟩ (.int .i64 n)).setCell ⟨w.heap.size+1+1,2,none⟩ (.bool b)):=by intro n b hn hb;refine⟨aC 16 x,0,by unfold dF nZ;rw[iM.o.1,hn,hb];rfl,?_⟩;exact((HK2.o.setCell (p:=⟨w.heap.size+1+1,0,none⟩) (.inr (by simp;omega)) _).setCell (p:=⟨w.heap.size+1+1,1,none⟩) (.inr (by simp;omega)) _).setCell (p:=⟨w.heap.size+1+1,2,none⟩) (.inr (by simp;omega)) _
  rcases Kw (aK 16 env x)with⟨n,hv⟩|⟨b,hv⟩
  ·have F':=γ (fin n false (by rw[hv];rfl) (by rw[hv];rfl))
   rw[show oZ (aK 16 env x)= .iface 2 (.int .i64 n)from congrArg oZ hv];have t1:=fun v w=>rF v true w;have t2:=aev;simp only[if_true]at t1;clear fin hv;go_wp2;refine bodyPost_ret (v:= .tuple #[.agg #[.int .u8 (aC 16 x),.int .i64 n,.bool false],.int .i64 0]) (by simp[results,results143,go_sem,z0,z1,z2]) rfl F'.o
  ·have F':=γ (fin 0 b (by rw[hv];rfl) (by rw[hv];rfl))
   rw[show oZ (aK 16 env x)= .iface 4 (.bool b)from congrArg oZ hv];have t1:=fun v w=>Dn v true w;have t2:=YR;simp only[if_true]at t1;clear fin hv;go_wp2;refine bodyPost_ret (v:= .tuple #[.agg #[.int .u8 (aC 16 x),.int .i64 0,.bool b],.int .i64 0]) (by simp[results,results143,go_sem,z0,z1,z2]) rfl F'.o
theorem DN (x:Ex)(a:Array Value)(env:Env)(w:World)(h:aF w a x)(he:iK env):Calls prog 106 #[.agg a,fD env] w (Gives w (.int .i64 (dF x env))):=by obtain⟨p,cap,rfl,o0,o1,hn,h3,h4,h5⟩:=h.parts;have H:=γ h;have HE:=γ he;clear h h5 he;go_enter func106,ntmps106;go_wp2_with fail;have k0:ε η w ((w.alloc (.cells #[.int .u8 x.op,.int .i64 x.n,.slice p x.args.length cap] 40)).alloc (.cells #[.int .i64 env.key,.int .i64 env.val,.int .i64 env.acc] 182)):=(δ.alloc _).alloc _;have c:=aaz x _ env _ (aF.pure k0 H.o) HE.o;refine c.mono ?_;clear c;rintro e W2 ⟨ty,er,rfl,k2⟩;have K:=γ (k0.trans k2);clear k0 k2;go_wp2;go_ret;exact⟨rfl,K.o.alloc _⟩
theorem abV (x:Ex)(a:Array Value)(env:Env)(w:World)(h:aF w a x)(he:iK env):Calls prog 109 #[.agg a,fD env] w (Gives w (.bool (nZ x env))):=by obtain⟨p,cap,rfl,o0,o1,hn,h3,h4,h5⟩:=h.parts;have H:=γ h;have HE:=γ he;clear h h5 he;go_enter func109,ntmps109;go_wp2_with fail;have k0:ε η w ((w.alloc (.cells #[.int .u8 x.op,.int .i64 x.n,.slice p x.args.length cap] 40)).alloc (.cells #[.int .i64 env.key,.int .i64 env.val,.int .i64 env.acc] 182)):=(δ.alloc _).alloc _;have c:=aaz x _ env _ (aF.pure k0 H.o) HE.o;refine c.mono ?_;clear c;rintro e W2 ⟨ty,er,rfl,k2⟩;have K:=γ (k0.trans k2);clear k0 k2;go_wp2;go_ret;exact⟨rfl,K.o.alloc _⟩
theorem wK {w:World}{x:Ex}{a:Array Value}{env:Env}(h:aF w a x)(he:iK env):aJ (dF x env):=by
 unfold dF;split
 ·rename_i hok
  obtain⟨_,hm,ht⟩:=Fz hok;exact(zM he 16 x a h hm ht).2
 ·exact fF
end
