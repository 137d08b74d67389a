/- The document's expressions: how deep one is, what shape, whether it may be, whether it reads the state. -/
import Derived.Test.YtglbkodmmogomaaGreatDoorI24
set_option linter.unusedVariables false
set_option linter.unusedSimpArgs false
set_option maxHeartbeats 8000000
set_option maxRecDepth 100000
namespace Go.Proofs.YtglbkodmmogomaaGreatDoor
open Go Go.RowKit
def iP:Nat->Ex->Nat
 |0,_=>0
 |f+1,.mk _ _ l=>if f=0 then 1 else(l.map (iP f)).foldl max 0+1
def fZ:Nat->Ex->Bool
 |0,_=>true
 |f+1,.mk op n l=>decide (arity op=l.length)&&decide (0<=n)&&decide (n=0\/op=1)&&l.all (fZ f)
theorem sO (f:Nat)(x:Ex):fZ (f+1) x=(decide (arity x.op=x.args.length)&&decide (0<=x.n)&&decide (x.n=0\/x.op=1)&&x.args.all (fZ f)):=by cases x;rfl
theorem EJ (f:Nat)(x:Ex):iP (f+2) x=(x.args.map (iP (f+1))).foldl max 0+1:=by cases x;rfl
theorem xJ {l:List Nat}{b n:Nat}:l.foldl max b<=n↔b<=n/\ ∀y∈l,y<=n:=by
 induction l generalizing b with
 |nil=>simp
 |cons y l ih=>simp only[List.foldl_cons,ih,Nat.max_le,abR,forall_eq_or_imp,and_assoc]
theorem xQ: ∀(f:Nat)(x:Ex),aY f x=(decide (iP (f+1) x<=f)&&fZ (f+1) x)
 |0,.mk op n l=>by simp[aY,iP]
 |f+1,x=>by
  have h1:x.args.all (aY f)=(x.args.all (fun y=>decide (iP (f+1) y<=f))&&x.args.all (fZ (f+1))):=by
   rw[Bool.eq_iff_iff];simp only[Φ,List.all_eq_true];constructor
   ·intro h
    refine⟨fun y hy=>?_,fun y hy=>?_⟩;all_goals
     have:=h y hy;rw[xQ f y,Φ]at this
    ·exact this.1
    ·exact this.2
   ·rintro⟨ha,hb⟩ y hy
    rw[xQ f y,Φ];exact⟨ha y hy,hb y hy⟩
  have h2:decide (iP (f+2) x<=f+1)=x.args.all (fun y=>decide (iP (f+1) y<=f)):=(by rw[Bool.eq_iff_iff,decide_eq_true_iff,EJ,List.all_eq_true];have: ∀n:Nat,n+1<=f+1↔n<=f:=fun n=>(by omega);rw[this,xJ];simp);rw[uK,sO,h1,h2];cases(x.args.all fun y=>decide (iP (f+1) y<=f))<;>cases(x.args.all (fZ (f+1)))<;>simp
theorem wZ: ∀(f:Nat)(x:Ex),iP f x<=f
 |0,x=>by cases x;exact ξ 0
 |1,x=>by cases x;exact ξ 1
 |f+2,x=>by
  rw[EJ]
  have:(x.args.map (iP (f+1))).foldl max 0<=f+1:=xJ.2 ⟨by omega,fun y hy=>by
   obtain⟨z,_,rfl⟩:=abK.1 hy
   exact wZ (f+1) z⟩
  omega
theorem Kq {a b:Int}(h:a=b):Ending.returned (.int .i64 a)= .returned (.int .i64 b):=by rw[h]
def adp (f:Nat):Prop:= ∀(x:Ex)(a:Array Value)(L:Int)(w:World),L=f->f<=17->aC w a x->Calls Tryz.prog 262 #[.agg a,.int .i64 L] w (Gives w (.int .i64 (iP f x:Int)))
theorem VI {l:List Nat}{k n:Nat}(h:l[k]?=some n):(l.take (k+1)).foldl max 0=max ((l.take k).foldl max 0) n:=by rw[ψ,h,List.foldl_append];rfl
theorem I8: ∀f,adp f
 |0=>fun x a L w hL hf h=>by obtain⟨p,cap,rfl,h0,h1,h2,h3,h4,h5⟩:=h.parts;subst hL;clear h5 h;unfold maxLen at h4;have e:iP 0 x=0:=(by cases x;rfl);rw[e];go_enter Tryz.func262,Tryz.ntmps262;go_wp2_with fail;go_ret;exact⟨rfl,δ.alloc _⟩
 |1=>fun x a L w hL hf h=>by obtain⟨p,cap,rfl,h0,h1,h2,h3,h4,h5⟩:=h.parts;subst hL;clear h5 h;unfold maxLen at h4;have e:iP 1 x=1:=(by cases x;rfl);rw[e];go_enter Tryz.func262,Tryz.ntmps262;go_wp2_with fail;go_ret;exact⟨rfl,δ.alloc _⟩
 |f+2=>fun x a L w hL hf h=>by
  obtain⟨p,cap,rfl,h0,h1,h2,h3,h4,h5⟩:=h.parts;have IH:=γ (I8 (f+1));have HL:=γ hL;have H5:=γ h5;unfold aH at h2;unfold maxLen at h4;obtain⟨h2,h2'⟩:=h2;have hL1:2<=L:=(by omega);have hL2:L<=17:=(by omega);obtain⟨R,hR⟩: ∃R,(x.args.map (iP (f+1)))=R:=⟨_,rfl⟩;have HR:=γ hR
  have HB:=γ (show∀y∈R,y<=17 by
   intro y hy;rw[<-hR]at hy;obtain⟨z,_,rfl⟩:=abK.1 hy
   have:=wZ (f+1) z;omega)
  have HX:=γ (show iP (f+2) x=R.foldl max 0+1 by rw[EJ,hR]);clear h h5 hL hR;rw[HX.o];go_enter Tryz.func262,Tryz.ntmps262;go_wp2_with fail;obtain⟨W0,hW0⟩:=acf (w.alloc (.cells #[.int .u8 x.op,.int .i64 x.n,.slice p x.args.length cap] 40));have k0:ε η w W0:=(by rw[<-hW0];exact δ.alloc _);have d2:W0.cell? ⟨w.heap.size,2,none⟩=some (.slice p x.args.length cap):=(by rw[<-hW0];simp);rw[hW0];have K0:=γ k0;clear hW0 k0;go_loopg [5,6] x.args.length (fun g vb vi wr=> ∃k:Nat,k<=x.args.length/\vi= .int .i64 (k:Int)/\vb= .int .i64 (((R.take k).foldl max 0:Nat):Int)/\x.args.length-k<=g/\ε η W0 wr)
  case atStart=>exact⟨0,by omega,rfl,rfl,by omega,ε.refl _ _⟩
  case round=>
   obtain⟨k,hkl,rfl,rfl,hg,hkp⟩:=hrel;have dd:=hkp.cell (p:=⟨w.heap.size,2,none⟩) id d2;have hM:(R.take k).foldl max 0<=17:=xJ.2 ⟨by omega,fun y hy=>HB.o y (List.mem_of_mem_take hy)⟩;obtain⟨M,hMe⟩: ∃M,(R.take k).foldl max 0=M:=⟨_,rfl⟩;rw[hMe]at hM;rw[hMe];by_cases hlt:k<x.args.length
   ·obtain⟨y,hy⟩: ∃y,x.args[k]?=some y:=⟨_,ι hlt⟩
    obtain⟨b,off,p',cap',rfl,q0,q1,q2,hy2⟩:=H5.o k y hy;have hW:=(K0.o.trans hkp:ε η w wr);have r0:=hW.cell (p:=⟨b,off+k*3,none⟩) id q0;have r1:=hW.cell (p:=⟨b,off+k*3+1,none⟩) id q1;have r2:=hW.cell (p:=⟨b,off+k*3+2,none⟩) id q2
    have HN:=γ (show(R.take (k+1)).foldl max 0=max M (iP (f+1) y) by
     rw[VI (n:=iP (f+1) y) (by rw[<-HR.o,abJ,hy];rfl),hMe])
    have HY:=γ (aC.pure hW hy2);have ug:=γ (θ hg hkp);have hd:=wZ (f+1) y;have ahV:iP (f+1) y<=17:=(by omega);clear q0 q1 q2 hy hy2 hW hkp hg hMe hd;go_wp2_with fail;have c:=IH.o y _ (L-1) wr (by have:=HL.o;omega) (by omega) HY.o;obtain⟨D,hD⟩: ∃D,iP (f+1) y=D:=⟨_,rfl⟩;rw[hD]at c ahV;have HD:=γ hD;clear hD;(with_reducible refine c.mono ?_);clear c;rintro e w2 ⟨rfl,k2⟩;have Em:=γ (ug.o.2.trans k2);clear k2;by_cases hDM:(M:Int)<(D:Int)
    ·go_wp2_with fail
     go_roundg (x.args.length-(k+1))
     case rel=>exact⟨k+1,by omega,by go_num,by rw[HN.o,HD.o];go_num,ξ _,Em.o⟩
     case measure=>have:=ug.o.1;omega
    ·go_wp2_with fail
     go_roundg (x.args.length-(k+1))
     case rel=>exact⟨k+1,by omega,by go_num,by rw[HN.o,HD.o];go_num,ξ _,Em.o⟩
     case measure=>have:=ug.o.1;omega
   ·have hk:k=x.args.length:=by omega
    have HF:=γ (show R.foldl max 0=M by
     rw[<-hMe,χ (by rw[<-HR.o];simp;omega)])
    have HK:=γ (K0.o.trans hkp);clear hkp hMe hg;go_wp2_with fail;go_ret;exact⟨Kq (by rw[HF.o];omega),HK.o⟩
theorem Ja (op:Int)(h0:0<=op)(h1:op<=18)(w:World):Calls Tryz.prog 263 #[.int .u8 op] w (Gives w (.int .i64 (arity op))):=by
 obtain rfl|rfl|rfl|rfl|rfl|rfl|rfl|rfl|rfl|rfl|rfl|rfl|rfl|rfl|rfl|rfl|rfl|rfl|rfl:op=0\/op=1\/op=2\/op=3\/op=4\/op=5\/op=6\/op=7\/op=8\/op=9\/op=10\/op=11\/op=12\/op=13\/op=14\/op=15\/op=16\/op=17\/op=18:=(by omega);all_goals
  go_enter Tryz.func263,Tryz.ntmps263;go_wp2_with fail;go_ret;exact⟨rfl,δ.alloc _⟩
theorem Bz (x:Ex)(a:Array Value)(L:Int)(w:World)(hL0:1<=L)(hL:L<=17)(h:aC w a x)
 (hno:arity x.op≠x.args.length\/x.n<0\/x.n≠0/\x.op≠1):Calls Tryz.prog 241 #[.agg a,.int .i64 L] w (Gives w (.bool false)):=by
 obtain⟨p,cap,rfl,h0,h1,h2,h3,h4,h5⟩:=h.parts;have hk:ε η w (w.alloc (.cells #[.int .u8 x.op,.int .i64 x.n,.slice p x.args.length cap] 40)):=δ.alloc _;obtain⟨W0,hW0⟩:=acf (w.alloc (.cells #[.int .u8 x.op,.int .i64 x.n,.slice p x.args.length cap] 40));have d0:W0.cell? ⟨w.heap.size,0,none⟩=some (.int .u8 x.op):=(by rw[<-hW0];simp);have d1:W0.cell? ⟨w.heap.size,1,none⟩=some (.int .i64 x.n):=(by rw[<-hW0];simp);have d2:W0.cell? ⟨w.heap.size,2,none⟩=some (.slice p x.args.length cap):=(by rw[<-hW0];simp);have HK:=γ hk;have HW0:=γ hW0;unfold aH at h2;unfold maxLen at h4;obtain⟨h2,h2'⟩:=h2;have hL1:(L==0)=false:=(by simp;omega);clear hk h h5 hW0;by_cases c0:18<x.op
 ·have g18:decide (18<x.op)=true:=decide_eq_true c0
  clear hno c0;go_enter Tryz.func241,Tryz.ntmps241;go_wp2_with fail;rw[HW0.o];refine ak [0,1,2,3,4,5,7,8,9,6,10,11,12,13,14,15,16,17,18,19,20,21,22,23,24,25,26] (fun W=>ε η W0 W) (by kernel_rfl) (by kernel_rfl) rfl δ.drew ?_;simp only[abU];iterate 9 (first|(apply bf rfl;go_frame)|(apply aj rfl rfl;(intro W hW;have z0:=hW.cell id d0;have z1:=hW.cell id d1;have z2:=hW.cell id d2;go_simp;rfl);go_frame))
  iterate 18 (first|(apply bf rfl;go_frame)|(apply aj rfl rfl;(intro W hW;have z0:=hW.cell id d0;have z1:=hW.cell id d1;have z2:=hW.cell id d2;go_simp;rfl);go_frame))
  refine aG (fun _=>δ.drew) ?_;go_wp2_with fail;go_ret;exact⟨rfl,HK.o.trans (by rw[HW0.o];exact δ.drew)⟩
 have g18:decide (18<x.op)=false:=decide_eq_false c0;have HM:=γ (Ja x.op h0 (by omega));by_cases c1:arity x.op=x.args.length
 ·have f1:(arity x.op !=(x.args.length:Int))=false:=by rw[c1];simp
  by_cases c2:x.n<0
  ·have g2:decide (x.n<0)=true:=decide_eq_true c2
   clear hno c1 c0;go_enter Tryz.func241,Tryz.ntmps241;go_wp2_with fail;rw[HW0.o];refine ak [0,1,2,3,4,5,7,8,9,6,10,11,12,13,14,15,16,17,18,19,20,21,22,23,24,25,26] (fun W=>ε η W0 W) (by kernel_rfl) (by kernel_rfl) rfl δ.drew ?_;simp only[abU];iterate 9 (first|(apply bf rfl;go_frame)|(apply aj rfl rfl;(intro W hW;have z0:=hW.cell id d0;have z1:=hW.cell id d1;have z2:=hW.cell id d2;go_simp;rfl);go_frame))
   apply aA rfl rfl;intro K hK;go_wp2_with fail;(with_reducible refine(HM.o _).mono ?_);rintro e W2 ⟨rfl,k2⟩;have k2':ε η W0 W2:=k2.aZ;clear k2;go_wp2_with fail;refine hK _ _ (fun _=>k2') ?_;clear hK;iterate 17 (first|(apply bf rfl;go_frame)|(apply aj rfl rfl;(intro W hW;have z0:=hW.cell id d0;have z1:=hW.cell id d1;have z2:=hW.cell id d2;go_simp;rfl);go_frame))
   refine aG (fun _=>k2') ?_;go_wp2_with fail;go_ret;exact⟨rfl,HK.o.trans (by rw[HW0.o];exact k2')⟩
  have g2:decide (x.n<0)=false:=decide_eq_false c2;have c3:x.n≠0/\x.op≠1:=by
   rcases hno with hn|hn|hn
   ·exact absurd c1 hn
   ·exact absurd hn c2
   ·exact hn
  have g3:(x.n !=0)=true:=(by simp[c3.1]);have f4:(x.op !=1)=true:=(by simp[c3.2]);clear c1 c3 hno c0 c2;go_enter Tryz.func241,Tryz.ntmps241;go_wp2_with fail;rw[HW0.o];refine ak [0,1,2,3,4,5,7,8,9,6,10,11,12,13,14,15,16,17,18,19,20,21,22,23,24,25,26] (fun W=>ε η W0 W) (by kernel_rfl) (by kernel_rfl) rfl δ.drew ?_;simp only[abU];iterate 9 (first|(apply bf rfl;go_frame)|(apply aj rfl rfl;(intro W hW;have z0:=hW.cell id d0;have z1:=hW.cell id d1;have z2:=hW.cell id d2;go_simp;rfl);go_frame))
  apply aA rfl rfl;intro K hK;go_wp2_with fail;(with_reducible refine(HM.o _).mono ?_);rintro e W2 ⟨rfl,k2⟩;have k2':ε η W0 W2:=k2.aZ;clear k2;go_wp2_with fail;refine hK _ _ (fun _=>k2') ?_;clear hK;iterate 17 (first|(apply bf rfl;go_frame)|(apply aj rfl rfl;(intro W hW;have z0:=hW.cell id d0;have z1:=hW.cell id d1;have z2:=hW.cell id d2;go_simp;rfl);go_frame))
  refine aG (fun _=>k2') ?_;go_wp2_with fail;go_ret;exact⟨rfl,HK.o.trans (by rw[HW0.o];exact k2')⟩
 ·have f1:(arity x.op !=(x.args.length:Int))=true:=by simp[c1]
  clear c1 hno c0;go_enter Tryz.func241,Tryz.ntmps241;go_wp2_with fail;rw[HW0.o];refine ak [0,1,2,3,4,5,7,8,9,6,10,11,12,13,14,15,16,17,18,19,20,21,22,23,24,25,26] (fun W=>ε η W0 W) (by kernel_rfl) (by kernel_rfl) rfl δ.drew ?_;simp only[abU];iterate 9 (first|(apply bf rfl;go_frame)|(apply aj rfl rfl;(intro W hW;have z0:=hW.cell id d0;have z1:=hW.cell id d1;have z2:=hW.cell id d2;go_simp;rfl);go_frame))
  apply aA rfl rfl;intro K hK;go_wp2_with fail;(with_reducible refine(HM.o _).mono ?_);rintro e W2 ⟨rfl,k2⟩;have k2':ε η W0 W2:=k2.aZ;clear k2;go_wp2_with fail;refine hK _ _ (fun _=>k2') ?_;clear hK;iterate 17 (first|(apply bf rfl;go_frame)|(apply aj rfl rfl;(intro W hW;have z0:=hW.cell id d0;have z1:=hW.cell id d1;have z2:=hW.cell id d2;go_simp;rfl);go_frame))
  refine aG (fun _=>k2') ?_;go_wp2_with fail;go_ret;exact⟨rfl,HK.o.trans (by rw[HW0.o];exact k2')⟩
def JO (f:Nat):Prop:= ∀(x:Ex)(a:Array Value)(L:Int)(w:World),L=f->f<=17->aC w a x->Calls Tryz.prog 241 #[.agg a,.int .i64 L] w (Gives w (.bool (fZ f x)))
theorem UW (f:Nat)(ih:JO f)(x:Ex)(a:Array Value)(L:Int)(w:World)(hL:L=((f+1:Nat):Int))(hf:f+1<=17)(h:aC w a x)
 (c1:arity x.op=x.args.length) (c2: ¬x.n<0) (c3: ¬(x.n≠0/\x.op≠1)):Calls Tryz.prog 241 #[.agg a,.int .i64 L] w (Gives w (.bool (fZ (f+1) x))):=by
 have hx:fZ (f+1) x=x.args.all (fZ f):=by rw[sO];have e1:decide (arity x.op=x.args.length)=true:=decide_eq_true c1;have e2:decide (0<=x.n)=true:=decide_eq_true (by omega);have e3:decide (x.n=0\/x.op=1)=true:=decide_eq_true (by omega);rw[e1,e2,e3];rfl
 rw[hx];obtain⟨p,cap,rfl,h0,h1,h2,h3,h4,h5⟩:=h.parts;have hk:ε η w (w.alloc (.cells #[.int .u8 x.op,.int .i64 x.n,.slice p x.args.length cap] 40)):=δ.alloc _;obtain⟨W0,hW0⟩:=acf (w.alloc (.cells #[.int .u8 x.op,.int .i64 x.n,.slice p x.args.length cap] 40));have d0:W0.cell? ⟨w.heap.size,0,none⟩=some (.int .u8 x.op):=(by rw[<-hW0];simp);have d1:W0.cell? ⟨w.heap.size,1,none⟩=some (.int .i64 x.n):=(by rw[<-hW0];simp);have d2:W0.cell? ⟨w.heap.size,2,none⟩=some (.slice p x.args.length cap):=(by rw[<-hW0];simp);have HK:=γ hk;have HW0:=γ hW0;unfold aH at h2;unfold maxLen at h4;obtain⟨h2,h2'⟩:=h2;have f1:(arity x.op !=(x.args.length:Int))=false:=(by rw[c1];simp);have hL1:1<=L:=(by omega);have hL2:L<=17:=(by omega);have f6:(L==0)=false:=(by simp;omega);have g2:decide (x.n<0)=false:=decide_eq_false c2;have c0:x.op<=18:=by
  rcases Int.lt_or_le 18 x.op with c|c
  ·unfold arity at c1;rw[if_pos (.inr c)]at c1;omega
  ·exact c
 have g18:decide (18<x.op)=false:=decide_eq_false (by omega);have HM:=γ (Ja x.op h0 c0);have IH:=γ ih;have HL:=γ hL;have H5:=γ h5;clear hk h h5 hW0 hx c1 ih hL;have main:((x.n !=0)=false\/(x.n !=0)=true/\(x.op !=1)=false)->Calls Tryz.prog 241 #[.agg #[.int .u8 x.op,.int .i64 x.n,.slice p x.args.length cap],.int .i64 L] w (Gives w (.bool (x.args.all (fZ f)))):=by
  clear c3;rintro(f3|⟨f3,f4⟩);all_goals
   go_enter Tryz.func241,Tryz.ntmps241;go_wp2_with fail;rw[HW0.o];refine ak [0,1,2,3,4,5,7,8,9,6,10,11,12,13,14,15,16,17,18,19,20,21,22,23,24,25,26] (fun W=>ε η W0 W) (by kernel_rfl) (by kernel_rfl) rfl δ.drew ?_;simp only[abU];iterate 9 (first|(apply bf rfl;go_frame)|(apply aj rfl rfl;(intro W hW;have z0:=hW.cell id d0;have z1:=hW.cell id d1;have z2:=hW.cell id d2;go_simp;rfl);go_frame))
   apply aA rfl rfl;intro K hK;go_wp2_with fail;(with_reducible refine(HM.o _).mono ?_);rintro e W2 ⟨rfl,k2⟩;have k2':ε η W0 W2:=k2.aZ;clear k2;go_wp2_with fail;refine hK _ _ (fun _=>k2') ?_;clear hK;iterate 17 (first|(apply bf rfl;go_frame)|(apply aj rfl rfl;(intro W hW;have z0:=hW.cell id d0;have z1:=hW.cell id d1;have z2:=hW.cell id d2;go_simp;rfl);go_frame))
   refine aG (fun _=>k2') ?_;go_wp2_with fail;obtain⟨W1,hW1⟩: ∃W1,W2=W1:=⟨_,rfl⟩;rw[hW1]at k2';have KK:=γ (HK.o.trans (by rw[HW0.o];exact k2'));have HW1:=γ k2';rw[hW1];clear hW1 k2';go_loopg [5] x.args.length (fun g vi wr=> ∃k:Nat,k<=x.args.length/\vi= .int .i64 (k:Int)/\x.args.length-k<=g/\(x.args.take k).all (fZ f)=true/\ε η W0 wr)
   case atStart=>exact⟨0,by omega,rfl,by omega,by simp,HW1.o⟩
   case round=>
    obtain⟨k,hkl,rfl,hg,ht,hkp⟩:=hrel;have HT:=γ (θ hg ht);clear hg ht;have dd:=hkp.cell (p:=⟨w.heap.size,2,none⟩) id d2;by_cases hlt:k<x.args.length
    ·obtain⟨y,hy⟩: ∃y,x.args[k]?=some y:=⟨_,ι hlt⟩
     obtain⟨b,off,p',cap',rfl,q0,q1,q2,hy2⟩:=H5.o k y hy;have hW:=(HK.o.trans (by rw[HW0.o];exact hkp):ε η w wr);have r0:=hW.cell (p:=⟨b,off+k*3,none⟩) id q0;have r1:=hW.cell (p:=⟨b,off+k*3+1,none⟩) id q1;have r2:=hW.cell (p:=⟨b,off+k*3+2,none⟩) id q2;have HY:=γ (θ hy (aC.pure hW hy2));have ug:=γ (θ hW hkp);clear q0 q1 q2 hy hy2 hW hkp H5;go_wp2_with fail;have c:=IH.o y _ (L-1) wr (by have:=HL.o;omega) (by omega) HY.o.2;(with_reducible refine c.mono ?_);clear c;rintro e w2 ⟨rfl,k3⟩;have Em:=γ k3;clear k3
     cases hm:fZ f y with
     |false=>have QV:=γ hm;clear hm;go_wp2_with fail;go_ret;exact⟨aP (TM HY.o.1 QV.o).symm,ug.o.1.trans Em.o⟩
     |true=>
      have QV:=γ hm;clear hm;go_wp2_with fail;go_roundg (x.args.length-(k+1))
      case rel=>exact⟨k+1,by omega,by go_num,ξ _,AY HY.o.1 HT.o.2 QV.o,ug.o.2.trans Em.o⟩
      case measure=>have:=HT.o.1;omega
    ·go_wp2_with fail
     go_ret;exact⟨aP (Ei HT.o.2 (by omega)).symm,HK.o.trans (by rw[HW0.o];exact hkp)⟩
 clear HM HW0 HK d0 d1 d2;apply main;by_cases c4:x.n=0
 ·left;simp[c4]
 ·right
  have:x.op=1:=(by omega);simp[this,c4]
theorem FK: ∀f,JO f
 |0=>fun x a L w hL hf h=>by obtain⟨p,cap,rfl,h0,h1,h2,h3,h4,h5⟩:=h.parts;subst hL;clear h5 h;unfold maxLen at h4;have e:fZ 0 x=true:=(by cases x;rfl);rw[e];go_enter Tryz.func241,Tryz.ntmps241;go_wp2_with fail;go_ret;exact⟨rfl,δ.alloc _⟩
 |f+1=>fun x a L w hL hf h=>by
  by_cases c1:arity x.op=x.args.length
  ·by_cases c2:x.n<0
   ·have e:fZ (f+1) x=false:=by rw[sO];simp;omega
    rw[e];exact Bz x a L w (by omega) (by omega) h (.inr (.inl c2))
   ·by_cases c3:x.n≠0/\x.op≠1
    ·have e:fZ (f+1) x=false:=by rw[sO];simp;omega
     rw[e];exact Bz x a L w (by omega) (by omega) h (.inr (.inr c3))
    ·exact UW f (FK f) x a L w hL hf h c1 c2 c3
  ·have e:fZ (f+1) x=false:=by rw[sO];simp[c1]
   rw[e];exact Bz x a L w (by omega) (by omega) h (.inl c1)
theorem ac4: ∃i,Tryz.prog.info? 5=some i/\i.zero=some (.int .u8 0)/\i.size=1/\i.bytes=1:=by
 have h:(Tryz.prog.info? 5).map (fun i=>(i.zero,i.size,i.bytes))=some (some (.int .u8 0),1,1):=(by kernel_rfl);obtain⟨i,h1,h2⟩:=abP.1 h
 injection h2 with h2 h3
 injection h3 with h3 h4
 exact⟨i,h1,h2,h3,h4⟩
def iL:List Int->Int
 |[]=>0
 |a::l=>l.foldl (fun s b=>if s=b then b else 3) a
theorem Ro (l:List Int)(t:Int):iL (l++[t])=if l=[]\/iL l=t then t else 3:=by
 cases l with
 |nil=>simp[iL]
 |cons a l=>simp[iL,List.foldl_append]
theorem DI {l:List Int}{k:Nat}{t:Int}(h:l[k]?=some t):iL (l.take (k+1))=if k=0\/iL (l.take k)=t then t else 3:=by
 have hk:k<l.length:=by rcases Nat.lt_or_ge k l.length with h'|h';exact h';rw[abA h']at h;cases h
 rw[ψ,h,Option.toList_some,Ro];have:l.take k=[]↔k=0:=by
  rw[List.take_eq_nil_iff];constructor
  ·rintro(h'|h')
   ·exact h'
   ·rw[h']at hk;simp at hk
  ·exact .inl
 simp only[this]
theorem OJ {l:List Int}(h: ∀t∈l,0<=t/\t<=2):0<=iL l/\iL l<=3:=by
 have: ∀n,n<=l.length->0<=iL (l.take n)/\iL (l.take n)<=3:=by
  intro n
  induction n with
  |zero=>intro _;rw[List.take_zero];exact⟨Int.le_refl 0,by decide⟩
  |succ n ih=>intro hn;have e:l[n]?=some l[n]:=ι (by omega);have:=h l[n] (List.getElem_mem _);rw[DI e];split<;>omega
 have:=this l.length (ξ _);rwa[List.take_length]at this
def dh (op s:Int)(ts:List Int):Int:=
 if op<=4 then 1 else if op=5\/(7<=op/\op<=11)then(if s=1 then 1 else 0)else if op=6\/op=16\/op=17 then(if s=2 then 2 else 0)else if op=12\/op=13 then(if s=1 then 2 else 0)else if op=14\/op=15 then(if s≠3 then 2 else 0)else(if ts.getD 0 0=2/\ts.getD 1 0=ts.getD 2 0 then ts.getD 1 0 else 0)
theorem yS {op:Int}{n:Nat}(h0:0<=op)(h:arity op=n):1<=op/\op<=18:=by
 unfold arity at h;split at h
 ·omega
 ·omega
theorem ac0 (op:Int)(ts:List Int)(h0:0<=op)(h:arity op=ts.length)(ht: ∀t∈ts,t=1\/t=2):iO (op,ts.getD 0 0,ts.getD 1 0,ts.getD 2 0)=dh op (iL ts) ts:=by
 obtain⟨l1,l2⟩:=yS h0 h;have h3:=xX op
 match ts,h,ht with
 |[],h,_=>have:op<=4:=(by unfold arity at h;simp at h;split at h<;>(try omega)<;>(split at h<;>(try omega)<;>(split at h<;>(try omega)<;>(split at h<;>omega))));obtain rfl|rfl|rfl|rfl:op=1\/op=2\/op=3\/op=4:=(by omega);all_goals decide
 |[a],h,ht=>
  have:op=5\/op=6:=(by unfold arity at h;simp at h;split at h<;>(try omega)<;>(split at h<;>(try omega)<;>(split at h<;>(try omega)<;>(split at h<;>omega))));have ha:=ht a (by simp)
  rcases ha with rfl|rfl<;>rcases this with rfl|rfl<;>decide
 |[a,b],h,ht=>have:7<=op/\op<=17:=(by unfold arity at h;simp at h;split at h<;>(try omega)<;>(split at h<;>(try omega)<;>(split at h<;>(try omega)<;>(split at h<;>omega))));have ha:=ht a (by simp);have hb:=ht b (by simp);obtain rfl|rfl|rfl|rfl|rfl|rfl|rfl|rfl|rfl|rfl|rfl:op=7\/op=8\/op=9\/op=10\/op=11\/op=12\/op=13\/op=14\/op=15\/op=16\/op=17:=(by omega);all_goals(rcases ha with rfl|rfl<;>rcases hb with rfl|rfl<;>decide)
 |[a,b,c],h,ht=>
  have:op=18:=(by unfold arity at h;simp at h;split at h<;>(try omega)<;>(split at h<;>(try omega)<;>(split at h<;>(try omega)<;>(split at h<;>omega))));have ha:=ht a (by simp);have hb:=ht b (by simp);have hc:=ht c (by simp);subst this
  rcases ha with rfl|rfl<;>rcases hb with rfl|rfl<;>rcases hc with rfl|rfl<;>decide
 |a::b::c::d::l,h,_=>simp at h;omega
theorem OL (k:Int×Int×Int×Int):iO k=0\/iO k=1\/iO k=2:=by
 obtain⟨op,a,b,c⟩:=k;by_cases h:iO (op,a,b,c)=0
 ·exact .inl h
 ·rcases pI h with h|h
  ·exact .inr (.inl h.1)
  ·exact .inr (.inr h.1)
theorem tX: ∀(f:Nat)(x:Ex),aB f x=0\/aB f x=1\/aB f x=2
 |0,x=>by cases x;exact .inl rfl
 |f+1,x=>by
  rw[zo];split
  ·exact .inl rfl
  ·exact OL _
theorem ac7 {f:Nat}{x:Ex}(h0:0<=x.op)(h:arity x.op=x.args.length)(hz: ∀t∈x.args.map (aB f),t≠0):aB (f+1) x=dh x.op (iL (x.args.map (aB f))) (x.args.map (aB f)):=by
 have hr: ∀t∈x.args.map (aB f),t=1\/t=2:=by
  intro t ht;have h1:=hz t ht;obtain⟨y,_,rfl⟩:=abK.1 ht
  rcases tX f y with h|h|h
  ·exact absurd h h1
  ·exact .inl h
  ·exact .inr h
 rw[zo,if_neg,ac0 x.op _ h0 (by simpa using h) hr];intro hc;rw[List.contains_iff_mem]at hc;exact hz 0 hc rfl
theorem ac8 {f:Nat}{x:Ex}(h:0∈x.args.map (aB f)):aB (f+1) x=0:=by rw[zo,if_pos (List.contains_iff_mem.2 h)]
