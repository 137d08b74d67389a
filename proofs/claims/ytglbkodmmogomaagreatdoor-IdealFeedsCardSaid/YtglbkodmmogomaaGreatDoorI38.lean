/- The document's expressions: of what kind one is. -/
import Derived.Test.YtglbkodmmogomaaGreatDoorI37
import Derived.Test.YtglbkodmmogomaaGreatDoorI36
set_option linter.unusedVariables false
set_option linter.unusedSimpArgs false
set_option maxHeartbeats 4000000
set_option maxRecDepth 100000
namespace Go.Proofs.YtglbkodmmogomaaGreatDoor
section
open Go Go.RowKit
theorem C9 {x:Ex}{acc:Bool}{r:Int×Int}{w w':World}{a b:Int}(h:dR x acc=r)(k:ε η w w')(ha:a=r.1)(hb:b=r.2):qX w (dR x acc) (.returned (.tuple #[.int .u8 a,.int .i64 b])) w':=by rw[h,ha,hb];exact⟨rfl,k⟩
theorem I7 (x:Ex)(acc:Bool)(a:Array Value)(w:World)(h:aC w a x):Calls Tryz.prog 174 #[.agg a,.bool acc] w (qX w (dR x acc)):=by
 obtain⟨p,cap,rfl,h0,h1,h2,h3,h4,h5⟩:=h.parts;have H:=γ h;have Um:=γ (show dR x acc=if aY 16 x=false then(0,2)else if acc=false/\gK x=true then(0,90)else if aB 16 x=0 then(0,91)else(aB 16 x,0)from rfl);clear h h5;go_enter Tryz.func174,Tryz.ntmps174;go_wp2_with fail;have k1:ε η w (w.alloc (.cells #[.int .u8 x.op,.int .i64 x.n,.slice p x.args.length cap] 40)):=δ.alloc _;(with_reducible refine(abu x _ _ (aC.pure k1 H.o)).mono ?_);rintro e w2 ⟨rfl,k2⟩;have d0:=k2.cell (p:=⟨w.heap.size,0,none⟩) (v:= .int .u8 x.op) id (by simp);have d1:=k2.cell (p:=⟨w.heap.size,1,none⟩) (v:= .int .i64 x.n) id (by simp);have d2:=k2.cell (p:=⟨w.heap.size,2,none⟩) (v:= .slice p x.args.length cap) id (by simp);have K2:=γ (k1.trans k2);clear k1 k2
 cases hm:aY 16 x with
 |false=>have F:=γ (show dR x acc=(0,2) by rw[Um.o,if_pos hm]);clear hm;go_wp2_with fail;go_ret2;exact C9 F.o K2.o rfl rfl
 |true=>
  have HM:=γ hm;clear hm
  cases acc with
  |true=>
   go_wp2_with fail;have c:=EG 16 x _ w2 HM.o (aC.pure K2.o H.o);(with_reducible refine c.mono ?_);clear c;rintro e w3 ⟨rfl,k3⟩;have K3:=γ (K2.o.trans k3);clear k3;have ht:=tX 16 x;obtain⟨T,hT⟩: ∃T,aB 16 x=T:=⟨_,rfl⟩;rw[hT]at ht;rw[hT];by_cases t0:T=0
   ·have F:=γ (show dR x true=(0,91) by rw[Um.o,if_neg (by rw[HM.o];simp),if_neg (by simp),hT,if_pos t0])
    subst t0;clear hT ht;go_wp2_with fail;go_ret2;exact C9 F.o K3.o rfl rfl
   ·have F:=γ (show dR x true=(T,0) by rw[Um.o,if_neg (by rw[HM.o];simp),if_neg (by simp),hT,if_neg t0])
    have tb:(T==0)=false:=(by simp[t0]);have hr:0<=T/\T<=2:=(by omega);clear hT ht t0;go_wp2_with fail;go_ret2;exact C9 F.o K3.o rfl rfl
  |false=>
   go_wp2_with fail;have c:=Jc _ x _ w2 (ξ _) (aC.pure K2.o H.o);(with_reducible refine c.mono ?_);clear c;rintro e w3 ⟨rfl,k3⟩;have d0:=k3.cell (p:=⟨w.heap.size,0,none⟩) id d0;have d1:=k3.cell (p:=⟨w.heap.size,1,none⟩) id d1;have d2:=k3.cell (p:=⟨w.heap.size,2,none⟩) id d2;have K3:=γ (K2.o.trans k3);clear k3
   cases hA:gK x with
   |true=>have F:=γ (show dR x false=(0,90) by rw[Um.o,if_neg (by rw[HM.o];simp),if_pos (by simp[hA])]);clear hA;go_wp2_with fail;go_ret2;exact C9 F.o K3.o rfl rfl
   |false=>
    have HA:=γ hA;clear hA;go_wp2_with fail;have c:=EG 16 x _ w3 HM.o (aC.pure K3.o H.o);(with_reducible refine c.mono ?_);clear c;rintro e w4 ⟨rfl,k4⟩;have K4:=γ (K3.o.trans k4);clear k4;have ht:=tX 16 x;obtain⟨T,hT⟩: ∃T,aB 16 x=T:=⟨_,rfl⟩;rw[hT]at ht;rw[hT];by_cases t0:T=0
    ·have F:=γ (show dR x false=(0,91) by rw[Um.o,if_neg (by rw[HM.o];simp),if_neg (by rw[HA.o];simp),hT,if_pos t0])
     subst t0;clear hT ht;go_wp2_with fail;go_ret2;exact C9 F.o K4.o rfl rfl
    ·have F:=γ (show dR x false=(T,0) by rw[Um.o,if_neg (by rw[HM.o];simp),if_neg (by rw[HA.o];simp),hT,if_neg t0])
     have tb:(T==0)=false:=(by simp[t0]);have hr:0<=T/\T<=2:=(by omega);clear hT ht t0;go_wp2_with fail;go_ret2;exact C9 F.o K4.o rfl rfl
theorem RY (x:Ex)(acc:Bool):(0<=(dR x acc).1/\(dR x acc).1<=2)/\0<=(dR x acc).2/\(dR x acc).2<=91:=by
 have:=tX 16 x;unfold dR;split
 ·exact⟨⟨by decide,by decide⟩,by decide,by decide⟩
 ·split
  ·exact⟨⟨by decide,by decide⟩,by decide,by decide⟩
  ·split
   ·exact⟨⟨by decide,by decide⟩,by decide,by decide⟩
   ·dsimp only;omega
theorem sQ (x:Ex)(acc:Bool)(ty:Int)(a:Array Value)(w:World)(h:aC w a x):Calls Tryz.prog 139 #[.agg a,.bool acc,.int .u8 ty] w (Gives w (.bool (mX x acc ty))):=by
 obtain⟨p,cap,rfl,_,_,h2,h3,h4,h5⟩:=h.parts;have H:=γ h;have HI:=γ (show mX x acc ty=((dR x acc).2==0&&(dR x acc).1==ty)from rfl);have hr:=RY x acc;clear h h5;go_enter Tryz.func139,Tryz.ntmps139;go_wp2_with fail;have k1:ε η w (w.alloc (.cells #[.int .u8 x.op,.int .i64 x.n,.slice p x.args.length cap] 40)):=δ.alloc _;have c:=I7 x acc _ _ (aC.pure k1 H.o);(with_reducible refine c.mono ?_);clear c;rintro e w2 ⟨rfl,k2⟩;have K2:=γ (k1.trans k2);clear k1 k2;obtain⟨r,hr'⟩: ∃r,dR x acc=r:=⟨_,rfl⟩;rw[hr']at hr;have HR:=γ hr';rw[hr'];clear hr';obtain⟨k,e⟩:=r;dsimp only at hr⊢;obtain⟨⟨r1,r2⟩,r3,r4⟩:=hr;by_cases he:e=0
 ·subst he
  have F:=γ (show mX x acc ty=(k==ty) by rw[HI.o,HR.o];rfl);go_wp2_with fail;go_ret;exact⟨aP F.o.symm,K2.o⟩
 ·have eb:(e==0)=false:=by simp[he]
  have F:=γ (show mX x acc ty=false by rw[HI.o,HR.o];simp[he]);clear he;go_wp2_with fail;go_ret;exact⟨aP F.o.symm,K2.o⟩
end
section
open Go Go.RowKit
attribute [local irreducible] cZ
theorem Uj (x:Ex)(a:Array Value)(env:Env)(w:World)(h:aC w a x)(he:iq env):Calls Tryz.prog 178 #[.agg a,eU env] w (Ut w x env):=by
 obtain⟨p,cap,rfl,o0,o1,hn,h3,h4,h5⟩:=h.parts;have H:=γ h;have HE:=γ he;clear h h5 he;obtain⟨W0,hW0⟩: ∃W0,((w.alloc (.cells #[.int .u8 x.op,.int .i64 x.n,.slice p x.args.length cap] 40)).alloc (.cells #[.int .i64 env.key,.int .i64 env.val,.int .i64 env.acc] 182)).alloc (.cells #[.int .u8 0,.int .i64 0,.bool false] 215)=W0:=⟨_,rfl⟩;have hk0:ε η w W0:=(by rw[<-hW0];exact((δ.alloc _).alloc _).alloc _);have hbx:=Ai w x p cap env;have kx:ε η ((w.alloc (.cells #[.int .u8 x.op,.int .i64 x.n,.slice p x.args.length cap] 40)).alloc (.cells #[.int .i64 env.key,.int .i64 env.val,.int .i64 env.acc] 182)) _:=δ.alloc (.cells #[.int .u8 0,.int .i64 0,.bool false] 215);have d0:W0.cell? ⟨w.heap.size,0,none⟩=some (.int .u8 x.op):=(by rw[<-hW0];exact kx.cell id hbx.d0);have d1:W0.cell? ⟨w.heap.size,1,none⟩=some (.int .i64 x.n):=(by rw[<-hW0];exact kx.cell id hbx.d1);have d2:W0.cell? ⟨w.heap.size,2,none⟩=some (.slice p x.args.length cap):=(by rw[<-hW0];exact kx.cell id hbx.d2);have e0:W0.cell? ⟨w.heap.size+1,0,none⟩=some (.int .i64 env.key):=(by rw[<-hW0];exact kx.cell id hbx.e0);have e1:W0.cell? ⟨w.heap.size+1,1,none⟩=some (.int .i64 env.val):=(by rw[<-hW0];exact kx.cell id hbx.e1);have e2:W0.cell? ⟨w.heap.size+1,2,none⟩=some (.int .i64 env.acc):=(by rw[<-hW0];exact kx.cell id hbx.e2);have hB:W0.heap[w.heap.size+1+1]?=some (.cells #[.int .u8 0,.int .i64 0,.bool false] 215 (0,0)):=(by rw[<-hW0];have:=heap_alloc_new ((w.alloc (.cells #[.int .u8 x.op,.int .i64 x.n,.slice p x.args.length cap] 40)).alloc (.cells #[.int .i64 env.key,.int .i64 env.val,.int .i64 env.acc] 182)) (.cells #[.int .u8 0,.int .i64 0,.bool false] 215);simpa[World.size_alloc]using this);have HK:=γ hk0;have HW0:=γ hW0;have HB:=γ hB;clear hk0 hW0 hB hbx kx;go_enter Tryz.func178,Tryz.ntmps178;go_wp2_with fail;rw[HW0.o];have c:=I7 x true _ W0 (aC.pure HK.o H.o);rw[Gg]at c;(with_reducible refine c.mono ?_);clear c;rintro e W1 ⟨rfl,k1⟩;have d0:=k1.cell (p:=⟨w.heap.size,0,none⟩) id d0;have d1:=k1.cell (p:=⟨w.heap.size,1,none⟩) id d1;have d2:=k1.cell (p:=⟨w.heap.size,2,none⟩) id d2;have e0:=k1.cell (p:=⟨w.heap.size+1,0,none⟩) id e0;have e1:=k1.cell (p:=⟨w.heap.size+1,1,none⟩) id e1;have e2:=k1.cell (p:=⟨w.heap.size+1,2,none⟩) id e2;have hB1:=k1.heap HB.o id;have nP:=γ (HK.o.trans k1);clear k1
 cases hok:CG x with
 |false=>obtain⟨n,hr,hn0⟩:=Px hok;rw[hr];have hnB:(n !=0)=true:=(by simp[hn0]);have z0:W1.cell? ⟨w.heap.size+1+1,0,none⟩=some (.int .u8 0):=ζ hB1 rfl;have z1:W1.cell? ⟨w.heap.size+1+1,1,none⟩=some (.int .i64 0):=ζ hB1 rfl;have z2:W1.cell? ⟨w.heap.size+1+1,2,none⟩=some (.bool false):=ζ hB1 rfl;have f0:=free_at hB1 0;have f1:=free_at hB1 1;have f2:=free_at hB1 2;have F:Ut w x env (.returned (.tuple #[.agg #[.int .u8 0,.int .i64 0,.bool false],.int .i64 n])) (((W1.setCell ⟨w.heap.size+1+1,0,none⟩ (.int .u8 0)).setCell ⟨w.heap.size+1+1,1,none⟩ (.int .i64 0)).setCell ⟨w.heap.size+1+1,2,none⟩ (.bool false)):=(by refine⟨0,n,by unfold dA nM;rw[hok];rfl,?_⟩;exact((nP.o.setCell (p:=⟨w.heap.size+1+1,0,none⟩) (.inr (by simp;omega)) _).setCell (p:=⟨w.heap.size+1+1,1,none⟩) (.inr (by simp;omega)) _).setCell (p:=⟨w.heap.size+1+1,2,none⟩) (.inr (by simp;omega)) _);have F':=γ F;clear F hok hr hn0 hB1;go_wp2_with fail;refine bodyPost_ret (v:= .tuple #[.agg #[.int .u8 0,.int .i64 0,.bool false],.int .i64 n]) (by simp[results,Tryz.results178,go_sem,z0,z1,z2]) rfl F'.o
 |true=>
  obtain⟨hr,hm,ht⟩:=EM hok;have hty:=zq HE.o 16 x _ H.o hm ht;rw[hr];have fU:=γ (θ hok (θ hm (θ ht hty)));have HB1:=γ hB1;clear hok hr hm ht hty hB1;go_wp2_with fail;have c:=Tq 16 x _ env W1 (aC.pure nP.o H.o) HE.o fU.o.2.1 fU.o.2.2.1;(with_reducible refine c.mono ?_);clear c;rintro e W2 ⟨rfl,k2⟩;have hB2:=k2.heap HB1.o id;have z0:W2.cell? ⟨w.heap.size+1+1,0,none⟩=some (.int .u8 0):=ζ hB2 rfl;have z1:W2.cell? ⟨w.heap.size+1+1,1,none⟩=some (.int .i64 0):=ζ hB2 rfl;have z2:W2.cell? ⟨w.heap.size+1+1,2,none⟩=some (.bool false):=ζ hB2 rfl;have f0:=free_at hB2 0;have f1:=free_at hB2 1;have f2:=free_at hB2 2;have HK2:=γ (nP.o.trans k2);clear k2 hB2;have fin: ∀(n:Int)(b:Bool),(aK 16 env x).n=n->(aK 16 env x).b=b->Ut w x env (.returned (.tuple #[.agg #[.int .u8 (aB 16 x),.int .i64 n,.bool b],.int .i64 0])) (((W2.setCell ⟨w.heap.size+1+1,0,none⟩ (.int .u8 (aB 16 x))).setCell ⟨w.heap.size+1+1,1,none⟩ (.int .i64 n)).setCell ⟨w.heap.size+1+1,2,none⟩ (.bool b)):=(by intro n b hn hb;refine⟨aB 16 x,0,by unfold dA nM;rw[fU.o.1,hn,hb];rfl,?_⟩;exact((HK2.o.setCell (p:=⟨w.heap.size+1+1,0,none⟩) (.inr (by simp;omega)) _).setCell (p:=⟨w.heap.size+1+1,1,none⟩) (.inr (by simp;omega)) _).setCell (p:=⟨w.heap.size+1+1,2,none⟩) (.inr (by simp;omega)) _);have hty:=fU.o.2.2.2.1
  rcases JI (aK 16 env x)with⟨n,hv⟩|⟨b,hv⟩
  ·have F':=fin n false (by rw[hv];rfl) (by rw[hv];rfl)
   have e1:aB 16 x=1:=(by rw[<-hty,hv];rfl);rw[e1]at F'⊢;rw[show fO (aK 16 env x)=n by rw[hv];rfl];have F':=γ F';clear fin hv e1 hty;go_wp2_with fail;refine bodyPost_ret (v:= .tuple #[.agg #[.int .u8 1,.int .i64 n,.bool false],.int .i64 0]) (by simp[results,Tryz.results178,go_sem,z0,z1,z2]) rfl F'.o
  ·have F':=fin 0 b (by rw[hv];rfl) (by rw[hv];rfl)
   have e1:aB 16 x=2:=(by rw[<-hty,hv];rfl);rw[e1]at F'⊢;rw[show fO (aK 16 env x)=tI b by rw[hv];rfl];have hb1:(tI b==1)=b:=(by cases b<;>rfl);have F':=γ F';clear fin hv e1 hty
   cases b with
   |true=>rw[show tI true=1 from rfl];go_wp2_with fail;refine bodyPost_ret (v:= .tuple #[.agg #[.int .u8 2,.int .i64 0,.bool true],.int .i64 0]) (by simp[results,Tryz.results178,go_sem,z0,z1,z2]) rfl F'.o
   |false=>rw[show tI false=0 from rfl];go_wp2_with fail;refine bodyPost_ret (v:= .tuple #[.agg #[.int .u8 2,.int .i64 0,.bool false],.int .i64 0]) (by simp[results,Tryz.results178,go_sem,z0,z1,z2]) rfl F'.o
theorem zN (x:Ex)(a:Array Value)(env:Env)(w:World)(h:aC w a x)(he:iq env):Calls Tryz.prog 146 #[.agg a,eU env] w (Gives w (.int .i64 (dA x env))):=by obtain⟨p,cap,rfl,o0,o1,hn,h3,h4,h5⟩:=h.parts;have H:=γ h;have HE:=γ he;clear h h5 he;go_enter Tryz.func146,Tryz.ntmps146;go_wp2_with fail;have k0:ε η w ((w.alloc (.cells #[.int .u8 x.op,.int .i64 x.n,.slice p x.args.length cap] 40)).alloc (.cells #[.int .i64 env.key,.int .i64 env.val,.int .i64 env.acc] 182)):=(δ.alloc _).alloc _;have c:=Uj x _ env _ (aC.pure k0 H.o) HE.o;(with_reducible refine c.mono ?_);clear c;rintro e W2 ⟨ty,er,rfl,k2⟩;have K:=γ (k0.trans k2);clear k0 k2;go_wp2_with fail;go_ret;exact⟨rfl,K.o.alloc _⟩
theorem Yc (x:Ex)(a:Array Value)(env:Env)(w:World)(h:aC w a x)(he:iq env):Calls Tryz.prog 147 #[.agg a,eU env] w (Gives w (.bool (nM x env))):=by obtain⟨p,cap,rfl,o0,o1,hn,h3,h4,h5⟩:=h.parts;have H:=γ h;have HE:=γ he;clear h h5 he;go_enter Tryz.func147,Tryz.ntmps147;go_wp2_with fail;have k0:ε η w ((w.alloc (.cells #[.int .u8 x.op,.int .i64 x.n,.slice p x.args.length cap] 40)).alloc (.cells #[.int .i64 env.key,.int .i64 env.val,.int .i64 env.acc] 182)):=(δ.alloc _).alloc _;have c:=Uj x _ env _ (aC.pure k0 H.o) HE.o;(with_reducible refine c.mono ?_);clear c;rintro e W2 ⟨ty,er,rfl,k2⟩;have K:=γ (k0.trans k2);clear k0 k2;go_wp2_with fail;go_ret;exact⟨rfl,K.o.alloc _⟩
theorem kJ (k:Int)(h:aH k)(w:World):Calls Tryz.prog 57 #[.int .i64 k] w fun e w'=>e= .returned (.int .i64 (grp k))/\w=w':=by
 have h1:(wrap64 (k.tmod 8+8)).tmod 8=grp k:=by
  have e:=abB k;obtain⟨a,b⟩:=h;unfold grp;rw[e];split
  ·rw[IntWalk.wrap64_in _ (by omega),Int.tmod_eq_emod_of_nonneg (by omega)];omega
  ·rw[IntWalk.wrap64_in _ (by omega),Int.tmod_eq_emod_of_nonneg (by omega)];omega
 go_enter Tryz.func57,Tryz.ntmps57;go_wp2_with fail;go_ret;exact⟨rfl,rfl⟩
theorem Po (a b:Int)(ha:aH a)(hb:aH b)(w:World):Calls Tryz.prog 55 #[.int .i64 a,.int .i64 b] w fun e w'=>e= .returned (.bool (bH a b))/\w=w':=by
 have H1:=γ ha;have H2:=γ hb;clear ha hb;by_cases h1:grp a<grp b
 ·have e:bH a b=true:=pV.2 (.inl h1)
  rw[e];clear e;go_enter Tryz.func55,Tryz.ntmps55;go_wp2_with fail;refine(kJ a H1.o _).mono ?_;rintro e w' ⟨rfl,rfl⟩;go_wp2_with fail;refine(kJ b H2.o _).mono ?_;rintro e w' ⟨rfl,rfl⟩;go_wp2_with fail;go_ret;exact⟨rfl,rfl⟩
 ·have h1':decide (grp a<grp b)=false:=decide_eq_false h1
  by_cases h2:grp a=grp b
  ·have h3:(grp a==grp b)=true:=by simp[h2]
   have e:bH a b=decide (a<b):=(by unfold bH;rw[decide_eq_false h1,decide_eq_true h2];simp);rw[e];clear e h2;by_cases h4:a<b
   ·have h5:decide (a<b)=true:=decide_eq_true h4
    rw[h5];go_enter Tryz.func55,Tryz.ntmps55;go_wp2_with fail;refine(kJ a H1.o _).mono ?_;rintro e w' ⟨rfl,rfl⟩;go_wp2_with fail;refine(kJ b H2.o _).mono ?_;rintro e w' ⟨rfl,rfl⟩;go_wp2_with fail;go_ret;exact⟨rfl,rfl⟩
   ·have h5:decide (a<b)=false:=decide_eq_false h4
    rw[h5];go_enter Tryz.func55,Tryz.ntmps55;go_wp2_with fail;refine(kJ a H1.o _).mono ?_;rintro e w' ⟨rfl,rfl⟩;go_wp2_with fail;refine(kJ b H2.o _).mono ?_;rintro e w' ⟨rfl,rfl⟩;go_wp2_with fail;go_ret;exact⟨rfl,rfl⟩
  ·have h3:(grp a==grp b)=false:=by simp[h2]
   have e:bH a b=false:=(by unfold bH;rw[decide_eq_false h1,decide_eq_false h2];rfl);rw[e];clear e h2;go_enter Tryz.func55,Tryz.ntmps55;go_wp2_with fail;refine(kJ a H1.o _).mono ?_;rintro e w' ⟨rfl,rfl⟩;go_wp2_with fail;refine(kJ b H2.o _).mono ?_;rintro e w' ⟨rfl,rfl⟩;go_wp2_with fail;go_ret;exact⟨rfl,rfl⟩
def VW (w:World)(b o:Nat)(p:Int×Cell):Prop:=
 w.cell? ⟨b,o,none⟩=some (.int .i64 p.1)/\w.cell? ⟨b,o+1,none⟩=some (.int .i64 p.2.1)/\ ∃lv,w.cell? ⟨b,o+2,none⟩=some lv/\Reads w 1 lv (ints p.2.2)
def cu (w:World)(cs:List Value)(T:Tab):Prop:=
 cs.length=T.length*3/\ ∀(i:Nat)(p:Int×Cell),T[i]?=some p->cs[i*3]?=some (.int .i64 p.1)/\cs[i*3+1]?=some (.int .i64 p.2.1)/\ ∃lv,cs[i*3+2]?=some lv/\Reads w 1 lv (ints p.2.2)
def Aq (w:World)(v:Value)(T:Tab):Prop:= ∃cs,Reads w 3 v cs/\cu w cs T
theorem cu.pure {w w':World}{cs:List Value}{T:Tab}(h:cu w cs T)(hk:ε η w w'):cu w' cs T:=
 ⟨h.1,fun i p hp=>by obtain⟨a,b,lv,c,d⟩:=h.2 i p hp;exact⟨a,b,lv,c,d.pure hk⟩⟩
theorem Aq.pure {w w':World}{v:Value}{T:Tab}(h:Aq w v T)(hk:ε η w w'):Aq w' v T:=by obtain⟨cs,h1,h2⟩:=h;exact⟨cs,h1.pure hk,h2.pure hk⟩
theorem Aq.parts {w:World}{v:Value}{T:Tab}(h:Aq w v T): ∃a cap,v= .slice a T.length cap/\T.length<=cap/\cap<=maxLen/\(T=[]\/ ∃b off,a=some ⟨b,off,none⟩/\ ∀i p,T[i]?=some p->VW w b (off+i*3) p):=by
 obtain⟨cs,⟨a,n,cap,rfl,h1,h2,h3,h4⟩,h5,h6⟩:=h;have hn:n=T.length:=(by omega);subst hn;refine⟨a,cap,rfl,h1,h2,?_⟩
 rcases h4 with h4|⟨b,off,rfl,h4⟩
 ·left
  rw[h4]at h5;exact τ (by simp at h5;omega)
 ·right
  refine⟨b,off,rfl,fun i p hp=>?_⟩;obtain⟨x,y,lv,z,t⟩:=h6 i p hp;exact⟨h4 _ _ x,h4 _ _ y,lv,h4 _ _ z,t⟩
theorem VW.pure {w w':World}{b o:Nat}{p:Int×Cell}(h:VW w b o p)(hk:ε η w w'):VW w' b o p:=by obtain⟨a,b,lv,c,d⟩:=h;exact⟨hk.cell id a,hk.cell id b,lv,hk.cell id c,d.pure hk⟩
structure RTabAt (w:World)(b:Nat)(T:Tab):Prop where
 obj: ∃v,w.heap[b]?=some (.cells #[v] 103 (0,0))/\Aq w v T
 ok:eP T
theorem RTabAt.pure {w w':World}{b:Nat}{T:Tab}(h:RTabAt w b T)(hk:ε η w w'):RTabAt w' b T:=by obtain⟨⟨v,h1,h2⟩,h3⟩:=h;exact⟨⟨v,hk.heap h1 id,h2.pure hk⟩,h3⟩
def aT (k:Int):Tab->Nat
 |[]=>0
 |p::T=>if bH p.1 k then aT k T+1 else 0
theorem wU (k:Int): ∀T:Tab,aT k T<=T.length
 |[]=>ξ _
 |p::T=>by unfold aT;split;have:=wU k T;simp;omega;exact Nat.zero_le _
theorem FD {k:Int}: ∀{T:Tab}{i:Nat}{p:Int×Cell},i<aT k T->T[i]?=some p->bH p.1 k=true
 |q::T,0,p,h,hp=>by
  cases hp;unfold aT at h;split at h
  ·assumption
  ·omega
 |q::T,i+1,p,h,hp=>by
  unfold aT at h;split at h
  ·exact FD (T:=T) (i:=i) (by omega) (by simpa using hp)
  ·omega
theorem FC {k:Int}: ∀{T:Tab}{p:Int×Cell},T[aT k T]?=some p->bH p.1 k=false
 |q::T,p,hp=>by
  unfold aT at hp;split at hp
  ·exact FC (T:=T) (by simpa using hp)
  ·rename_i h
   cases hp;simpa using h
theorem Ey {k:Int}{T:Tab}(hT:dJ T):(match T[aT k T]? with|some p=>p.1==k|none=>false)=(bY T k).isSome:=by
 induction T with
 |nil=>rfl
 |cons q T ih=>
  obtain⟨h1,h2⟩:=List.pairwise_cons.1 hT;unfold aT bY;rw[List.find?_cons];by_cases hl:bH q.1 k=true
  ·rw[if_pos hl]
   have hne:(k==q.1)=false:=(by simp;intro e;subst e;rw[bM]at hl;cases hl);rw[hne];have:=ih h2;unfold bY at this;simpa using this
  ·rw[if_neg hl]
   by_cases he:k=q.1
   ·subst he;simp
   ·have hkq:bH k q.1=true:=(jB he).resolve_right hl
    have e1:(k==q.1)=false:=(by simp[he]);have e2:(q.1==k)=false:=(by simp;exact fun e=>he e.symm);rw[e1];have:T.find? (fun p=>k==p.1)=none:=(by rw[List.find?_eq_none];intro x hx e;have:=iI hkq (h1 x hx);simp at e;rw[e,bM]at this;cases this);rw[this];simp[e2]
def afX (w:World)(n:Nat)(b:Bool)(e:Ending)(w':World):Prop:=e= .returned (.tuple #[.int .i64 (n:Int),.bool b])/\ε η w w'
theorem xM (b:Nat)(T:Tab)(k:Int)(w:World)(h:RTabAt w b T)(hk:aH k):Calls Tryz.prog 179 #[.pointer (some ⟨b,0,none⟩),.int .i64 k] w (afX w (aT k T) (bY T k).isSome):=by
 obtain⟨⟨v,dP,hrt⟩,hok⟩:=h;obtain⟨pa,iQ,rfl,hc1,hc2,hcl⟩:=hrt.parts;have c0:w.cell? ⟨b,0,none⟩=some (.slice pa T.length iQ):=ζ dP rfl;have hT:=hok.len;unfold maxLen at hc2;have HC:=γ (θ hcl hok);have HIS:=γ (Ey (k:=k) hok.rises);have HK:=γ hk;have hfl:=wU k T;clear dP hrt hcl hok hk;go_enter Tryz.func179,Tryz.ntmps179;go_wp2;go_loopg [6] T.length (fun g vi wr=> ∃i:Nat,i<=aT k T/\vi= .int .i64 (i:Int)/\T.length-i<=g/\wr=w)
 case atStart=>exact⟨0,Nat.zero_le _,rfl,by omega,rfl⟩
 case round=>
  obtain⟨i,hif,rfl,hg,rfl⟩:=hrel;by_cases hlt:i<T.length
  ·obtain⟨p,hp⟩: ∃p,T[i]?=some p:=⟨_,ι hlt⟩
   obtain⟨rb,ro,rfl,hr⟩:=HC.o.1.resolve_left (fun h=>by rw[h]at hp;cases hp);obtain⟨x0,x1,lv,x2,x3⟩:=hr i p hp;have PW:=HC.o.2.key p (ς hp);have LS:=γ (fun W=>Po p.1 k PW HK.o W);have HP:=γ hp;clear hr x1 x2 x3 PW;by_cases hii:i<aT k T
   ·have hl:=FD hii hp
    have HL:=γ hl;clear hp hl;go_wp2_with fail;(with_reducible refine(LS.o _).mono ?_);rintro e w' ⟨rfl,rfl⟩;rw[HL.o];go_wp2_with fail;go_roundg (T.length-(i+1))
    case rel=>exact⟨i+1,by omega,by go_num,ξ _,rfl⟩
    case measure=>omega
   ·have hie:i=aT k T:=by omega
    have hl:bH p.1 k=false:=FC (by rw[<-hie];exact hp);have his:(p.1==k)=(bY T k).isSome:=(by have:=HIS.o;rw[<-hie,hp]at this;exact this);have HL:=γ (θ hl (θ hie his));clear hp hl hie his;go_wp2_with fail;(with_reducible refine(LS.o _).mono ?_);rintro e w' ⟨rfl,rfl⟩;rw[HL.o.1];go_wp2_with fail;obtain⟨bb,hbb⟩: ∃bb,(p.1==k)=bb:=⟨_,rfl⟩;have HB:=γ hbb;refine ak [0,1,2,3,4,5,6,7,8,9,10,11,12,13,14,15,16,17,18,19,20,21] (fun W=>ε η wr W) (by kernel_rfl) (by kernel_rfl) rfl δ.drew ?_;simp only[abU];iterate 22 (first|(apply bf rfl;go_frame)|(apply aj rfl rfl;(intro W hW;have z0:=hW.cell id c0;have z1:=hW.cell id x0;go_simp;rfl);go_frame))
    refine aG (fun _=>δ.drew) ?_;go_wp2_with fail;go_ret2;rw[<-HL.o.2.1,<-HL.o.2.2,HB.o];exact⟨rfl,δ.drew⟩
  ·have hie:i=T.length:=by omega
   have hit:i=aT k T:=(by omega);have his:(bY T k).isSome=false:=(by have:=HIS.o;rw[<-hit,abA (by omega)]at this;exact this.symm);have HL:=γ (θ hit his);have hlt2: ¬((i:Nat):Int)<(T.length:Int):=(by omega);have hlt3:decide (i<T.length)=false:=decide_eq_false hlt;clear hie hit his;go_wp2_with fail;refine ak [0,1,2,3,4,5,6,7,8,9,10,11,12,13,14,15,16,17,18,19,20,21] (fun W=>ε η wr W) (by kernel_rfl) (by kernel_rfl) rfl δ.drew ?_;simp only[abU];iterate 22 (first|(apply bf rfl;go_frame)|(apply aj rfl rfl;(intro W hW;have z0:=hW.cell id c0;go_simp;rfl);go_frame))
   refine aG (fun _=>δ.drew) ?_;go_wp2_with fail;go_ret2;rw[<-HL.o.1,HL.o.2];exact⟨rfl,δ.drew⟩
theorem UD {T:Tab}{i:Nat}{p:Int×Cell}{g:Int}(h:T[i]?=some p):aV (T.take (i+1)) g=aV (T.take i) g+if grp p.1=g then 1 else 0:=by unfold aV;rw[ψ,h,List.countP_append];simp[List.countP_cons]
theorem BH (b:Nat)(T:Tab)(g:Int)(w:World)(h:RTabAt w b T):Calls Tryz.prog 56 #[.pointer (some ⟨b,0,none⟩),.int .i64 g] w (Is w (.int .i64 (aV T g))):=by
 obtain⟨⟨v,dP,hrt⟩,hok⟩:=h;obtain⟨pa,iQ,rfl,hc1,hc2,hcl⟩:=hrt.parts;have c0:w.cell? ⟨b,0,none⟩=some (.slice pa T.length iQ):=ζ dP rfl;have hT:=hok.len;unfold maxLen at hc2;have HC:=γ (θ hcl hok);clear dP hrt hcl hok;go_enter Tryz.func56,Tryz.ntmps56;go_wp2;go_loopg [5,6] T.length (fun gg vn vi wr=> ∃i:Nat,i<=T.length/\vi= .int .i64 (i:Int)/\vn= .int .i64 ((aV (T.take i) g:Nat):Int)/\T.length-i<=gg/\wr=w)
 case atStart=>exact⟨0,Nat.zero_le _,rfl,by simp[aV],by omega,rfl⟩
 case round=>
  obtain⟨i,hif,rfl,rfl,hg,rfl⟩:=hrel;by_cases hlt:i<T.length
  ·obtain⟨p,hp⟩: ∃p,T[i]?=some p:=⟨_,ι hlt⟩
   obtain⟨rb,ro,rfl,hr⟩:=HC.o.1.resolve_left (fun h=>by rw[h]at hp;cases hp);obtain⟨x0,x1,lv,x2,x3⟩:=hr i p hp;have PW:=HC.o.2.key p (ς hp);have hm:aV (T.take i) g<=320:=(by have h1:aV (T.take i) g<=(T.take i).length:=List.countP_le_length;have h2:=List.length_take_le' i T;omega);have HP:=γ (θ hp PW);have hst:=UD (g:=g) hp;have HS:=γ hst;obtain⟨N,hN⟩: ∃N,aV (T.take i) g=N:=⟨_,rfl⟩;rw[hN]at hm HS⊢;clear hr x1 x2 x3 PW hp hst hN;by_cases he:grp p.1=g
   ·have heb:(grp p.1==g)=true:=by simp[he]
    have HE:=γ he;clear he;go_wp2_with fail;refine(kJ p.1 HP.o.2 _).mono ?_;rintro e w' ⟨rfl,rfl⟩;go_wp2_with fail;go_roundg (T.length-(i+1))
    case rel=>exact⟨i+1,by omega,by go_num,by rw[HS.o,if_pos HE.o];go_num,ξ _,rfl⟩
    case measure=>omega
   ·have heb:(grp p.1==g)=false:=by simp[he]
    have HE:=γ he;clear he;go_wp2_with fail;refine(kJ p.1 HP.o.2 _).mono ?_;rintro e w' ⟨rfl,rfl⟩;go_wp2_with fail;go_roundg (T.length-(i+1))
    case rel=>exact⟨i+1,by omega,by go_num,by rw[HS.o,if_neg HE.o];rfl,ξ _,rfl⟩
    case measure=>omega
  ·have hie:i=T.length:=by omega
   subst hie;rw[χ (ξ _)];have hlt2: ¬((T.length:Nat):Int)<(T.length:Int):=(by omega);go_wp2_with fail;go_ret;exact⟨rfl,rfl⟩
section
variable {P:Program}
theorem EC {T E sz:Nat}(hT:P.underlying T=some (.slice E)){w:World}(hsz:(sizeOf E).run P w= .ok sz w){a:Option Addr}{n cap k:Nat}{cs:List Value}(h:Reads w sz (.slice a n cap) cs)(hk:k<=n):
 (Instr.slice T (.slice a n cap) none (some (.int .i64 (k:Int))) none).run P w= .ok (.slice a k cap) w/\Reads w sz (.slice a k cap) (cs.take (k*sz)):=by
 obtain⟨a',n',cap',e,h1,h2,h3,h4⟩:=h;cases e;have hkn:k*sz<=n*sz:=Nat.mul_le_mul_right _ hk;refine⟨?_,?_⟩
 ·have hb:(Instr.sliceBounds true n cap none (some (.int .i64 (k:Int))) none).run P w= .ok (0,k,cap) w:=by
   simp[Instr.sliceBounds,Instr.sliceBound,asIntOf];intro h;omega
  simp only[Instr.slice,Sem.run_bind,run_underlying hT,Result.andThen_ok,hb,hsz,Sem.run_pure]
  cases a with
  |none=>simp
  |some a=>simp[Addr.add]
 ·refine⟨a,k,cap,rfl,by omega,h2,by rw[υ];omega,?_⟩
  rcases h4 with rfl|⟨b,off,rfl,h4⟩
  ·left;simp
  ·right
   refine⟨b,off,rfl,fun i x hx=>h4 i x ?_⟩;rw[abO]at hx;split at hx
   ·exact hx
   ·cases hx
theorem ED {T E sz:Nat}(hT:P.underlying T=some (.slice E)){w:World}(hsz:(sizeOf E).run P w= .ok sz w){a:Option Addr}{n cap k:Nat}{cs:List Value}(h:Reads w sz (.slice a n cap) cs)(hk:k<=n):
 ∃v,(Instr.slice T (.slice a n cap) (some (.int .i64 (k:Int))) none none).run P w= .ok v w/\Reads w sz v (cs.drop (k*sz)):=by
 obtain⟨a',n',cap',e,h1,h2,h3,h4⟩:=h;cases e;have hkn:k*sz<=n*sz:=Nat.mul_le_mul_right _ hk;refine⟨.slice (if cap=k then a else a.map (·.add (k*sz))) (n-k) (cap-k),?_,?_⟩
 ·have hb:(Instr.sliceBounds true n cap (some (.int .i64 (k:Int))) none none).run P w= .ok (k,n,cap) w:=by
   simp[Instr.sliceBounds,Instr.sliceBound,asIntOf];intro h;omega
  simp only[Instr.slice,Sem.run_bind,run_underlying hT,Result.andThen_ok,hb,hsz,Sem.run_pure]
 ·refine⟨_,n-k,cap-k,rfl,by omega,by omega,by rw[List.length_drop,h3,Nat.sub_mul],?_⟩
  rcases h4 with rfl|⟨b,off,rfl,h4⟩
  ·left;simp
  ·by_cases hc:cap=k
   ·left
    exact List.drop_eq_nil_of_le (by rw[h3];exact Nat.mul_le_mul_right _ (by omega))
   ·right
    refine⟨b,off+k*sz,by rw[if_neg hc];simp only[Option.map_some];rw[Addr.add_lit],fun i x hx=>?_⟩;rw[Nat.add_assoc];rw[List.getElem?_drop]at hx;exact h4 (k*sz+i) x hx
theorem wp_append_run {w w':World}{o:Oper}{a:Act}{K:Act->World->Prop}{Q:Exit->Act->World->Prop}(s x:Operand)(t:TypeId)
 (ho:o.op= .call {callee:= .builtin .append,args:= #[s,x],argTypes:= #[t,t]}) (v u v':Value) (hs:a.eval s=v) (hx:a.eval x=u) (hr:(Builtin.append_ #[t,t] o.type #[v,u]).run P w= .ok v' w')
 (h:K (a.put o.dst v') w'):o.wp P a w K Q:=by
 unfold Oper.wp execOp;simp only[ho,resolve,invoke,builtin,Sem.run_bind,Sem.run_pure,Result.andThen_ok,List.map_toArray,Θ,Ξ,hs,hx,hr];exact h
end
theorem cu.nil (w:World):cu w [] []:=⟨rfl,fun i p h=>by cases h⟩
theorem cu.append {w:World}{cs ds:List Value}{T U:Tab}(h:cu w cs T)(k:cu w ds U):cu w (cs++ds) (T++U):=by
 refine⟨by rw[ν,ν,h.1,k.1,Nat.add_mul],fun i p hp=>?_⟩;rw[List.getElem?_append]at hp;split at hp
 ·rename_i hlt
  obtain⟨a,b,lv,c,d⟩:=h.2 i p hp;have hl:=h.1;exact⟨by rw[Ω (by omega)];exact a,by rw[Ω (by omega)];exact b,lv,by rw[Ω (by omega)];exact c,d⟩
 ·rename_i hge
  obtain⟨a,b,lv,c,d⟩:=k.2 (i-T.length) p hp;have hl:=h.1;have e0:i*3-cs.length=(i-T.length)*3:=(by omega);have e1:i*3+1-cs.length=(i-T.length)*3+1:=(by omega);have e2:i*3+2-cs.length=(i-T.length)*3+2:=(by omega);exact⟨by rw[Ψ (by omega),e0];exact a,by rw[Ψ (by omega),e1];exact b,lv,by rw[Ψ (by omega),e2];exact c,d⟩
theorem cu.take {w:World}{cs:List Value}{T:Tab}(h:cu w cs T)(k:Nat):cu w (cs.take (k*3)) (T.take k):=by
 refine⟨by rw[υ,υ,h.1];omega,fun i p hp=>?_⟩;rw[abO]at hp;split at hp
 ·obtain⟨a,b,lv,c,d⟩:=h.2 i p hp
  exact⟨by rw[abO,if_pos (by omega)];exact a,by rw[abO,if_pos (by omega)];exact b,lv,by rw[abO,if_pos (by omega)];exact c,d⟩
 ·cases hp
theorem cu.drop {w:World}{cs:List Value}{T:Tab}(h:cu w cs T)(k:Nat):cu w (cs.drop (k*3)) (T.drop k):=by
 refine⟨by rw[List.length_drop,List.length_drop,h.1,Nat.sub_mul],fun i p hp=>?_⟩;rw[List.getElem?_drop]at hp;obtain⟨a,b,lv,c,d⟩:=h.2 (k+i) p hp;refine⟨?_,?_,lv,?_,d⟩
 ·rw[List.getElem?_drop,<-a];congr 1;omega
 ·rw[List.getElem?_drop,<-b];congr 1;omega
 ·rw[List.getElem?_drop,<-c];congr 1;omega
theorem cu.one {w:World}{k acc:Int}{lv:Value}{l:List Int}(h:Reads w 1 lv (ints l)):cu w [.int .i64 k,.int .i64 acc,lv] [(k,(acc,l))]:=by
 refine⟨rfl,fun i p hp=>?_⟩
 match i,hp with
 |0,hp=>cases hp;exact⟨rfl,rfl,lv,rfl,h⟩
theorem cu.cells {w:World}{cs:List Value}{T:Tab}(h:cu w cs T): ∀x∈cs,x.oneCell'=true:=by
 intro x hx;obtain⟨j,hj,rfl⟩:=List.mem_iff_getElem.1 hx;have hl:=h.1;obtain⟨p,hp⟩: ∃p,T[j/3]?=some p:=⟨_,ι (by omega)⟩;obtain⟨a,b,lv,c,d⟩:=h.2 (j/3) p hp;have hm:j%3=0\/j%3=1\/j%3=2:=(by omega);have e:cs[j]?=some cs[j]:=ι hj
 rcases hm with hm|hm|hm
 ·rw[show j/3*3=j by omega,e]at a;injection a with a;rw[a];rfl
 ·rw[show j/3*3+1=j by omega,e]at b;injection b with b;rw[b];rfl
 ·rw[show j/3*3+2=j by omega,e]at c;injection c with c;rw[c]
  obtain⟨q,m,cap,rfl,_⟩:=d;rfl
theorem Tryz.info122: ∃i z,Tryz.prog.info? 122=some i/\i.zero=some z/\i.size=3/\i.bytes=40/\z.cells.size=3:=by have h:(Tryz.prog.info? 122).map (fun i=>(i.zero,i.size,i.bytes))=some (some (.agg #[.int .i64 0,.int .i64 0,.slice none 0 0]),3,40):=(by kernel_rfl);obtain⟨i,h1,h2,h3,h4⟩:=info_parts h;exact⟨i,_,h1,h2,h3,h4,rfl⟩
theorem wO (w:World):(sizeOf 122).run Tryz.prog w= .ok 3 w:=by kernel_rfl
theorem pJ {w:World}{base n:Nat}{v u:Value}{cs ds:List Value}(hown:w.ownsRow base 122 3 v n cs)(hr:Reads w 3 u ds)(h1: ∀x∈ds,x.oneCell'=true)(hb:base<=w.heap.size)(hlen:cs.length+ds.length<=1000000):
 ∃v' n' w',(Builtin.append_ #[101,101] 101 #[v,u]).run Tryz.prog w= .ok v' w'/\w'.ownsRow base 122 3 v' n' (cs++ds)/\n'*3=cs.length+ds.length/\w.grownBy w' v.ownBlock:=by
 obtain⟨i,z,hi,hz,hs,hby,hzs⟩:=Tryz.info122;have hn:=hown.1;obtain⟨v',n',w',g1,g2,g3,g4,g5⟩:=aW (P:=Tryz.prog) base 101 101 122 i z 3 40 Tryz.underlying101 hi hz hs hby hzs (by omega) hown hr h1 (by omega) (by unfold maxLen;omega) hb;exact⟨v',n',w',g1,g2,by omega,g4⟩
theorem Bj {k:Int}{c:Cell}: ∀{T:Tab},dJ T->gQ k c T=T.take (aT k T)++[(k,c)]++T.drop (if(bY T k).isSome then aT k T+1 else aT k T)
 |[],_=>rfl
 |q::T,h=>by
  obtain⟨h1,h2⟩:=List.pairwise_cons.1 h;have ih:=Bj (k:=k) (c:=c) h2;unfold gQ aT bY;rw[List.find?_cons];by_cases hl:bH q.1 k=true
  ·have hne:(k==q.1)=false:=by
    simp;intro e;subst e;rw[bM]at hl;cases hl
   rw[if_pos hl,if_pos hl,hne,ih];unfold bY;split<;>simp
  ·rw[if_neg hl,if_neg hl]
   by_cases he:q.1=k
   ·subst he;simp
   ·have hkq:bH k q.1=true:=(jB (fun e=>he e.symm)).resolve_right hl
    have e1:(k==q.1)=false:=(by simp;exact fun e=>he e.symm);rw[if_neg he,e1];have:T.find? (fun p=>k==p.1)=none:=(by rw[List.find?_eq_none];intro x hx e;have:=iI hkq (h1 x hx);simp at e;rw[e,bM]at this;cases this);rw[this];simp
end
