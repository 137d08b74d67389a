/- The document's expressions: whether two are the same. -/
import Derived.Test.YtglbkodmmogomaaGreatDoorM42
set_option linter.unusedVariables false
set_option linter.unusedSimpArgs false
set_option maxHeartbeats 8000000
set_option maxRecDepth 100000
namespace Go.Proofs.YtglbkodmmogomaaGreatDoor
open Go Go.RowKit
mutual
def iU:Ex->Ex->Bool
 | .mk o n l,y=>(o==y.op)&&(n==y.n)&&(l.length==y.args.length)&&jo l y.args
def jo:List Ex->List Ex->Bool
 |x::l,y::m=>iU x y&&jo l m
 |[],_=>true
 |_,[]=>true
end
theorem DU (x y:Ex):iU x y=((x.op==y.op)&&(x.n==y.n)&&(x.args.length==y.args.length)&&jo x.args y.args):=by
 cases x;rw[iU];rfl
theorem yP: ∀(l m:List Ex),(∀(k:Nat)(a b:Ex),l[k]?=some a->m[k]?=some b->iU a b=true)->jo l m=true
 |x::l,y::m,h=>by
  rw[jo,h 0 x y rfl rfl,Bool.true_and]
  exact yP l m fun k a b ha hb=>h (k+1) a b (by simpa using ha) (by simpa using hb)
 |[],_,_=>by rw[jo]
 |_::_,[],_=>by rw[jo];simp
theorem AQ: ∀(l m:List Ex)(k:Nat)(a b:Ex),l[k]?=some a->m[k]?=some b->iU a b=false->jo l m=false
 |x::l,y::m,0,a,b,ha,hb,h=>by
  rw[List.getElem?_cons_zero]at ha hb
  injection ha with ha;injection hb with hb
  rw[jo,ha,hb,h,Bool.false_and]
 |x::l,y::m,k+1,a,b,ha,hb,h=>by
  rw[List.getElem?_cons_succ]at ha hb
  rw[jo,AQ l m k a b ha hb h,Bool.and_false]
 |[],_,k,_,_,ha,_,_=>by simp at ha
 |_::_,[],k,_,_,_,hb,_=>by simp at hb
theorem CU: ∀(N:Nat)(x y:Ex)(a b:Array Value)(w:World),SizeOf.sizeOf x<=N->aC w a x->aC w b y->Calls Tryz.prog 82 #[.agg a, .agg b] w (Gives w (.bool (iU x y)))
 |0,x,_,_,_,_,h,_,_=>by cases x;simp at h
 |N+1,x,y,a,b,w,hN,h,g=>by
  obtain⟨p,cap,rfl,h0,h1,h2,h3,h4,h5⟩:=h.parts
  obtain⟨q,Xj,rfl,g0,g1,g2,g3,g4,g5⟩:=g.parts
  have sub: ∀(i:Nat)(z:Ex),x.args[i]?=some z->SizeOf.sizeOf z<=N:=by
   intro i y hy
   obtain⟨op,n,args⟩:=x
   have h1:=List.sizeOf_lt_of_mem (List.mem_of_getElem? (show args[i]?=some y from hy))
   simp at hN
   omega
  have IH:=Lib.hid (fun x y a b w hy=>CU N x y a b w hy)
  have SB:=Lib.hid sub
  have H5:=Lib.hid h5
  have G5:=Lib.hid g5
  have HX:=Lib.hid (DU x y)
  unfold maxLen at h4 g4
  unfold bF at h2 g2
  obtain⟨h2,h2'⟩:=h2
  obtain⟨g2,g2'⟩:=g2
  clear h h5 g g5 sub hN
  by_cases c0:x.op=y.op
  ·have b0:(x.op !=y.op)=false:=by simp[c0]
   by_cases c1:x.n=y.n
   ·have b1:(x.n !=y.n)=false:=by simp[c1]
    by_cases c2:x.args.length=y.args.length
    ·have b2:((x.args.length:Int) !=(y.args.length:Int))=false:=by simp[c2]
     have HS:=Lib.hid (show iU x y=jo x.args y.args by rw[HX.out];simp[c0,c1,c2])
     clear c0 c1
     have C2:=Lib.hid c2
     clear c2
     go_enter Tryz.func82,Tryz.ntmps82
     go_wp2_with fail
     obtain⟨W0,hW0⟩: ∃W0,(w.alloc (.cells #[.int .u8 x.op, .int .i64 x.n, .slice p x.args.length cap] 40)).alloc (.cells #[.int .u8 y.op, .int .i64 y.n, .slice q y.args.length Xj] 40)=W0:=⟨_,rfl⟩
     have k0:Kept none' w W0:=by rw[<-hW0];exact((Kept.refl _ _).alloc _).alloc _
     have d0:W0.cell? ⟨w.heap.size,0,none⟩=some (.int .u8 x.op):=by rw[<-hW0];simp
     have d1:W0.cell? ⟨w.heap.size,1,none⟩=some (.int .i64 x.n):=by rw[<-hW0];simp
     have d2:W0.cell? ⟨w.heap.size,2,none⟩=some (.slice p x.args.length cap):=by rw[<-hW0];simp
     have e0:W0.cell? ⟨w.heap.size+1,0,none⟩=some (.int .u8 y.op):=by rw[<-hW0];simp
     have e1:W0.cell? ⟨w.heap.size+1,1,none⟩=some (.int .i64 y.n):=by rw[<-hW0];simp
     have e2:W0.cell? ⟨w.heap.size+1,2,none⟩=some (.slice q y.args.length Xj):=by rw[<-hW0];simp
     (try simp only[World.VH,World.size_alloc,Array.size_push]at*)
     rw[hW0]
     have KF:=Lib.hid k0
     clear hW0 k0
     go_loopg [5] x.args.length (fun g vi wr=> ∃(k:Nat),k<=x.args.length/\vi= .int .i64 (k:Int)/\x.args.length-k<=g/\(∀(j:Nat)(a b:Ex),j<k->x.args[j]?=some a->y.args[j]?=some b->iU a b=true)/\Kept none' W0 wr)
     case atStart=>exact⟨0,by omega,rfl,by omega,by intro j a b h;omega,Kept.refl _ _⟩
     case round=>
      obtain⟨k,hkl,rfl,hg,hall,hkp⟩:=hrel
      have Xg:=hkp.cell (p:=⟨w.heap.size,2,none⟩) (fun h=>h) d2
      have e2':=hkp.cell (p:=⟨w.heap.size+1,2,none⟩) (fun h=>h) e2
      have Oy:=Lib.hid hkp
      have hW:=(KF.out.trans hkp:Kept none' w wr)
      clear hkp
      by_cases hlt:k<x.args.length
      ·obtain⟨u,hu⟩: ∃u,x.args[k]?=some u:=⟨_,List.getElem?_eq_getElem hlt⟩
       obtain⟨v,hv⟩: ∃v,y.args[k]?=some v:=⟨_,List.getElem?_eq_getElem (by have:=C2.out;omega)⟩
       have hlt2:k<y.args.length:=by have:=C2.out;omega
       obtain⟨b,off,p',cap',rfl,q0,q1,q2,hy2⟩:=H5.out k u hu
       obtain⟨b',off',p'',cap'',rfl,q0',q1',q2',TT⟩:=G5.out k v hv
       have r0:=hW.cell (p:=⟨b,off+k*3,none⟩) (fun h=>h) q0
       have r1:=hW.cell (p:=⟨b,off+k*3+1,none⟩) (fun h=>h) q1
       have r2:=hW.cell (p:=⟨b,off+k*3+2,none⟩) (fun h=>h) q2
       have s0:=hW.cell (p:=⟨b',off'+k*3,none⟩) (fun h=>h) q0'
       have s1:=hW.cell (p:=⟨b',off'+k*3+1,none⟩) (fun h=>h) q1'
       have s2:=hW.cell (p:=⟨b',off'+k*3+2,none⟩) (fun h=>h) q2'
       have G:=Lib.hid (And.intro hg (And.intro (aC.pure hW hy2) (And.intro (aC.pure hW TT) (And.intro (SB.out k u hu) (And.intro hu (And.intro hv hall))))))
       have KW:=Lib.hid hW
       clear q0 q1 q2 hy2 q0' q1' q2' TT hW hg hall hu hv
       go_wp2_with fail
       refine ak [0,1,2,3,4,5,6,7,8,9,10,11] (fun W=>Kept none' wr W) (by kernel_rfl) (by kernel_rfl) rfl (Kept.refl _ _).drew ?_
       simp only[List.map_cons,List.map_nil,List.getElem?_toArray,List.getElem?_cons_zero,List.getElem?_cons_succ,Option.getD_some]
       iterate 10 (apply aj rfl rfl;(intro W hW;have z0:=hW.cell (fun h=>h) Xg;have z1:=hW.cell (fun h=>h) e2';have t0:=hW.cell (fun h=>h) r0;have t1:=hW.cell (fun h=>h) r1;have t2:=hW.cell (fun h=>h) r2;have t3:=hW.cell (fun h=>h) s0;have t4:=hW.cell (fun h=>h) s1;have t5:=hW.cell (fun h=>h) s2;go_simp;rfl);go_frame)
       apply aB rfl rfl
       intro K hK
       go_wp2_with fail
       have c:=IH.out u v _ _ _ G.out.2.2.2.1 (aC.pure (Kept.refl _ _).drew G.out.2.1) (aC.pure (Kept.refl _ _).drew G.out.2.2.1)
       (with_reducible refine c.mono ?_)
       clear c
       rintro e w2 ⟨rfl,k2⟩
       have k2':Kept none' wr w2:=k2.bP
       have K2:=Lib.hid (And.intro (KW.out.trans k2') (Oy.out.trans k2'))
       obtain⟨B,hB⟩: ∃B,iU u v=B:=⟨_,rfl⟩
       rw[hB]
       go_wp2_with fail
       refine hK _ _ (fun _=>k2') ?_
       clear hK k2
       (apply aj rfl rfl;(intro W hW;go_simp;rfl);go_frame)
       refine aG (fun _=>k2') ?_
       clear k2'
       cases B with
       |false=>
        have F:=Lib.hid (show iU x y=false by rw[HS.out];exact AQ _ _ k u v G.out.2.2.2.2.1 G.out.2.2.2.2.2.1 hB)
        clear hB
        go_wp2_with fail
        go_ret
        exact⟨aF F.out.symm,K2.out.1⟩
       |true=>
        have F:=Lib.hid hB
        clear hB
        go_wp2_with fail
        go_roundg (x.args.length-(k+1))
        case rel=>
         refine⟨k+1,by omega,by go_num,Nat.le_refl _,?_,K2.out.2⟩
         intro j a b hj ha hb
         by_cases hjk:j<k
         ·exact G.out.2.2.2.2.2.2 j a b hjk ha hb
         ·obtain rfl:j=k:=by omega
          have e1:=G.out.2.2.2.2.1
          have e2:=G.out.2.2.2.2.2.1
          rw[e1]at ha;rw[e2]at hb
          injection ha with ha;injection hb with hb
          subst ha;subst hb
          exact F.out
        case measure=>have:=G.out.1;omega
      ·have F:=Lib.hid (show iU x y=true by
        rw[HS.out]
        refine yP _ _ fun j a b ha hb=>hall j a b ?_ ha hb
        have:j<x.args.length:=by rcases Nat.lt_or_ge j x.args.length with h'|h';exact h';rw[List.getElem?_eq_none h']at ha;cases ha
        omega)
       have KF2:=Lib.hid hW
       clear hall hW hg
       go_wp2_with fail
       go_ret
       exact⟨aF F.out.symm,KF2.out⟩
    ·have b2:((x.args.length:Int) !=(y.args.length:Int))=true:=by simp only[bne_iff_ne,ne_eq];omega
     have F:=Lib.hid (show iU x y=false by rw[HX.out];simp[c2])
     clear c2
     go_enter Tryz.func82,Tryz.ntmps82
     go_wp2_with fail
     go_ret
     exact⟨aF F.out.symm,((Kept.refl _ _).alloc _).alloc _⟩
   ·have b1:(x.n !=y.n)=true:=by simp only[bne_iff_ne,ne_eq];omega
    have F:=Lib.hid (show iU x y=false by rw[HX.out];simp[c1])
    clear c1
    go_enter Tryz.func82,Tryz.ntmps82
    go_wp2_with fail
    go_ret
    exact⟨aF F.out.symm,((Kept.refl _ _).alloc _).alloc _⟩
  ·have b0:(x.op !=y.op)=true:=by simp only[bne_iff_ne,ne_eq];omega
   have F:=Lib.hid (show iU x y=false by rw[HX.out];simp[c0])
   clear c0
   go_enter Tryz.func82,Tryz.ntmps82
   go_wp2_with fail
   go_ret
   exact⟨aF F.out.symm,((Kept.refl _ _).alloc _).alloc _⟩
theorem wM (x:Ex)(a:Array Value)(L:Int)(w:World)(hL0:1<=L)(hL:L<=17)(h:aC w a x)
 (hno:arity x.op≠x.args.length\/x.n<0\/x.n≠0/\x.op≠1):Calls Tryz.prog 241 #[.agg a, .int .i64 L] w (Gives w (.bool false)):=by
 obtain⟨p,cap,rfl,h0,h1,h2,h3,h4,h5⟩:=h.parts
 have hk:Kept none' w (w.alloc (.cells #[.int .u8 x.op, .int .i64 x.n, .slice p x.args.length cap] 40)):=(Kept.refl _ _).alloc _
 obtain⟨W0,hW0⟩: ∃W0,w.alloc (.cells #[.int .u8 x.op, .int .i64 x.n, .slice p x.args.length cap] 40)=W0:=⟨_,rfl⟩
 have d0:W0.cell? ⟨w.heap.size,0,none⟩=some (.int .u8 x.op):=by rw[<-hW0];simp
 have d1:W0.cell? ⟨w.heap.size,1,none⟩=some (.int .i64 x.n):=by rw[<-hW0];simp
 have d2:W0.cell? ⟨w.heap.size,2,none⟩=some (.slice p x.args.length cap):=by rw[<-hW0];simp
 have HK:=Lib.hid hk
 have HW0:=Lib.hid hW0
 unfold bF at h2
 unfold maxLen at h4
 obtain⟨h2,h2'⟩:=h2
 have hL1:(L==0)=false:=by simp;omega
 clear hk h h5 hW0
 by_cases c0:18<x.op
 ·have g18:decide (18<x.op)=true:=decide_eq_true c0
  clear hno c0
  go_enter Tryz.func241,Tryz.ntmps241
  go_wp2_with fail
  rw[HW0.out]
  refine ak [0,1,2,3,4,5,7,8,9,6,10,11,12,13,14,15,16,17,18,19,20,21,22,23,24,25,26] (fun W=>Kept none' W0 W) (by kernel_rfl) (by kernel_rfl) rfl (Kept.refl _ _).drew ?_
  simp only[List.map_cons,List.map_nil,List.getElem?_toArray,List.getElem?_cons_zero,List.getElem?_cons_succ,Option.getD_some]
  iterate 9 (first|(apply aV rfl;go_frame)|(apply aj rfl rfl;(intro W hW;have z0:=hW.cell (fun h=>h) d0;have z1:=hW.cell (fun h=>h) d1;have z2:=hW.cell (fun h=>h) d2;go_simp;rfl);go_frame))
  iterate 18 (first|(apply aV rfl;go_frame)|(apply aj rfl rfl;(intro W hW;have z0:=hW.cell (fun h=>h) d0;have z1:=hW.cell (fun h=>h) d1;have z2:=hW.cell (fun h=>h) d2;go_simp;rfl);go_frame))
  refine aG (fun _=>(Kept.refl _ _).drew) ?_
  go_wp2_with fail
  go_ret
  exact⟨rfl,HK.out.trans (by rw[HW0.out];exact(Kept.refl _ _).drew)⟩
 have g18:decide (18<x.op)=false:=decide_eq_false c0
 have HM:=Lib.hid (C9 x.op h0 (by omega))
 by_cases c1:arity x.op=x.args.length
 ·have f1:(arity x.op !=(x.args.length:Int))=false:=by rw[c1];simp
  by_cases c2:x.n<0
  ·have g2:decide (x.n<0)=true:=decide_eq_true c2
   clear hno c1 c0
   go_enter Tryz.func241,Tryz.ntmps241
   go_wp2_with fail
   rw[HW0.out]
   refine ak [0,1,2,3,4,5,7,8,9,6,10,11,12,13,14,15,16,17,18,19,20,21,22,23,24,25,26] (fun W=>Kept none' W0 W) (by kernel_rfl) (by kernel_rfl) rfl (Kept.refl _ _).drew ?_
   simp only[List.map_cons,List.map_nil,List.getElem?_toArray,List.getElem?_cons_zero,List.getElem?_cons_succ,Option.getD_some]
   iterate 9 (first|(apply aV rfl;go_frame)|(apply aj rfl rfl;(intro W hW;have z0:=hW.cell (fun h=>h) d0;have z1:=hW.cell (fun h=>h) d1;have z2:=hW.cell (fun h=>h) d2;go_simp;rfl);go_frame))
   apply aB rfl rfl
   intro K hK
   go_wp2_with fail
   (with_reducible refine(HM.out _).mono ?_)
   rintro e W2 ⟨rfl,k2⟩
   have k2':Kept none' W0 W2:=k2.bP
   clear k2
   go_wp2_with fail
   refine hK _ _ (fun _=>k2') ?_
   clear hK
   iterate 17 (first|(apply aV rfl;go_frame)|(apply aj rfl rfl;(intro W hW;have z0:=hW.cell (fun h=>h) d0;have z1:=hW.cell (fun h=>h) d1;have z2:=hW.cell (fun h=>h) d2;go_simp;rfl);go_frame))
   refine aG (fun _=>k2') ?_
   go_wp2_with fail
   go_ret
   exact⟨rfl,HK.out.trans (by rw[HW0.out];exact k2')⟩
  have g2:decide (x.n<0)=false:=decide_eq_false c2
  have c3:x.n≠0/\x.op≠1:=by
   rcases hno with hn|hn|hn
   ·exact absurd c1 hn
   ·exact absurd hn c2
   ·exact hn
  have g3:(x.n !=0)=true:=by simp[c3.1]
  have f4:(x.op !=1)=true:=by simp[c3.2]
  clear c1 c3 hno c0 c2
  go_enter Tryz.func241,Tryz.ntmps241
  go_wp2_with fail
  rw[HW0.out]
  refine ak [0,1,2,3,4,5,7,8,9,6,10,11,12,13,14,15,16,17,18,19,20,21,22,23,24,25,26] (fun W=>Kept none' W0 W) (by kernel_rfl) (by kernel_rfl) rfl (Kept.refl _ _).drew ?_
  simp only[List.map_cons,List.map_nil,List.getElem?_toArray,List.getElem?_cons_zero,List.getElem?_cons_succ,Option.getD_some]
  iterate 9 (first|(apply aV rfl;go_frame)|(apply aj rfl rfl;(intro W hW;have z0:=hW.cell (fun h=>h) d0;have z1:=hW.cell (fun h=>h) d1;have z2:=hW.cell (fun h=>h) d2;go_simp;rfl);go_frame))
  apply aB rfl rfl
  intro K hK
  go_wp2_with fail
  (with_reducible refine(HM.out _).mono ?_)
  rintro e W2 ⟨rfl,k2⟩
  have k2':Kept none' W0 W2:=k2.bP
  clear k2
  go_wp2_with fail
  refine hK _ _ (fun _=>k2') ?_
  clear hK
  iterate 17 (first|(apply aV rfl;go_frame)|(apply aj rfl rfl;(intro W hW;have z0:=hW.cell (fun h=>h) d0;have z1:=hW.cell (fun h=>h) d1;have z2:=hW.cell (fun h=>h) d2;go_simp;rfl);go_frame))
  refine aG (fun _=>k2') ?_
  go_wp2_with fail
  go_ret
  exact⟨rfl,HK.out.trans (by rw[HW0.out];exact k2')⟩
 ·have f1:(arity x.op !=(x.args.length:Int))=true:=by simp[c1]
  clear c1 hno c0
  go_enter Tryz.func241,Tryz.ntmps241
  go_wp2_with fail
  rw[HW0.out]
  refine ak [0,1,2,3,4,5,7,8,9,6,10,11,12,13,14,15,16,17,18,19,20,21,22,23,24,25,26] (fun W=>Kept none' W0 W) (by kernel_rfl) (by kernel_rfl) rfl (Kept.refl _ _).drew ?_
  simp only[List.map_cons,List.map_nil,List.getElem?_toArray,List.getElem?_cons_zero,List.getElem?_cons_succ,Option.getD_some]
  iterate 9 (first|(apply aV rfl;go_frame)|(apply aj rfl rfl;(intro W hW;have z0:=hW.cell (fun h=>h) d0;have z1:=hW.cell (fun h=>h) d1;have z2:=hW.cell (fun h=>h) d2;go_simp;rfl);go_frame))
  apply aB rfl rfl
  intro K hK
  go_wp2_with fail
  (with_reducible refine(HM.out _).mono ?_)
  rintro e W2 ⟨rfl,k2⟩
  have k2':Kept none' W0 W2:=k2.bP
  clear k2
  go_wp2_with fail
  refine hK _ _ (fun _=>k2') ?_
  clear hK
  iterate 17 (first|(apply aV rfl;go_frame)|(apply aj rfl rfl;(intro W hW;have z0:=hW.cell (fun h=>h) d0;have z1:=hW.cell (fun h=>h) d1;have z2:=hW.cell (fun h=>h) d2;go_simp;rfl);go_frame))
  refine aG (fun _=>k2') ?_
  go_wp2_with fail
  go_ret
  exact⟨rfl,HK.out.trans (by rw[HW0.out];exact k2')⟩
def D7 (f:Nat):Prop:= ∀(x:Ex)(a:Array Value)(L:Int)(w:World),L=f->f<=17->aC w a x->Calls Tryz.prog 241 #[.agg a, .int .i64 L] w (Gives w (.bool (dX f x)))
theorem J4 (f:Nat)(ih:D7 f)(x:Ex)(a:Array Value)(L:Int)(w:World)(hL:L=((f+1:Nat):Int))(hf:f+1<=17)(h:aC w a x)
 (c1:arity x.op=x.args.length) (c2: ¬x.n<0) (c3: ¬(x.n≠0/\x.op≠1)):Calls Tryz.prog 241 #[.agg a, .int .i64 L] w (Gives w (.bool (dX (f+1) x))):=by
 have hx:dX (f+1) x=x.args.all (dX f):=by
  rw[nZ]
  have e1:decide (arity x.op=x.args.length)=true:=decide_eq_true c1
  have e2:decide (0<=x.n)=true:=decide_eq_true (by omega)
  have e3:decide (x.n=0\/x.op=1)=true:=decide_eq_true (by omega)
  rw[e1,e2,e3];rfl
 rw[hx]
 obtain⟨p,cap,rfl,h0,h1,h2,h3,h4,h5⟩:=h.parts
 have hk:Kept none' w (w.alloc (.cells #[.int .u8 x.op, .int .i64 x.n, .slice p x.args.length cap] 40)):=(Kept.refl _ _).alloc _
 obtain⟨W0,hW0⟩: ∃W0,w.alloc (.cells #[.int .u8 x.op, .int .i64 x.n, .slice p x.args.length cap] 40)=W0:=⟨_,rfl⟩
 have d0:W0.cell? ⟨w.heap.size,0,none⟩=some (.int .u8 x.op):=by rw[<-hW0];simp
 have d1:W0.cell? ⟨w.heap.size,1,none⟩=some (.int .i64 x.n):=by rw[<-hW0];simp
 have d2:W0.cell? ⟨w.heap.size,2,none⟩=some (.slice p x.args.length cap):=by rw[<-hW0];simp
 have HK:=Lib.hid hk
 have HW0:=Lib.hid hW0
 unfold bF at h2
 unfold maxLen at h4
 obtain⟨h2,h2'⟩:=h2
 have f1:(arity x.op !=(x.args.length:Int))=false:=by rw[c1];simp
 have hL1:1<=L:=by omega
 have hL2:L<=17:=by omega
 have f6:(L==0)=false:=by simp;omega
 have g2:decide (x.n<0)=false:=decide_eq_false c2
 have c0:x.op<=18:=by
  rcases Int.lt_or_le 18 x.op with c|c
  ·unfold arity at c1;rw[if_pos (.inr c)]at c1;omega
  ·exact c
 have g18:decide (18<x.op)=false:=decide_eq_false (by omega)
 have HM:=Lib.hid (C9 x.op h0 c0)
 have IH:=Lib.hid ih
 have HL:=Lib.hid hL
 have H5:=Lib.hid h5
 clear hk h h5 hW0 hx c1 ih hL
 have main:((x.n !=0)=false\/(x.n !=0)=true/\(x.op !=1)=false)->Calls Tryz.prog 241 #[.agg #[.int .u8 x.op, .int .i64 x.n, .slice p x.args.length cap], .int .i64 L] w (Gives w (.bool (x.args.all (dX f)))):=by
  clear c3
  rintro(f3|⟨f3,f4⟩)
  all_goals
   go_enter Tryz.func241,Tryz.ntmps241
   go_wp2_with fail
   rw[HW0.out]
   refine ak [0,1,2,3,4,5,7,8,9,6,10,11,12,13,14,15,16,17,18,19,20,21,22,23,24,25,26] (fun W=>Kept none' W0 W) (by kernel_rfl) (by kernel_rfl) rfl (Kept.refl _ _).drew ?_
   simp only[List.map_cons,List.map_nil,List.getElem?_toArray,List.getElem?_cons_zero,List.getElem?_cons_succ,Option.getD_some]
   iterate 9 (first|(apply aV rfl;go_frame)|(apply aj rfl rfl;(intro W hW;have z0:=hW.cell (fun h=>h) d0;have z1:=hW.cell (fun h=>h) d1;have z2:=hW.cell (fun h=>h) d2;go_simp;rfl);go_frame))
   apply aB rfl rfl
   intro K hK
   go_wp2_with fail
   (with_reducible refine(HM.out _).mono ?_)
   rintro e W2 ⟨rfl,k2⟩
   have k2':Kept none' W0 W2:=k2.bP
   clear k2
   go_wp2_with fail
   refine hK _ _ (fun _=>k2') ?_
   clear hK
   iterate 17 (first|(apply aV rfl;go_frame)|(apply aj rfl rfl;(intro W hW;have z0:=hW.cell (fun h=>h) d0;have z1:=hW.cell (fun h=>h) d1;have z2:=hW.cell (fun h=>h) d2;go_simp;rfl);go_frame))
   refine aG (fun _=>k2') ?_
   go_wp2_with fail
   obtain⟨W1,hW1⟩: ∃W1,W2=W1:=⟨_,rfl⟩
   rw[hW1]at k2'
   have KK:=Lib.hid (HK.out.trans (by rw[HW0.out];exact k2'))
   have HW1:=Lib.hid k2'
   rw[hW1]
   clear hW1 k2'
   go_loopg [5] x.args.length (fun g vi wr=> ∃k:Nat,k<=x.args.length/\vi= .int .i64 (k:Int)/\x.args.length-k<=g/\(x.args.take k).all (dX f)=true/\Kept none' W0 wr)
   case atStart=>exact⟨0,by omega,rfl,by omega,by simp,HW1.out⟩
   case round=>
    obtain⟨k,hkl,rfl,hg,ht,hkp⟩:=hrel
    have HT:=Lib.hid (And.intro hg ht)
    clear hg ht
    have dd:=hkp.cell (p:=⟨w.heap.size,2,none⟩) (fun h=>h) d2
    by_cases hlt:k<x.args.length
    ·obtain⟨y,hy⟩: ∃y,x.args[k]?=some y:=⟨_,List.getElem?_eq_getElem hlt⟩
     obtain⟨b,off,p',cap',rfl,q0,q1,q2,hy2⟩:=H5.out k y hy
     have hW:=(HK.out.trans (by rw[HW0.out];exact hkp):Kept none' w wr)
     have r0:=hW.cell (p:=⟨b,off+k*3,none⟩) (fun h=>h) q0
     have r1:=hW.cell (p:=⟨b,off+k*3+1,none⟩) (fun h=>h) q1
     have r2:=hW.cell (p:=⟨b,off+k*3+2,none⟩) (fun h=>h) q2
     have HY:=Lib.hid (And.intro hy (aC.pure hW hy2))
     have tH:=Lib.hid (And.intro hW hkp)
     clear q0 q1 q2 hy hy2 hW hkp H5
     go_wp2_with fail
     have c:=IH.out y _ (L-1) wr (by have:=HL.out;omega) (by omega) HY.out.2
     (with_reducible refine c.mono ?_)
     clear c
     rintro e w2 ⟨rfl,k3⟩
     have yX:=Lib.hid k3
     clear k3
     cases hm:dX f y with
     |false=>
      have He:=Lib.hid hm
      clear hm
      go_wp2_with fail
      go_ret
      exact⟨aF (Je HY.out.1 He.out).symm,tH.out.1.trans yX.out⟩
     |true=>
      have He:=Lib.hid hm
      clear hm
      go_wp2_with fail
      go_roundg (x.args.length-(k+1))
      case rel=>exact⟨k+1,by omega,by go_num,Nat.le_refl _,wG HY.out.1 HT.out.2 He.out,tH.out.2.trans yX.out⟩
      case measure=>have:=HT.out.1;omega
    ·go_wp2_with fail
     go_ret
     exact⟨aF (yU HT.out.2 (by omega)).symm,HK.out.trans (by rw[HW0.out];exact hkp)⟩
 clear HM HW0 HK d0 d1 d2
 apply main
 by_cases c4:x.n=0
 ·left;simp[c4]
 ·right
  have:x.op=1:=by omega
  simp[this,c4]
theorem zT: ∀f,D7 f
 |0=>fun x a L w hL hf h=>by
  obtain⟨p,cap,rfl,h0,h1,h2,h3,h4,h5⟩:=h.parts
  subst hL
  clear h5 h
  unfold maxLen at h4
  have e:dX 0 x=true:=by cases x;rfl
  rw[e]
  go_enter Tryz.func241,Tryz.ntmps241
  go_wp2_with fail
  go_ret
  exact⟨rfl,(Kept.refl _ _).alloc _⟩
 |f+1=>fun x a L w hL hf h=>by
  by_cases c1:arity x.op=x.args.length
  ·by_cases c2:x.n<0
   ·have e:dX (f+1) x=false:=by rw[nZ];simp;omega
    rw[e];exact wM x a L w (by omega) (by omega) h (.inr (.inl c2))
   ·by_cases c3:x.n≠0/\x.op≠1
    ·have e:dX (f+1) x=false:=by rw[nZ];simp;omega
     rw[e];exact wM x a L w (by omega) (by omega) h (.inr (.inr c3))
    ·exact J4 f (zT f) x a L w hL hf h c1 c2 c3
  ·have e:dX (f+1) x=false:=by rw[nZ];simp[c1]
   rw[e];exact wM x a L w (by omega) (by omega) h (.inl c1)
end Go.Proofs.YtglbkodmmogomaaGreatDoor
