/- What expressions are, in plain words: whether they may be, their types, what they come to. -/
import Derived.Test.YtakhobfamnjnoaaGreatDoorB17
set_option linter.unusedVariables false
set_option linter.unusedSimpArgs false
set_option maxHeartbeats 1000000
set_option maxRecDepth 100000
namespace Go.Proofs.YtakhobfamnjnoaaGreatDoor
section
open Go Go.RowKit
inductive bP (w:World):Array Value->Ex->Prop
 |mk {op n:Int} {sl:Value} {args:List Ex} {cs:List Value}:0<=op->op<=255->aS n->Reads w 3 sl cs->cs.length=args.length*3->
   (∀i x,args[i]?=some x->bP w ((cs.drop (i*3)).take 3).toArray x)->bP w #[.int .u8 op, .int .i64 n,sl] (.mk op n args)
theorem bP.kept {w w':World}{S:Nat->Prop}(hk:Kept S w w')(hS: ∀k,S k-> ∀c E f,w.heap[k]?≠some (.cells c E f)){a:Array Value}{x:Ex}(h:bP w a x):bP w' a x:=by
 induction h with
 |mk h1 h2 h3 h4 h5 _ ih=>exact .mk h1 h2 h3 (h4.kept hk (fun b hb hs=>by obtain⟨c,E,f,h⟩:=h4.isCells (by omega) hb;exact hS b hs c E f h)) h5 ih
theorem bP.pure {w w':World}(hk:Kept none' w w'){a:Array Value}{x:Ex}(h:bP w a x):bP w' a x:=h.kept hk (fun _ h=>h.elim)
theorem bP.parts {w:World}{a:Array Value}{x:Ex}(h:bP w a x): ∃p cap,a= #[.int .u8 x.op, .int .i64 x.n, .slice p x.args.length cap]/\0<=x.op/\x.op<=255/\aS x.n/\x.args.length<=cap/\cap<=maxLen/\
 ∀i y,x.args[i]?=some y-> ∃b off p' cap',p=some ⟨b,off,none⟩/\w.cell? ⟨b,off+i*3,none⟩=some (.int .u8 y.op)/\w.cell? ⟨b,off+i*3+1,none⟩=some (.int .i64 y.n)/\
  w.cell? ⟨b,off+i*3+2,none⟩=some (.slice p' y.args.length cap')/\bP w #[.int .u8 y.op, .int .i64 y.n, .slice p' y.args.length cap'] y:=by
 cases h with
 | @mk op n sl args cs h1 h2 h3 h4 h5 h6=>
   obtain⟨p,m,cap,rfl,g1,g2,g3,g4⟩:=h4
   have hm:m=args.length:=by omega
   subst hm
   refine⟨p,cap,rfl,h1,h2,h3,g1,g2,fun i y hy=>?_⟩
   have hi:i<args.length:=(List.getElem?_eq_some_iff.1 hy).1
   simp only[Ex.args]at hy
   have e:=h6 i y hy
   have hne:cs≠[]:=fun e=>by rw[e]at h5;simp at h5;omega
   obtain⟨b,off,rfl,hc⟩:=g4.resolve_left hne
   cases e2:y with
   |mk op' n' args'=>
    subst e2
    obtain⟨v0,v1,v2,hd⟩: ∃v0 v1 v2,(cs.drop (i*3)).take 3=[v0,v1,v2]:=by
     have hlen:((cs.drop (i*3)).take 3).length=3:=by rw[List.length_take,List.length_drop];omega
     match(cs.drop (i*3)).take 3,hlen with
     |[v0,v1,v2],_=>exact⟨v0,v1,v2,rfl⟩
    have get: ∀j v,[v0,v1,v2][j]?=some v->cs[i*3+j]?=some v:=by
     intro j v hj
     rw[<-hd,List.getElem?_take]at hj
     split at hj
     ·rwa[List.getElem?_drop]at hj
     ·cases hj
    rw[hd]at e
    have e':=e
    cases hq:e with
    | @mk _ _ sl' _ cs' k1 k2 k3 k4 k5 k6=>
      obtain⟨p',m',cap',rfl,q1,q2,q3,q4⟩:=k4
      have hm:m'=args'.length:=by omega
      subst hm
      refine⟨b,off,p',cap',rfl,?_,?_,?_,e'⟩
      ·exact hc _ _ (get 0 _ rfl)
      ·have:=hc _ _ (get 1 _ rfl);rwa[<-Nat.add_assoc]at this
      ·have:=hc _ _ (get 2 _ rfl);rwa[<-Nat.add_assoc]at this
theorem Qo (op:Int)(h0:0<=op)(h1:op<=255)(w:World):Calls Tryz.prog 373 #[.int .u8 op] w fun e w'=>e= .returned (.int .i64 (arity op))/\w=w':=by
 by_cases a0:op=0
 ·subst a0
  go_enter Tryz.func373,Tryz.ntmps373
  go_wp2_with fail
  go_ret
  exact⟨rfl,rfl⟩
 ·have b0:(op==0)=false:=by simp[a0]
  by_cases a1:18<op
  ·have e1:arity op= -1:=by unfold arity;rw[if_pos (.inr a1)]
   rw[e1]
   clear e1
   go_enter Tryz.func373,Tryz.ntmps373
   go_wp2_with fail
   go_ret
   exact⟨rfl,rfl⟩
  ·by_cases a2:op<=4
   ·have e1:arity op=0:=by unfold arity;rw[if_neg (by omega),if_pos a2]
    rw[e1]
    clear e1
    go_enter Tryz.func373,Tryz.ntmps373
    go_wp2_with fail
    go_ret
    exact⟨rfl,rfl⟩
   ·by_cases a3:op<=6
    ·have e1:arity op=1:=by unfold arity;rw[if_neg (by omega),if_neg a2,if_pos a3]
     rw[e1]
     clear e1
     go_enter Tryz.func373,Tryz.ntmps373
     go_wp2_with fail
     go_ret
     exact⟨rfl,rfl⟩
    ·by_cases a4:op=18
     ·subst a4
      go_enter Tryz.func373,Tryz.ntmps373
      go_wp2_with fail
      go_ret
      exact⟨rfl,rfl⟩
     ·have e1:arity op=2:=by unfold arity;rw[if_neg (by omega),if_neg a2,if_neg a3,if_neg a4]
      have b4:(op==18)=false:=by simp[a4]
      rw[e1]
      clear e1
      go_enter Tryz.func373,Tryz.ntmps373
      go_wp2_with fail
      go_ret
      exact⟨rfl,rfl⟩
end
section
open Go Go.RowKit
attribute [local irreducible] jm Pj
theorem dS {a b:Bool}(h:a=b):Ending.returned (.bool a)= .returned (.bool b):=by rw[h]
theorem JX {α:Type}{l:List α}{k:Nat}{x:α}{p:α->Bool}(h:l[k]?=some x)(ht:(l.take k).all p=true)(hx:p x=true):(l.take (k+1)).all p=true:=by
 rw[List.take_add_one,h,List.all_append,ht];simp[hx]
theorem O9 {α:Type}{l:List α}{k:Nat}{p:α->Bool}(ht:(l.take k).all p=true)(hk:l.length<=k):l.all p=true:=by
 rwa[List.take_of_length_le hk]at ht
theorem aah {α:Type}{l:List α}{k:Nat}{x:α}{p:α->Bool}(h:l[k]?=some x)(hx:p x=false):l.all p=false:=by
 rw[List.all_eq_false];exact⟨x,List.mem_of_getElem? h,by simp[hx]⟩
theorem zl (f:Nat)(x:Ex):eU (f+1) x=(decide (arity x.op=x.args.length)&&decide (0<=x.n)&&decide (x.n=0\/x.op=1)&&x.args.all (eU f)):=by
 cases x;rfl
theorem Fa (x:Ex)(a:Array Value)(L:Int)(w:World)(hL0:0<=L)(hL:L<=16)(h:bP w a x)
 (hno:arity x.op≠x.args.length\/x.n<0\/0<x.n/\x.op≠1\/L=0):Calls Tryz.prog 290 #[.agg a, .int .i64 L] w (Gives w (.bool false)):=by
 obtain⟨p,cap,rfl,h0,h1,h2,h3,h4,h5⟩:=h.parts
 have hk:Kept none' w (w.alloc (.cells #[.int .u8 x.op, .int .i64 x.n, .slice p x.args.length cap] 77)):=(Kept.refl _ _).alloc _
 obtain⟨W0,hW0⟩: ∃W0,w.alloc (.cells #[.int .u8 x.op, .int .i64 x.n, .slice p x.args.length cap] 77)=W0:=⟨_,rfl⟩
 have d0:W0.cell? ⟨w.heap.size,0,none⟩=some (.int .u8 x.op):=by rw[<-hW0];simp
 have d1:W0.cell? ⟨w.heap.size,1,none⟩=some (.int .i64 x.n):=by rw[<-hW0];simp
 have d2:W0.cell? ⟨w.heap.size,2,none⟩=some (.slice p x.args.length cap):=by rw[<-hW0];simp
 have HK:=Lib.hid hk
 have hm: ∀W,Calls Tryz.prog 373 #[.int .u8 x.op] W fun e w'=>e= .returned (.int .i64 (arity x.op))/\W=w':=Qo x.op h0 h1
 have HM:=Lib.hid hm
 have HW0:=Lib.hid hW0
 unfold aS at h2
 unfold maxLen at h4
 obtain⟨h2,h2'⟩:=h2
 clear hk h h5 hm hW0
 by_cases c1:arity x.op=x.args.length
 ·have f1:(arity x.op !=(x.args.length:Int))=false:=by rw[c1];simp
  by_cases c2:x.n<0
  ·have g2:decide (x.n<0)=true:=decide_eq_true c2
   clear hno c1
   go_enter Tryz.func290,Tryz.ntmps290
   go_wp2_with fail
   rw[HW0.out]
   refine dX [0,1,3,4,5,2,6,7,8,9,10,11,12,13,14,15,16,17,18,19,20,21,22,23,24,25] (fun W=>Kept none' W0 W) (by kernel_rfl) (by kernel_rfl) rfl (Kept.refl _ _).drew ?_
   simp only[List.map_cons,List.map_nil,List.getElem?_toArray,List.getElem?_cons_zero,List.getElem?_cons_succ,Option.getD_some]
   iterate 5 (first|(apply iQ rfl;go_frame)|(apply dK rfl rfl;(intro W hW;have z0:=hW.cell (fun h=>h) d0;have z1:=hW.cell (fun h=>h) d1;have z2:=hW.cell (fun h=>h) d2;go_simp;rfl);go_frame))
   apply jl rfl rfl
   intro K hK
   go_wp2_with fail
   refine(HM.out _).mono ?_
   rintro e w' ⟨rfl,rfl⟩
   go_wp2_with fail
   refine hK _ _ (fun _=>(Kept.refl _ _).drew) ?_
   clear hK
   iterate 20 (first|(apply iQ rfl;go_frame)|(apply dK rfl rfl;(intro W hW;have z0:=hW.cell (fun h=>h) d0;have z1:=hW.cell (fun h=>h) d1;have z2:=hW.cell (fun h=>h) d2;go_simp;rfl);go_frame))
   refine oL (fun _=>(Kept.refl _ _).drew) ?_
   go_wp2_with fail
   go_ret
   exact⟨rfl,HK.out.trans (by rw[HW0.out];exact(Kept.refl _ _).drew)⟩
  ·have g2:decide (x.n<0)=false:=decide_eq_false c2
   by_cases c3:0<x.n
   ·have g3:decide (0<x.n)=true:=decide_eq_true c3
    by_cases c4:x.op=1
    ·obtain rfl:L=0:=by
      rcases hno with hn|hn|hn|hn
      ·exact absurd c1 hn
      ·exact absurd hn c2
      ·exact absurd c4 hn.2
      ·exact hn
     have f4:(x.op !=1)=false:=by simp[c4]
     have f5:(x.op==1)=true:=by simp[c4]
     clear c1 c4 hno
     go_enter Tryz.func290,Tryz.ntmps290
     go_wp2_with fail
     rw[HW0.out]
     refine dX [0,1,3,4,5,2,6,7,8,9,10,11,12,13,14,15,16,17,18,19,20,21,22,23,24,25] (fun W=>Kept none' W0 W) (by kernel_rfl) (by kernel_rfl) rfl (Kept.refl _ _).drew ?_
     simp only[List.map_cons,List.map_nil,List.getElem?_toArray,List.getElem?_cons_zero,List.getElem?_cons_succ,Option.getD_some]
     iterate 5 (first|(apply iQ rfl;go_frame)|(apply dK rfl rfl;(intro W hW;have z0:=hW.cell (fun h=>h) d0;have z1:=hW.cell (fun h=>h) d1;have z2:=hW.cell (fun h=>h) d2;go_simp;rfl);go_frame))
     apply jl rfl rfl
     intro K hK
     go_wp2_with fail
     refine(HM.out _).mono ?_
     rintro e w' ⟨rfl,rfl⟩
     go_wp2_with fail
     refine hK _ _ (fun _=>(Kept.refl _ _).drew) ?_
     clear hK
     iterate 20 (first|(apply iQ rfl;go_frame)|(apply dK rfl rfl;(intro W hW;have z0:=hW.cell (fun h=>h) d0;have z1:=hW.cell (fun h=>h) d1;have z2:=hW.cell (fun h=>h) d2;go_simp;rfl);go_frame))
     refine oL (fun _=>(Kept.refl _ _).drew) ?_
     go_wp2_with fail
     go_ret
     exact⟨rfl,HK.out.trans (by rw[HW0.out];exact(Kept.refl _ _).drew)⟩
    ·have f4:(x.op !=1)=true:=by simp[c4]
     clear c1 c4 hno
     go_enter Tryz.func290,Tryz.ntmps290
     go_wp2_with fail
     rw[HW0.out]
     refine dX [0,1,3,4,5,2,6,7,8,9,10,11,12,13,14,15,16,17,18,19,20,21,22,23,24,25] (fun W=>Kept none' W0 W) (by kernel_rfl) (by kernel_rfl) rfl (Kept.refl _ _).drew ?_
     simp only[List.map_cons,List.map_nil,List.getElem?_toArray,List.getElem?_cons_zero,List.getElem?_cons_succ,Option.getD_some]
     iterate 5 (first|(apply iQ rfl;go_frame)|(apply dK rfl rfl;(intro W hW;have z0:=hW.cell (fun h=>h) d0;have z1:=hW.cell (fun h=>h) d1;have z2:=hW.cell (fun h=>h) d2;go_simp;rfl);go_frame))
     apply jl rfl rfl
     intro K hK
     go_wp2_with fail
     refine(HM.out _).mono ?_
     rintro e w' ⟨rfl,rfl⟩
     go_wp2_with fail
     refine hK _ _ (fun _=>(Kept.refl _ _).drew) ?_
     clear hK
     iterate 20 (first|(apply iQ rfl;go_frame)|(apply dK rfl rfl;(intro W hW;have z0:=hW.cell (fun h=>h) d0;have z1:=hW.cell (fun h=>h) d1;have z2:=hW.cell (fun h=>h) d2;go_simp;rfl);go_frame))
     refine oL (fun _=>(Kept.refl _ _).drew) ?_
     go_wp2_with fail
     go_ret
     exact⟨rfl,HK.out.trans (by rw[HW0.out];exact(Kept.refl _ _).drew)⟩
   ·obtain rfl:L=0:=by
     rcases hno with hn|hn|hn|hn
     ·exact absurd c1 hn
     ·exact absurd hn c2
     ·exact absurd hn.1 c3
     ·exact hn
    have g3:decide (0<x.n)=false:=decide_eq_false c3
    clear c1 hno
    go_enter Tryz.func290,Tryz.ntmps290
    go_wp2_with fail
    rw[HW0.out]
    refine dX [0,1,3,4,5,2,6,7,8,9,10,11,12,13,14,15,16,17,18,19,20,21,22,23,24,25] (fun W=>Kept none' W0 W) (by kernel_rfl) (by kernel_rfl) rfl (Kept.refl _ _).drew ?_
    simp only[List.map_cons,List.map_nil,List.getElem?_toArray,List.getElem?_cons_zero,List.getElem?_cons_succ,Option.getD_some]
    iterate 5 (first|(apply iQ rfl;go_frame)|(apply dK rfl rfl;(intro W hW;have z0:=hW.cell (fun h=>h) d0;have z1:=hW.cell (fun h=>h) d1;have z2:=hW.cell (fun h=>h) d2;go_simp;rfl);go_frame))
    apply jl rfl rfl
    intro K hK
    go_wp2_with fail
    refine(HM.out _).mono ?_
    rintro e w' ⟨rfl,rfl⟩
    go_wp2_with fail
    refine hK _ _ (fun _=>(Kept.refl _ _).drew) ?_
    clear hK
    iterate 20 (first|(apply iQ rfl;go_frame)|(apply dK rfl rfl;(intro W hW;have z0:=hW.cell (fun h=>h) d0;have z1:=hW.cell (fun h=>h) d1;have z2:=hW.cell (fun h=>h) d2;go_simp;rfl);go_frame))
    refine oL (fun _=>(Kept.refl _ _).drew) ?_
    go_wp2_with fail
    go_ret
    exact⟨rfl,HK.out.trans (by rw[HW0.out];exact(Kept.refl _ _).drew)⟩
 ·have f1:(arity x.op !=(x.args.length:Int))=true:=by simp[c1]
  clear c1 hno
  go_enter Tryz.func290,Tryz.ntmps290
  go_wp2_with fail
  rw[HW0.out]
  refine dX [0,1,3,4,5,2,6,7,8,9,10,11,12,13,14,15,16,17,18,19,20,21,22,23,24,25] (fun W=>Kept none' W0 W) (by kernel_rfl) (by kernel_rfl) rfl (Kept.refl _ _).drew ?_
  simp only[List.map_cons,List.map_nil,List.getElem?_toArray,List.getElem?_cons_zero,List.getElem?_cons_succ,Option.getD_some]
  iterate 5 (first|(apply iQ rfl;go_frame)|(apply dK rfl rfl;(intro W hW;have z0:=hW.cell (fun h=>h) d0;have z1:=hW.cell (fun h=>h) d1;have z2:=hW.cell (fun h=>h) d2;go_simp;rfl);go_frame))
  apply jl rfl rfl
  intro K hK
  go_wp2_with fail
  refine(HM.out _).mono ?_
  rintro e w' ⟨rfl,rfl⟩
  go_wp2_with fail
  refine hK _ _ (fun _=>(Kept.refl _ _).drew) ?_
  clear hK
  iterate 20 (first|(apply iQ rfl;go_frame)|(apply dK rfl rfl;(intro W hW;have z0:=hW.cell (fun h=>h) d0;have z1:=hW.cell (fun h=>h) d1;have z2:=hW.cell (fun h=>h) d2;go_simp;rfl);go_frame))
  refine oL (fun _=>(Kept.refl _ _).drew) ?_
  go_wp2_with fail
  go_ret
  exact⟨rfl,HK.out.trans (by rw[HW0.out];exact(Kept.refl _ _).drew)⟩
def Xb (f:Nat):Prop:= ∀(x:Ex)(a:Array Value)(L:Int)(w:World),L=f->f<=16->bP w a x->Calls Tryz.prog 290 #[.agg a, .int .i64 L] w (Gives w (.bool (eU f x)))
theorem aam (f:Nat)(ih:Xb f)(x:Ex)(a:Array Value)(L:Int)(w:World)(hL:L=((f+1:Nat):Int))(hf:f+1<=16)(h:bP w a x)
 (c1:arity x.op=x.args.length) (c2: ¬x.n<0) (c3: ¬(0<x.n/\x.op≠1)):Calls Tryz.prog 290 #[.agg a, .int .i64 L] w (Gives w (.bool (eU (f+1) x))):=by
 have hx:eU (f+1) x=x.args.all (eU f):=by
  rw[zl]
  have e1:decide (arity x.op=x.args.length)=true:=decide_eq_true c1
  have e2:decide (0<=x.n)=true:=decide_eq_true (by omega)
  have e3:decide (x.n=0\/x.op=1)=true:=decide_eq_true (by omega)
  rw[e1,e2,e3];rfl
 rw[hx]
 obtain⟨p,cap,rfl,h0,h1,h2,h3,h4,h5⟩:=h.parts
 have hk:Kept none' w (w.alloc (.cells #[.int .u8 x.op, .int .i64 x.n, .slice p x.args.length cap] 77)):=(Kept.refl _ _).alloc _
 obtain⟨W0,hW0⟩: ∃W0,w.alloc (.cells #[.int .u8 x.op, .int .i64 x.n, .slice p x.args.length cap] 77)=W0:=⟨_,rfl⟩
 have d0:W0.cell? ⟨w.heap.size,0,none⟩=some (.int .u8 x.op):=by rw[<-hW0];simp
 have d1:W0.cell? ⟨w.heap.size,1,none⟩=some (.int .i64 x.n):=by rw[<-hW0];simp
 have d2:W0.cell? ⟨w.heap.size,2,none⟩=some (.slice p x.args.length cap):=by rw[<-hW0];simp
 have HK:=Lib.hid hk
 have hm: ∀W,Calls Tryz.prog 373 #[.int .u8 x.op] W fun e w'=>e= .returned (.int .i64 (arity x.op))/\W=w':=Qo x.op h0 h1
 have HM:=Lib.hid hm
 have HW0:=Lib.hid hW0
 unfold aS at h2
 unfold maxLen at h4
 obtain⟨h2,h2'⟩:=h2
 have f1:(arity x.op !=(x.args.length:Int))=false:=by rw[c1];simp
 have hL1:1<=L:=by omega
 have hL2:L<=16:=by omega
 have f6:(L==0)=false:=by simp;omega
 have g2:decide (x.n<0)=false:=decide_eq_false c2
 have IH:=Lib.hid ih
 have HL:=Lib.hid hL
 have H5:=Lib.hid h5
 clear hk h h5 hm hW0 hx c1 ih hL
 have main:(decide (0<x.n)=false\/decide (0<x.n)=true/\(x.op !=1)=false)->Calls Tryz.prog 290 #[.agg #[.int .u8 x.op, .int .i64 x.n, .slice p x.args.length cap], .int .i64 L] w (Gives w (.bool (x.args.all (eU f)))):=by
  rintro(f3|⟨f3,f4⟩)
  all_goals
   go_enter Tryz.func290,Tryz.ntmps290
   go_wp2_with fail
   rw[HW0.out]
   refine dX [0,1,3,4,5,2,6,7,8,9,10,11,12,13,14,15,16,17,18,19,20,21,22,23,24,25] (fun W=>Kept none' W0 W) (by kernel_rfl) (by kernel_rfl) rfl (Kept.refl _ _).drew ?_
   simp only[List.map_cons,List.map_nil,List.getElem?_toArray,List.getElem?_cons_zero,List.getElem?_cons_succ,Option.getD_some]
   iterate 5 (first|(apply iQ rfl;go_frame)|(apply dK rfl rfl;(intro W hW;have z0:=hW.cell (fun h=>h) d0;have z1:=hW.cell (fun h=>h) d1;have z2:=hW.cell (fun h=>h) d2;go_simp;rfl);go_frame))
   apply jl rfl rfl
   intro K hK
   go_wp2_with fail
   refine(HM.out _).mono ?_
   rintro e w' ⟨rfl,rfl⟩
   go_wp2_with fail
   refine hK _ _ (fun _=>(Kept.refl _ _).drew) ?_
   clear hK
   iterate 20 (first|(apply iQ rfl;go_frame)|(apply dK rfl rfl;(intro W hW;have z0:=hW.cell (fun h=>h) d0;have z1:=hW.cell (fun h=>h) d1;have z2:=hW.cell (fun h=>h) d2;go_simp;rfl);go_frame))
   refine oL (fun _=>(Kept.refl _ _).drew) ?_
   go_wp2_with fail
   obtain⟨W1,hW1⟩: ∃W1,W0.drew=W1:=⟨_,rfl⟩
   have k1:Kept none' W0 W1:=by rw[<-hW1];exact(Kept.refl _ _).drew
   have KK:=Lib.hid (HK.out.trans (by rw[HW0.out];exact k1))
   have HW1:=Lib.hid k1
   rw[hW1]
   clear hW1 k1
   go_loopg [36] x.args.length (fun g vi wr=> ∃k:Nat,k<=x.args.length/\vi= .int .i64 (k:Int)/\x.args.length-k<=g/\(x.args.take k).all (eU f)=true/\Kept none' W0 wr)
   case atStart=>exact⟨0,by omega,rfl,by omega,by simp,HW1.out⟩
   case round=>
    obtain⟨k,hkl,rfl,hg,ht,hkp⟩:=hrel
    have HT:=Lib.hid (And.intro hg ht)
    clear hg ht
    by_cases hlt:k<x.args.length
    ·obtain⟨y,hy⟩: ∃y,x.args[k]?=some y:=⟨_,List.getElem?_eq_getElem hlt⟩
     obtain⟨b,off,p',cap',rfl,q0,q1,q2,hy2⟩:=H5.out k y hy
     have hW:=(HK.out.trans (by rw[HW0.out];exact hkp):Kept none' w wr)
     have r0:=hW.cell (p:=⟨b,off+k*3,none⟩) (fun h=>h) q0
     have r1:=hW.cell (p:=⟨b,off+k*3+1,none⟩) (fun h=>h) q1
     have r2:=hW.cell (p:=⟨b,off+k*3+2,none⟩) (fun h=>h) q2
     have HY:=Lib.hid (And.intro hy (bP.pure hW hy2))
     have HWW:=Lib.hid (And.intro hW hkp)
     clear q0 q1 q2 hy hy2 hW hkp H5
     go_wp2_with fail
     have c:=IH.out y _ (L-1) (wr.alloc (.cells #[.int .u8 y.op, .int .i64 y.n, .slice p' y.args.length cap'] 77)) (by have:=HL.out;omega) (by omega) (bP.pure ((Kept.refl _ _).alloc _) HY.out.2)
     refine c.mono ?_
     clear c
     rintro e w2 ⟨rfl,k2⟩
     have k3:Kept none' wr w2:=((Kept.refl _ _).alloc _).trans k2
     have HK3:=Lib.hid k3
     clear k2 k3
     cases hm:eU f y with
     |false=>
      have HMy:=Lib.hid hm
      clear hm
      go_wp2_with fail
      go_ret
      exact⟨dS (aah HY.out.1 HMy.out).symm,HWW.out.1.trans HK3.out⟩
     |true=>
      have HMy:=Lib.hid hm
      clear hm
      go_wp2_with fail
      go_roundg (x.args.length-(k+1))
      case rel=>exact⟨k+1,by omega,by go_num,Nat.le_refl _,JX HY.out.1 HT.out.2 HMy.out,HWW.out.2.trans HK3.out⟩
      case measure=>have:=HT.out.1;omega
    ·go_wp2_with fail
     go_ret
     exact⟨dS (O9 HT.out.2 (by omega)).symm,HK.out.trans (by rw[HW0.out];exact hkp)⟩
 clear HM HW0 HK d0 d1 d2
 apply main
 by_cases c4:0<x.n
 ·right;refine⟨decide_eq_true c4,?_⟩
  have:x.op=1:=by omega
  simp[this]
 ·left;exact decide_eq_false c4
theorem Qm: ∀f,Xb f
 |0=>fun x a L w hL hf h=>by
  have:=Fa x a L w (by omega) (by omega) h (.inr (.inr (.inr (by omega))))
  exact this
 |f+1=>fun x a L w hL hf h=>by
  by_cases c1:arity x.op=x.args.length
  ·by_cases c2:x.n<0
   ·have e:eU (f+1) x=false:=by rw[zl];simp;omega
    rw[e];exact Fa x a L w (by omega) (by omega) h (.inr (.inl c2))
   ·by_cases c3:0<x.n/\x.op≠1
    ·have e:eU (f+1) x=false:=by rw[zl];simp;omega
     rw[e];exact Fa x a L w (by omega) (by omega) h (.inr (.inr (.inl c3)))
    ·exact aam f (Qm f) x a L w hL hf h c1 c2 c3
  ·have e:eU (f+1) x=false:=by rw[zl];simp[c1]
   rw[e];exact Fa x a L w (by omega) (by omega) h (.inl c1)
theorem Q7 (x:Ex)(a:Array Value)(w:World)(h:bP w a x):Calls Tryz.prog 204 #[.agg a] w (Gives w (.bool (eU 16 x))):=by
 obtain⟨p,cap,rfl,h0,h1,h2,h3,h4,h5⟩:=h.parts
 have H:=Lib.hid h
 clear h h5
 go_enter Tryz.func204,Tryz.ntmps204
 go_wp2_with fail
 have k1:Kept none' w (w.alloc (.cells #[.int .u8 x.op, .int .i64 x.n, .slice p x.args.length cap] 77)):=(Kept.refl _ _).alloc _
 refine(Qm 16 x _ 16 _ rfl (Nat.le_refl _) (bP.pure k1 H.out)).mono ?_
 rintro e w2 ⟨rfl,k2⟩
 go_wp2_with fail
 go_ret
 exact⟨rfl,k1.trans k2⟩
end
section
open Go Go.RowKit
def nU (k:Int×Int×Int×Int):Value:= .agg #[.int .u8 k.1, .int .u8 k.2.1, .int .u8 k.2.2.1, .int .u8 k.2.2.2]
def jA:List vC->Nat->List MapEntry
 |[],_=>[]
 |r::l,i=>{key:=nU r.1,val:= .int .u8 r.2,born:=i}::jA l (i+1)
def jR (w:World)(m:Nat)(E:List vC):Prop:=w.heap[m]?=some (.map (jA E 0).toArray E.length)
theorem EG (r:vC): ∀(E:List vC)(i:Nat),jA (E++[r]) i=jA E i++[{key:=nU r.1,val:= .int .u8 r.2,born:=i+E.length}]
 |[],i=>rfl
 |x::E,i=>by
  simp only[List.cons_append,jA,EG r E (i+1),List.length_cons]
  congr 3
  simp;omega
theorem IU (k:Int×Int×Int×Int)(b:Bool)(w:World):(Instr.checkKey b 10000 399 (nU k)).run Tryz.prog w= .ok () w:=by kernel_rfl
theorem Zt (d:Nat)(a b:Int)(w:World):(Op.equalIn (d+1) 5 (.int .u8 a) (.int .u8 b)).run Tryz.prog w= .ok (a==b) w:=by
 simp[Op.equalIn,run_underlying Tryz.underlying5]
theorem adz (a b c:Value)(w:World):(part 5 #[a,b,c] 0).run Tryz.prog w= .ok a w/\(part 5 #[a,b,c] 1).run Tryz.prog w= .ok b w/\(part 5 #[a,b,c] 2).run Tryz.prog w= .ok c w:=by
 refine⟨?_,?_,?_⟩<;>kernel_rfl
theorem acG (d:Nat)(a b c a' b' c':Int)(w:World):(Op.equalIn (d+2) 397 (.agg #[.int .u8 a, .int .u8 b, .int .u8 c]) (.agg #[.int .u8 a', .int .u8 b', .int .u8 c'])).run Tryz.prog w= .ok (decide (a=a'/\b=b'/\c=c')) w:=by
 rw[Op.equalIn]
 simp[run_underlying Tryz.underlying397,Std.Legacy.Range.forIn_eq_forIn_range',List.range',adz,Zt]
 by_cases h1:a=a'<;>by_cases h2:b=b'<;>by_cases h3:c=c'<;>simp[h1,h2,h3]
theorem XK (a b c d:Value)(w:World):(part 5 #[a,b,c,d] 0).run Tryz.prog w= .ok a w/\(part 397 #[a,b,c,d] 1).run Tryz.prog w= .ok (.agg #[b,c,d]) w:=by
 refine⟨?_,?_⟩<;>kernel_rfl
theorem Aa (k k':Int×Int×Int×Int)(w:World):(Op.equal 399 (nU k) (nU k')).run Tryz.prog w= .ok (decide (k=k')) w:=by
 obtain⟨a,b,c,d⟩:=k
 obtain⟨a',b',c',d'⟩:=k'
 have h1:=fun w=>Zt 9998 a a' w
 have h2:=fun w=>acG 9997 b c d b' c' d' w
 unfold Op.equal Op.maxDepth nU
 rw[Op.equalIn]
 simp[run_underlying Tryz.underlying399,XK,h1,h2]
 by_cases e1:a=a'<;>simp[e1]
 split<;>simp_all
theorem PK (k:Int×Int×Int×Int)(w:World): ∀(E:List vC)(i j:Nat),(∀r∈E,r.1≠k)->(Instr.findAsking 399 (nU k) (jA E i) j).run Tryz.prog w= .ok none w
 |[],_,_,_=>rfl
 |r::E,i,j,h=>by
  have h1:decide (k=r.1)=false:=decide_eq_false fun e=>h r (by simp) e.symm
  simp only[jA,Instr.findAsking,Sem.run_bind,Aa,Result.andThen_ok,h1]
  exact PK k w E (i+1) (j+1) (fun x hx=>h x (by simp[hx]))
theorem PI (k:Int×Int×Int×Int)(w:World): ∀(E:List vC)(i j:Nat),(Instr.findAsking 399 (nU k) (jA E i) j).run Tryz.prog w= .ok none w/\E.find? (fun r=>r.1==k)=none\/
 ∃n r,(Instr.findAsking 399 (nU k) (jA E i) j).run Tryz.prog w= .ok (some (n, .int .u8 r.2)) w/\E.find? (fun r=>r.1==k)=some r
 |[],_,_=> .inl ⟨rfl,rfl⟩
 |r::E,i,j=>by
  by_cases h:k=r.1
  ·right
   have h1:decide (k=r.1)=true:=decide_eq_true h
   have h2:(r.1==k)=true:=by rw[h];exact beq_self_eq_true r.1
   refine⟨j,r,?_,by rw[List.find?_cons_of_pos (l:=E) (by exact h2)]⟩
   simp only[jA,Instr.findAsking,Sem.run_bind,Aa,Result.andThen_ok,h1]
   rfl
  ·have h1:decide (k=r.1)=false:=decide_eq_false h
   have h2: ¬(r.1==k)=true:=by simp;exact fun e=>h e.symm
   simp only[jA,Instr.findAsking,Sem.run_bind,Aa,Result.andThen_ok,h1]
   rw[List.find?_cons_of_neg (l:=E) (by exact h2)]
   exact PI k w E (i+1) (j+1)
theorem NG (k:Int×Int×Int×Int)(E:List vC)(w:World):(Instr.findKey 399 (nU k) (jA E 0)).run Tryz.prog w=(Instr.findAsking 399 (nU k) (jA E 0) 0).run Tryz.prog w:=by
 unfold Instr.findKey
 simp only[Sem.run_bind,run_underlying Tryz.underlying399,Result.andThen_ok]
 cases E with
 |nil=>rfl
 |cons r E=>rfl
theorem jR.lookup {w:World}{m:Nat}(h:jR w m rP)(k:Int×Int×Int×Int):(Instr.lookup 281 (.map (some m)) (nU k) false).run Tryz.prog w= .ok (.int .u8 (xA k)) w:=by
 have hg:(getObj m).run Tryz.prog w= .ok (.map (jA rP 0).toArray rP.length) w:=by simp[getObj,Sem.run,show w.heap[m]?=_ from h]
 have hz:(zeroValue 5).run Tryz.prog w= .ok (.int .u8 0) w:=by kernel_rfl
 simp only[Instr.lookup,Sem.run_bind,run_underlying Tryz.underlying281,Result.andThen_ok,hg,IU]
 simp only[Sem.run_pure,Result.andThen_ok,NG]
 rcases PI k w rP 0 0 with⟨h1,h2⟩|⟨n,r,h1,h2⟩
 ·rw[h1]
  simp only[Result.andThen_ok,hz,Sem.run_bind,Sem.run_pure]
  unfold xA
  rw[h2];rfl
 ·rw[h1]
  simp only[Result.andThen_ok]
  unfold xA
  rw[h2];rfl
theorem jR.put {w:World}{m:Nat}{E:List vC}(h:jR w m E)(r:vC)(hn: ∀x∈E,x.1≠r.1):
 ∃w',(Instr.mapUpdate 281 (.map (some m)) (nU r.1) (.int .u8 r.2)).run Tryz.prog w= .ok () w'/\jR w' m (E++[r])/\Kept (one m) w w':=by
 have hg:(getObj m).run Tryz.prog w= .ok (.map (jA E 0).toArray E.length) w:=by simp[getObj,Sem.run,show w.heap[m]?=_ from h]
 refine⟨World.iy w m (jA (E++[r]) 0).toArray (E++[r]).length,?_,nY h _ _,nX _ _ _ _⟩
 simp only[Instr.mapUpdate,Sem.run_bind,run_underlying Tryz.underlying281,Result.andThen_ok,hg,IU,NG,PK r.1 w E 0 0 hn]
 rw[EG]
 have:=pI (P:=Tryz.prog) (es':=((jA E 0).toArray.push {key:=nU r.1,val:= .int .u8 r.2,born:=E.length})) (clock':=E.length+1) h
 rw[this]
 simp
theorem jR.kept {w w':World}{m:Nat}{E:List vC}{S:Nat->Prop}(h:jR w m E)(hk:Kept S w w')(hn: ¬S m):jR w' m E:=hk.heap h hn
end
end Go.Proofs.YtakhobfamnjnoaaGreatDoor
