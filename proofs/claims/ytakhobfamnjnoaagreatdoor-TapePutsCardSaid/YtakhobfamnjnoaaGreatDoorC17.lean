/- What expressions are, in plain words: whether they may be, their types, what they come to. -/
import Derived.Test.YtakhobfamnjnoaaGreatDoorC16
set_option linter.unusedVariables false
set_option linter.unusedSimpArgs false
set_option maxHeartbeats 1000000
set_option maxRecDepth 100000
namespace Go.Proofs.YtakhobfamnjnoaaGreatDoor
section
open Go Go.RowKit
inductive bg (w:World):Array Value->Ex->Prop
 |mk {op n:Int} {sl:Value} {args:List Ex} {cs:List Value}:0<=op->op<=255->aO n->Reads w 3 sl cs->cs.length=args.length*3->
   (∀i x,args[i]?=some x->bg w ((cs.drop (i*3)).take 3).toArray x)->bg w #[.int .u8 op, .int .i64 n,sl] (.mk op n args)
theorem bg.kept {w w':World}{S:Nat->Prop}(hk:Kept S w w')(hS: ∀k,S k-> ∀c E f,w.heap[k]?≠some (.cells c E f)){a:Array Value}{x:Ex}(h:bg w a x):bg w' a x:=by
 induction h with
 |mk h1 h2 h3 h4 h5 _ ih=>exact .mk h1 h2 h3 (h4.kept hk (fun b hb hs=>by obtain⟨c,E,f,h⟩:=h4.isCells (by omega) hb;exact hS b hs c E f h)) h5 ih
theorem bg.pure {w w':World}(hk:Kept none' w w'){a:Array Value}{x:Ex}(h:bg w a x):bg w' a x:=h.kept hk (fun _ h=>h.elim)
theorem bg.parts {w:World}{a:Array Value}{x:Ex}(h:bg w a x): ∃p cap,a= #[.int .u8 x.op, .int .i64 x.n, .slice p x.args.length cap]/\0<=x.op/\x.op<=255/\aO x.n/\x.args.length<=cap/\cap<=maxLen/\
 ∀i y,x.args[i]?=some y-> ∃b off p' cap',p=some ⟨b,off,none⟩/\w.cell? ⟨b,off+i*3,none⟩=some (.int .u8 y.op)/\w.cell? ⟨b,off+i*3+1,none⟩=some (.int .i64 y.n)/\
  w.cell? ⟨b,off+i*3+2,none⟩=some (.slice p' y.args.length cap')/\bg w #[.int .u8 y.op, .int .i64 y.n, .slice p' y.args.length cap'] y:=by
 cases h with
 | @mk op n sl args cs h1 h2 h3 h4 h5 h6=>
   obtain⟨p,m,cap,rfl,g1,g2,g3,g4⟩:=h4
   have hm:m=args.length:=by omega
   subst hm
   refine⟨p,cap,rfl,h1,h2,h3,g1,g2,fun i y hy=>?_⟩
   have hi:i<args.length:=(List.getElem?_eq_some_iff.1 hy).1
   simp only[Ex.args]at hy
   have e:=h6 i y hy
   have hne:cs≠[]:=fun e=>by rw[e]at h5;simp at h5;omega
   obtain⟨b,off,rfl,hc⟩:=g4.resolve_left hne
   cases e2:y with
   |mk op' n' args'=>
    subst e2
    obtain⟨v0,v1,v2,hd⟩: ∃v0 v1 v2,(cs.drop (i*3)).take 3=[v0,v1,v2]:=by
     have hlen:((cs.drop (i*3)).take 3).length=3:=by rw[List.length_take,List.length_drop];omega
     match(cs.drop (i*3)).take 3,hlen with
     |[v0,v1,v2],_=>exact⟨v0,v1,v2,rfl⟩
    have get: ∀j v,[v0,v1,v2][j]?=some v->cs[i*3+j]?=some v:=by
     intro j v hj
     rw[<-hd,List.getElem?_take]at hj
     split at hj
     ·rwa[List.getElem?_drop]at hj
     ·cases hj
    rw[hd]at e
    have e':=e
    cases hq:e with
    | @mk _ _ sl' _ cs' k1 k2 k3 k4 k5 k6=>
      obtain⟨p',m',cap',rfl,q1,q2,q3,q4⟩:=k4
      have hm:m'=args'.length:=by omega
      subst hm
      refine⟨b,off,p',cap',rfl,?_,?_,?_,e'⟩
      ·exact hc _ _ (get 0 _ rfl)
      ·have:=hc _ _ (get 1 _ rfl);rwa[<-Nat.add_assoc]at this
      ·have:=hc _ _ (get 2 _ rfl);rwa[<-Nat.add_assoc]at this
theorem Ve (op:Int)(h0:0<=op)(h1:op<=255)(w:World):Calls Tryz.prog 373 #[.int .u8 op] w fun e w'=>e= .returned (.int .i64 (arity op))/\w=w':=by
 by_cases a0:op=0
 ·subst a0
  go_enter Tryz.func373,Tryz.ntmps373
  go_wp2_with fail
  go_ret
  exact⟨rfl,rfl⟩
 ·have b0:(op==0)=false:=by simp[a0]
  by_cases a1:18<op
  ·have e1:arity op= -1:=by unfold arity;rw[if_pos (.inr a1)]
   rw[e1]
   clear e1
   go_enter Tryz.func373,Tryz.ntmps373
   go_wp2_with fail
   go_ret
   exact⟨rfl,rfl⟩
  ·by_cases a2:op<=4
   ·have e1:arity op=0:=by unfold arity;rw[if_neg (by omega),if_pos a2]
    rw[e1]
    clear e1
    go_enter Tryz.func373,Tryz.ntmps373
    go_wp2_with fail
    go_ret
    exact⟨rfl,rfl⟩
   ·by_cases a3:op<=6
    ·have e1:arity op=1:=by unfold arity;rw[if_neg (by omega),if_neg a2,if_pos a3]
     rw[e1]
     clear e1
     go_enter Tryz.func373,Tryz.ntmps373
     go_wp2_with fail
     go_ret
     exact⟨rfl,rfl⟩
    ·by_cases a4:op=18
     ·subst a4
      go_enter Tryz.func373,Tryz.ntmps373
      go_wp2_with fail
      go_ret
      exact⟨rfl,rfl⟩
     ·have e1:arity op=2:=by unfold arity;rw[if_neg (by omega),if_neg a2,if_neg a3,if_neg a4]
      have b4:(op==18)=false:=by simp[a4]
      rw[e1]
      clear e1
      go_enter Tryz.func373,Tryz.ntmps373
      go_wp2_with fail
      go_ret
      exact⟨rfl,rfl⟩
end
section
open Go Go.RowKit
attribute [local irreducible] kC Ur
theorem aU {a b:Bool}(h:a=b):Ending.returned (.bool a)= .returned (.bool b):=by rw[h]
theorem Du {α:Type}{l:List α}{k:Nat}{x:α}{p:α->Bool}(h:l[k]?=some x)(ht:(l.take k).all p=true)(hx:p x=true):(l.take (k+1)).all p=true:=by
 rw[List.take_add_one,h,List.all_append,ht];simp[hx]
theorem Gv {α:Type}{l:List α}{k:Nat}{p:α->Bool}(ht:(l.take k).all p=true)(hk:l.length<=k):l.all p=true:=by
 rwa[List.take_of_length_le hk]at ht
theorem U5 {α:Type}{l:List α}{k:Nat}{x:α}{p:α->Bool}(h:l[k]?=some x)(hx:p x=false):l.all p=false:=by
 rw[List.all_eq_false];exact⟨x,List.mem_of_getElem? h,by simp[hx]⟩
theorem uU (f:Nat)(x:Ex):dU (f+1) x=(decide (arity x.op=x.args.length)&&decide (0<=x.n)&&decide (x.n=0\/x.op=1)&&x.args.all (dU f)):=by
 cases x;rfl
theorem Ju (x:Ex)(a:Array Value)(L:Int)(w:World)(hL0:0<=L)(hL:L<=16)(h:bg w a x)
 (hno:arity x.op≠x.args.length\/x.n<0\/0<x.n/\x.op≠1\/L=0):Calls Tryz.prog 290 #[.agg a, .int .i64 L] w (Gives w (.bool false)):=by
 obtain⟨p,cap,rfl,h0,h1,h2,h3,h4,h5⟩:=h.parts
 have hk:Kept none' w (w.alloc (.cells #[.int .u8 x.op, .int .i64 x.n, .slice p x.args.length cap] 77)):=(Kept.refl _ _).alloc _
 obtain⟨W0,hW0⟩: ∃W0,w.alloc (.cells #[.int .u8 x.op, .int .i64 x.n, .slice p x.args.length cap] 77)=W0:=⟨_,rfl⟩
 have d0:W0.cell? ⟨w.heap.size,0,none⟩=some (.int .u8 x.op):=by rw[<-hW0];simp
 have d1:W0.cell? ⟨w.heap.size,1,none⟩=some (.int .i64 x.n):=by rw[<-hW0];simp
 have d2:W0.cell? ⟨w.heap.size,2,none⟩=some (.slice p x.args.length cap):=by rw[<-hW0];simp
 have HK:=Lib.hid hk
 have hm: ∀W,Calls Tryz.prog 373 #[.int .u8 x.op] W fun e w'=>e= .returned (.int .i64 (arity x.op))/\W=w':=Ve x.op h0 h1
 have HM:=Lib.hid hm
 have HW0:=Lib.hid hW0
 unfold aO at h2
 unfold maxLen at h4
 obtain⟨h2,h2'⟩:=h2
 clear hk h h5 hm hW0
 by_cases c1:arity x.op=x.args.length
 ·have f1:(arity x.op !=(x.args.length:Int))=false:=by rw[c1];simp
  by_cases c2:x.n<0
  ·have g2:decide (x.n<0)=true:=decide_eq_true c2
   clear hno c1
   go_enter Tryz.func290,Tryz.ntmps290
   go_wp2_with fail
   rw[HW0.out]
   refine aZ [0,1,3,4,5,2,6,7,8,9,10,11,12,13,14,15,16,17,18,19,20,21,22,23,24,25] (fun W=>Kept none' W0 W) (by kernel_rfl) (by kernel_rfl) rfl (Kept.refl _ _).drew ?_
   simp only[List.map_cons,List.map_nil,List.getElem?_toArray,List.getElem?_cons_zero,List.getElem?_cons_succ,Option.getD_some]
   iterate 5 (first|(apply dJ rfl;go_frame)|(apply bC rfl rfl;(intro W hW;have z0:=hW.cell (fun h=>h) d0;have z1:=hW.cell (fun h=>h) d1;have z2:=hW.cell (fun h=>h) d2;go_simp;rfl);go_frame))
   apply iC rfl rfl
   intro K hK
   go_wp2_with fail
   refine(HM.out _).mono ?_
   rintro e w' ⟨rfl,rfl⟩
   go_wp2_with fail
   refine hK _ _ (fun _=>(Kept.refl _ _).drew) ?_
   clear hK
   iterate 20 (first|(apply dJ rfl;go_frame)|(apply bC rfl rfl;(intro W hW;have z0:=hW.cell (fun h=>h) d0;have z1:=hW.cell (fun h=>h) d1;have z2:=hW.cell (fun h=>h) d2;go_simp;rfl);go_frame))
   refine fU (fun _=>(Kept.refl _ _).drew) ?_
   go_wp2_with fail
   go_ret
   exact⟨rfl,HK.out.trans (by rw[HW0.out];exact(Kept.refl _ _).drew)⟩
  ·have g2:decide (x.n<0)=false:=decide_eq_false c2
   by_cases c3:0<x.n
   ·have g3:decide (0<x.n)=true:=decide_eq_true c3
    by_cases c4:x.op=1
    ·obtain rfl:L=0:=by
      rcases hno with hn|hn|hn|hn
      ·exact absurd c1 hn
      ·exact absurd hn c2
      ·exact absurd c4 hn.2
      ·exact hn
     have f4:(x.op !=1)=false:=by simp[c4]
     have f5:(x.op==1)=true:=by simp[c4]
     clear c1 c4 hno
     go_enter Tryz.func290,Tryz.ntmps290
     go_wp2_with fail
     rw[HW0.out]
     refine aZ [0,1,3,4,5,2,6,7,8,9,10,11,12,13,14,15,16,17,18,19,20,21,22,23,24,25] (fun W=>Kept none' W0 W) (by kernel_rfl) (by kernel_rfl) rfl (Kept.refl _ _).drew ?_
     simp only[List.map_cons,List.map_nil,List.getElem?_toArray,List.getElem?_cons_zero,List.getElem?_cons_succ,Option.getD_some]
     iterate 5 (first|(apply dJ rfl;go_frame)|(apply bC rfl rfl;(intro W hW;have z0:=hW.cell (fun h=>h) d0;have z1:=hW.cell (fun h=>h) d1;have z2:=hW.cell (fun h=>h) d2;go_simp;rfl);go_frame))
     apply iC rfl rfl
     intro K hK
     go_wp2_with fail
     refine(HM.out _).mono ?_
     rintro e w' ⟨rfl,rfl⟩
     go_wp2_with fail
     refine hK _ _ (fun _=>(Kept.refl _ _).drew) ?_
     clear hK
     iterate 20 (first|(apply dJ rfl;go_frame)|(apply bC rfl rfl;(intro W hW;have z0:=hW.cell (fun h=>h) d0;have z1:=hW.cell (fun h=>h) d1;have z2:=hW.cell (fun h=>h) d2;go_simp;rfl);go_frame))
     refine fU (fun _=>(Kept.refl _ _).drew) ?_
     go_wp2_with fail
     go_ret
     exact⟨rfl,HK.out.trans (by rw[HW0.out];exact(Kept.refl _ _).drew)⟩
    ·have f4:(x.op !=1)=true:=by simp[c4]
     clear c1 c4 hno
     go_enter Tryz.func290,Tryz.ntmps290
     go_wp2_with fail
     rw[HW0.out]
     refine aZ [0,1,3,4,5,2,6,7,8,9,10,11,12,13,14,15,16,17,18,19,20,21,22,23,24,25] (fun W=>Kept none' W0 W) (by kernel_rfl) (by kernel_rfl) rfl (Kept.refl _ _).drew ?_
     simp only[List.map_cons,List.map_nil,List.getElem?_toArray,List.getElem?_cons_zero,List.getElem?_cons_succ,Option.getD_some]
     iterate 5 (first|(apply dJ rfl;go_frame)|(apply bC rfl rfl;(intro W hW;have z0:=hW.cell (fun h=>h) d0;have z1:=hW.cell (fun h=>h) d1;have z2:=hW.cell (fun h=>h) d2;go_simp;rfl);go_frame))
     apply iC rfl rfl
     intro K hK
     go_wp2_with fail
     refine(HM.out _).mono ?_
     rintro e w' ⟨rfl,rfl⟩
     go_wp2_with fail
     refine hK _ _ (fun _=>(Kept.refl _ _).drew) ?_
     clear hK
     iterate 20 (first|(apply dJ rfl;go_frame)|(apply bC rfl rfl;(intro W hW;have z0:=hW.cell (fun h=>h) d0;have z1:=hW.cell (fun h=>h) d1;have z2:=hW.cell (fun h=>h) d2;go_simp;rfl);go_frame))
     refine fU (fun _=>(Kept.refl _ _).drew) ?_
     go_wp2_with fail
     go_ret
     exact⟨rfl,HK.out.trans (by rw[HW0.out];exact(Kept.refl _ _).drew)⟩
   ·obtain rfl:L=0:=by
     rcases hno with hn|hn|hn|hn
     ·exact absurd c1 hn
     ·exact absurd hn c2
     ·exact absurd hn.1 c3
     ·exact hn
    have g3:decide (0<x.n)=false:=decide_eq_false c3
    clear c1 hno
    go_enter Tryz.func290,Tryz.ntmps290
    go_wp2_with fail
    rw[HW0.out]
    refine aZ [0,1,3,4,5,2,6,7,8,9,10,11,12,13,14,15,16,17,18,19,20,21,22,23,24,25] (fun W=>Kept none' W0 W) (by kernel_rfl) (by kernel_rfl) rfl (Kept.refl _ _).drew ?_
    simp only[List.map_cons,List.map_nil,List.getElem?_toArray,List.getElem?_cons_zero,List.getElem?_cons_succ,Option.getD_some]
    iterate 5 (first|(apply dJ rfl;go_frame)|(apply bC rfl rfl;(intro W hW;have z0:=hW.cell (fun h=>h) d0;have z1:=hW.cell (fun h=>h) d1;have z2:=hW.cell (fun h=>h) d2;go_simp;rfl);go_frame))
    apply iC rfl rfl
    intro K hK
    go_wp2_with fail
    refine(HM.out _).mono ?_
    rintro e w' ⟨rfl,rfl⟩
    go_wp2_with fail
    refine hK _ _ (fun _=>(Kept.refl _ _).drew) ?_
    clear hK
    iterate 20 (first|(apply dJ rfl;go_frame)|(apply bC rfl rfl;(intro W hW;have z0:=hW.cell (fun h=>h) d0;have z1:=hW.cell (fun h=>h) d1;have z2:=hW.cell (fun h=>h) d2;go_simp;rfl);go_frame))
    refine fU (fun _=>(Kept.refl _ _).drew) ?_
    go_wp2_with fail
    go_ret
    exact⟨rfl,HK.out.trans (by rw[HW0.out];exact(Kept.refl _ _).drew)⟩
 ·have f1:(arity x.op !=(x.args.length:Int))=true:=by simp[c1]
  clear c1 hno
  go_enter Tryz.func290,Tryz.ntmps290
  go_wp2_with fail
  rw[HW0.out]
  refine aZ [0,1,3,4,5,2,6,7,8,9,10,11,12,13,14,15,16,17,18,19,20,21,22,23,24,25] (fun W=>Kept none' W0 W) (by kernel_rfl) (by kernel_rfl) rfl (Kept.refl _ _).drew ?_
  simp only[List.map_cons,List.map_nil,List.getElem?_toArray,List.getElem?_cons_zero,List.getElem?_cons_succ,Option.getD_some]
  iterate 5 (first|(apply dJ rfl;go_frame)|(apply bC rfl rfl;(intro W hW;have z0:=hW.cell (fun h=>h) d0;have z1:=hW.cell (fun h=>h) d1;have z2:=hW.cell (fun h=>h) d2;go_simp;rfl);go_frame))
  apply iC rfl rfl
  intro K hK
  go_wp2_with fail
  refine(HM.out _).mono ?_
  rintro e w' ⟨rfl,rfl⟩
  go_wp2_with fail
  refine hK _ _ (fun _=>(Kept.refl _ _).drew) ?_
  clear hK
  iterate 20 (first|(apply dJ rfl;go_frame)|(apply bC rfl rfl;(intro W hW;have z0:=hW.cell (fun h=>h) d0;have z1:=hW.cell (fun h=>h) d1;have z2:=hW.cell (fun h=>h) d2;go_simp;rfl);go_frame))
  refine fU (fun _=>(Kept.refl _ _).drew) ?_
  go_wp2_with fail
  go_ret
  exact⟨rfl,HK.out.trans (by rw[HW0.out];exact(Kept.refl _ _).drew)⟩
def aaG (f:Nat):Prop:= ∀(x:Ex)(a:Array Value)(L:Int)(w:World),L=f->f<=16->bg w a x->Calls Tryz.prog 290 #[.agg a, .int .i64 L] w (Gives w (.bool (dU f x)))
theorem adU (f:Nat)(ih:aaG f)(x:Ex)(a:Array Value)(L:Int)(w:World)(hL:L=((f+1:Nat):Int))(hf:f+1<=16)(h:bg w a x)
 (c1:arity x.op=x.args.length) (c2: ¬x.n<0) (c3: ¬(0<x.n/\x.op≠1)):Calls Tryz.prog 290 #[.agg a, .int .i64 L] w (Gives w (.bool (dU (f+1) x))):=by
 have hx:dU (f+1) x=x.args.all (dU f):=by
  rw[uU]
  have e1:decide (arity x.op=x.args.length)=true:=decide_eq_true c1
  have e2:decide (0<=x.n)=true:=decide_eq_true (by omega)
  have e3:decide (x.n=0\/x.op=1)=true:=decide_eq_true (by omega)
  rw[e1,e2,e3];rfl
 rw[hx]
 obtain⟨p,cap,rfl,h0,h1,h2,h3,h4,h5⟩:=h.parts
 have hk:Kept none' w (w.alloc (.cells #[.int .u8 x.op, .int .i64 x.n, .slice p x.args.length cap] 77)):=(Kept.refl _ _).alloc _
 obtain⟨W0,hW0⟩: ∃W0,w.alloc (.cells #[.int .u8 x.op, .int .i64 x.n, .slice p x.args.length cap] 77)=W0:=⟨_,rfl⟩
 have d0:W0.cell? ⟨w.heap.size,0,none⟩=some (.int .u8 x.op):=by rw[<-hW0];simp
 have d1:W0.cell? ⟨w.heap.size,1,none⟩=some (.int .i64 x.n):=by rw[<-hW0];simp
 have d2:W0.cell? ⟨w.heap.size,2,none⟩=some (.slice p x.args.length cap):=by rw[<-hW0];simp
 have HK:=Lib.hid hk
 have hm: ∀W,Calls Tryz.prog 373 #[.int .u8 x.op] W fun e w'=>e= .returned (.int .i64 (arity x.op))/\W=w':=Ve x.op h0 h1
 have HM:=Lib.hid hm
 have HW0:=Lib.hid hW0
 unfold aO at h2
 unfold maxLen at h4
 obtain⟨h2,h2'⟩:=h2
 have f1:(arity x.op !=(x.args.length:Int))=false:=by rw[c1];simp
 have hL1:1<=L:=by omega
 have hL2:L<=16:=by omega
 have f6:(L==0)=false:=by simp;omega
 have g2:decide (x.n<0)=false:=decide_eq_false c2
 have IH:=Lib.hid ih
 have HL:=Lib.hid hL
 have H5:=Lib.hid h5
 clear hk h h5 hm hW0 hx c1 ih hL
 have main:(decide (0<x.n)=false\/decide (0<x.n)=true/\(x.op !=1)=false)->Calls Tryz.prog 290 #[.agg #[.int .u8 x.op, .int .i64 x.n, .slice p x.args.length cap], .int .i64 L] w (Gives w (.bool (x.args.all (dU f)))):=by
  rintro(f3|⟨f3,f4⟩)
  all_goals
   go_enter Tryz.func290,Tryz.ntmps290
   go_wp2_with fail
   rw[HW0.out]
   refine aZ [0,1,3,4,5,2,6,7,8,9,10,11,12,13,14,15,16,17,18,19,20,21,22,23,24,25] (fun W=>Kept none' W0 W) (by kernel_rfl) (by kernel_rfl) rfl (Kept.refl _ _).drew ?_
   simp only[List.map_cons,List.map_nil,List.getElem?_toArray,List.getElem?_cons_zero,List.getElem?_cons_succ,Option.getD_some]
   iterate 5 (first|(apply dJ rfl;go_frame)|(apply bC rfl rfl;(intro W hW;have z0:=hW.cell (fun h=>h) d0;have z1:=hW.cell (fun h=>h) d1;have z2:=hW.cell (fun h=>h) d2;go_simp;rfl);go_frame))
   apply iC rfl rfl
   intro K hK
   go_wp2_with fail
   refine(HM.out _).mono ?_
   rintro e w' ⟨rfl,rfl⟩
   go_wp2_with fail
   refine hK _ _ (fun _=>(Kept.refl _ _).drew) ?_
   clear hK
   iterate 20 (first|(apply dJ rfl;go_frame)|(apply bC rfl rfl;(intro W hW;have z0:=hW.cell (fun h=>h) d0;have z1:=hW.cell (fun h=>h) d1;have z2:=hW.cell (fun h=>h) d2;go_simp;rfl);go_frame))
   refine fU (fun _=>(Kept.refl _ _).drew) ?_
   go_wp2_with fail
   obtain⟨W1,hW1⟩: ∃W1,W0.drew=W1:=⟨_,rfl⟩
   have k1:Kept none' W0 W1:=by rw[<-hW1];exact(Kept.refl _ _).drew
   have KK:=Lib.hid (HK.out.trans (by rw[HW0.out];exact k1))
   have HW1:=Lib.hid k1
   rw[hW1]
   clear hW1 k1
   go_loopg [36] x.args.length (fun g vi wr=> ∃k:Nat,k<=x.args.length/\vi= .int .i64 (k:Int)/\x.args.length-k<=g/\(x.args.take k).all (dU f)=true/\Kept none' W0 wr)
   case atStart=>exact⟨0,by omega,rfl,by omega,by simp,HW1.out⟩
   case round=>
    obtain⟨k,hkl,rfl,hg,ht,hkp⟩:=hrel
    have HT:=Lib.hid (And.intro hg ht)
    clear hg ht
    by_cases hlt:k<x.args.length
    ·obtain⟨y,hy⟩: ∃y,x.args[k]?=some y:=⟨_,List.getElem?_eq_getElem hlt⟩
     obtain⟨b,off,p',cap',rfl,q0,q1,q2,hy2⟩:=H5.out k y hy
     have hW:=(HK.out.trans (by rw[HW0.out];exact hkp):Kept none' w wr)
     have r0:=hW.cell (p:=⟨b,off+k*3,none⟩) (fun h=>h) q0
     have r1:=hW.cell (p:=⟨b,off+k*3+1,none⟩) (fun h=>h) q1
     have r2:=hW.cell (p:=⟨b,off+k*3+2,none⟩) (fun h=>h) q2
     have HY:=Lib.hid (And.intro hy (bg.pure hW hy2))
     have zq:=Lib.hid (And.intro hW hkp)
     clear q0 q1 q2 hy hy2 hW hkp H5
     go_wp2_with fail
     have c:=IH.out y _ (L-1) (wr.alloc (.cells #[.int .u8 y.op, .int .i64 y.n, .slice p' y.args.length cap'] 77)) (by have:=HL.out;omega) (by omega) (bg.pure ((Kept.refl _ _).alloc _) HY.out.2)
     refine c.mono ?_
     clear c
     rintro e w2 ⟨rfl,k2⟩
     have k3:Kept none' wr w2:=((Kept.refl _ _).alloc _).trans k2
     have Gw:=Lib.hid k3
     clear k2 k3
     cases hm:dU f y with
     |false=>
      have Ti:=Lib.hid hm
      clear hm
      go_wp2_with fail
      go_ret
      exact⟨aU (U5 HY.out.1 Ti.out).symm,zq.out.1.trans Gw.out⟩
     |true=>
      have Ti:=Lib.hid hm
      clear hm
      go_wp2_with fail
      go_roundg (x.args.length-(k+1))
      case rel=>exact⟨k+1,by omega,by go_num,Nat.le_refl _,Du HY.out.1 HT.out.2 Ti.out,zq.out.2.trans Gw.out⟩
      case measure=>have:=HT.out.1;omega
    ·go_wp2_with fail
     go_ret
     exact⟨aU (Gv HT.out.2 (by omega)).symm,HK.out.trans (by rw[HW0.out];exact hkp)⟩
 clear HM HW0 HK d0 d1 d2
 apply main
 by_cases c4:0<x.n
 ·right;refine⟨decide_eq_true c4,?_⟩
  have:x.op=1:=by omega
  simp[this]
 ·left;exact decide_eq_false c4
theorem Vd: ∀f,aaG f
 |0=>fun x a L w hL hf h=>by
  have:=Ju x a L w (by omega) (by omega) h (.inr (.inr (.inr (by omega))))
  exact this
 |f+1=>fun x a L w hL hf h=>by
  by_cases c1:arity x.op=x.args.length
  ·by_cases c2:x.n<0
   ·have e:dU (f+1) x=false:=by rw[uU];simp;omega
    rw[e];exact Ju x a L w (by omega) (by omega) h (.inr (.inl c2))
   ·by_cases c3:0<x.n/\x.op≠1
    ·have e:dU (f+1) x=false:=by rw[uU];simp;omega
     rw[e];exact Ju x a L w (by omega) (by omega) h (.inr (.inr (.inl c3)))
    ·exact adU f (Vd f) x a L w hL hf h c1 c2 c3
  ·have e:dU (f+1) x=false:=by rw[uU];simp[c1]
   rw[e];exact Ju x a L w (by omega) (by omega) h (.inl c1)
theorem VW (x:Ex)(a:Array Value)(w:World)(h:bg w a x):Calls Tryz.prog 204 #[.agg a] w (Gives w (.bool (dU 16 x))):=by
 obtain⟨p,cap,rfl,h0,h1,h2,h3,h4,h5⟩:=h.parts
 have H:=Lib.hid h
 clear h h5
 go_enter Tryz.func204,Tryz.ntmps204
 go_wp2_with fail
 have k1:Kept none' w (w.alloc (.cells #[.int .u8 x.op, .int .i64 x.n, .slice p x.args.length cap] 77)):=(Kept.refl _ _).alloc _
 refine(Vd 16 x _ 16 _ rfl (Nat.le_refl _) (bg.pure k1 H.out)).mono ?_
 rintro e w2 ⟨rfl,k2⟩
 go_wp2_with fail
 go_ret
 exact⟨rfl,k1.trans k2⟩
end
section
open Go Go.RowKit
def qO (k:Int×Int×Int×Int):Value:= .agg #[.int .u8 k.1, .int .u8 k.2.1, .int .u8 k.2.2.1, .int .u8 k.2.2.2]
def lC:List yN->Nat->List MapEntry
 |[],_=>[]
 |r::l,i=>{key:=qO r.1,val:= .int .u8 r.2,born:=i}::lC l (i+1)
def mG (w:World)(m:Nat)(E:List yN):Prop:=w.heap[m]?=some (.map (lC E 0).toArray E.length)
theorem I7 (r:yN): ∀(E:List yN)(i:Nat),lC (E++[r]) i=lC E i++[{key:=qO r.1,val:= .int .u8 r.2,born:=i+E.length}]
 |[],i=>rfl
 |x::E,i=>by
  simp only[List.cons_append,lC,I7 r E (i+1),List.length_cons]
  congr 3
  simp;omega
theorem MZ (k:Int×Int×Int×Int)(b:Bool)(w:World):(Instr.checkKey b 10000 399 (qO k)).run Tryz.prog w= .ok () w:=by kernel_rfl
theorem ac7 (d:Nat)(a b:Int)(w:World):(Op.equalIn (d+1) 5 (.int .u8 a) (.int .u8 b)).run Tryz.prog w= .ok (a==b) w:=by
 simp[Op.equalIn,run_underlying Tryz.underlying5]
theorem ahg (a b c:Value)(w:World):(part 5 #[a,b,c] 0).run Tryz.prog w= .ok a w/\(part 5 #[a,b,c] 1).run Tryz.prog w= .ok b w/\(part 5 #[a,b,c] 2).run Tryz.prog w= .ok c w:=by
 refine⟨?_,?_,?_⟩<;>kernel_rfl
theorem agk (d:Nat)(a b c a' b' c':Int)(w:World):(Op.equalIn (d+2) 397 (.agg #[.int .u8 a, .int .u8 b, .int .u8 c]) (.agg #[.int .u8 a', .int .u8 b', .int .u8 c'])).run Tryz.prog w= .ok (decide (a=a'/\b=b'/\c=c')) w:=by
 rw[Op.equalIn]
 simp[run_underlying Tryz.underlying397,Std.Legacy.Range.forIn_eq_forIn_range',List.range',ahg,ac7]
 by_cases h1:a=a'<;>by_cases h2:b=b'<;>by_cases h3:c=c'<;>simp[h1,h2,h3]
theorem abd (a b c d:Value)(w:World):(part 5 #[a,b,c,d] 0).run Tryz.prog w= .ok a w/\(part 397 #[a,b,c,d] 1).run Tryz.prog w= .ok (.agg #[b,c,d]) w:=by
 refine⟨?_,?_⟩<;>kernel_rfl
theorem DI (k k':Int×Int×Int×Int)(w:World):(Op.equal 399 (qO k) (qO k')).run Tryz.prog w= .ok (decide (k=k')) w:=by
 obtain⟨a,b,c,d⟩:=k
 obtain⟨a',b',c',d'⟩:=k'
 have h1:=fun w=>ac7 9998 a a' w
 have h2:=fun w=>agk 9997 b c d b' c' d' w
 unfold Op.equal Op.maxDepth qO
 rw[Op.equalIn]
 simp[run_underlying Tryz.underlying399,abd,h1,h2]
 by_cases e1:a=a'<;>simp[e1]
 split<;>simp_all
theorem UE (k:Int×Int×Int×Int)(w:World): ∀(E:List yN)(i j:Nat),(∀r∈E,r.1≠k)->(Instr.findAsking 399 (qO k) (lC E i) j).run Tryz.prog w= .ok none w
 |[],_,_,_=>rfl
 |r::E,i,j,h=>by
  have h1:decide (k=r.1)=false:=decide_eq_false fun e=>h r (by simp) e.symm
  simp only[lC,Instr.findAsking,Sem.run_bind,DI,Result.andThen_ok,h1]
  exact UE k w E (i+1) (j+1) (fun x hx=>h x (by simp[hx]))
theorem UD (k:Int×Int×Int×Int)(w:World): ∀(E:List yN)(i j:Nat),(Instr.findAsking 399 (qO k) (lC E i) j).run Tryz.prog w= .ok none w/\E.find? (fun r=>r.1==k)=none\/
 ∃n r,(Instr.findAsking 399 (qO k) (lC E i) j).run Tryz.prog w= .ok (some (n, .int .u8 r.2)) w/\E.find? (fun r=>r.1==k)=some r
 |[],_,_=> .inl ⟨rfl,rfl⟩
 |r::E,i,j=>by
  by_cases h:k=r.1
  ·right
   have h1:decide (k=r.1)=true:=decide_eq_true h
   have h2:(r.1==k)=true:=by rw[h];exact beq_self_eq_true r.1
   refine⟨j,r,?_,by rw[List.find?_cons_of_pos (l:=E) (by exact h2)]⟩
   simp only[lC,Instr.findAsking,Sem.run_bind,DI,Result.andThen_ok,h1]
   rfl
  ·have h1:decide (k=r.1)=false:=decide_eq_false h
   have h2: ¬(r.1==k)=true:=by simp;exact fun e=>h e.symm
   simp only[lC,Instr.findAsking,Sem.run_bind,DI,Result.andThen_ok,h1]
   rw[List.find?_cons_of_neg (l:=E) (by exact h2)]
   exact UD k w E (i+1) (j+1)
theorem RH (k:Int×Int×Int×Int)(E:List yN)(w:World):(Instr.findKey 399 (qO k) (lC E 0)).run Tryz.prog w=(Instr.findAsking 399 (qO k) (lC E 0) 0).run Tryz.prog w:=by
 unfold Instr.findKey
 simp only[Sem.run_bind,run_underlying Tryz.underlying399,Result.andThen_ok]
 cases E with
 |nil=>rfl
 |cons r E=>rfl
theorem mG.lookup {w:World}{m:Nat}(h:mG w m pJ)(k:Int×Int×Int×Int):(Instr.lookup 281 (.map (some m)) (qO k) false).run Tryz.prog w= .ok (.int .u8 (jy k)) w:=by
 have hg:(getObj m).run Tryz.prog w= .ok (.map (lC pJ 0).toArray pJ.length) w:=by simp[getObj,Sem.run,show w.heap[m]?=_ from h]
 have hz:(zeroValue 5).run Tryz.prog w= .ok (.int .u8 0) w:=by kernel_rfl
 simp only[Instr.lookup,Sem.run_bind,run_underlying Tryz.underlying281,Result.andThen_ok,hg,MZ]
 simp only[Sem.run_pure,Result.andThen_ok,RH]
 rcases UD k w pJ 0 0 with⟨h1,h2⟩|⟨n,r,h1,h2⟩
 ·rw[h1]
  simp only[Result.andThen_ok,hz,Sem.run_bind,Sem.run_pure]
  unfold jy
  rw[h2];rfl
 ·rw[h1]
  simp only[Result.andThen_ok]
  unfold jy
  rw[h2];rfl
theorem mG.put {w:World}{m:Nat}{E:List yN}(h:mG w m E)(r:yN)(hn: ∀x∈E,x.1≠r.1):
 ∃w',(Instr.mapUpdate 281 (.map (some m)) (qO r.1) (.int .u8 r.2)).run Tryz.prog w= .ok () w'/\mG w' m (E++[r])/\Kept (one m) w w':=by
 have hg:(getObj m).run Tryz.prog w= .ok (.map (lC E 0).toArray E.length) w:=by simp[getObj,Sem.run,show w.heap[m]?=_ from h]
 refine⟨World.vJ w m (lC (E++[r]) 0).toArray (E++[r]).length,?_,TG h _ _,TF _ _ _ _⟩
 simp only[Instr.mapUpdate,Sem.run_bind,run_underlying Tryz.underlying281,Result.andThen_ok,hg,MZ,RH,UE r.1 w E 0 0 hn]
 rw[I7]
 have:=Wu (P:=Tryz.prog) (es':=((lC E 0).toArray.push {key:=qO r.1,val:= .int .u8 r.2,born:=E.length})) (clock':=E.length+1) h
 rw[this]
 simp
theorem mG.kept {w w':World}{m:Nat}{E:List yN}{S:Nat->Prop}(h:mG w m E)(hk:Kept S w w')(hn: ¬S m):mG w' m E:=hk.heap h hn
end
end Go.Proofs.YtakhobfamnjnoaaGreatDoor
